/- Operations that leave the heap alone; that add one block; that look at blocks named by their operands. -/
import Derived.Test.YtoafnnphjbdedaaGreatDoorAbO
namespace Go.Ab
variable {P : Program}

theorem aop_some {op : Op} {tm : TM0} {H : AH} {at_ : Option Nat} {out : Out} : (aop P op).val tm H at_ = some out ↔ allB (okOpd P) op.operands.toList = true ∧ (aopF P op).val tm H at_ = some out := by
  unfold aop
  rw [br_eq]
  split
  · rename_i h; simp [h]
  · rename_i h; simp [h, dead]

/-! The heap is neither read nor written. -/
def PurF (g : AH → Option Nat → Option Out) : Prop := ∀ H at_ out, g H at_ = some out → ∃ v, out = .val v H ∧ ∀ H' at', g H' at' = some (.val v H')
theorem pur_none : PurF fun _ _ => none := fun _ _ _ h => by cases h
theorem pur_val (v : AV) : PurF fun H _ => some (.val v H) := fun _ _ _ h => by cases h; exact ⟨v, rfl, fun _ _ => rfl⟩
theorem pur_vO (x : Option AV) : PurF fun H _ => vO H x := by
  cases x with
  | none => exact pur_none
  | some v => exact pur_val v
theorem pur_br {c : Bool} {f g : AH → Option Nat → Option Out} (hf : PurF f) (hg : PurF g) : PurF fun H at_ => br c (f H at_) (g H at_) := by cases c <;> assumption
theorem pur_ob {α : Type} {x : Option α} {f : α → AH → Option Nat → Option Out} (hf : ∀ a, PurF (f a)) : PurF fun H at_ => ob x fun a => f a H at_ := by
  cases x with
  | none => exact pur_none
  | some a => exact hf a
def Pur (f : Bx OpF) : Prop := ∀ tm, PurF (f.val tm)
theorem pur_dead : Pur dead := fun _ => pur_none

theorem pureF {op : Op} (hp : isPure op = true) : Pur (aopF P op) := by
  intro tm
  cases op with
  | move x => simp only [aopF, b1, bx_eq, oMove, val_mk]; exact pur_val _
  | assign x => simp only [aopF, b1, bx_eq, oMove, val_mk]; exact pur_val _
  | pick c x y => simp only [aopF, b3, bx_eq, oPick, val_mk]; exact pur_vO _
  | build t ps =>
    simp only [aopF, bx_eq]
    unfold oBuild
    split
    · simp only [val_mk]; exact pur_vO _
    · exact pur_dead tm
  | nilCheck x => simp only [aopF, b1, bx_eq, oNilCheck, val_mk]; exact pur_br (pur_val _) pur_none
  | binOp o t x y _ => simp only [aopF, b2, bx_eq, oBin, val_mk]; exact pur_vO _
  | unOp o t x =>
    simp only [aopF, b1, bx_eq]
    unfold oUn
    split
    · exact pur_dead tm
    · simp only [val_mk]; exact pur_vO _
  | makeInterface t x =>
    simp only [aopF, b1, bx_eq]
    unfold oIface
    split
    · exact pur_dead tm
    · exact pur_dead tm
    · simp only [val_mk]; exact pur_val _
  | makeFunc f xs ys =>
    simp only [aopF, bx_eq]
    unfold oFunc
    split
    · exact pur_dead tm
    · simp only [val_mk]; exact pur_val _
  | slice t x lo hi mx =>
    simp only [aopF, b1, bx_eq]
    unfold oSlice
    split
    · exact pur_dead tm
    · simp only [bx_eq, val_mk]; exact pur_vO _
  | fieldAddr s x f =>
    simp only [aopF, b1, bx_eq]
    unfold oFieldAddr
    split
    · exact pur_dead tm
    · simp only [val_mk]
      cases hx : (opdB x).val tm with
      | ptr p =>
        rcases p with _ | ⟨b, o⟩
        · exact pur_none
        · exact pur_val _
      | _ => exact pur_none
  | field s x f =>
    simp only [aopF, b1, bx_eq]
    unfold oField
    split
    · exact pur_dead tm
    · split
      · exact pur_dead tm
      · simp only [val_mk]; exact pur_vO _
  | indexAddr t x y =>
    simp only [aopF, b2, bx_eq]
    unfold oIndexAddr
    split
    · simp only [val_mk]; exact pur_vO _
    · simp only [val_mk]; exact pur_vO _
    · exact pur_dead tm
  | index t x y =>
    simp only [aopF, b2, bx_eq]
    unfold oIndex
    split
    · exact pur_dead tm
    · simp only [val_mk]; exact pur_vO _
  | typeAssert x xt t ok =>
    simp only [aopF, b1, bx_eq]
    unfold oAssert
    split
    · exact pur_dead tm
    · rename_i want _
      simp only [val_mk]
      cases hx : (opdB x).val tm with
      | nilIface => exact pur_vO _
      | iface u v =>
        refine pur_ob (f := fun i H _ => _) fun i => ?_
        exact pur_br (pur_val _) (pur_vO _)
      | _ => exact pur_none
    · simp only [val_mk]
      cases hx : (opdB x).val tm with
      | nilIface => exact pur_vO _
      | iface u v => exact pur_br (pur_val _) (pur_vO _)
      | _ => exact pur_none
  | extract x i => simp only [aopF, b1, bx_eq, oExtract, val_mk]; exact pur_vO _
  | call c =>
    obtain ⟨callee, args, ts⟩ := c
    simp only [aopF]
    have fold : ∀ (f : AV → AV → Option AV) (xs : List Operand), Pur (oFold f xs) := by
      intro f xs tm
      unfold oFold
      split
      · simp only [bx_eq, val_mk]; exact pur_vO _
      · simp only [bx_eq, val_mk]; exact pur_vO _
      · exact pur_dead tm
    cases callee with
    | builtin b =>
      simp only [oCall]
      cases b <;> first | (cases hp; done) | skip
      · unfold builtinF
        split <;> first | (rename_i hq _ _; cases hq; done) | (rename_i hq _; cases hq; done) | (rename_i hq; cases hq; done) | skip
        all_goals first | exact pur_dead tm | exact fold _ _ tm | skip
        simp only [bx_eq]
        unfold oArgs1p
        split
        · exact pur_dead tm
        · simp only [val_mk]; exact pur_vO _
      · exact fold _ _ tm
      · exact fold _ _ tm
    | _ => cases hp
  | _ => cases hp

/-! One block is added, at a place kept for it. -/
def FltF (id : Nat) (g : AH → Option Nat → Option Out) : Prop := ∀ H out, g H (some id) = some out → ∃ v blk, out = .val v (H.put id (some blk)) ∧ ∀ H', g H' (some id) = some (.val v (H'.put id (some blk)))
theorem flt_none {id : Nat} : FltF id fun _ _ => none := fun _ _ h => by cases h
theorem flt_new {id : Nat} (x : ABlk) (k : Nat → AV) : FltF id fun H at_ => H.newTo at_ x fun b H' => some (.val (k b) H') := by
  intro H out h
  have e : ∀ H : AH, (H.newTo (some id) x fun b H' => some (Out.val (k b) H')) = some (.val (k id) (H.put id (some x))) := fun H => AH.newTo_some ..
  have h : (H.newTo (some id) x fun b H' => some (Out.val (k b) H')) = some out := h
  rw [e] at h
  cases h
  exact ⟨k id, x, rfl, fun H' => e H'⟩
theorem flt_br {id : Nat} {c : Bool} {f g : AH → Option Nat → Option Out} (hf : FltF id f) (hg : FltF id g) : FltF id fun H at_ => br c (f H at_) (g H at_) := by cases c <;> assumption
theorem flt_ob {id : Nat} {α : Type} {x : Option α} {f : α → AH → Option Nat → Option Out} (hf : ∀ a, FltF id (f a)) : FltF id fun H at_ => ob x fun a => f a H at_ := by
  cases x with
  | none => exact flt_none
  | some a => exact hf a

theorem floatF {id : Nat} {op : Op} (hp : isFloat op = true) (tm : TM0) : FltF id ((aopF P op).val tm) := by
  cases op with
  | alloc e =>
    simp only [aopF]
    unfold oAlloc
    split
    · exact flt_none
    · rw [br_eq]
      split
      · simp only [val_mk]; exact flt_new _ fun b => .ptr (some (b, 0))
      · exact flt_none
  | box e x => simp only [aopF, b1, bx_eq, oBox, val_mk]; exact flt_br (flt_new _ fun b => .ptr (some (b, 0))) flt_none
  | buildSlice t n ps =>
    simp only [aopF, bx_eq]
    cases slT P t with
    | none => exact flt_none
    | some e =>
      simp only [oBuildSlice]
      cases elT P e with
      | none => exact flt_none
      | some p =>
        simp only [br_eq]
        split
        · simp only [val_mk]
          split
          · exact flt_ob fun cs => flt_new _ fun b => .slice (some (b, 0)) n n true
          · exact flt_none
        · exact flt_none
  | makeSlice t x y =>
    simp only [aopF, b2, bx_eq]
    unfold oMakeSlice
    split
    · exact flt_none
    · split
      · simp only [val_mk]
        split
        · refine flt_br (flt_ob fun l => flt_ob fun c => flt_br (flt_br (flt_br (flt_new _ fun b => .slice (some (b, 0)) l c true) flt_none) flt_none) flt_none) flt_none
        · exact flt_none
      · exact flt_none
  | makeMap t r =>
    simp only [aopF]
    unfold oMap
    split
    · simp only [val_mk]; exact flt_new _ fun b => .map (some b)
    · exact flt_none
  | _ => cases hp

/-! Blocks are looked at, named by the operands. -/
/-- What is there and known is there as well. -/
def Incl (ρ : Env) (H H' : AH) : Prop := ∀ b x, ρ b ≠ none → H.get b = some x → H'.get b = some x

theorem cellsTo_incl {ρ : Env} {H H' : AH} (hi : Incl ρ H H') {β : Type} {b : Nat} {f : TypeId → List AV → Option β} {r : β} (hb : ρ b ≠ none) (h : cellsTo none H b f = some r) : cellsTo none H' b f = some r := by
  obtain ⟨e, cs, h1, h2⟩ := cellsTo_eq_some.1 h
  exact cellsTo_eq_some.2 ⟨e, cs, hi b _ hb h1, h2⟩
theorem rowTo_incl {ρ : Env} {H H' : AH} (hi : Incl ρ H H') {β : Type} {b : Nat} {f : List AV → Option β} {g : (Nat → Option AV) → Option β} {r : β} (hb : ρ b ≠ none) (h : rowTo none H b f g = some r) : rowTo none H' b f g = some r := by
  rcases rowTo_eq_some.1 h with ⟨e, cs, h1, h2⟩ | ⟨o, f, h1, h2⟩
  · exact rowTo_eq_some.2 (.inl ⟨e, cs, hi b _ hb h1, h2⟩)
  · exact rowTo_eq_some.2 (.inr ⟨o, f, hi b _ hb h1, h2⟩)
theorem mpTo_incl {ρ : Env} {H H' : AH} (hi : Incl ρ H H') {β : Type} {b : Nat} {f : List (AV × AV × Nat) → Nat → Option β} {r : β} (hb : ρ b ≠ none) (h : mpTo none H b f = some r) : mpTo none H' b f = some r := by
  obtain ⟨e, cs, h1, h2⟩ := mpTo_eq_some.1 h
  exact mpTo_eq_some.2 ⟨e, cs, hi b _ hb h1, h2⟩

theorem lookF {op : Op} (hl : isLook P op = true) {tm : TM0} {H : AH} {at_ : Option Nat} {out : Out} (h : (aopF P op).val tm H at_ = some out) :
    ∃ v, out = .val v H ∧ ∀ {ρ : Env} {H' : AH} {at' : Option Nat}, (∀ x ∈ op.operands.toList, ∃ v', Rel ρ (opd tm x) v') → Incl ρ H H' → (aopF P op).val tm H' at' = some (.val v H') := by
  cases op with
  | load t x =>
    simp only [aopF, b1, bx_eq] at h ⊢
    unfold oLoad at h ⊢
    split at h
    · cases h
    · rename_i part hp
      simp only [val_mk, opdB_val] at h ⊢
      obtain ⟨b, o, e, h⟩ := onPtr_eq_some h
      obtain ⟨v, h1, rfl⟩ := vO_eq_some.1 h
      refine ⟨v, rfl, fun {ρ H' at'} hx hi => ?_⟩
      obtain ⟨v', hr⟩ := hx x (by simp [Op.operands])
      rw [e] at hr
      obtain ⟨l, hb, _⟩ := rel_ptr hr
      rw [e]
      rw [ob_eq_some] at h1
      obtain ⟨u, h1, h2⟩ := h1
      show vO H' (ob (rowTo none H' b (fun cs => part cs o) fun f => ob (roList f o (cellsQ (aggT P t))) fun l => part l 0) clearA) = _
      rw [rowTo_incl hi (by rw [hb]; simp) h1, ob_some, h2]
      rfl
  | lookup t m k ok =>
    simp only [aopF, b2, bx_eq] at h ⊢
    unfold oLookup at h ⊢
    split at h
    · cases h
    · rename_i kt et hm
      split at h
      · rename_i kok z h1 h2
        simp only [val_mk, opdB_val, br_some_none, vO_eq_some] at h ⊢
        obtain ⟨hk, v, h3, rfl⟩ := h
        refine ⟨v, rfl, fun {ρ H' at'} hx hi => ⟨hk, v, ?_, rfl⟩⟩
        obtain ⟨v', hr⟩ := hx m (by simp [Op.operands])
        unfold entriesTo at h3 ⊢
        split at h3
        · exact h3
        · rename_i b e
          rw [e] at hr
          obtain ⟨l, hb, _⟩ := rel_map hr
          exact mpTo_incl hi (by rw [hb]; simp) h3
        · cases h3
      · cases h
  | convert s d x =>
    simp only [aopF, b1, bx_eq] at h ⊢
    simp only [isLook] at hl
    unfold oConv at h ⊢
    split at h
    · cases h
    · rename_i k hk
      simp only [val_mk, opdB_val] at h ⊢
      split at h
      · cases h; exact ⟨_, rfl, fun _ _ => rfl⟩
      · cases h
    · rename_i hk
      simp only [val_mk, opdB_val] at h ⊢
      split at h
      · cases h; exact ⟨_, rfl, fun _ _ => rfl⟩
      · cases h
    · rename_i e hk
      rw [hk] at hl; cases hl
    · rename_i hk
      rw [hk] at hl; cases hl
    · rename_i hk
      simp only [val_mk, opdB_val] at h ⊢
      split at h
      · cases h
      · rename_i v0 hns
        simp only [ob_eq_some, Option.some.injEq] at h ⊢
        obtain ⟨n, h1, cs, h2, bs, h3, rfl⟩ := h
        refine ⟨.str bs, rfl, fun {ρ H' at'} hx hi => ⟨n, h1, cs, ?_, bs, h3, rfl⟩⟩
        obtain ⟨v', hr⟩ := hx x (by simp [Op.operands])
        unfold sliceCells at h2 ⊢
        split at h2
        · exact h2
        · rename_i b o len cp ex e
          rw [e] at hr
          obtain ⟨l, hb, _⟩ := rel_slice hr
          rw [br_some_none] at h2 ⊢
          obtain ⟨q1, q2⟩ := h2
          refine ⟨q1, ?_⟩
          rw [br_eq] at q2 ⊢
          by_cases hz : n.beq 0 = true
          · rw [if_pos hz] at q2 ⊢; exact q2
          · rw [if_neg hz] at q2 ⊢
            rw [ob_eq_some] at q2 ⊢
            obtain ⟨l2, q2, q3⟩ := q2
            exact ⟨l2, rowTo_incl hi (by rw [hb]; simp) q2, q3⟩
        · exact h2
        · exact h2
        · cases h2
  | call c =>
    obtain ⟨callee, args, ts⟩ := c
    simp only [aopF] at h ⊢
    cases callee with
    | builtin b =>
      simp only [oCall] at h ⊢
      cases b <;> first | (cases hl; done) | skip
      unfold builtinF at h ⊢
      split at h <;> first | (rename_i hq _ _; cases hq; done) | (rename_i hq _; cases hq; done) | (rename_i hq; cases hq; done) | (cases h; done) | skip
      rename_i t _ x _ e1 e2
      simp only [bx_eq] at h ⊢
      unfold oArgs1v at h ⊢
      split at h
      · cases h
      · rename_i f hf
        simp only [val_mk, opdB_val, vO_eq_some] at h ⊢
        obtain ⟨v, hv, rfl⟩ := h
        refine ⟨v, rfl, fun {ρ H' at'} hx hi => ⟨v, ?_, rfl⟩⟩
        obtain ⟨v', hr⟩ := hx x (by simp [Op.operands, Call.operands, e2])
        unfold lenF at hf
        split at hf
        · cases hf; exact hv
        · cases hf; exact hv
        · split at hf
          · cases hf; exact hv
          · cases hf
        · cases hf; exact hv
        · cases hf
          dsimp only at hv
          split at hv
          · rename_i e; simp only [e]; exact hv
          · rename_i b e
            rw [e] at hr
            obtain ⟨l, hb, _⟩ := rel_map hr
            simp only [e]
            exact mpTo_incl hi (by rw [hb]; simp) hv
          · cases hv
        · cases hf
    | _ => cases hl
  | _ => cases hl

end Go.Ab
