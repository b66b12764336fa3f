/- Each operation, evaluated, is what the operation does (fifth part: addresses, slices of slices, maps, assertions). -/
import Derived.Test.YtoafnnphjbdedaaGreatDoorAbI
namespace Go.Ab
variable {P : Program} {ρ : Env} {H : AH} {w : World} {at_ : Option Nat} {W : Tmp → Prop}

section ops
variable {tm : TM0} {a : Act} {out : Out} {dst : Option Tmp} {type : TypeId} {pos : String} {after : Array Edge} {guard : Option (Nat × Bool)}

theorem s_fieldAddr (h : At P ρ H w tm a W) {s : TypeId} {f : Nat} {x : Operand} (hx : OkW P W x) (he : (aopF P (.fieldAddr s x f)).val tm H at_ = some out) :
    OpRes at_ P ρ H w out ((execOp a.eval ⟨dst, .fieldAddr s x f, type, pos, after, guard⟩).run P w) := by
  simp only [aopF, b1, bx_eq] at he
  have rx := h.opd hx
  cases ho : fieldOff P s f with
  | none => simp [ho, oFieldAddr, dead] at he
  | some off =>
    simp only [ho, oFieldAddr, val_mk, opdB_val] at he
    obtain ⟨b, o, e, he⟩ := onPtr_eq_some he
    cases he
    rw [e] at rx
    obtain ⟨l, hl, hv⟩ := rel_ptr rx
    simp only [fieldOff, ob_eq_some] at ho
    obtain ⟨fd, hf, ho⟩ := ho
    split at ho
    · rename_i n hn
      simp only [Option.some.injEq] at ho
      subst ho
      unfold fieldOf at hf
      split at hf
      · rename_i fs hu
        refine .pure h.real (v' := .pointer (some ⟨l.blk, l.off + (o + fd.offset), none⟩)) ?_ ⟨l, hl, rfl⟩
        simp [execOp, Instr.fieldAt, run_und hu, hf, hv, Instr.sureAddr, fieldPlace, run_size hn, add_plain, Nat.add_assoc]
      · cases hf
    · cases ho

theorem s_field (h : At P ρ H w tm a W) {s : TypeId} {f : Nat} {x : Operand} (hx : OkW P W x) (he : (aopF P (.field s x f)).val tm H at_ = some out) :
    OpRes at_ P ρ H w out ((execOp a.eval ⟨dst, .field s x f, type, pos, after, guard⟩).run P w) := by
  simp only [aopF, b1, bx_eq] at he
  have rx := h.opd hx
  cases hf : fieldOf P s f with
  | none => simp [hf, oField, dead] at he
  | some fd =>
    cases hp : partF (aggT P fd.type) with
    | none => simp [hf, hp, oField, dead] at he
    | some part =>
      simp only [hf, hp, oField, val_mk, opdB_val, vO_eq_some] at he
      obtain ⟨v, hv, rfl⟩ := he
      unfold fieldA at hv
      split at hv
      · rename_i cs e
        rw [e] at rx
        obtain ⟨cs', hx', hr⟩ := rel_agg rx
        obtain ⟨q, hq, hp'⟩ := part_some hp
        obtain ⟨v', h1, h2⟩ := part_list (w := w) hp' hq hr hv
        unfold fieldOf at hf
        split at hf
        · rename_i fs hu
          refine .pure h.real (v' := v') ?_ h2
          simp [execOp, Instr.field, run_und hu, hf, hx', asAgg, h1]
        · cases hf
      · cases hv

theorem idxA_some {n m : Nat} {i : AV} (h : idxA n i = some m) : ∃ k, i = .int k m ∧ m < n := by
  unfold idxA at h
  split at h
  · simp only [ob_eq_some, natZ_eq_some, br_some_none, Nat.blt_eq, Option.some.injEq] at h
    obtain ⟨q, rfl, h1, rfl⟩ := h
    exact ⟨_, rfl, h1⟩
  · cases h

theorem sk_arr {t : TypeId} {n sz : Nat} (h : skOf P t = some (.arr n sz)) : ∃ e, P.underlying t = some (.array n e) ∧ szOf P e = some sz := by
  unfold skOf at h
  split at h
  · simp only [ob_eq_some, Option.some.injEq] at h
    obtain ⟨s, h1, h2⟩ := h
    cases h2
    exact ⟨_, by assumption, h1⟩
  · cases h
  · simp only [ob_eq_some, Option.some.injEq] at h
    obtain ⟨s, h1, h2⟩ := h
    cases h2
  · cases h
theorem sk_sl {t : TypeId} {sz : Nat} (h : skOf P t = some (.sl sz)) : ∃ e, P.underlying t = some (.slice e) ∧ szOf P e = some sz := by
  unfold skOf at h
  split at h
  · simp only [ob_eq_some, Option.some.injEq] at h
    obtain ⟨s, h1, h2⟩ := h
    cases h2
  · cases h
  · simp only [ob_eq_some, Option.some.injEq] at h
    obtain ⟨s, h1, h2⟩ := h
    cases h2
    exact ⟨_, by assumption, h1⟩
  · cases h
theorem sk_str {t : TypeId} (h : skOf P t = some .str) : P.underlying t = some .string := by
  unfold skOf at h
  split at h
  · simp only [ob_eq_some, Option.some.injEq] at h
    obtain ⟨s, h1, h2⟩ := h
    cases h2
  · assumption
  · simp only [ob_eq_some, Option.some.injEq] at h
    obtain ⟨s, h1, h2⟩ := h
    cases h2
  · cases h

theorem s_indexAddr (h : At P ρ H w tm a W) {t : TypeId} {x i : Operand} (hx : OkW P W x) (hi : OkW P W i) (he : (aopF P (.indexAddr t x i)).val tm H at_ = some out) :
    OpRes at_ P ρ H w out ((execOp a.eval ⟨dst, .indexAddr t x i, type, pos, after, guard⟩).run P w) := by
  simp only [aopF, b2, bx_eq] at he
  have rx := h.opd hx
  have ri := h.opd hi
  cases hk : skOf P t with
  | none => simp [hk, oIndexAddr, dead] at he
  | some k =>
    cases k with
    | arr n sz =>
      obtain ⟨e, hu, hs⟩ := sk_arr hk
      simp only [hk, oIndexAddr, val_mk, opdB_val, vO_eq_some] at he
      obtain ⟨v, hv, rfl⟩ := he
      unfold idxArr at hv
      split at hv
      · rename_i b o e1
        simp only [ob_eq_some, Option.some.injEq] at hv
        obtain ⟨m, hm, rfl⟩ := hv
        obtain ⟨q, e2, hlt⟩ := idxA_some hm
        rw [e1] at rx
        rw [e2] at ri
        obtain ⟨l, hl, hv⟩ := rel_ptr rx
        refine .pure h.real (v' := .pointer (some ⟨l.blk, l.off + (o + m * sz), none⟩)) ?_ ⟨l, hl, rfl⟩
        have : (0 : Int) ≤ (m : Int) ∧ (m : Int) < (n : Int) := by omega
        simp [execOp, Instr.indexAt, run_und hu, rel_int ri, asIntOf, hv, Instr.sureAddr, run_size hs, add_plain, Nat.add_assoc, hlt]
      · cases hv
    | sl sz =>
      obtain ⟨e, hu, hs⟩ := sk_sl hk
      simp only [hk, oIndexAddr, val_mk, opdB_val, vO_eq_some] at he
      obtain ⟨v, hv, rfl⟩ := he
      unfold idxSl at hv
      split at hv
      · rename_i b o len cap ex e1
        simp only [ob_eq_some, Option.some.injEq] at hv
        obtain ⟨m, hm, rfl⟩ := hv
        obtain ⟨q, e2, hlt⟩ := idxA_some hm
        rw [e1] at rx
        rw [e2] at ri
        obtain ⟨l, hl, hv⟩ := rel_slice rx
        refine .pure h.real (v' := .pointer (some ⟨l.blk, l.off + (o + m * sz), none⟩)) ?_ ⟨l, hl, rfl⟩
        simp [execOp, Instr.indexAt, run_und hu, rel_int ri, asIntOf, hv, run_size hs, add_plain, Nat.add_assoc, hlt]
      · cases hv
    | str => simp [hk, oIndexAddr, dead] at he

theorem s_index (h : At P ρ H w tm a W) {t : TypeId} {x i : Operand} (hx : OkW P W x) (hi : OkW P W i) (he : (aopF P (.index t x i)).val tm H at_ = some out) :
    OpRes at_ P ρ H w out ((execOp a.eval ⟨dst, .index t x i, type, pos, after, guard⟩).run P w) := by
  simp only [aopF, b2, bx_eq] at he
  have rx := h.opd hx
  have ri := h.opd hi
  cases hf : indexA P t with
  | none => simp [hf, oIndex, dead] at he
  | some f =>
    simp only [hf, oIndex, val_mk, opdB_val, vO_eq_some] at he
    obtain ⟨v, hv, rfl⟩ := he
    unfold indexA at hf
    split at hf
    · rename_i len e hu
      simp only [ob_eq_some, Option.some.injEq] at hf
      obtain ⟨sz, hs, part, hp, rfl⟩ := hf
      simp only at hv
      split at hv
      · rename_i cs e1
        simp only [ob_eq_some] at hv
        obtain ⟨m, hm, hv⟩ := hv
        obtain ⟨q, e2, hlt⟩ := idxA_some hm
        rw [e1] at rx
        rw [e2] at ri
        obtain ⟨cs', hx', hr⟩ := rel_agg rx
        obtain ⟨q', hq, hp'⟩ := part_some hp
        obtain ⟨v', h1, h2⟩ := part_list (w := w) hp' hq hr hv
        refine .pure h.real (v' := v') ?_ h2
        simp only [Nat.mul_eq] at h1
        simp [execOp, Instr.index, rel_int ri, asIntOf, run_und hu, hx', hlt, run_size hs, h1]
      · cases hv
    · rename_i hu
      simp only [Option.some.injEq] at hf
      subst hf
      simp only at hv
      split at hv
      · rename_i s k n e1 e2
        simp only [ob_eq_some, natZ_eq_some, nthO_eq, Option.some.injEq] at hv
        obtain ⟨m, rfl, b, hb, rfl⟩ := hv
        rw [e1] at rx
        rw [e2] at ri
        refine .pure h.real (v' := .int .u8 b.toNat) ?_ rfl
        have hget : (⟨s.toArray⟩ : ByteArray)[m]? = some b := by
          have hlt : m < s.length := (List.getElem?_eq_some_iff.1 hb).1
          have hlt' : m < (⟨s.toArray⟩ : ByteArray).size := by simpa [ByteArray.size] using hlt
          have hg : s[m] = b := by rw [List.getElem?_eq_getElem hlt] at hb; simpa using hb
          have : (⟨s.toArray⟩ : ByteArray)[m]? = some ((⟨s.toArray⟩ : ByteArray)[m]'hlt') := by
            show (if h : m < _ then some _ else none) = _
            rw [dif_pos hlt']
          rw [this, ← hg]
          rfl
        simp [execOp, Instr.index, rel_int ri, asIntOf, run_und hu, rel_str rx, hget]
      · cases hv
    · cases hf

theorem s_extract (h : At P ρ H w tm a W) {x : Operand} {i : Nat} (hx : OkW P W x) (he : (aopF P (.extract x i)).val tm H at_ = some out) :
    OpRes at_ P ρ H w out ((execOp a.eval ⟨dst, .extract x i, type, pos, after, guard⟩).run P w) := by
  simp only [aopF, b1, bx_eq, oExtract, val_mk, opdB_val, vO_eq_some] at he
  obtain ⟨v, hv, rfl⟩ := he
  have rx := h.opd hx
  unfold extractA at hv
  split at hv
  · rename_i vs e
    rw [e] at rx
    obtain ⟨vs', hx', hr⟩ := rel_tup rx
    rw [nthO_eq] at hv
    obtain ⟨v', h1, h2⟩ := hr.get hv
    exact .pure h.real (v' := v') (by simp [execOp, Instr.extract, hx', h1]) h2
  · cases hv

theorem failT_some {ok : Bool} {z : Option AV} {v : AV} (h : failT ok z = some v) : ok = true ∧ ∃ z', z = some z' ∧ v = .tup [z', .bool false] := by
  simp only [failT, br_some_none, ob_eq_some, Option.some.injEq] at h
  obtain ⟨h1, z', h2, rfl⟩ := h
  exact ⟨h1, z', h2, rfl⟩
theorem holdT_rel {ok : Bool} {v : AV} {v' : Value} (h : Rel ρ v v') : Rel ρ (holdT ok v) (if ok then .tuple #[v', .bool true] else v') := by
  cases ok with
  | false => exact h
  | true => exact ⟨[v', .bool true], rfl, .cons h (.cons rfl rfl)⟩

theorem least_nil {l : List String} : Instr.least l = none ↔ l = [] := by cases l <;> simp [Instr.least]
theorem hasAllM_eq (want : Array (String × TypeId)) (got : Array Method) : hasAllM want got = true ↔ Instr.missingMethod want got = none := by
  unfold hasAllM Instr.missingMethod
  rw [allB_eq]
  simp only []
  generalize hm : (want.toList.filter fun (x : String × TypeId) => !got.any fun m => m.name == x.1 && m.sig == x.2).map (·.1) = missing
  have h1 : (want.toList.all fun x : String × TypeId => got.toList.any fun m => m.name == x.1 && m.sig == x.2) = true ↔ missing = [] := by
    rw [← hm, List.map_eq_nil_iff, List.filter_eq_nil_iff, List.all_eq_true]
    simp
  rw [h1]
  have h2 : missing.partition (fun x => x.contains (Char.ofNat (nat_lit 46))) = (missing.filter (fun x => x.contains (Char.ofNat (nat_lit 46))), missing.filter (not ∘ fun x => x.contains (Char.ofNat (nat_lit 46)))) := List.partition_eq_filter_filter
  constructor
  · rintro rfl; rfl
  · intro h
    change (Instr.least (missing.partition (fun x => x.contains (Char.ofNat (nat_lit 46)))).2 <|> Instr.least ((missing.partition (fun x => x.contains (Char.ofNat (nat_lit 46)))).1.map fun id => (id.splitOn ".").getLastD id)) = none at h
    rw [h2] at h
    have a : missing.filter (not ∘ fun x => x.contains (Char.ofNat (nat_lit 46))) = [] := by
      cases hl : Instr.least (missing.filter (not ∘ fun x => x.contains (Char.ofNat (nat_lit 46)))) with
      | none => exact least_nil.1 hl
      | some y => rw [hl] at h; cases h
    rw [a] at h
    have b : missing.filter (fun x => x.contains (Char.ofNat (nat_lit 46))) = [] := List.map_eq_nil_iff.1 (least_nil.1 h)
    rw [List.filter_eq_nil_iff] at a b
    simp only [Function.comp] at a
    clear h h2 h1 hm
    cases missing with
    | nil => rfl
    | cons x xs =>
      have a1 := a x (by simp)
      have b1 := b x (by simp)
      simp_all

theorem s_assert (h : At P ρ H w tm a W) {x : Operand} {xt t : TypeId} {ok : Bool} (hx : OkW P W x) (he : (aopF P (.typeAssert x xt t ok)).val tm H at_ = some out) :
    OpRes at_ P ρ H w out ((execOp a.eval ⟨dst, .typeAssert x xt t ok, type, pos, after, guard⟩).run P w) := by
  simp only [aopF, b1, bx_eq] at he
  have rx := h.opd hx
  have fail : ∀ {v : AV}, failT ok (zeroA P t) = some v → ok = true ∧ ∃ zv, (zeroValue t).run P w = .ok zv w ∧ Rel ρ v (.tuple #[zv, .bool false]) := by
    intro v hv
    obtain ⟨h1, z, h2, rfl⟩ := failT_some hv
    obtain ⟨zv, h3, h4⟩ := run_zero (ρ := ρ) (w := w) h2
    exact ⟨h1, zv, h3, ⟨_, rfl, .cons h4 (.cons rfl rfl)⟩⟩
  cases hu : P.underlying t with
  | none => simp [hu, oAssert, dead] at he
  | some d =>
    rw [hu] at he
    by_cases hd : ∃ want, d = .interface want
    · obtain ⟨want, rfl⟩ := hd
      simp only [oAssert, val_mk, opdB_val] at he
      split at he
      · rename_i e
        rw [vO_eq_some] at he
        obtain ⟨v, hv, rfl⟩ := he
        obtain ⟨rfl, zv, h3, h4⟩ := fail hv
        rw [e] at rx
        have hx' : a.eval x = .nilIface := rx
        exact .pure h.real (v' := .tuple #[zv, .bool false]) (by simp [execOp, Instr.typeAssert, run_und hu, hx', h3]) h4
      · rename_i u v e
        simp only [ob_eq_some] at he
        obtain ⟨i, hi, he⟩ := he
        rw [e] at rx
        obtain ⟨v', hx', rv⟩ := rx
        rw [br_eq] at he
        split at he
        · rename_i hm
          rw [hasAllM_eq] at hm
          cases he
          refine .pure h.real ?_ (holdT_rel (v' := .iface u v') ⟨_, rfl, rv⟩)
          simp [execOp, Instr.typeAssert, run_und hu, hx', run_info hi, hm]
        · rename_i hm
          rw [hasAllM_eq] at hm
          obtain ⟨m, hm⟩ := Option.ne_none_iff_exists'.1 hm
          rw [vO_eq_some] at he
          obtain ⟨v, hv, rfl⟩ := he
          obtain ⟨rfl, zv, h3, h4⟩ := fail hv
          exact .pure h.real (v' := .tuple #[zv, .bool false]) (by simp [execOp, Instr.typeAssert, run_und hu, hx', run_info hi, hm, h3]) h4
      · cases he
    · have hn : ∀ want, d ≠ .interface want := fun want e => hd ⟨want, e⟩
      have he' : (match opd tm x with
          | .nilIface => vO H (failT ok (zeroA P t))
          | .iface u v => br (Nat.beq u t) (some (.val (holdT ok v) H)) (vO H (failT ok (zeroA P t)))
          | _ => none) = some out := by
        cases d <;> first | exact absurd rfl (hn _) | (simp only [oAssert, val_mk, opdB_val] at he; exact he)
      clear he
      split at he'
      · rename_i e
        rw [vO_eq_some] at he'
        obtain ⟨v, hv, rfl⟩ := he'
        obtain ⟨rfl, zv, h3, h4⟩ := fail hv
        rw [e] at rx
        have hx' : a.eval x = .nilIface := rx
        refine .pure h.real (v' := .tuple #[zv, .bool false]) ?_ h4
        cases d <;> first | exact absurd rfl (hn _) | simp [execOp, Instr.typeAssert, run_und hu, hx', h3]
      · rename_i u v e
        rw [e] at rx
        obtain ⟨v', hx', rv⟩ := rx
        rw [br_eq] at he'
        split at he'
        · rename_i hb
          have e2 : u = t := Nat.eq_of_beq_eq_true hb
          subst e2
          cases he'
          refine .pure h.real ?_ (holdT_rel (v' := v') rv)
          cases d <;> first | exact absurd rfl (hn _) | simp [execOp, Instr.typeAssert, run_und hu, hx']
        · rename_i hb
          have e2 : ¬ u = t := fun e2 => hb (by subst e2; exact Nat.beq_refl _)
          rw [vO_eq_some] at he'
          obtain ⟨v, hv, rfl⟩ := he'
          obtain ⟨rfl, zv, h3, h4⟩ := fail hv
          refine .pure h.real (v' := .tuple #[zv, .bool false]) ?_ h4
          cases d <;> first | exact absurd rfl (hn _) | simp [execOp, Instr.typeAssert, run_und hu, hx', e2, h3]
      · cases he'

/-! Slices of slices. -/
theorem bnd_run {y n : Nat} {v : AV} (h : bndA y v = some n) {v' : Value} (hv : Rel ρ v v') (c : BoundsCode) : (Instr.sliceBound v' y c).run P w = .ok n w ∧ n ≤ y := by
  unfold bndA at h
  split at h
  · simp only [ob_eq_some, natZ_eq_some, br_some_none, Nat.ble_eq, Option.some.injEq] at h
    obtain ⟨m, rfl, h1, rfl⟩ := h
    have : (0 : Int) ≤ (m : Int) ∧ (m : Int) ≤ (y : Int) := by omega
    refine ⟨?_, h1⟩
    simp [Instr.sliceBound, rel_int hv, asIntOf, h1]
  · cases h

/-- The bounds, and the operands that they come from. -/
def RelO (ρ : Env) : Option AV → Option Value → Prop
  | none, v => v = none
  | some x, v => ∃ y, v = some y ∧ Rel ρ x y

theorem bnd_more {y C n : Nat} {v : AV} (h : bndA y v = some n) (hC : y ≤ C) : bndA C v = some n := by
  unfold bndA at h ⊢
  split at h
  · simp only [ob_eq_some, natZ_eq_some, br_some_none, Nat.ble_eq, Option.some.injEq] at h ⊢
    obtain ⟨m, rfl, h1, rfl⟩ := h
    exact ⟨m, rfl, by omega, rfl⟩
  · cases h
theorem bounds_run {len cap C l h m : Nat} {lo hi mx : Option AV} {lo' hi' mx' : Option Value} (isS : Bool) (hC : cap ≤ C) (hlo : RelO ρ lo lo') (hhi : RelO ρ hi hi') (hmx : RelO ρ mx mx')
    (hno : mx.isSome = true → hi.isSome = true) (e1 : bndO cap cap mx = some m) (e2 : bndO len m hi = some h) (e3 : bndO 0 h lo = some l) :
    (Instr.sliceBounds isS len C lo' hi' mx').run P w = .ok (l, h, if mx.isSome then m else C) w ∧ l ≤ h ∧ m ≤ cap ∧ (mx = none → m = cap) ∧ (len = 0 → h = 0 ∨ h ≤ m) := by
  have hl : (∃ n, lo' = none ∧ lo = none ∧ n = l ∧ l = 0) ∨ ∃ x, lo' = some x ∧ l ≤ h ∧ ∀ c, (Instr.sliceBound x h c).run P w = .ok l w := by
    cases lo with
    | none => cases hlo; simp only [bndO, Option.some.injEq] at e3; exact .inl ⟨l, rfl, rfl, rfl, e3.symm⟩
    | some x => obtain ⟨y, rfl, hr⟩ := hlo; exact .inr ⟨y, rfl, (bnd_run (P := P) (w := w) e3 hr .sliceB).2, fun c => (bnd_run e3 hr c).1⟩
  cases mx with
  | none =>
    cases hmx
    simp only [bndO, Option.some.injEq] at e1
    subst e1
    have hh : (hi' = none ∧ len = h) ∨ ∃ x, hi' = some x ∧ h ≤ cap ∧ ∀ c, (Instr.sliceBound x C c).run P w = .ok h w := by
      cases hi with
      | none => cases hhi; simp only [bndO, Option.some.injEq] at e2; exact .inl ⟨rfl, e2⟩
      | some x => obtain ⟨y, rfl, hr⟩ := hhi; exact .inr ⟨y, rfl, (bnd_run (P := P) (w := w) e2 hr .sliceB).2, fun c => (bnd_run (bnd_more e2 hC) hr c).1⟩
    rcases hl with ⟨n, rfl, rfl, rfl, rfl⟩ | ⟨x, rfl, b1, b2⟩ <;> rcases hh with ⟨rfl, rfl⟩ | ⟨x', rfl, b3, b4⟩ <;> simp_all [Instr.sliceBounds]
  | some u =>
    obtain ⟨yu, rfl, hu⟩ := hmx
    have hbu := bnd_run (P := P) (w := w) (bnd_more e1 hC) hu
    have hbu' := (bnd_run (P := P) (w := w) e1 hu .sliceB).2
    cases hi with
    | none => simp at hno
    | some z =>
      obtain ⟨y, rfl, hr⟩ := hhi
      have hb := fun c => bnd_run (P := P) (w := w) (c := c) e2 hr
      have hb2 := (hb .sliceB).2
      rcases hl with ⟨n, rfl, rfl, rfl, rfl⟩ | ⟨x, rfl, b1, b2⟩ <;> simp [Instr.sliceBounds, (hbu _).1, (hb _).1, *]

@[simp] theorem opdO_val (x : Option Operand) (tm : TM0) : (opdO x).val tm = x.map (opd tm) := by
  cases x with
  | none => simp [opdO, val_mk]
  | some x => simp [opdO, val_mk, bx_eq, opdB_val]
theorem At.opdO {tm : TM0} {a : Act} (h : At P ρ H w tm a W) {x : Option Operand} (hx : ∀ y, x = some y → OkW P W y) : RelO ρ (x.map (Ab.opd tm)) (x.map a.eval) := by
  cases x with
  | none => rfl
  | some x => exact ⟨_, rfl, h.opd (hx _ rfl)⟩

theorem bndsTo_some {β : Type} {len cap : Nat} {lo hi mx : Option AV} {k : Nat → Nat → Nat → Option β} {r : β} (h : bndsTo len cap lo hi mx k = some r) :
    ∃ m h' l, bndO cap cap mx = some m ∧ bndO len m hi = some h' ∧ bndO 0 h' lo = some l ∧ k l h' m = some r := by
  simp only [bndsTo, ob_eq_some] at h
  obtain ⟨m, e1, h', e2, l, e3, e4⟩ := h
  exact ⟨m, h', l, e1, e2, e3, e4⟩

theorem drop_take_extract (s : List UInt8) (l h : Nat) : (⟨s.toArray⟩ : ByteArray).extract l h = ⟨((s.drop l).take (h - l)).toArray⟩ := by
  apply ByteArray.ext
  simp [ByteArray.data_extract]

theorem s_slice (h : At P ρ H w tm a W) {t : TypeId} {x : Operand} {lo hi mx : Option Operand} (hx : OkW P W x) (hlo : ∀ y, lo = some y → OkW P W y) (hhi : ∀ y, hi = some y → OkW P W y)
    (hmx : ∀ y, mx = some y → OkW P W y) (he : (aopF P (.slice t x lo hi mx)).val tm H at_ = some out) :
    OpRes at_ P ρ H w out ((execOp a.eval ⟨dst, .slice t x lo hi mx, type, pos, after, guard⟩).run P w) := by
  simp only [aopF, b1, bx_eq] at he
  have rx := h.opd hx
  have rl := h.opdO hlo
  have rh := h.opdO hhi
  have rm := h.opdO hmx
  cases hk : skOf P t with
  | none => simp [hk, oSlice, dead] at he
  | some k =>
    simp only [hk, oSlice, bx_eq, val_mk, opdB_val, opdO_val, vO_eq_some] at he
    obtain ⟨v, hv, rfl⟩ := he
    cases k with
    | str =>
      have hu := sk_str hk
      simp only [sliceA] at hv
      cases mx with
      | some u => simp [br_eq, val_mk] at hv
      | none =>
        simp only [Option.isSome_none, br_false, val_mk] at hv
        split at hv
        · rename_i s e
          obtain ⟨m, h', l, e1, e2, e3, e4⟩ := bndsTo_some hv
          simp only [Option.some.injEq] at e4
          rw [e] at rx
          obtain ⟨b1, -⟩ := bounds_run (P := P) (w := w) (mx := none) (mx' := none) false (Nat.le_refl _) rl rh rfl (by simp) e1 e2 e3
          subst e4
          refine .pure h.real (v' := .string ⟨((s.drop l).take (h' - l)).toArray⟩) ?_ rfl
          have hsz : (⟨s.toArray⟩ : ByteArray).size = s.length := by simp [ByteArray.size]
          simp [execOp, Instr.sliceAt, Instr.slice, run_und hu, rel_str rx, hsz, b1, drop_take_extract]
        · cases hv
    | arr n sz =>
      obtain ⟨e, hu, hs⟩ := sk_arr hk
      simp only [sliceA] at hv
      by_cases hno : (mx.isSome && !hi.isSome) = true
      · rw [show and mx.isSome (not hi.isSome) = true from hno] at hv; simp [br_true, val_mk] at hv
      · rw [show and mx.isSome (not hi.isSome) = false from Bool.not_eq_true _ ▸ hno] at hv
        simp only [br_false, val_mk] at hv
        split at hv
        · rename_i b o e1
          obtain ⟨m, h', l, e1', e2, e3, e4⟩ := bndsTo_some hv
          simp only [Option.some.injEq, br_eq] at e4
          rw [e1] at rx
          obtain ⟨lc, hl, hv'⟩ := rel_ptr rx
          have hno' : (mx.map (Ab.opd tm)).isSome = true → (hi.map (Ab.opd tm)).isSome = true := by
            cases mx <;> cases hi <;> simp_all
          obtain ⟨b1, b2, b3, b4, -⟩ := bounds_run (P := P) (w := w) false (Nat.le_refl _) rl rh rm hno' e1' e2 e3
          have hm : (if (mx.map (Ab.opd tm)).isSome then m else n) = m := by
            split
            · rfl
            · rename_i hq; exact (b4 (by simpa using hq)).symm
          rw [hm] at b1
          subst e4
          refine .pure h.real (v' := .slice (some (if m = l then ⟨lc.blk, lc.off + o, none⟩ else ⟨lc.blk, lc.off + o + l * sz, none⟩)) (h' - l) (m - l)) ?_ ?_
          · simp [execOp, Instr.sliceAt, Instr.slice, run_und hu, hv', Instr.sureAddr, b1, run_size hs, add_plain]
          · refine ⟨lc, hl, ?_⟩
            by_cases hml : m = l
            · subst hml; simp [Nat.beq_refl]
            · have : Nat.beq m l = false := by rw [← Bool.not_eq_true]; exact fun hh => hml (Nat.eq_of_beq_eq_true hh)
              simp [hml, this, Nat.add_assoc]
        · cases hv
    | sl sz =>
      obtain ⟨e, hu, hs⟩ := sk_sl hk
      simp only [sliceA] at hv
      by_cases hno : (mx.isSome && !hi.isSome) = true
      · rw [show and mx.isSome (not hi.isSome) = true from hno] at hv; simp [br_true, val_mk] at hv
      · rw [show and mx.isSome (not hi.isSome) = false from Bool.not_eq_true _ ▸ hno] at hv
        simp only [br_false, val_mk] at hv
        have hno' : (mx.map (Ab.opd tm)).isSome = true → (hi.map (Ab.opd tm)).isSome = true := by
          cases mx <;> cases hi <;> simp_all
        split at hv
        · rename_i p len cap ex e1
          obtain ⟨m, h', l, e1', e2, e3, e4⟩ := bndsTo_some hv
          rw [e1] at rx
          -- the concrete slice
          have hc : ∃ base C, a.eval x = .slice base len C ∧ cap ≤ C ∧ (ex = true → C = cap) ∧
              ((p = none ∧ base = none ∧ C = cap) ∨ ∃ b o lc, p = some (b, o) ∧ ρ b = some lc ∧ base = some ⟨lc.blk, lc.off + o, none⟩ ∧ C = if ex then cap else cap + lc.spare) := by
            rcases p with _ | ⟨b, o⟩
            · exact ⟨none, cap, rx, Nat.le_refl _, fun _ => rfl, .inl ⟨rfl, rfl, rfl⟩⟩
            · obtain ⟨lc, hl, hv'⟩ := rel_slice rx
              refine ⟨_, _, hv', ?_, ?_, .inr ⟨b, o, lc, rfl, hl, rfl, rfl⟩⟩
              · split <;> omega
              · intro hq; simp [hq]
          obtain ⟨base, C, hx', hC, hex, hp⟩ := hc
          obtain ⟨b1, b2, b3, b4, -⟩ := bounds_run (P := P) (w := w) true hC rl rh rm hno' e1' e2 e3
          have run : (execOp a.eval ⟨dst, .slice t x lo hi mx, type, pos, after, guard⟩).run P w = .ok (.value (.slice (if (if (mx.map (Ab.opd tm)).isSome then m else C) = l then base else base.map (·.add (l * sz))) (h' - l) ((if (mx.map (Ab.opd tm)).isSome then m else C) - l))) w := by
            simp [execOp, Instr.sliceAt, Instr.slice, run_und hu, hx', b1, run_size hs]
          refine .pure h.real run ?_
          by_cases hq : (mx.isSome || ex) = true
          · rw [show or mx.isSome ex = true from hq, br_true] at e4
            cases e4
            have hm : (if (mx.map (Ab.opd tm)).isSome then m else C) = m := by
              split
              · rfl
              · rename_i hq'
                have hq'' : mx = none := by simpa using hq'
                subst hq''
                rw [b4 rfl, hex (by simpa using hq)]
            rw [hm]
            rcases hp with ⟨rfl, rfl, -⟩ | ⟨b, o, lc, rfl, hl, rfl, -⟩
            · have : br (Nat.beq m l) (none : Option (Nat × Nat)) (moveP (Nat.mul l sz) none) = none := by simp [br_eq, moveP]
              rw [this]
              show Value.slice _ _ _ = _
              simp
            · by_cases hml : m = l
              · subst hml
                simp only [Nat.beq_refl, br_true, if_true]
                exact ⟨lc, hl, by simp⟩
              · have : Nat.beq m l = false := by rw [← Bool.not_eq_true]; exact fun hh => hml (Nat.eq_of_beq_eq_true hh)
                simp only [this, br_false, moveP, if_neg hml]
                exact ⟨lc, hl, by simp [add_plain, Nat.add_assoc]⟩
          · have hq1 : mx = none := by cases mx <;> simp at hq ⊢
            have hq2 : ex = false := by cases ex <;> simp at hq ⊢
            subst hq1 hq2
            rw [show or (none : Option Operand).isSome false = false from rfl, br_false] at e4
            have hm : m = cap := b4 rfl
            subst hm
            simp only [Option.map_none, Option.isSome_none, Bool.false_eq_true, if_false]
            rw [br_eq] at e4
            split at e4
            · rename_i hb
              have hml : m = l := Nat.eq_of_beq_eq_true hb
              subst hml
              split at e4
              · rename_i b o
                rw [br_some_none] at e4
                obtain ⟨hh, e4⟩ := e4
                have hh : h' = m := Nat.eq_of_beq_eq_true hh
                cases e4
                subst hh
                rcases hp with ⟨hp, -⟩ | ⟨b', o', lc, hp, hl, rfl, rfl⟩
                · cases hp
                · cases hp
                  simp only [Bool.false_eq_true, if_false]
                  by_cases hs0 : lc.spare = 0
                  · exact ⟨lc, lc.off + o, 0, hl, by simp [hs0], .inl rfl⟩
                  · refine ⟨lc, lc.off + (o + h' * sz), lc.spare, hl, ?_, .inr ⟨rfl, rfl⟩⟩
                    simp [hs0, add_plain, Nat.add_assoc]
              · cases e4
            · rename_i hb
              have hml : ¬ m = l := fun hh => hb (by subst hh; exact Nat.beq_refl _)
              rw [br_some_none, Nat.ble_eq] at e4
              obtain ⟨hle, e4⟩ := e4
              cases e4
              rcases hp with ⟨rfl, rfl, rfl⟩ | ⟨b, o, lc, rfl, hl, rfl, rfl⟩
              · show Value.slice _ _ _ = _
                simp
              · refine ⟨lc, hl, ?_⟩
                simp only [Bool.false_eq_true, if_false]
                have : ¬ (m + lc.spare = l) := by omega
                simp only [this, if_false, Option.map_some, add_plain, Nat.add_assoc]
                simp
                omega
        · rename_i b o e1
          obtain ⟨m, h', l, e1', e2, e3, e4⟩ := bndsTo_some hv
          cases e4
          rw [e1] at rx
          obtain ⟨lc, aa, cp, hl, hx', hcp⟩ := rel_tail rx
          obtain ⟨b1, b2, b3, b4, b5⟩ := bounds_run (P := P) (w := w) (C := cp) true (Nat.zero_le _) rl rh rm hno' e1' e2 e3
          have h0 : h' = 0 := by have := b5 rfl; omega
          have l0 : l = 0 := by omega
          have m0 : m = 0 := by omega
          subst h0 l0 m0
          refine .pure h.real (v' := .slice (some ⟨lc.blk, aa, none⟩) 0 (if (mx.map (Ab.opd tm)).isSome then 0 else cp)) ?_ ?_
          · simp [execOp, Instr.sliceAt, Instr.slice, run_und hu, hx', b1, run_size hs, add_plain]
          · refine ⟨lc, aa, _, hl, rfl, ?_⟩
            split
            · exact .inl rfl
            · exact hcp
        · cases hv

end ops
end Go.Ab
