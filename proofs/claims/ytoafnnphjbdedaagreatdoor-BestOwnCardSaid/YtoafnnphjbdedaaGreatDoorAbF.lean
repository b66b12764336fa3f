/- Each operation, evaluated, is what the operation does (first part: what leaves the heap alone, new blocks, reads and writes). -/
import Derived.Test.YtoafnnphjbdedaaGreatDoorAbE
namespace Go.Ab

def OpRes (at_ : Option Nat) (P : Program) (ρ : Env) (H : AH) (w : World) : Out → Result Next → Prop
  | .val v H', r => ∃ ρ' v' w', r = .ok (.value v') w' ∧ Rel ρ' v v' ∧ Good at_ P ρ H w ρ' H' w'
  | .skip H', r => ∃ ρ' w', r = .ok .skip w' ∧ Good at_ P ρ H w ρ' H' w'
  | .enter f args, r => ∃ args' : Array Value, r = (callFunc f args').run P w ∧ RelL ρ args args'.toList
  | .round l args, r => ∃ q, ∃ args' : Array Value, ρ l = some q ∧ RelL ρ args args'.toList ∧ r = (Instr.yield q.blk args').run P w

variable {P : Program} {ρ : Env} {H : AH} {w : World} {at_ : Option Nat} {W : Tmp → Prop}

theorem OpRes.pure (h : Real P ρ H w) {v : AV} {v' : Value} {r : Result Next} (hr : r = .ok (.value v') w) (hv : Rel ρ v v') : OpRes at_ P ρ H w (.val v H) r :=
  ⟨ρ, v', w, hr, hv, h.good⟩

/-! What the tables say. -/
theorem run_und {t : TypeId} {d : TypeDesc} (h : P.underlying t = some d) : (underlying t).run P w = .ok d w := by simp [underlying, h]
theorem run_info {t : TypeId} {i : TypeInfo} (h : P.info? t = some i) : (typeInfo t).run P w = .ok i w := by simp [typeInfo, h]
theorem run_size {t : TypeId} {n : Nat} (h : szOf P t = some n) : (sizeOf t).run P w = .ok n w := by
  simp only [szOf, ob_eq_some, Option.some.injEq] at h
  obtain ⟨i, hi, rfl⟩ := h
  simp [sizeOf, run_info hi]
theorem ofVal1_rel {v : Value} {x : AV} (h : ofVal1 v = some x) : Rel ρ x v := by
  cases v with
  | bool b => cases h; rfl
  | int k n => cases h; rfl
  | string s => cases h; show Value.string s = .string ⟨s.data.toList.toArray⟩; simp
  | pointer a => cases a <;> cases h; rfl
  | slice a n c => cases a <;> cases h; rfl
  | map r => cases r <;> cases h; rfl
  | nilFunc => cases h; rfl
  | nilIface => cases h; rfl
  | _ => cases h
theorem ofVal1_relL {l : List Value} {r : List AV} (h : allM ofVal1 l = some r) : RelL ρ r l := by
  rw [allM_eq_some] at h
  have hlen : l.length = r.length := by simpa using congrArg List.length h
  refine .of_get hlen fun i x y hx hy => ?_
  have h1 := congrArg (fun l => l[i]?) h
  simp only [List.getElem?_map, hx, hy, Option.map_some] at h1
  exact ofVal1_rel (by simpa using h1)
theorem ofVal_rel {v : Value} {x : AV} (h : ofVal v = some x) : Rel ρ x v := by
  unfold ofVal at h
  split at h
  · simp only [ob_eq_some, Option.some.injEq] at h
    obtain ⟨l, h1, rfl⟩ := h
    exact ⟨_, by simp, ofVal1_relL h1⟩
  · simp only [ob_eq_some, Option.some.injEq] at h
    obtain ⟨l, h1, rfl⟩ := h
    exact ⟨_, by simp, ofVal1_relL h1⟩
  · simp only [ob_eq_some, Option.some.injEq] at h
    obtain ⟨y, h1, rfl⟩ := h
    exact ⟨_, rfl, ofVal1_rel h1⟩
  · exact ofVal1_rel h
theorem run_zero {t : TypeId} {z : AV} (h : zeroA P t = some z) : ∃ v, (zeroValue t).run P w = .ok v w ∧ Rel ρ z v := by
  simp only [zeroA, ob_eq_some] at h
  obtain ⟨i, hi, v, hv, hz⟩ := h
  exact ⟨v, by simp [zeroValue, run_info hi, hv], ofVal_rel hz⟩
theorem run_agg {t : TypeId} {q : Option Nat} (h : aggT P t = some q) : (isAgg t).run P w = .ok q.isSome w ∧ ∀ n, q = some n → (sizeOf t).run P w = .ok n w := by
  unfold aggT at h
  unfold isAgg
  split at h
  · rename_i d hd
    simp only [ob_eq_some, Option.some.injEq] at h
    obtain ⟨n, hn, rfl⟩ := h
    exact ⟨by simp [run_und hd], fun m hm => by cases hm; exact run_size hn⟩
  · rename_i d hd
    simp only [ob_eq_some, Option.some.injEq] at h
    obtain ⟨n, hn, rfl⟩ := h
    exact ⟨by simp [run_und hd], fun m hm => by cases hm; exact run_size hn⟩
  · rename_i d h1 h2 hd
    cases h
    refine ⟨?_, fun m hm => by cases hm⟩
    simp only [Sem.run_bind, run_und hd, Result.andThen_ok]
    rfl
  · cases h

/-! Operands. -/
theorem opd_rel (hg : ∀ g, g < P.globals.size → ρ g = some ⟨g, 0, 0⟩) {tm : TM0} {a : Act} {x : Operand} (ht : ∀ i, x = .tmp i → Rel ρ (tm.get i) (a.tmps.getD i undef)) (hx : okOpd P x = true) : Rel ρ (opd tm x) (a.eval x) := by
  cases x with
  | tmp t => exact ht t rfl
  | const v =>
    simp only [okOpd] at hx
    obtain ⟨y, hy⟩ := Option.isSome_iff_exists.1 hx
    simp only [opd, hy, Option.getD_some, Act.eval]
    exact ofVal_rel hy
  | global g =>
    simp only [okOpd, Nat.blt_eq] at hx
    exact ⟨_, hg g hx, by simp [Act.eval]⟩
  | func f => exact ⟨[], [], rfl, rfl, rfl⟩
@[simp] theorem opdB_val (x : Operand) (tm : TM0) : (opdB x).val tm = opd tm x := by
  cases x with
  | const v => simp only [opdB, opd]; cases ofVal v <;> rfl
  | _ => rfl
@[simp] theorem argsB_val (l : List Operand) (tm : TM0) : (argsB l).val tm = l.map (opd tm) := by
  induction l with
  | nil => rfl
  | cons x l ih =>
    have : argsB (x :: l) = bx (opdB x) fun a => bx (argsB l) fun r => .mk fun tm => a tm :: r tm := rfl
    rw [this]; simp [ih]
@[simp] theorem partsB_val (l : List (Nat × Operand)) (tm : TM0) : (partsB l).val tm = l.map fun x => (x.1, opd tm x.2) := by
  induction l with
  | nil => rfl
  | cons x l ih =>
    have : partsB (x :: l) = bx (opdB x.2) fun a => bx (partsB l) fun r => .mk fun tm => (x.1, a tm) :: r tm := rfl
    rw [this]; simp [ih]

/-- An operand that can be read, its temporary (if it is one) among those of which something is known. -/
def OkW (P : Program) (W : Tmp → Prop) (x : Operand) : Prop := okOpd P x = true ∧ ∀ t, x = .tmp t → W t

/-- All that is known when an operation is carried out. -/
structure At (P : Program) (ρ : Env) (H : AH) (w : World) (tm : TM0) (a : Act) (W : Tmp → Prop) : Prop where
  real : Real P ρ H w
  tm : ∀ i, W i → Rel ρ (tm.get i) (a.tmps.getD i undef)
theorem At.opd {tm : TM0} {a : Act} (h : At P ρ H w tm a W) {x : Operand} (hx : OkW P W x) : Rel ρ (opd tm x) (a.eval x) := opd_rel h.real.glob (fun i e => h.tm i (hx.2 i e)) hx.1
theorem At.opds {tm : TM0} {a : Act} (h : At P ρ H w tm a W) {l : List Operand} (hx : ∀ x ∈ l, OkW P W x) : RelL ρ (l.map (Ab.opd tm)) (l.map a.eval) := by
  induction l with
  | nil => rfl
  | cons x l ih => exact .cons (h.opd (hx x (by simp))) (ih fun y hy => hx y (by simp [hy]))

/-! Inversion: a value that stands for a known kind. -/
theorem rel_int {k : IntKind} {n : Int} {v : Value} (h : Rel ρ (.int k n) v) : v = .int k n := h
theorem rel_bool {b : Bool} {v : Value} (h : Rel ρ (.bool b) v) : v = .bool b := h
theorem rel_str {s : List UInt8} {v : Value} (h : Rel ρ (.str s) v) : v = .string ⟨s.toArray⟩ := h
theorem rel_ptr {b o : Nat} {v : Value} (h : Rel ρ (.ptr (some (b, o))) v) : ∃ l, ρ b = some l ∧ v = .pointer (some ⟨l.blk, l.off + o, none⟩) := h
theorem rel_slice {b o n c : Nat} {ex : Bool} {v : Value} (h : Rel ρ (.slice (some (b, o)) n c ex) v) : ∃ l, ρ b = some l ∧ v = .slice (some ⟨l.blk, l.off + o, none⟩) n (if ex then c else c + l.spare) := h
theorem rel_tail {b o : Nat} {v : Value} (h : Rel ρ (.tail b o) v) : ∃ l a cap, ρ b = some l ∧ v = .slice (some ⟨l.blk, a, none⟩) 0 cap ∧ (cap = 0 ∨ (cap = l.spare ∧ a = l.off + o)) := h
theorem rel_agg {cs : List AV} {v : Value} (h : Rel ρ (.agg cs) v) : ∃ cs', v = .agg cs'.toArray ∧ RelL ρ cs cs' := h
theorem rel_tup {cs : List AV} {v : Value} (h : Rel ρ (.tup cs) v) : ∃ cs', v = .tuple cs'.toArray ∧ RelL ρ cs cs' := h

section ops
variable {tm : TM0} {a : Act} {out : Out} {dst : Option Tmp} {type : TypeId} {pos : String} {after : Array Edge} {guard : Option (Nat × Bool)}

theorem s_move (h : At P ρ H w tm a W) {x : Operand} (hx : OkW P W x) {op : Op} (hop : op = .move x ∨ op = .assign x) (he : (aopF P op).val tm H at_ = some out) :
    OpRes at_ P ρ H w out ((execOp a.eval ⟨dst, op, type, pos, after, guard⟩).run P w) := by
  have : out = .val (opd tm x) H ∧ execOp a.eval ⟨dst, op, type, pos, after, guard⟩ = Pure.pure (.value (a.eval x)) := by
    rcases hop with rfl | rfl <;> simp [aopF, b1, oMove] at he <;> exact ⟨he.symm, rfl⟩
  rw [this.1, this.2]
  exact .pure h.real (by simp) (h.opd hx)

theorem s_pick (h : At P ρ H w tm a W) {c x y : Operand} (hc : OkW P W c) (hx : OkW P W x) (hy : OkW P W y) (he : (aopF P (.pick c x y)).val tm H at_ = some out) :
    OpRes at_ P ρ H w out ((execOp a.eval ⟨dst, .pick c x y, type, pos, after, guard⟩).run P w) := by
  simp only [aopF, b3, bx_eq, oPick, val_mk, opdB_val, vO_eq_some] at he
  obtain ⟨v, hv, rfl⟩ := he
  unfold pickA at hv
  split at hv
  · rename_i b hb
    have h1 := h.opd hc
    rw [hb] at h1
    have h2 := h.opd hx
    have h3 := h.opd hy
    simp only [Option.some.injEq] at hv
    subst hv
    refine .pure h.real (v' := if b then a.eval x else a.eval y) ?_ ?_
    · simp only [execOp, rel_bool h1, asBool, pure_bind, Sem.run_pure]
    · cases b
      · exact h3
      · exact h2
  · cases hv

theorem s_nilCheck (h : At P ρ H w tm a W) {x : Operand} (hx : OkW P W x) (he : (aopF P (.nilCheck x)).val tm H at_ = some out) :
    OpRes at_ P ρ H w out ((execOp a.eval ⟨dst, .nilCheck x, type, pos, after, guard⟩).run P w) := by
  simp only [aopF, b1, bx_eq, oNilCheck, val_mk, opdB_val, br_some_none, Option.some.injEq] at he
  obtain ⟨h1, rfl⟩ := he
  have hr := h.opd hx
  refine .pure h.real (v' := a.eval x) ?_ hr
  simp only [execOp]
  generalize a.eval x = v at hr ⊢
  generalize opd tm x = y at hr h1
  unfold nilOk at h1
  cases y with
  | ptr p => rcases p with _ | ⟨b, o⟩
             · simp at h1
             · obtain ⟨l, _, rfl⟩ := hr; rfl
  | slice p n c ex => rcases p with _ | ⟨b, o⟩ <;> first | (cases hr; rfl) | (obtain ⟨l, _, rfl⟩ := hr; rfl)
  | map p => cases p <;> first | (cases hr; rfl) | (obtain ⟨l, _, rfl⟩ := hr; rfl)
  | tail b o => obtain ⟨l, _, _, _, rfl, _⟩ := hr; rfl
  | fn f p q =>
    obtain ⟨p', q', rfl, _⟩ := hr
    cases f <;> first | rfl | simp at h1
  | yld l => obtain ⟨q, _, rfl⟩ := hr; rfl
  | iface t x => obtain ⟨y, rfl, _⟩ := hr; rfl
  | agg cs => obtain ⟨y, rfl, _⟩ := hr; rfl
  | tup cs => obtain ⟨y, rfl, _⟩ := hr; rfl
  | nilFn => simp at h1
  | nilIface => simp at h1
  | any => simp at h1
  | _ => cases hr; rfl

theorem s_newVar (h : Real P ρ H w) (ha : AtOk ρ H at_) {e : TypeId} {cs : List AV} {c : List Value} (hr : RelL ρ cs c) (h1 : cs.all AV.one = true) (he : newVar e cs H at_ = some out) {s : Sem Next}
    (hs : s.run P w = .ok (.value (.pointer (some ⟨w.heap.size, 0, none⟩))) { w with heap := w.heap.push (.cells c.toArray e) }) : OpRes at_ P ρ H w out (s.run P w) := by
  simp only [newVar, newTo_eq, Option.some.injEq] at he
  subst he
  have hl := hr.length
  have g := h.newRow (sp := 0) ha (e := e) (cs := cs) (c := c) (by rw [List.take_of_length_le (by omega)]; exact hr) (by simpa using h1) (by omega)
  exact ⟨_, _, _, hs, ⟨_, with_same _ _, by simp⟩, g⟩

theorem s_box (h : At P ρ H w tm a W) (ha : AtOk ρ H at_) {e : TypeId} {x : Operand} (hx : OkW P W x) (he : (aopF P (.box e x)).val tm H at_ = some out) :
    OpRes at_ P ρ H w out ((execOp a.eval ⟨dst, .box e x, type, pos, after, guard⟩).run P w) := by
  simp only [aopF, b1, bx_eq, oBox, val_mk, opdB_val, br_some_none, allB_eq] at he
  obtain ⟨h1, he⟩ := he
  have hr := (h.opd hx).parts
  refine s_newVar h.real ha hr h1 he ?_
  simp [execOp, Instr.box, Go.newVar, Go.newRow]

theorem s_alloc (h : At P ρ H w tm a W) (ha : AtOk ρ H at_) {e : TypeId} (he : (aopF P (.alloc e)).val tm H at_ = some out) :
    OpRes at_ P ρ H w out ((execOp a.eval ⟨dst, .alloc e, type, pos, after, guard⟩).run P w) := by
  simp only [aopF] at he
  cases hz : zeroA P e with
  | none => simp [hz, oAlloc, dead] at he
  | some z =>
    simp only [hz, oAlloc, br_eq, allB_eq] at he
    split at he
    · rename_i h1
      obtain ⟨v, hv, hr⟩ := run_zero (ρ := ρ) (w := w) hz
      refine s_newVar h.real ha hr.parts h1 he ?_
      simp [execOp, Instr.alloc, hv, Go.newVar, Go.newRow]
    · simp [dead] at he

/-! Reading. -/
theorem part_row {q : Option Nat} {part : List AV → Nat → Option AV} (hp : partF (some q) = some part) {t : TypeId} (ht : aggT P t = some q) {g o k : Nat} {cs : List AV} (hr : Row ρ w g o cs) {v u : AV} (hv : part cs k = some v) (hu : clearA v = some u) :
    ∃ v', (loadVar t ⟨g, o + k, none⟩).run P w = .ok v' w ∧ Rel ρ u v' := by
  obtain ⟨h1, h2⟩ := run_agg (w := w) ht
  cases q with
  | none =>
    simp only [partF, Option.some.injEq] at hp
    subst hp
    simp only [nthO_eq] at hv
    obtain ⟨v', h3, h4⟩ := hr.cell hv
    refine ⟨v', by simp [loadVar, h1, h3], ?_⟩
    unfold clearA at hu
    split at hu
    · cases hu
    · rw [br_some_none] at hu; cases hu.2; exact h4.rel rfl
    · rename_i hn _; cases hu; exact h4.rel (by cases v <;> first | rfl | exact absurd rfl hn)
  | some n =>
    simp only [partF, Option.some.injEq] at hp
    subst hp
    simp only [cut_eq, ob_eq_some, Option.some.injEq] at hv
    obtain ⟨l, hl, rfl⟩ := hv
    split at hl
    · rename_i hle
      simp only [Option.some.injEq] at hl
      subst hl
      obtain ⟨vs, h3, h4⟩ := (hr.sub k n hle).load (P := P)
      have hlen : ((cs.drop k).take n).length = n := by simp; omega
      rw [hlen] at h3
      simp only [clearA, br_some_none, allB_eq, List.all_eq_true] at hu
      obtain ⟨hk, hu⟩ := hu
      cases hu
      exact ⟨_, by simp [loadVar, h1, h2 n rfl, h3], vs, rfl, h4 hk⟩
    · cases hl
theorem part_list {q : Option Nat} {part : List AV → Nat → Option AV} (hp : partF (some q) = some part) {t : TypeId} (ht : aggT P t = some q) {k : Nat} {cs : List AV} {vs : List Value} (hr : RelL ρ cs vs) {v : AV} (hv : part cs k = some v) :
    ∃ v', (Go.part t vs.toArray k).run P w = .ok v' w ∧ Rel ρ v v' := by
  obtain ⟨h1, h2⟩ := run_agg (w := w) ht
  cases q with
  | none =>
    simp only [partF, Option.some.injEq] at hp
    subst hp
    simp only [nthO_eq] at hv
    obtain ⟨v', h3, h4⟩ := hr.get hv
    exact ⟨v', by simp [Go.part, h1, h3], h4⟩
  | some n =>
    simp only [partF, Option.some.injEq] at hp
    subst hp
    simp only [cut_eq, ob_eq_some, Option.some.injEq] at hv
    obtain ⟨l, hl, rfl⟩ := hv
    split at hl
    · rename_i hle
      simp only [Option.some.injEq] at hl
      subst hl
      refine ⟨_, by simp [Go.part, h1, h2 n rfl]; rfl, (vs.drop k).take n, ?_, (hr.drop k).take n⟩
      simp
    · cases hl

theorem part_some {q : Option (Option Nat)} {part : List AV → Nat → Option AV} (hp : partF q = some part) : ∃ q', q = some q' ∧ partF (some q') = some part := by
  cases q with
  | none => cases hp
  | some q => exact ⟨q, rfl, hp⟩

theorem s_load (h : At P ρ H w tm a W) {t : TypeId} {x : Operand} (hx : OkW P W x) (he : (aopF P (.load t x)).val tm H at_ = some out) :
    OpRes at_ P ρ H w out ((execOp a.eval ⟨dst, .load t x, type, pos, after, guard⟩).run P w) := by
  simp only [aopF, b1, bx_eq] at he
  cases hp : partF (aggT P t) with
  | none => simp [hp, oLoad, dead] at he
  | some part =>
    obtain ⟨q, hq, hp'⟩ := part_some hp
    simp only [hp, oLoad, val_mk, opdB_val] at he
    obtain ⟨b, o, hb, he⟩ := onPtr_eq_some he
    rw [vO_eq_some] at he
    obtain ⟨v, hv, rfl⟩ := he
    have hr := h.opd hx
    rw [hb] at hr
    obtain ⟨l, hl, hx'⟩ := rel_ptr hr
    obtain ⟨v', h1, h2⟩ : ∃ v', (loadVar t ⟨l.blk, l.off + o, none⟩).run P w = .ok v' w ∧ Rel ρ v v' := by
      rw [ob_eq_some] at hv
      obtain ⟨u, hv, hu⟩ := hv
      rw [rowTo_eq_some] at hv
      rcases hv with ⟨e, cs, hc, hv⟩ | ⟨ob, f, hc, hv⟩
      · exact part_row hp' hq ((h.real.lies b _ hc).toRow hl) hv hu
      · rw [ob_eq_some] at hv
        obtain ⟨cs, hcs, hv⟩ := hv
        exact part_row hp' hq ((h.real.lies b _ hc).toRo hl hcs).1 hv hu
    refine .pure h.real ?_ h2
    simp [execOp, Instr.loadAt, hx', Instr.sureAddr, h1]

theorem s_store (h : At P ρ H w tm a W) {t : TypeId} {x y : Operand} (hx : OkW P W x) (hy : OkW P W y) (he : (aopF P (.store t x y)).val tm H at_ = some out) :
    OpRes at_ P ρ H w out ((execOp a.eval ⟨dst, .store t x y, type, pos, after, guard⟩).run P w) := by
  simp only [aopF, b2, bx_eq] at he
  cases hn : szOf P t with
  | none => simp [hn, oStore, dead] at he
  | some n =>
    simp only [hn, oStore, val_mk, opdB_val] at he
    obtain ⟨b, o, hb, he⟩ := onPtr_eq_some he
    simp only [br_some_none, lenN_iff, allB_eq, sO_eq_some] at he
    obtain ⟨hlen, h1, H', hw, rfl⟩ := he
    have hr := h.opd hx
    rw [hb] at hr
    obtain ⟨l, hl, hx'⟩ := rel_ptr hr
    have hv := (h.opd hy).parts
    obtain ⟨w', h2, h3⟩ := h.real.write hw hl hv (by simpa using h1)
    refine ⟨ρ, w', ?_, h3⟩
    have hsz : (a.eval y).cells.size = n := by have := hv.length; simp at this; omega
    simp [execOp, Instr.storeAt, hx', Instr.sureAddr, storeVar, run_size hn, hsz, h2]

end ops
end Go.Ab
