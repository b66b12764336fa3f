/- A drawn region: its evaluation in one order, taken apart. -/
import Derived.Test.YtoafnnphjbdedaaGreatDoorAbQ
namespace Go.Ab
variable {P : Program}

/-! The order. -/
def isGo (i : Nat) : Ins → Bool
  | .go k => k == i
  | .re _ => false
theorem isGo_iff {i : Nat} {x : Ins} : isGo i x = true ↔ x = .go i := by
  cases x with
  | go k => simp [isGo]
  | re k => simp [isGo]

def doneOf : List Ins → Nat → Nat
  | [], d => d
  | .go i :: E, d => doneOf E (Nat.lor (2 ^ i) d)
  | .re _ :: E, d => doneOf E d

theorem doneOf_bit : ∀ (E : List Ins) (d k : Nat), (doneOf E d).testBit k = true ↔ d.testBit k = true ∨ .go k ∈ E
  | [], d, k => by simp [doneOf]
  | .go i :: E, d, k => by
    rw [doneOf, doneOf_bit E]
    have e : Nat.lor (2 ^ i) d = 2 ^ i ||| d := rfl
    rw [e, Nat.testBit_or, Nat.testBit_two_pow]
    simp only [Bool.or_eq_true, decide_eq_true_eq, List.mem_cons, Ins.go.injEq]
    constructor
    · rintro ((h | h) | h)
      · exact .inr (.inl h.symm)
      · exact .inl h
      · exact .inr (.inr h)
    · rintro (h | h | h)
      · exact .inl (.inr h)
      · exact .inl (.inl h.symm)
      · exact .inr h
  | .re i :: E, d, k => by rw [doneOf, doneOf_bit E]; simp

theorem chkE_split {ops : Array Oper} {bf : Array Nat} {m : Masks} : ∀ (E1 E2 : List Ins) (d : Nat), chkE ops bf m (E1 ++ E2) d = true → chkE ops bf m E2 (doneOf E1 d) = true
  | [], E2, d, h => h
  | .go i :: E1, E2, d, h => by
    have e : chkE ops bf m (.go i :: (E1 ++ E2)) d = and (Nat.blt i ops.size) (and (not (Nat.testBit d i)) (and (subN (bfAt bf i) d)
          (and (br (Nat.testBit m.chain i) (and (subN (Nat.land d (Nat.lor m.chain m.float)) (bfAt bf i)) (subN (Nat.land d m.look) (Nat.lor (bfAt bf i) (reMask (E1 ++ E2))))) true)
          (and (br (Nat.testBit m.look i) (subN (Nat.land d m.chain) (bfAt bf i)) true)
            (chkE ops bf m (E1 ++ E2) (Nat.lor (2 ^ i) d)))))) := rfl
    rw [List.cons_append, e] at h
    simp only [Bool.and_eq_true] at h
    exact chkE_split E1 E2 _ h.2.2.2.2.2
  | .re i :: E1, E2, d, h => by
    have e : chkE ops bf m (.re i :: (E1 ++ E2)) d = and (Nat.blt i ops.size) (and (Nat.testBit m.look i) (and (subN (Nat.land (writersOf ops i) d) (bfAt bf i)) (chkE ops bf m (E1 ++ E2) d))) := rfl
    rw [List.cons_append, e] at h
    simp only [Bool.and_eq_true] at h
    exact chkE_split E1 E2 _ h.2.2.2

theorem reMask_bit : ∀ (E : List Ins) (k : Nat), (reMask E).testBit k = true → ∃ R1 R2, E = R1 ++ .re k :: R2 ∧ ∀ x ∈ R1, ∃ j, x = .re j
  | [], k, h => by simp [reMask] at h
  | .go i :: E, k, h => by
    have e : reMask (.go i :: E) = 0 := rfl
    simp [e] at h
  | .re i :: E, k, h => by
    have e : reMask (.re i :: E) = 2 ^ i ||| reMask E := rfl
    rw [e, Nat.testBit_or, Nat.testBit_two_pow] at h
    simp only [Bool.or_eq_true, decide_eq_true_eq] at h
    rcases h with h | h
    · subst h; exact ⟨[], E, rfl, by simp⟩
    · obtain ⟨R1, R2, rfl, h2⟩ := reMask_bit E k h
      exact ⟨.re i :: R1, R2, rfl, fun x hx => by
        rcases List.mem_cons.1 hx with hx | hx
        · exact ⟨i, hx⟩
        · exact h2 x hx⟩

/-- All that the check says of an order. -/
structure Order (P : Program) (ops : Array Oper) (E : List Ins) : Prop where
  go : ∀ {E1 i E2}, E = E1 ++ .go i :: E2 → i < ops.size ∧ .go i ∉ E1 ∧ ∀ k, (bfAt (Region.before ops) i).testBit k = true → .go k ∈ E1
  all : ∀ i, i < ops.size → .go i ∈ E
  chain : ∀ {E1 i E2}, E = E1 ++ .go i :: E2 → isChain P (opAt ops i) = true → ∀ k, .go k ∈ E1 → (isChain P (opAt ops k) = true ∨ isFloat (opAt ops k) = true) → (bfAt (Region.before ops) i).testBit k = true
  look : ∀ {E1 i E2}, E = E1 ++ .go i :: E2 → isLook P (opAt ops i) = true → ∀ k, .go k ∈ E1 → isChain P (opAt ops k) = true → (bfAt (Region.before ops) i).testBit k = true
  again : ∀ {E1 i E2}, E = E1 ++ .go i :: E2 → isChain P (opAt ops i) = true → ∀ k, .go k ∈ E1 → isLook P (opAt ops k) = true → (bfAt (Region.before ops) i).testBit k = true ∨ ∃ R1 R2, E2 = R1 ++ .re k :: R2 ∧ ∀ x ∈ R1, ∃ j, x = .re j
  re : ∀ {E1 i E2}, E = E1 ++ .re i :: E2 → i < ops.size ∧ ∀ y, .go y ∈ E1 → ∀ t, opDst ops y = some t → t ∈ readsAt ops i → (bfAt (Region.before ops) i).testBit y = true
  one : ∀ i j d, i < ops.size → j < ops.size → opDst ops i = some d → opDst ops j = some d → i = j
  reads : ∀ i y t, i < ops.size → y < ops.size → opDst ops y = some t → t ∈ readsAt ops i → y = i ∨ (bfAt (Region.before ops) i).testBit y = true ∨ (bfAt (Region.before ops) y).testBit i = true

theorem writersOf_bit {ops : Array Oper} {i y : Nat} {t : Tmp} (hy : y < ops.size) (hd : opDst ops y = some t) (ht : t ∈ readsAt ops i) : (writersOf ops i).testBit y = true := by
  unfold writersOf
  rw [testBit_maskF]
  simp [hy, hd, (memT_iff t _).2 ht]

theorem regOk_order {ops : Array Oper} {E : List Ins} (hs : sched P ops = some E) (hr : regOk P ops = true) : Order P ops E := by
  unfold regOk at hr
  rw [hs] at hr
  simp only [Bool.and_eq_true] at hr
  obtain ⟨hw, he⟩ := hr
  have land : ∀ a b, Nat.land a b = a &&& b := fun _ _ => rfl
  have lor : ∀ a b, Nat.lor a b = a ||| b := fun _ _ => rfl
  have goAt : ∀ {E1 i E2}, E = E1 ++ .go i :: E2 → Nat.blt i ops.size = true ∧ Nat.testBit (doneOf E1 0) i = false ∧ subN (bfAt (Region.before ops) i) (doneOf E1 0) = true ∧
      (Nat.testBit (masksOf P ops).chain i = true → subN (Nat.land (doneOf E1 0) (Nat.lor (masksOf P ops).chain (masksOf P ops).float)) (bfAt (Region.before ops) i) = true ∧ subN (Nat.land (doneOf E1 0) (masksOf P ops).look) (Nat.lor (bfAt (Region.before ops) i) (reMask E2)) = true) ∧
      (Nat.testBit (masksOf P ops).look i = true → subN (Nat.land (doneOf E1 0) (masksOf P ops).chain) (bfAt (Region.before ops) i) = true) := by
    intro E1 i E2 e
    rw [e] at he
    have h := chkE_split E1 _ 0 he
    have e2 : chkE ops (Region.before ops) (masksOf P ops) (.go i :: E2) (doneOf E1 0) = and (Nat.blt i ops.size) (and (not (Nat.testBit (doneOf E1 0) i)) (and (subN (bfAt (Region.before ops) i) (doneOf E1 0))
          (and (br (Nat.testBit (masksOf P ops).chain i) (and (subN (Nat.land (doneOf E1 0) (Nat.lor (masksOf P ops).chain (masksOf P ops).float)) (bfAt (Region.before ops) i)) (subN (Nat.land (doneOf E1 0) (masksOf P ops).look) (Nat.lor (bfAt (Region.before ops) i) (reMask E2)))) true)
          (and (br (Nat.testBit (masksOf P ops).look i) (subN (Nat.land (doneOf E1 0) (masksOf P ops).chain) (bfAt (Region.before ops) i)) true)
            (chkE ops (Region.before ops) (masksOf P ops) E2 (Nat.lor (2 ^ i) (doneOf E1 0))))))) := rfl
    rw [e2] at h
    simp only [Bool.and_eq_true, Bool.not_eq_true'] at h
    obtain ⟨q1, q2, q3, q4, q5, -⟩ := h
    refine ⟨q1, q2, q3, fun hc => ?_, fun hc => ?_⟩
    · rw [hc, br_true] at q4; simpa using q4
    · rw [hc, br_true] at q5; exact q5
  have mem_lt : ∀ k, .go k ∈ E → k < ops.size := fun k hk => by
    obtain ⟨E1, E2, e⟩ := List.append_of_mem hk
    simpa using (goAt e).1
  have cbit : ∀ k, k < ops.size → (masksOf P ops).chain.testBit k = isChain P (opAt ops k) := fun k hk => by simp [masksOf, testBit_maskF, hk]
  have fbit : ∀ k, k < ops.size → (masksOf P ops).float.testBit k = isFloat (opAt ops k) := fun k hk => by simp [masksOf, testBit_maskF, hk]
  have lbit : ∀ k, k < ops.size → (masksOf P ops).look.testBit k = isLook P (opAt ops k) := fun k hk => by simp [masksOf, testBit_maskF, hk]
  have done : ∀ E1 k, (doneOf E1 0).testBit k = true ↔ .go k ∈ E1 := fun E1 k => by rw [doneOf_bit]; simp
  have sub : ∀ {E1 i E2}, E = E1 ++ .go i :: E2 → ∀ k, .go k ∈ E1 → k < ops.size := fun e k hk => mem_lt k (by rw [e]; simp [hk])
  refine ⟨fun {E1 i E2} e => ?_, fun i hi => ?_, fun {E1 i E2} e hc k hk hcf => ?_, fun {E1 i E2} e hc k hk hcf => ?_, fun {E1 i E2} e hc k hk hcf => ?_, fun {E1 i E2} e => ?_, ?_, ?_⟩
  · obtain ⟨q1, q2, q3, -⟩ := goAt e
    refine ⟨by simpa using q1, fun hm => ?_, fun k hk => (done _ _).1 (subN_iff q3 k hk)⟩
    rw [(done E1 i).2 hm] at q2; cases q2
  · have h := chkE_split E [] 0 (by simpa using he)
    have e2 : chkE ops (Region.before ops) (masksOf P ops) [] (doneOf E 0) = subN (maskF (fun _ => true) ops.size) (doneOf E 0) := rfl
    rw [e2] at h
    exact (done _ _).1 (subN_iff h i (by rw [testBit_maskF]; simp [hi]))
  · obtain ⟨q1, q2, q3, q4, -⟩ := goAt e
    have q := (q4 (by rw [cbit i (by simpa using q1)]; exact hc)).1
    refine subN_iff q k ?_
    have hk' := sub e k hk
    rw [land, lor, Nat.testBit_and, Nat.testBit_or, (done _ _).2 hk, cbit k hk', fbit k hk']
    simpa using hcf
  · obtain ⟨q1, q2, q3, -, q5⟩ := goAt e
    have q := q5 (by rw [lbit i (by simpa using q1)]; exact hc)
    refine subN_iff q k ?_
    have hk' := sub e k hk
    rw [land, Nat.testBit_and, (done _ _).2 hk, cbit k hk', hcf]; rfl
  · obtain ⟨q1, q2, q3, q4, -⟩ := goAt e
    have q := (q4 (by rw [cbit i (by simpa using q1)]; exact hc)).2
    have hk' := sub e k hk
    have := subN_iff q k (by rw [land, Nat.testBit_and, (done _ _).2 hk, lbit k hk', hcf]; rfl)
    rw [lor, Nat.testBit_or] at this
    simp only [Bool.or_eq_true] at this
    exact this.imp id (reMask_bit E2 k)
  · rw [e] at he
    have h := chkE_split E1 _ 0 he
    have e2 : chkE ops (Region.before ops) (masksOf P ops) (.re i :: E2) (doneOf E1 0) = and (Nat.blt i ops.size) (and (Nat.testBit (masksOf P ops).look i) (and (subN (Nat.land (writersOf ops i) (doneOf E1 0)) (bfAt (Region.before ops) i)) (chkE ops (Region.before ops) (masksOf P ops) E2 (doneOf E1 0)))) := rfl
    rw [e2] at h
    simp only [Bool.and_eq_true] at h
    obtain ⟨q1, q2, q3, -⟩ := h
    refine ⟨by simpa using q1, fun y hy t hd ht => subN_iff q3 y ?_⟩
    rw [land, Nat.testBit_and, (done _ _).2 hy, writersOf_bit (mem_lt y (by rw [e]; simp [hy])) hd ht]; rfl
  · intro i j d hi hj h1 h2
    unfold chkW at hw
    rw [allB_eq, List.all_eq_true] at hw
    have h := hw i (List.mem_range.2 hi)
    simp only [Bool.and_eq_true] at h
    have h := h.1
    rw [h1] at h
    have h : maskF _ _ = 2 ^ i := Nat.eq_of_beq_eq_true h
    have hb := congrArg (fun m => Nat.testBit m j) h
    simp only [testBit_maskF, Nat.testBit_two_pow, hj, h2, Nat.beq_refl, decide_true, Bool.and_true] at hb
    exact of_decide_eq_true hb.symm
  · intro i y t hi hy hd ht
    unfold chkW at hw
    rw [allB_eq, List.all_eq_true] at hw
    have h := hw i (List.mem_range.2 hi)
    simp only [Bool.and_eq_true] at h
    have := subN_iff h.2 y (writersOf_bit hy hd ht)
    rw [lor, lor, Nat.testBit_or, Nat.testBit_or, Nat.testBit_two_pow, testBit_maskF] at this
    simp only [Bool.or_eq_true, decide_eq_true_eq, Bool.and_eq_true] at this
    rcases this with h | h | ⟨-, h⟩
    · exact .inl h.symm
    · exact .inr (.inl h)
    · exact .inr (.inr h)

/-! The run along the order. -/
section run
variable (P)

noncomputable def atE (ops : Array Oper) (base i : Nat) : Option Nat := if isFloat (opAt ops i) then some (base + rankF ops i) else none

/-- One step of the order. -/
noncomputable def insE (ops : Array Oper) (cx : Cx) (base : Nat) (x : Ins) (s : TM0 × AH) : Option (TM0 × AH) := match x with
  | .go i => (ops[i]?).bind fun o => (goE P ops cx (atE ops base i) o s.1 s.2).map fun r => (setO o.dst r.1 s.1, r.2)
  | .re i => (ops[i]?).bind fun o => o.dst.bind fun d =>
      if (guardB ops o.guard).val s.1 then (match (aop P o.op).val s.1 s.2 none with
        | some (.val v _) => if AV.beq v (s.1.get d) then some s else none
        | _ => none)
      else some s

noncomputable def runE (ops : Array Oper) (cx : Cx) (base : Nat) : List Ins → TM0 × AH → Option (TM0 × AH)
  | [], s => some s
  | x :: E, s => (insE P ops cx base x s).bind (runE ops cx base E)
end run

theorem runE_append {ops : Array Oper} {cx : Cx} {base : Nat} : ∀ (E1 E2 : List Ins) (s : TM0 × AH), runE P ops cx base (E1 ++ E2) s = (runE P ops cx base E1 s).bind (runE P ops cx base E2)
  | [], E2, s => rfl
  | x :: E1, E2, s => by
    rw [List.cons_append, runE, runE]
    cases h : insE P ops cx base x s with
    | none => rfl
    | some s' => simp only [Option.bind_some]; exact runE_append E1 E2 s'

theorem insB_run {ops : Array Oper} {cx : Cx} {base : Nat} : ∀ (E : List Ins) (tm : TM0) (H : AH) (r : TM0 × AH), (insB P ops E).val cx base tm H = some r → runE P ops cx base E (tm, H) = some r
  | [], tm, H, r, h => h
  | .go i :: E, tm, H, r, h => by
    have e : insB P ops (.go i :: E) = bx (insB P ops E) fun k => (match ops[i]? with
      | some o => stepB P ops (br (isFloat o.op) (some (rankF ops i)) none) o k
      | none => .mk failF) := rfl
    rw [e, bx_eq] at h
    cases ho : ops[i]? with
    | none => rw [ho] at h; cases h
    | some o =>
      rw [ho] at h
      simp only at h
      rw [stepB_eq] at h
      obtain ⟨v, H', h1, h2⟩ := h
      have ea : (br (isFloat o.op) (some (rankF ops i)) none).map (base + ·) = atE ops base i := by
        unfold atE opAt; rw [ho, br_eq]; simp only; split <;> rfl
      rw [ea] at h1
      rw [runE, insE, ho]
      simp only [Option.bind_some, h1, Option.map_some]
      exact insB_run E _ _ r h2
  | .re i :: E, tm, H, r, h => by
    have e : insB P ops (.re i :: E) = bx (insB P ops E) fun k => (match ops[i]? with
      | some o => reB P ops o k
      | none => .mk failF) := rfl
    rw [e, bx_eq] at h
    cases ho : ops[i]? with
    | none => rw [ho] at h; cases h
    | some o =>
      rw [ho] at h
      simp only [reB] at h
      cases hd : o.dst with
      | none => rw [hd] at h; cases h
      | some d =>
        rw [hd] at h
        simp only [bx_eq, val_mk, reF, br_eq] at h
        rw [runE, insE, ho]
        simp only [Option.bind_some, hd]
        split at h
        · rename_i hg
          rw [if_pos hg]
          obtain ⟨out, h1, h2⟩ := ob_eq_some.1 h
          rw [h1]
          cases out with
          | val v H2 =>
            simp only at h2 ⊢
            split at h2
            · rename_i hb
              rw [if_pos hb]
              exact insB_run E _ _ r h2
            · cases h2
          | skip H2 => cases h2
          | enter f a => cases h2
          | round l a => cases h2
        · rename_i hg
          rw [if_neg hg]
          exact insB_run E _ _ r h

end Go.Ab
