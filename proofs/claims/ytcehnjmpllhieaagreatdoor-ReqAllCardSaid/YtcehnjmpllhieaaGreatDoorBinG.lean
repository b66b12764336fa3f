/- A vector is read, or none. -/
import Derived.Test.YtcehnjmpllhieaaGreatDoorBinR
import Derived.Test.YtcehnjmpllhieaaGreatDoorReqLaw
namespace Go.Ab
noncomputable section
open Go.Proofs
set_option maxRecDepth 10000
variable {H H' : AH}

/-! Plain. -/
def numsR : Nat → List Int × Bool → List Int × (List Int × Bool)
  | 0, st => ([], st)
  | k + 1, st => ((numsR k st).1 ++ [(stepR (numsR k st).2).1], (stepR (numsR k st).2).2)
def fit32 (L : List Int) : Bool := L.all fun x => decide (-2147483648 ≤ x) && decide (x ≤ 2147483647)
theorem fit32_iff (L : List Int) : fit32 L = true ↔ In32 L := by
  unfold fit32
  rw [List.all_eq_true]
  refine forall_congr' fun x => forall_congr' fun _ => ?_
  simp only [Bool.and_eq_true, decide_eq_true_iff]
theorem nums_len : ∀ (k : Nat) (st : List Int × Bool), (numsR k st).1.length = k
  | 0, _ => rfl
  | k + 1, st => by show ((numsR k st).1 ++ [_]).length = _; rw [List.length_append, nums_len k]; rfl
theorem nums_at : ∀ (k : Nat) (st : List Int × Bool) (j : Nat), j < k → (numsR k st).1[j]? = some (stepR (numsR j st).2).1
  | 0, _, _, h => absurd h (by omega)
  | k + 1, st, j, h => by
    show ((numsR k st).1 ++ [(stepR (numsR k st).2).1])[j]? = _
    rcases Nat.lt_or_ge j k with q | q
    · rw [List.getElem?_append_left (by rw [nums_len]; exact q), nums_at k st j q]
    · obtain rfl : j = k := by omega
      rw [List.getElem?_append_right (by rw [nums_len]; omega), nums_len, Nat.sub_self]; rfl
theorem step_len : ∀ st : List Int × Bool, (stepR st).2.1.length ≤ st.1.length
  | (B, true) => Nat.le_refl _
  | (B, false) => by
    cases h : decB B with
    | none => simp only [stepR, h]; exact Nat.le_refl _
    | some p =>
      obtain ⟨n, R⟩ := p
      simp only [stepR, h]
      cases B with
      | nil => cases h
      | cons c Q =>
        have h : (if c ≤ 8 ∧ c ≤ (Q.length : Int) then decC c.toNat Q else none) = some (n, R) := h
        split at h
        · unfold decC at h
          split at h
          · obtain ⟨_, rfl⟩ := Prod.mk.inj (Option.some.inj h)
            rw [List.length_drop, List.length_cons]; omega
          · cases h
        · cases h
theorem fit_snoc (L : List Int) (x : Int) : fit32 (L ++ [x]) = (fit32 L && (decide (-2147483648 ≤ x) && decide (x ≤ 2147483647))) := by simp [fit32]
theorem nums_slen (st : List Int × Bool) : ∀ k, (numsR k st).2.1.length ≤ st.1.length
  | 0 => Nat.le_refl _
  | k + 1 => Nat.le_trans (step_len _) (nums_slen st k)
def getS (st : List Int × Bool) : Option (List Int) × (List Int × Bool) :=
  if (stepR st).2.2 = true ∨ (stepR st).1 < 0 ∨ 8 < (stepR st).1 then (none, (stepR st).2)
  else if (numsR (stepR st).1.toNat ((stepR st).2.1, false)).2.2 = true ∨ fit32 (numsR (stepR st).1.toNat ((stepR st).2.1, false)).1 = false then (none, (numsR (stepR st).1.toNat ((stepR st).2.1, false)).2)
  else (some (numsR (stepR st).1.toNat ((stepR st).2.1, false)).1, (numsR (stepR st).1.toNat ((stepR st).2.1, false)).2)
theorem step_some {B R : List Int} {n : Int} (h : decB B = some (n, R)) : stepR (B, false) = (n, (R, false)) := by simp only [stepR, h]
theorem step_none {B : List Int} (h : decB B = none) : stepR (B, false) = (0, (B, true)) := by simp only [stepR, h]
theorem nums_pInts (B : List Int) : ∀ k, (∀ V R, pInts k B = some (V, R) → numsR k (B, false) = (V, (R, false))) ∧ (pInts k B = none → (numsR k (B, false)).2.2 = true)
  | 0 => ⟨fun V R h => (by cases h; rfl), fun h => (by cases h)⟩
  | k + 1 => by
    obtain ⟨i1, i2⟩ := nums_pInts B k
    have e : numsR (k + 1) (B, false) = ((numsR k (B, false)).1 ++ [(stepR (numsR k (B, false)).2).1], (stepR (numsR k (B, false)).2).2) := rfl
    have ep : pInts (k + 1) B = (pInts k B).bind fun p => (decB p.2).bind fun q => some (p.1 ++ [q.1], q.2) := rfl
    cases hk : pInts k B with
    | none =>
      have h2 := i2 hk
      rw [ep, hk]
      refine ⟨fun V R h => (by cases h), fun _ => ?_⟩
      rw [e]
      generalize numsR k (B, false) = q at *
      obtain ⟨xs, C, b⟩ := q
      cases h2; rfl
    | some p =>
      obtain ⟨V, R⟩ := p
      have h1 := i1 V R hk
      rw [ep, hk, e, h1, Option.bind_some]
      cases hd : decB R with
      | none => exact ⟨fun _ _ h => (by cases h), fun _ => by rw [step_none hd]⟩
      | some q =>
        obtain ⟨n, C⟩ := q
        refine ⟨fun V' R' h => ?_, fun h => (by cases h)⟩
        cases h
        rw [step_some hd]
theorem getS_some {B V R : List Int} (h : pVec B = some (V, R)) : getS (B, false) = (some V, (R, false)) := by
  obtain ⟨p, h1, h2⟩ := bind_some' h
  obtain ⟨n, Q⟩ := p
  split at h2
  case isFalse => cases h2
  rename_i c
  obtain ⟨q, h3, h4⟩ := bind_some' h2
  split at h4
  case isFalse => cases h4
  rename_i c2
  cases h4
  have e := (nums_pInts Q n.toNat).1 _ _ h3
  unfold getS
  rw [step_some h1, if_neg fun q => (by simp only at c q; rcases q with q | q | q <;> first | (cases q; done) | omega)]
  simp only
  rw [e, if_neg (by simp [(fit32_iff V).2 c2])]
theorem getS_none {B : List Int} (h : pVec B = none) : (getS (B, false)).1 = none ∨ (getS (B, false)).2.2 = true := by
  unfold getS
  by_cases c : (stepR (B, false)).2.2 = true ∨ (stepR (B, false)).1 < 0 ∨ 8 < (stepR (B, false)).1
  · rw [if_pos c]; exact .inl rfl
  · rw [if_neg c]
    cases hd : decB B with
    | none => rw [step_none hd] at c; exact absurd (.inl rfl) c
    | some p =>
      obtain ⟨n, Q⟩ := p
      rw [step_some hd] at c ⊢
      simp only at c ⊢
      by_cases f : (numsR n.toNat (Q, false)).2.2 = true ∨ fit32 (numsR n.toNat (Q, false)).1 = false
      · rw [if_pos f]; exact .inl rfl
      · exfalso
        have h : (decB B).bind _ = none := h
        rw [hd, Option.bind_some, if_pos (by simp only; omega)] at h
        cases hk : pInts n.toNat Q with
        | none => exact f (.inl ((nums_pInts Q n.toNat).2 hk))
        | some q =>
          obtain ⟨V, R⟩ := q
          have e := (nums_pInts Q n.toNat).1 _ _ hk
          simp only at h
          rw [hk, Option.bind_some] at h
          split at h
          · cases h
          · rename_i c2
            rw [e] at f
            exact f (.inr (Bool.eq_false_iff.2 fun q => c2 ((fit32_iff V).1 q)))
theorem getS_len (st : List Int × Bool) : (getS st).2.1.length ≤ st.1.length := by
  unfold getS
  have h1 := step_len st
  have h2 := nums_slen ((stepR st).2.1, false) (stepR st).1.toNat
  split
  · exact h1
  · split
    · exact Nat.le_trans h2 h1
    · exact Nat.le_trans h2 h1
theorem step_bad' (B : List Int) : (stepR (B, true)).2.2 = true := rfl
theorem getS_bad (B : List Int) : (getS (B, true)).2.2 = true := by
  unfold getS
  rw [if_pos (.inl rfl)]; rfl

/-! The walk. -/
def VecS (H H' : AH) (s : AV) : Option (List Int) → Prop
  | none => s = .slice none 0 0 true
  | some V => ∃ Bv n c, s = .slice (some (Bv, 0)) n c true ∧ H.next ≤ Bv ∧ Is .i32 H' Bv s V ∧ V.length ≤ 8 ∧ In32 V
theorem get_wp {H0 : AH} {rp : Nat} {B : List Int} {bad : Bool} (h : Rx H0 H rp B bad) (hB : B.length ≤ 10000) (K : AV → AH → Prop) (hK : ∀ H' s, Ext [rp] H H' → Rx H0 H' rp (getS (B, bad)).2.1 (getS (B, bad)).2.2 → VecS H H' s (getS (B, bad)).1 → K s H') : CC.call 198 [.ptr (some (rp, 0))] H K := by
  refine m_vect_Get_ok _ _ _ ?_
  unfold m_vect_Get m_vect_Gett
  rw [outP_enter]
  refine rInt_wp h (by omega) _ fun G1 e1 r1 i1 => ?_
  have sl := step_len (B, bad)
  unfold m_vect_Gettt
  rw [outP_enter]
  refine err_wp r1 _ ?_
  unfold getS at hK
  generalize stepR (B, bad) = q at *
  obtain ⟨n, R, bad⟩ := q
  simp only at r1 i1 sl hK ⊢
  have nilK : (bad = true ∨ n < 0 ∨ 8 < n) → K (.slice none 0 0 true) G1 := fun c => by
    rw [if_pos c] at hK
    exact hK G1 _ e1 r1 rfl
  cases bad with
  | true =>
    rw [if_pos rfl]
    have d : decide ((1 : Int) = 0) = false := rfl
    repeat (first | rw [outP_val] | rw [guardP_false] | rw [condP_true] | rw [d] | rw [boolIs_bool] | rw [beq_ff] | rw [Bool.not_true] | rw [Bool.not_false] | rw [w_pick_b] | rw [if_pos rfl] | rw [w_neq])
    exact nilK (.inl rfl)
  | false =>
    rw [if_neg Bool.false_ne_true]
    have d : decide ((0 : Int) = 0) = true := rfl
    by_cases c1 : n < 0
    · have d1 := decide_eq_true c1
      repeat (first | rw [outP_val] | rw [guardP_true] | rw [guardP_false] | rw [condP_true] | rw [d] | rw [d1] | rw [boolIs_bool] | rw [beq_ff] | rw [Bool.not_true] | rw [Bool.not_false] | rw [w_pick_b] | rw [if_pos rfl] | rw [if_neg Bool.false_ne_true] | rw [w_lss] | rw [w_neq])
      exact nilK (.inr (.inl c1))
    by_cases c2 : 8 < n
    · have d1 := decide_eq_false c1
      have d2 := decide_eq_true c2
      repeat (first | rw [outP_val] | rw [guardP_true] | rw [condP_true] | rw [d] | rw [d1] | rw [d2] | rw [boolIs_bool] | rw [beq_ff] | rw [Bool.not_true] | rw [Bool.not_false] | rw [w_pick_b] | rw [if_neg Bool.false_ne_true] | rw [w_lss] | rw [w_gtr] | rw [w_neq])
      exact nilK (.inr (.inr c2))
    have d1 := decide_eq_false c1
    have d2 := decide_eq_false c2
    repeat (first | rw [outP_val] | rw [guardP_true] | rw [d] | rw [d1] | rw [d2] | rw [condP_false] | rw [boolIs_bool] | rw [beq_ff] | rw [Bool.not_true] | rw [Bool.not_false] | rw [w_pick_b] | rw [if_neg Bool.false_ne_true] | rw [w_lss] | rw [w_gtr] | rw [w_neq])
    rw [if_neg (by simp; omega)] at hK
    obtain ⟨k, rfl⟩ : ∃ k : Nat, n = k := ⟨n.toNat, by omega⟩
    have hk8 : k ≤ 8 := by omega
    rw [Int.toNat_natCast] at hK
    unfold m_vect_Getttt
    obtain ⟨G2, q1, x1, n1, o1⟩ := make_nums (H := G1) i32_el i32_by (by omega) (n := k) (by omega)
    rw [q1, outP_val]
    have ec : ∃ n c, (AV.slice (some (G1.next, 0)) k k true) = .slice (some (G1.next, 0)) n c true := ⟨_, _, rfl⟩
    generalize (AV.slice (some (G1.next, 0)) k k true) = c at *
    have lc := o1.is.len vec_sl
    rw [List.length_replicate] at lc
    unfold m_vect_Gettttth
    rw [lc, outP_val]
    have hrn := r1.lt
    have hen := e1.next
    have x2 : Ext [rp] H G2 := e1.trans (x1.mono (by simp))
    unfold m_vect_Gettttthtb
    refine loopP_rule (I := fun t G => ∃ j : Nat, t = (.ptr (some (rp, 0)), c, .bool (fit32 (numsR j (R, false)).1), .int .i64 k, .int .i64 j) ∧ j ≤ k ∧ Ext [rp] H G ∧ Rx H0 G rp (numsR j (R, false)).2.1 (numsR j (R, false)).2.2 ∧ Os 21 .i32 G G1.next c (fillTo (fun i => IntKind.i32.wrap (stepR (numsR i (R, false)).2).1) k j))
      (μ := fun t _ => match t.2.2.2.2 with | .int _ z => k - z.toNat | _ => 0) ?_ ⟨0, rfl, Nat.zero_le _, x2, r1.mono0 x1, by rw [fillTo_zero]; exact o1⟩
    rintro t G ⟨j, rfl, hj, xG, r, os⟩ rec hrec
    unfold m_vect_Gettttthtbl
    rw [w_lss, outP_val]
    by_cases cj : j < k
    · rw [decide_eq_true (by omega), condP_true, outP_enter]
      have sl2 := nums_slen (R, false) j
      simp only at sl2
      refine rInt_wp r (by omega) _ fun G3 e3 r3 i3 => ?_
      have os3 := Own.mono os e3 (by simp; omega)
      obtain ⟨p, a1, a2, a3, a4⟩ := Os.at os3 (j := j) (by rw [fillTo_len]; exact cj)
      obtain ⟨G4, b1, b2, b3, b4⟩ := a4 (IntKind.i32.wrap (stepR (numsR j (R, false)).2).1)
      rw [fillTo_set (fun i => IntKind.i32.wrap (stepR (numsR i (R, false)).2).1) k j] at b4
      have r4 : Rx H0 G4 rp (numsR (j + 1) (R, false)).2.1 (numsR (j + 1) (R, false)).2.2 := Rx.hi r3 b2 (by simp; omega)
      have x4 : Ext [rp] H G4 := ((xG.trans e3).mono (m' := [rp, G1.next]) (by simp)).trans (b2.mono (by simp)) |>.mono fun b hb hlt => by simp at hb ⊢; omega
      have ef : fit32 (numsR (j + 1) (R, false)).1 = (fit32 (numsR j (R, false)).1 && (decide (-2147483648 ≤ (stepR (numsR j (R, false)).2).1) && decide ((stepR (numsR j (R, false)).2).1 ≤ 2147483647))) := fit_snoc _ _
      rw [w_cint, outP_val, a1, outP_val, w_store_c, b1, outP_skip]
      have fin : ∀ b : Bool, b = fit32 (numsR (j + 1) (R, false)).1 → rec (.ptr (some (rp, 0)), c, .bool b, .int .i64 k, .int .i64 ((j : Int) + 1)) G4 := fun b hb => by
        subst hb
        refine hrec _ _ ⟨j + 1, by rfl, by omega, x4, r4, b4⟩ ?_
        show k - ((j : Int) + 1).toNat < k - (j : Int).toNat
        omega
      generalize (stepR (numsR j (R, false)).2).1 = x at *
      cases f0 : fit32 (numsR j (R, false)).1 with
      | false =>
        rw [f0, Bool.false_and] at ef
        repeat (first | rw [outP_val] | rw [guardP_false] | rw [boolIs_bool] | rw [beq_tt] | rw [w_pick_b] | rw [if_neg Bool.false_ne_true] | rw [w_add_in (by omega) (by omega)])
        exact fin _ ef.symm
      | true =>
        rw [f0, Bool.true_and] at ef
        by_cases g1 : -2147483648 ≤ x
        · have g2 := decide_eq_true g1
          rw [g2, Bool.true_and] at ef
          repeat (first | rw [outP_val] | rw [guardP_true] | rw [g2] | rw [boolIs_bool] | rw [beq_tt] | rw [w_pick_b] | rw [if_pos rfl] | rw [w_leq] | rw [w_geq] | rw [w_add_in (by omega) (by omega)])
          exact fin _ ef.symm
        · have g2 := decide_eq_false g1
          rw [g2, Bool.false_and] at ef
          repeat (first | rw [outP_val] | rw [guardP_true] | rw [guardP_false] | rw [g2] | rw [boolIs_bool] | rw [beq_tt] | rw [w_pick_b] | rw [if_pos rfl] | rw [if_neg Bool.false_ne_true] | rw [w_geq] | rw [w_add_in (by omega) (by omega)])
          exact fin _ ef.symm
    · obtain rfl : j = k := by omega
      rw [decide_eq_false (by omega), condP_false, outP_enter]
      refine err_wp r _ ?_
      have nm := nums_at j (R, false)
      have nl := nums_len j (R, false)
      rw [fillTo_all] at os
      have ev : fit32 (numsR j (R, false)).1 = true → (List.range j).map (fun i => IntKind.i32.wrap (stepR (numsR i (R, false)).2).1) = (numsR j (R, false)).1 := fun hf => by
        refine List.ext_getElem? fun i => ?_
        by_cases ci : i < j
        · rw [List.getElem?_map, List.getElem?_range ci, nm i ci]
          have := (fit32_iff _).1 hf _ (List.mem_of_getElem? (nm i ci))
          show some (IntKind.i32.wrap _) = _
          rw [wrap32_in this.1 this.2]
        · rw [List.getElem?_eq_none (by simp; omega), List.getElem?_eq_none (by omega)]
      generalize numsR j (R, false) = q at *
      obtain ⟨xs, R', bad'⟩ := q
      simp only at r nl ev hK ⊢
      have nilK : (bad' = true ∨ fit32 xs = false) → K (.slice none 0 0 true) G := fun c => by
        rw [if_pos c] at hK
        exact hK G _ xG r rfl
      cases bad' with
      | true =>
        rw [if_pos rfl]
        have d : decide ((1 : Int) = 0) = false := rfl
        repeat (first | rw [outP_val] | rw [guardP_false] | rw [condP_true] | rw [d] | rw [boolIs_bool] | rw [beq_ff] | rw [Bool.not_true] | rw [Bool.not_false] | rw [w_pick_b] | rw [if_pos rfl] | rw [w_neq])
        exact nilK (.inl rfl)
      | false =>
        rw [if_neg Bool.false_ne_true]
        cases f0 : fit32 xs with
        | false =>
          repeat (first | rw [outP_val] | rw [guardP_true] | rw [condP_true] | rw [d] | rw [boolIs_bool] | rw [beq_ff] | rw [Bool.not_true] | rw [Bool.not_false] | rw [w_pick_b] | rw [if_neg Bool.false_ne_true] | rw [w_not] | rw [w_neq])
          exact nilK (.inr f0)
        | true =>
          repeat (first | rw [outP_val] | rw [guardP_true] | rw [d] | rw [condP_false] | rw [boolIs_bool] | rw [beq_ff] | rw [Bool.not_true] | rw [Bool.not_false] | rw [w_pick_b] | rw [if_neg Bool.false_ne_true] | rw [w_not] | rw [w_neq])
          rw [if_neg (by simp [f0])] at hK
          rw [ev f0] at os
          obtain ⟨n, c', rfl⟩ := ec
          exact hK G _ xG r ⟨G1.next, n, c', rfl, hen, os.is, by omega, (fit32_iff _).1 f0⟩
end
end Go.Ab
