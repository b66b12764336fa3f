/- A vector is read. -/
import Derived.Test.YtapkhdlohcbcmaaGreatDoorBinR
namespace Go.Ab
noncomputable section
open Go.Proofs
set_option maxRecDepth 10000
variable {H H' : AH}

/-! Plain. -/
def numsR : Nat → List Int × Bool → List Int × (List Int × Bool)
  | 0, st => ([], st)
  | k + 1, st => ((numsR k st).1 ++ [(stepR (numsR k st).2).1], (stepR (numsR k st).2).2)
def fit32 (L : List Int) : Bool := L.all fun x => decide (-2147483648 ≤ x) && decide (x ≤ 2147483647)
def getN (n : Int) (R : List Int) : List Int × (List Int × Bool) := if (numsR n.toNat (R, false)).2.2 = true ∨ fit32 (numsR n.toNat (R, false)).1 = false then ([], (numsR n.toNat (R, false)).2) else numsR n.toNat (R, false)
def getV (B : List Int) : List Int × (List Int × Bool) := if (stepR (B, false)).2.2 = true ∨ (stepR (B, false)).1 < 0 ∨ 8 < (stepR (B, false)).1 then ([], (stepR (B, false)).2) else getN (stepR (B, false)).1 (stepR (B, false)).2.1
theorem fit32_iff (L : List Int) : fit32 L = true ↔ In32 L := by
  unfold fit32
  rw [List.all_eq_true]
  refine forall_congr' fun x => forall_congr' fun _ => ?_
  simp only [Bool.and_eq_true, decide_eq_true_iff]
theorem nums_len : ∀ (k : Nat) (st : List Int × Bool), (numsR k st).1.length = k
  | 0, _ => rfl
  | k + 1, st => by show ((numsR k st).1 ++ [_]).length = _; rw [List.length_append, nums_len k]; rfl
theorem nums_at : ∀ (k : Nat) (st : List Int × Bool) (j : Nat), j < k → (numsR k st).1[j]? = some (stepR (numsR j st).2).1
  | 0, _, _, h => absurd h (by omega)
  | k + 1, st, j, h => by
    show ((numsR k st).1 ++ [(stepR (numsR k st).2).1])[j]? = _
    rcases Nat.lt_or_ge j k with q | q
    · rw [List.getElem?_append_left (by rw [nums_len]; exact q), nums_at k st j q]
    · obtain rfl : j = k := by omega
      rw [List.getElem?_append_right (by rw [nums_len]; omega), nums_len, Nat.sub_self]; rfl
theorem step_bad (B : List Int) : stepR (B, true) = (0, (B, true)) := rfl
theorem step_len : ∀ st : List Int × Bool, (stepR st).2.1.length ≤ st.1.length
  | (B, true) => Nat.le_refl _
  | (B, false) => by
    cases h : decB B with
    | none => simp only [stepR, h]; exact Nat.le_refl _
    | some p =>
      obtain ⟨n, R⟩ := p
      simp only [stepR, h]
      cases B with
      | nil => cases h
      | cons c Q =>
        have h : (if c ≤ 8 ∧ c ≤ (Q.length : Int) then decC c.toNat Q else none) = some (n, R) := h
        split at h
        · unfold decC at h
          split at h
          · obtain ⟨_, rfl⟩ := Prod.mk.inj (Option.some.inj h)
            rw [List.length_drop, List.length_cons]; omega
          · cases h
        · cases h
theorem nums_enc {V : List Int} (hV : ∀ x ∈ V, I64 x) (R : List Int) : ∀ j, j ≤ V.length → numsR j (V.flatMap encZ ++ R, false) = (V.take j, ((V.drop j).flatMap encZ ++ R, false))
  | 0, _ => by simp [numsR]
  | j + 1, h => by
    have ih := nums_enc hV R j (by omega)
    have hj : j < V.length := by omega
    have e : (V.drop j).flatMap encZ ++ R = encZ V[j] ++ ((V.drop (j + 1)).flatMap encZ ++ R) := by
      rw [List.drop_eq_getElem_cons hj, List.flatMap_cons, List.append_assoc]
    have d := dec_enc (hV _ (List.getElem_mem hj)) ((V.drop (j + 1)).flatMap encZ ++ R)
    rw [← e] at d
    show ((numsR j (V.flatMap encZ ++ R, false)).1 ++ [(stepR (numsR j (V.flatMap encZ ++ R, false)).2).1], (stepR (numsR j (V.flatMap encZ ++ R, false)).2).2) = _
    rw [ih]
    simp only [stepR, d]
    rw [List.take_succ_eq_append_getElem hj]
theorem nums_dec {B : List Int} (hB : By B) : ∀ (k : Nat), (numsR k (B, false)).2.2 = false → B = (numsR k (B, false)).1.flatMap encZ ++ (numsR k (B, false)).2.1 ∧ By (numsR k (B, false)).2.1
  | 0, _ => ⟨by simp [numsR], hB⟩
  | k + 1, h => by
    have ih := nums_dec hB k
    have h : (stepR (numsR k (B, false)).2).2.2 = false := h
    show B = ((numsR k (B, false)).1 ++ [(stepR (numsR k (B, false)).2).1]).flatMap encZ ++ (stepR (numsR k (B, false)).2).2.1 ∧ By (stepR (numsR k (B, false)).2).2.1
    generalize numsR k (B, false) = q at *
    obtain ⟨xs, R, bad⟩ := q
    cases bad with
    | true => cases h
    | false =>
      obtain ⟨e1, e2⟩ := ih rfl
      simp only at e1 e2
      cases d : decB R with
      | none => simp only [stepR, d] at h; cases h
      | some p =>
        obtain ⟨n, R'⟩ := p
        simp only [stepR, d]
        obtain ⟨e3, e4⟩ := enc_dec e2 d
        refine ⟨?_, fun x hx => e2 x (by rw [e3]; simp [hx])⟩
        rw [List.flatMap_append, List.append_assoc]
        simp only [List.flatMap_cons, List.flatMap_nil, List.append_nil]
        rw [← e3]; exact e1
theorem enc8 {V : List Int} (hl : V.length ≤ 100) : I64 (V.length : Int) := ⟨by omega, by omega⟩
theorem in32_64 {V : List Int} (hV : In32 V) : ∀ x ∈ V, I64 x := fun x hx => by have := hV x hx; exact ⟨by omega, by omega⟩
theorem step_enc {V : List Int} (hl : V.length ≤ 100) (R : List Int) : stepR (encV V ++ R, false) = ((V.length : Int), (V.flatMap encZ ++ R, false)) := by
  have d := dec_enc (enc8 hl) (V.flatMap encZ ++ R)
  unfold encV
  rw [List.append_assoc]
  simp only [stepR, d]
theorem getV_enc {V : List Int} (hV : In32 V) (hl : V.length ≤ 8) (R : List Int) : getV (encV V ++ R) = (V, (R, false)) := by
  unfold getV
  rw [step_enc (by omega), if_neg (by simp; omega)]
  unfold getN
  have e := nums_enc (in32_64 hV) R V.length (Nat.le_refl _)
  rw [List.take_length, List.drop_length] at e
  simp only [Int.toNat_natCast, e]
  rw [if_neg (by simp [(fit32_iff V).2 hV])]
  simp
theorem getV_long {V : List Int} (hl : 8 < V.length ∧ V.length ≤ 100) (R : List Int) : (getV (encV V ++ R)).1 = [] := by
  unfold getV
  rw [step_enc hl.2, if_pos (.inr (.inr (by simp; omega)))]
theorem getV_any {B : List Int} (hB : By B) (h : (getV B).1 ≠ []) : (getV B).2.2 = false ∧ (getV B).1.length ≤ 8 ∧ In32 (getV B).1 ∧ B = encV (getV B).1 ++ (getV B).2.1 := by
  unfold getV at h ⊢
  by_cases c : (stepR (B, false)).2.2 = true ∨ (stepR (B, false)).1 < 0 ∨ 8 < (stepR (B, false)).1
  · rw [if_pos c] at h; exact absurd rfl h
  · rw [if_neg c] at h ⊢
    cases d : decB B with
    | none => simp only [stepR, d] at c; exact absurd (.inl trivial) c
    | some p =>
      obtain ⟨n, R⟩ := p
      simp only [stepR, d] at c h ⊢
      obtain ⟨e1, e2⟩ := enc_dec hB d
      have hR : By R := fun x hx => hB x (by rw [e1]; simp [hx])
      unfold getN at h ⊢
      by_cases f : (numsR n.toNat (R, false)).2.2 = true ∨ fit32 (numsR n.toNat (R, false)).1 = false
      · rw [if_pos f] at h; exact absurd rfl h
      · rw [if_neg f] at h ⊢
        have f1 : (numsR n.toNat (R, false)).2.2 = false := by cases q : (numsR n.toNat (R, false)).2.2 with | false => rfl | true => exact absurd (.inl q) f
        have f2 : fit32 (numsR n.toNat (R, false)).1 = true := by cases q : fit32 (numsR n.toNat (R, false)).1 with | true => rfl | false => exact absurd (.inr q) f
        obtain ⟨g1, g2⟩ := nums_dec hR n.toNat f1
        have ln := nums_len n.toNat (R, false)
        refine ⟨f1, by rw [ln]; omega, (fit32_iff _).1 f2, ?_⟩
        unfold encV
        rw [ln, Int.toNat_of_nonneg (by omega), List.append_assoc, ← g1]
        exact e1
theorem getV_in (B : List Int) : In32 (getV B).1 ∧ (getV B).1.length ≤ 8 := by
  have nil : In32 ([] : List Int) ∧ ([] : List Int).length ≤ 8 := ⟨fun x hx => (List.not_mem_nil hx).elim, by simp⟩
  unfold getV
  by_cases c : (stepR (B, false)).2.2 = true ∨ (stepR (B, false)).1 < 0 ∨ 8 < (stepR (B, false)).1
  · rw [if_pos c]; exact nil
  · rw [if_neg c]
    unfold getN
    by_cases f : (numsR (stepR (B, false)).1.toNat ((stepR (B, false)).2.1, false)).2.2 = true ∨ fit32 (numsR (stepR (B, false)).1.toNat ((stepR (B, false)).2.1, false)).1 = false
    · rw [if_pos f]; exact nil
    · rw [if_neg f]
      refine ⟨(fit32_iff _).1 ?_, by rw [nums_len]; omega⟩
      cases q : fit32 (numsR (stepR (B, false)).1.toNat ((stepR (B, false)).2.1, false)).1 with
      | true => rfl
      | false => exact absurd (.inr q) f

/-! The walk. -/
theorem fit_snoc (L : List Int) (x : Int) : fit32 (L ++ [x]) = (fit32 L && (decide (-2147483648 ≤ x) && decide (x ≤ 2147483647))) := by simp [fit32]
theorem nums_slen (st : List Int × Bool) : ∀ k, (numsR k st).2.1.length ≤ st.1.length
  | 0 => Nat.le_refl _
  | k + 1 => Nat.le_trans (step_len _) (nums_slen st k)
theorem get_wp {H0 : AH} {rp : Nat} {B : List Int} (h : Rx H0 H rp B false) (hB : B.length ≤ 10000) (K : AV → AH → Prop) (hK : ∀ H' s Bv, Rx H0 H' rp (getV B).2.1 (getV B).2.2 → H.next ≤ Bv → Is .i32 H' Bv s (getV B).1 → K s H') : CC.call 18 [.ptr (some (rp, 0))] H K := by
  refine m_vect_Get_ok _ _ _ ?_
  unfold m_vect_Get m_vect_Gett
  rw [outP_enter]
  refine rInt_wp h (by omega) _ fun G1 e1 r1 i1 => ?_
  have sl := step_len (B, false)
  unfold m_vect_Gettt
  rw [outP_enter]
  refine err_wp r1 _ ?_
  unfold getV at hK
  generalize stepR (B, false) = q at *
  obtain ⟨n, R, bad⟩ := q
  simp only at r1 i1 sl hK ⊢
  have nilK : (bad = true ∨ n < 0 ∨ 8 < n) → K (.slice none 0 0 true) G1 := fun c => by
    rw [if_pos c] at hK
    exact hK G1 _ H.next r1 (Nat.le_refl _) ⟨.inl ⟨.inl rfl, rfl⟩⟩
  cases bad with
  | true =>
    rw [if_pos rfl]
    have d : decide ((1 : Int) = 0) = false := rfl
    repeat (first | rw [outP_val] | rw [guardP_true] | rw [guardP_false] | rw [condP_true] | rw [d] | rw [condP_false] | rw [boolIs_bool] | rw [boolIs_undef] | rw [beq_tt] | rw [beq_ff] | rw [Bool.not_true] | rw [Bool.not_false] | rw [outP_skip] | rw [w_pick_b] | rw [if_pos rfl] | rw [if_neg Bool.false_ne_true] | rw [w_fieldAddr_ptr] | rw [w_nil_ptr] | rw [Nat.zero_add] | rw [w_load_c] | rw [w_load_n] | rw [vO_some] | rw [w_store_c] | rw [w_not] | rw [w_lss] | rw [w_leq] | rw [w_gtr] | rw [w_geq] | rw [w_eql] | rw [w_neq] | rw [w_cint] | rw [w_min2_int] | rw [w_max2_int] | rw [w_add_in (by omega) (by omega)] | rw [w_sub_in (by omega) (by omega)] | rw [w_mul_in (by omega) (by omega)] | rw [outP_enter])
    exact nilK (.inl rfl)
  | false =>
    rw [if_neg Bool.false_ne_true]
    have d : decide ((0 : Int) = 0) = true := rfl
    by_cases c1 : n < 0
    · have d1 := decide_eq_true c1
      repeat (first | rw [outP_val] | rw [guardP_true] | rw [guardP_false] | rw [condP_true] | rw [d] | rw [d1] | rw [condP_false] | rw [boolIs_bool] | rw [boolIs_undef] | rw [beq_tt] | rw [beq_ff] | rw [Bool.not_true] | rw [Bool.not_false] | rw [outP_skip] | rw [w_pick_b] | rw [if_pos rfl] | rw [if_neg Bool.false_ne_true] | rw [w_fieldAddr_ptr] | rw [w_nil_ptr] | rw [Nat.zero_add] | rw [w_load_c] | rw [w_load_n] | rw [vO_some] | rw [w_store_c] | rw [w_not] | rw [w_lss] | rw [w_leq] | rw [w_gtr] | rw [w_geq] | rw [w_eql] | rw [w_neq] | rw [w_cint] | rw [w_min2_int] | rw [w_max2_int] | rw [w_add_in (by omega) (by omega)] | rw [w_sub_in (by omega) (by omega)] | rw [w_mul_in (by omega) (by omega)] | rw [outP_enter])
      exact nilK (.inr (.inl c1))
    by_cases c2 : 8 < n
    · have d1 := decide_eq_false c1
      have d2 := decide_eq_true c2
      repeat (first | rw [outP_val] | rw [guardP_true] | rw [guardP_false] | rw [condP_true] | rw [d] | rw [d1] | rw [d2] | rw [condP_false] | rw [boolIs_bool] | rw [boolIs_undef] | rw [beq_tt] | rw [beq_ff] | rw [Bool.not_true] | rw [Bool.not_false] | rw [outP_skip] | rw [w_pick_b] | rw [if_pos rfl] | rw [if_neg Bool.false_ne_true] | rw [w_fieldAddr_ptr] | rw [w_nil_ptr] | rw [Nat.zero_add] | rw [w_load_c] | rw [w_load_n] | rw [vO_some] | rw [w_store_c] | rw [w_not] | rw [w_lss] | rw [w_leq] | rw [w_gtr] | rw [w_geq] | rw [w_eql] | rw [w_neq] | rw [w_cint] | rw [w_min2_int] | rw [w_max2_int] | rw [w_add_in (by omega) (by omega)] | rw [w_sub_in (by omega) (by omega)] | rw [w_mul_in (by omega) (by omega)] | rw [outP_enter])
      exact nilK (.inr (.inr c2))
    have d1 := decide_eq_false c1
    have d2 := decide_eq_false c2
    repeat (first | rw [outP_val] | rw [guardP_true] | rw [guardP_false] | rw [condP_true] | rw [d] | rw [d1] | rw [d2] | rw [condP_false] | rw [boolIs_bool] | rw [boolIs_undef] | rw [beq_tt] | rw [beq_ff] | rw [Bool.not_true] | rw [Bool.not_false] | rw [outP_skip] | rw [w_pick_b] | rw [if_pos rfl] | rw [if_neg Bool.false_ne_true] | rw [w_fieldAddr_ptr] | rw [w_nil_ptr] | rw [Nat.zero_add] | rw [w_load_c] | rw [w_load_n] | rw [vO_some] | rw [w_store_c] | rw [w_not] | rw [w_lss] | rw [w_leq] | rw [w_gtr] | rw [w_geq] | rw [w_eql] | rw [w_neq] | rw [w_cint] | rw [w_min2_int] | rw [w_max2_int] | rw [w_add_in (by omega) (by omega)] | rw [w_sub_in (by omega) (by omega)] | rw [w_mul_in (by omega) (by omega)] | rw [outP_enter])
    rw [if_neg (by simp; omega)] at hK
    obtain ⟨k, rfl⟩ : ∃ k : Nat, n = k := ⟨n.toNat, by omega⟩
    have hk8 : k ≤ 8 := by omega
    unfold getN at hK
    rw [Int.toNat_natCast] at hK
    unfold m_vect_Getttt
    obtain ⟨G2, q1, x1, n1, o1⟩ := make_nums (H := G1) i32_el i32_by (by omega) (n := k) (by omega)
    rw [q1, outP_val]
    generalize (AV.slice (some (G1.next, 0)) k k true) = c at *
    have lc := o1.is.len vec_sl
    rw [List.length_replicate] at lc
    unfold m_vect_Gettttth
    rw [lc, outP_val]
    have hrn := r1.lt
    have hen := e1.next
    unfold m_vect_Gettttthtb
    refine loopP_rule (I := fun t G => ∃ j : Nat, t = (.ptr (some (rp, 0)), c, .bool (fit32 (numsR j (R, false)).1), .int .i64 k, .int .i64 j) ∧ j ≤ k ∧ Rx H0 G rp (numsR j (R, false)).2.1 (numsR j (R, false)).2.2 ∧ Os 21 .i32 G G1.next c (fillTo (fun i => IntKind.i32.wrap (stepR (numsR i (R, false)).2).1) k j))
      (μ := fun t _ => match t.2.2.2.2 with | .int _ z => k - z.toNat | _ => 0) ?_ ⟨0, rfl, Nat.zero_le _, r1.mono0 x1, by rw [fillTo_zero]; exact o1⟩
    rintro t G ⟨j, rfl, hj, r, os⟩ rec hrec
    unfold m_vect_Gettttthtbl
    rw [w_lss, outP_val]
    by_cases cj : j < k
    · rw [decide_eq_true (by omega), condP_true, outP_enter]
      have sl2 := nums_slen (R, false) j
      simp only at sl2
      refine rInt_wp r (by omega) _ fun G3 e3 r3 i3 => ?_
      have os3 := Own.mono os e3 (by simp; omega)
      obtain ⟨p, a1, a2, a3, a4⟩ := Os.at os3 (j := j) (by rw [fillTo_len]; exact cj)
      obtain ⟨G4, b1, b2, b3, b4⟩ := a4 (IntKind.i32.wrap (stepR (numsR j (R, false)).2).1)
      rw [fillTo_set (fun i => IntKind.i32.wrap (stepR (numsR i (R, false)).2).1) k j] at b4
      have r4 : Rx H0 G4 rp (numsR (j + 1) (R, false)).2.1 (numsR (j + 1) (R, false)).2.2 := Rx.hi r3 b2 (by simp; omega)
      have ef : fit32 (numsR (j + 1) (R, false)).1 = (fit32 (numsR j (R, false)).1 && (decide (-2147483648 ≤ (stepR (numsR j (R, false)).2).1) && decide ((stepR (numsR j (R, false)).2).1 ≤ 2147483647))) := fit_snoc _ _
      rw [w_cint, outP_val, a1, outP_val, w_store_c, b1, outP_skip]
      have fin : ∀ b : Bool, b = fit32 (numsR (j + 1) (R, false)).1 → rec (.ptr (some (rp, 0)), c, .bool b, .int .i64 k, .int .i64 ((j : Int) + 1)) G4 := fun b hb => by
        subst hb
        refine hrec _ _ ⟨j + 1, by rfl, by omega, r4, b4⟩ ?_
        show k - ((j : Int) + 1).toNat < k - (j : Int).toNat
        omega
      generalize (stepR (numsR j (R, false)).2).1 = x at *
      cases f0 : fit32 (numsR j (R, false)).1 with
      | false =>
        rw [f0, Bool.false_and] at ef
        repeat (first | rw [outP_val] | rw [guardP_true] | rw [guardP_false] | rw [condP_true] | rw [condP_false] | rw [boolIs_bool] | rw [boolIs_undef] | rw [beq_tt] | rw [beq_ff] | rw [Bool.not_true] | rw [Bool.not_false] | rw [outP_skip] | rw [w_pick_b] | rw [if_pos rfl] | rw [if_neg Bool.false_ne_true] | rw [w_fieldAddr_ptr] | rw [w_nil_ptr] | rw [Nat.zero_add] | rw [w_load_c] | rw [w_load_n] | rw [vO_some] | rw [w_store_c] | rw [w_not] | rw [w_lss] | rw [w_leq] | rw [w_gtr] | rw [w_geq] | rw [w_eql] | rw [w_neq] | rw [w_cint] | rw [w_min2_int] | rw [w_max2_int] | rw [w_add_in (by omega) (by omega)] | rw [w_sub_in (by omega) (by omega)] | rw [w_mul_in (by omega) (by omega)] | rw [outP_enter])
        exact fin _ ef.symm
      | true =>
        rw [f0, Bool.true_and] at ef
        by_cases g1 : -2147483648 ≤ x
        · have g2 := decide_eq_true g1
          rw [g2, Bool.true_and] at ef
          repeat (first | rw [outP_val] | rw [guardP_true] | rw [guardP_false] | rw [condP_true] | rw [g2] | rw [condP_false] | rw [boolIs_bool] | rw [boolIs_undef] | rw [beq_tt] | rw [beq_ff] | rw [Bool.not_true] | rw [Bool.not_false] | rw [outP_skip] | rw [w_pick_b] | rw [if_pos rfl] | rw [if_neg Bool.false_ne_true] | rw [w_fieldAddr_ptr] | rw [w_nil_ptr] | rw [Nat.zero_add] | rw [w_load_c] | rw [w_load_n] | rw [vO_some] | rw [w_store_c] | rw [w_not] | rw [w_lss] | rw [w_leq] | rw [w_gtr] | rw [w_geq] | rw [w_eql] | rw [w_neq] | rw [w_cint] | rw [w_min2_int] | rw [w_max2_int] | rw [w_add_in (by omega) (by omega)] | rw [w_sub_in (by omega) (by omega)] | rw [w_mul_in (by omega) (by omega)] | rw [outP_enter])
          exact fin _ ef.symm
        · have g2 := decide_eq_false g1
          rw [g2, Bool.false_and] at ef
          repeat (first | rw [outP_val] | rw [guardP_true] | rw [guardP_false] | rw [condP_true] | rw [g2] | rw [condP_false] | rw [boolIs_bool] | rw [boolIs_undef] | rw [beq_tt] | rw [beq_ff] | rw [Bool.not_true] | rw [Bool.not_false] | rw [outP_skip] | rw [w_pick_b] | rw [if_pos rfl] | rw [if_neg Bool.false_ne_true] | rw [w_fieldAddr_ptr] | rw [w_nil_ptr] | rw [Nat.zero_add] | rw [w_load_c] | rw [w_load_n] | rw [vO_some] | rw [w_store_c] | rw [w_not] | rw [w_lss] | rw [w_leq] | rw [w_gtr] | rw [w_geq] | rw [w_eql] | rw [w_neq] | rw [w_cint] | rw [w_min2_int] | rw [w_max2_int] | rw [w_add_in (by omega) (by omega)] | rw [w_sub_in (by omega) (by omega)] | rw [w_mul_in (by omega) (by omega)] | rw [outP_enter])
          exact fin _ ef.symm
    · obtain rfl : j = k := by omega
      rw [decide_eq_false (by omega), condP_false, outP_enter]
      refine err_wp r _ ?_
      have nm := nums_at j (R, false)
      have nl := nums_len j (R, false)
      rw [fillTo_all] at os
      have ev : fit32 (numsR j (R, false)).1 = true → (List.range j).map (fun i => IntKind.i32.wrap (stepR (numsR i (R, false)).2).1) = (numsR j (R, false)).1 := fun hf => by
        refine List.ext_getElem? fun i => ?_
        by_cases ci : i < j
        · rw [List.getElem?_map, List.getElem?_range ci, nm i ci]
          have := (fit32_iff _).1 hf _ (List.mem_of_getElem? (nm i ci))
          show some (IntKind.i32.wrap _) = _
          rw [wrap32_in this.1 this.2]
        · rw [List.getElem?_eq_none (by simp; omega), List.getElem?_eq_none (by omega)]
      generalize numsR j (R, false) = q at *
      obtain ⟨xs, R', bad'⟩ := q
      simp only at r nl ev hK ⊢
      have nilK : (bad' = true ∨ fit32 xs = false) → K (.slice none 0 0 true) G := fun c => by
        rw [if_pos c] at hK
        exact hK G _ H.next r (Nat.le_refl _) ⟨.inl ⟨.inl rfl, rfl⟩⟩
      cases bad' with
      | true =>
        rw [if_pos rfl]
        have d : decide ((1 : Int) = 0) = false := rfl
        repeat (first | rw [outP_val] | rw [guardP_true] | rw [guardP_false] | rw [condP_true] | rw [d] | rw [condP_false] | rw [boolIs_bool] | rw [boolIs_undef] | rw [beq_tt] | rw [beq_ff] | rw [Bool.not_true] | rw [Bool.not_false] | rw [outP_skip] | rw [w_pick_b] | rw [if_pos rfl] | rw [if_neg Bool.false_ne_true] | rw [w_fieldAddr_ptr] | rw [w_nil_ptr] | rw [Nat.zero_add] | rw [w_load_c] | rw [w_load_n] | rw [vO_some] | rw [w_store_c] | rw [w_not] | rw [w_lss] | rw [w_leq] | rw [w_gtr] | rw [w_geq] | rw [w_eql] | rw [w_neq] | rw [w_cint] | rw [w_min2_int] | rw [w_max2_int] | rw [w_add_in (by omega) (by omega)] | rw [w_sub_in (by omega) (by omega)] | rw [w_mul_in (by omega) (by omega)] | rw [outP_enter])
        exact nilK (.inl rfl)
      | false =>
        rw [if_neg Bool.false_ne_true]
        cases f0 : fit32 xs with
        | false =>
          repeat (first | rw [outP_val] | rw [guardP_true] | rw [guardP_false] | rw [condP_true] | rw [d] | rw [condP_false] | rw [boolIs_bool] | rw [boolIs_undef] | rw [beq_tt] | rw [beq_ff] | rw [Bool.not_true] | rw [Bool.not_false] | rw [outP_skip] | rw [w_pick_b] | rw [if_pos rfl] | rw [if_neg Bool.false_ne_true] | rw [w_fieldAddr_ptr] | rw [w_nil_ptr] | rw [Nat.zero_add] | rw [w_load_c] | rw [w_load_n] | rw [vO_some] | rw [w_store_c] | rw [w_not] | rw [w_lss] | rw [w_leq] | rw [w_gtr] | rw [w_geq] | rw [w_eql] | rw [w_neq] | rw [w_cint] | rw [w_min2_int] | rw [w_max2_int] | rw [w_add_in (by omega) (by omega)] | rw [w_sub_in (by omega) (by omega)] | rw [w_mul_in (by omega) (by omega)] | rw [outP_enter])
          exact nilK (.inr f0)
        | true =>
          repeat (first | rw [outP_val] | rw [guardP_true] | rw [guardP_false] | rw [condP_true] | rw [d] | rw [condP_false] | rw [boolIs_bool] | rw [boolIs_undef] | rw [beq_tt] | rw [beq_ff] | rw [Bool.not_true] | rw [Bool.not_false] | rw [outP_skip] | rw [w_pick_b] | rw [if_pos rfl] | rw [if_neg Bool.false_ne_true] | rw [w_fieldAddr_ptr] | rw [w_nil_ptr] | rw [Nat.zero_add] | rw [w_load_c] | rw [w_load_n] | rw [vO_some] | rw [w_store_c] | rw [w_not] | rw [w_lss] | rw [w_leq] | rw [w_gtr] | rw [w_geq] | rw [w_eql] | rw [w_neq] | rw [w_cint] | rw [w_min2_int] | rw [w_max2_int] | rw [w_add_in (by omega) (by omega)] | rw [w_sub_in (by omega) (by omega)] | rw [w_mul_in (by omega) (by omega)] | rw [outP_enter])
          rw [if_neg (by simp [f0])] at hK
          rw [ev f0] at os
          exact hK G c G1.next r (by omega) os.is
end
end Go.Ab
