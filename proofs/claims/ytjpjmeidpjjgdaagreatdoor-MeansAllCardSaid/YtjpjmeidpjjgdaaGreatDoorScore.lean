/- metric.Score: two vectors held against each other. -/
import Derived.Test.YtjpjmeidpjjgdaaGreatDoorVecsA
namespace Go.Ab
noncomputable section
open Go.Proofs
set_option maxRecDepth 10000
variable {H H' : AH}

def scoreStep (m x y s : Int) : Int := if m = 1 then IntKind.i64.wrap (s + IntKind.i64.wrap (IntKind.i64.wrap (x - y) * IntKind.i64.wrap (x - y))) else if m = 2 then IntKind.i64.wrap (s - IntKind.i64.wrap (x * y)) else s
/-- Of the first j places. -/
def scoreS (m : Int) (A B : List Int) : Nat → Int
  | 0 => 0
  | j + 1 => scoreStep m (A.getD j 0) (B.getD j 0) (scoreS m A B j)
def scoreZ (m : Int) (A B : List Int) : Int := scoreS m A B (min A.length B.length)
theorem w_mul64 (a b : Int) : w_int .mul H (.int .i64 a) (.int .i64 b) = some (.val (.int .i64 (IntKind.i64.wrap (a * b))) H) := by
  rw [w_int_of rfl, wrapZ_eq]; rfl
theorem score_wp {b1 b2 : Nat} {s1 s2 : AV} {A B : List Int} (h1 : Is .i32 H b1 s1 A) (h2 : Is .i32 H b2 s2 B) (hA : In32 A) (hB : In32 B) (hl : A.length ≤ 1000000 ∨ B.length ≤ 1000000) (m : Int) (K : AV → AH → Prop)
    (hK : K (.int .i64 (scoreZ m A B)) H) : CC.call 31 [.int .i64 m, s1, s2] H K := by
  refine m_metric_Score_ok _ _ _ _ _ ?_
  unfold m_metric_Score m_metric_Scoret m_metric_Scoretth
  rw [h1.len vec_sl, outP_val, h2.len vec_sl, outP_val, w_min2_int, outP_val, show min (A.length : Int) (B.length : Int) = ((min A.length B.length : Nat) : Int) by omega]
  unfold m_metric_Scoretthtb
  refine loopP_rule (I := fun t G => ∃ j : Nat, t = (.int .i64 m, s1, s2, .int .i64 (scoreS m A B j), .int .i64 (min A.length B.length : Nat), .int .i64 j) ∧ j ≤ min A.length B.length ∧ G = H) (μ := fun t _ => match t.2.2.2.2.2 with | .int _ z => min A.length B.length - z.toNat | _ => 0) ?_ ⟨0, rfl, Nat.zero_le _, rfl⟩
  rintro t G ⟨j, rfl, hj, rfl⟩ rec hrec
  unfold m_metric_Scoretthtbl
  rw [w_lss, outP_val]
  by_cases c : j < min A.length B.length
  · have c1 : j < A.length := by omega
    have c2 : j < B.length := by omega
    obtain ⟨o1, a1, a2, a3⟩ := h1.at c1
    obtain ⟨o2, d1, d2, d3⟩ := h2.at c2
    have ia := hA _ (List.getElem_mem c1)
    have ib := hB _ (List.getElem_mem c2)
    have e : scoreS m A B (j + 1) = scoreStep m A[j] B[j] (scoreS m A B j) := by
      show scoreStep m (A.getD j 0) (B.getD j 0) _ = _
      rw [getD_at c1, getD_at c2]
    rw [decide_eq_true (by omega), condP_true, a1, outP_val, w_load_c, a3, vO_some, outP_val, w_cint, outP_val, wrap64_32 ia, d1, outP_val, w_load_c, d3, vO_some, outP_val, w_cint, outP_val, wrap64_32 ib, w_eql, outP_val]
    have dec : min A.length B.length - ((j : Int) + 1).toNat < min A.length B.length - (j : Int).toNat := by omega
    by_cases m1 : m = 1
    · rw [decide_eq_true m1, condP_true, w_sub, outP_val, w_sub, outP_val, w_mul64, outP_val, w_add, outP_val, w_add_in (by omega) (by omega), outP_val]
      refine hrec _ _ ⟨j + 1, ?_, by omega, rfl⟩ dec
      rw [e]; unfold scoreStep; rw [if_pos m1]; rfl
    · rw [decide_eq_false m1, condP_false, w_eql, outP_val]
      by_cases m2 : m = 2
      · rw [decide_eq_true m2, condP_true, w_mul64, outP_val, w_sub, outP_val, w_add_in (by omega) (by omega), outP_val]
        refine hrec _ _ ⟨j + 1, ?_, by omega, rfl⟩ dec
        rw [e]; unfold scoreStep; rw [if_neg m1, if_pos m2]; rfl
      · rw [decide_eq_false m2, condP_false, w_add_in (by omega) (by omega), outP_val]
        refine hrec _ _ ⟨j + 1, ?_, by omega, rfl⟩ dec
        rw [e]; unfold scoreStep; rw [if_neg m1, if_neg m2]; rfl
  · rw [decide_eq_false (by omega), condP_false]
    have : j = min A.length B.length := by omega
    subst this
    exact hK

/-! Plain. -/
/-- Places that may be. -/
abbrev Co (A : List Int) : Prop := ∀ x ∈ A, -1048576 ≤ x ∧ x ≤ 1048576
theorem co_getD {A : List Int} (h : Co A) (j : Nat) : -1048576 ≤ A.getD j 0 ∧ A.getD j 0 ≤ 1048576 := by
  by_cases c : j < A.length
  · rw [getD_at c]; exact h _ (List.getElem_mem c)
  · rw [List.getD_eq_getElem?_getD, List.getElem?_eq_none (by omega)]; simp
theorem sq_abs (z : Int) : z * z = ((z.natAbs * z.natAbs : Nat) : Int) := by rw [Int.natCast_mul, ← Int.natAbs_mul_self' z]
theorem sq_pos (z : Int) : 0 ≤ z * z := by rw [sq_abs]; exact Int.natCast_nonneg _
theorem sq_bnd {z : Int} (h : -2097152 ≤ z ∧ z ≤ 2097152) : 0 ≤ z * z ∧ z * z ≤ 4398046511104 := by
  refine ⟨sq_pos z, ?_⟩
  have a : z.natAbs ≤ 2097152 := by omega
  have b := Nat.mul_le_mul a a
  have c := sq_abs z
  omega
theorem prod_bnd {x y : Int} (h : -1048576 ≤ x ∧ x ≤ 1048576) (k : -1048576 ≤ y ∧ y ≤ 1048576) : -1099511627776 ≤ x * y ∧ x * y ≤ 1099511627776 := by
  have a : x.natAbs ≤ 1048576 := by omega
  have b : y.natAbs ≤ 1048576 := by omega
  have c := Nat.mul_le_mul a b
  have d : (x * y).natAbs = x.natAbs * y.natAbs := Int.natAbs_mul x y
  omega
/-- What a place adds, without wraps. -/
def scoreP (m x y : Int) : Int := if m = 1 then (x - y) * (x - y) else if m = 2 then -(x * y) else 0
def scoreT (m : Int) (A B : List Int) : Nat → Int
  | 0 => 0
  | j + 1 => scoreT m A B j + scoreP m (A.getD j 0) (B.getD j 0)
theorem scoreP_bnd {m x y : Int} (h : -1048576 ≤ x ∧ x ≤ 1048576) (k : -1048576 ≤ y ∧ y ≤ 1048576) : -4398046511104 ≤ scoreP m x y ∧ scoreP m x y ≤ 4398046511104 := by
  unfold scoreP
  have a := sq_bnd (z := x - y) (by omega)
  have b := prod_bnd h k
  split
  · omega
  · split <;> omega
theorem scoreT_bnd {m : Int} {A B : List Int} (hA : Co A) (hB : Co B) : ∀ j : Nat, -(4398046511104 * (j : Int)) ≤ scoreT m A B j ∧ scoreT m A B j ≤ 4398046511104 * (j : Int)
  | 0 => by simp [scoreT]
  | j + 1 => by
    have ih := scoreT_bnd hA hB (m := m) j
    have := scoreP_bnd (m := m) (co_getD hA j) (co_getD hB j)
    show -(4398046511104 * ((j + 1 : Nat) : Int)) ≤ scoreT m A B j + _ ∧ scoreT m A B j + _ ≤ _
    omega
theorem scoreS_plain {m : Int} {A B : List Int} (hA : Co A) (hB : Co B) : ∀ j : Nat, j ≤ 1000 → scoreS m A B j = scoreT m A B j
  | 0, _ => rfl
  | j + 1, hj => by
    have ih := scoreS_plain hA hB (m := m) j (by omega)
    have bd := scoreT_bnd hA hB (m := m) j
    have bd2 := scoreT_bnd hA hB (m := m) (j + 1)
    have hx := co_getD hA j
    have hy := co_getD hB j
    show scoreStep m _ _ (scoreS m A B j) = scoreT m A B j + scoreP m _ _
    have e2 : scoreT m A B (j + 1) = scoreT m A B j + scoreP m (A.getD j 0) (B.getD j 0) := rfl
    rw [e2] at bd2
    rw [ih]
    unfold scoreStep
    unfold scoreP at bd2 ⊢
    generalize A.getD j 0 = x at *
    generalize B.getD j 0 = y at *
    have q := sq_bnd (z := x - y) (by omega)
    have p := prod_bnd hx hy
    split
    · rename_i m1
      rw [if_pos m1] at bd2
      rw [wrap64_in (x := x - y) (by omega) (by omega), wrap64_in (x := (x - y) * (x - y)) (by omega) (by omega), wrap64_in (by omega) (by omega)]
    · rename_i m1
      rw [if_neg m1] at bd2
      split
      · rename_i m2
        rw [if_pos m2] at bd2
        rw [wrap64_in (x := x * y) (by omega) (by omega), wrap64_in (by omega) (by omega)]
        omega
      · omega
theorem scoreZ_plain {m : Int} {A B : List Int} (hA : Co A) (hB : Co B) (hl : A.length ≤ 1000) : scoreZ m A B = scoreT m A B (min A.length B.length) := scoreS_plain hA hB _ (by omega)
theorem scoreP_comm (m x y : Int) : scoreP m x y = scoreP m y x := by
  unfold scoreP
  rw [Int.mul_comm x y, show (x - y) * (x - y) = (y - x) * (y - x) by rw [← Int.neg_sub y x, Int.neg_mul_neg]]
theorem scoreT_comm (m : Int) (A B : List Int) : ∀ j, scoreT m A B j = scoreT m B A j
  | 0 => rfl
  | j + 1 => by
    show scoreT m A B j + _ = scoreT m B A j + _
    rw [scoreT_comm m A B j, scoreP_comm]
theorem scoreT_pos (A B : List Int) : ∀ j, 0 ≤ scoreT 1 A B j
  | 0 => Int.le_refl _
  | j + 1 => by
    have := scoreT_pos A B j
    have := sq_pos (A.getD j 0 - B.getD j 0)
    show 0 ≤ scoreT 1 A B j + (if (1 : Int) = 1 then _ else _)
    rw [if_pos rfl]; omega
theorem scoreT_self (A : List Int) : ∀ j, scoreT 1 A A j = 0
  | 0 => rfl
  | j + 1 => by
    show scoreT 1 A A j + (if (1 : Int) = 1 then _ else _) = 0
    rw [if_pos rfl, scoreT_self A j, Int.sub_self]; rfl
end
end Go.Ab
