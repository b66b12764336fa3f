/- What scores of turned vectors are: plain. -/
import Derived.Test.YtapkhdlohcbcmaaGreatDoorScore
namespace Go.Ab
set_option maxRecDepth 10000

/-- Of the first places, as they are counted. -/
def scoreN (m : Int) (U V : Nat → Int) : Nat → Int
  | 0 => 0
  | j + 1 => scoreN m U V j + scoreP m (U j) (V j)
theorem range_getD (n : Nat) (U : Nat → Int) (j : Nat) (h : j < n) : ((List.range n).map U).getD j 0 = U j := by
  rw [List.getD_eq_getElem?_getD, List.getElem?_map, List.getElem?_range h]; rfl
theorem scoreT_range (m : Int) (n : Nat) (U V : Nat → Int) : ∀ j, j ≤ n → scoreT m ((List.range n).map U) ((List.range n).map V) j = scoreN m U V j
  | 0, _ => rfl
  | j + 1, h => by
    show scoreT m _ _ j + _ = scoreN m U V j + _
    rw [scoreT_range m n U V j (by omega), range_getD n U j (by omega), range_getD n V j (by omega)]
theorem scoreP_one (x y : Int) : scoreP 1 x y = (x - y) * (x - y) := if_pos rfl
theorem scoreP_two (x y : Int) : scoreP 2 x y = -(x * y) := by unfold scoreP; rw [if_neg (by decide), if_pos rfl]
theorem scoreN_shift (U V W : Nat → Int) : ∀ j, scoreN 1 (fun i => U i + W i) (fun i => V i + W i) j = scoreN 1 U V j
  | 0 => rfl
  | j + 1 => by
    show scoreN 1 _ _ j + scoreP 1 (U j + W j) (V j + W j) = scoreN 1 U V j + scoreP 1 (U j) (V j)
    rw [scoreN_shift U V W j, scoreP_one, scoreP_one, show U j + W j - (V j + W j) = U j - V j by omega]
theorem scoreN_scale (k : Int) (U V : Nat → Int) : ∀ j, scoreN 1 (fun i => k * U i) (fun i => k * V i) j = scoreN 1 U V j * k * k
  | 0 => by simp [scoreN]
  | j + 1 => by
    show scoreN 1 _ _ j + scoreP 1 (k * U j) (k * V j) = (scoreN 1 U V j + scoreP 1 (U j) (V j)) * k * k
    rw [scoreN_scale k U V j, scoreP_one, scoreP_one, ← Int.mul_sub, Int.add_mul, Int.add_mul]
    congr 1
    generalize U j - V j = z
    rw [Int.mul_comm k z, Int.mul_assoc z k (z * k), Int.mul_assoc z z k, Int.mul_assoc z (z * k) k, Int.mul_comm k (z * k)]
theorem scoreN_dot (k : Int) (U V : Nat → Int) : ∀ j, scoreN 2 (fun i => k * U i) V j = k * scoreN 2 U V j
  | 0 => by simp [scoreN]
  | j + 1 => by
    show scoreN 2 _ _ j + scoreP 2 (k * U j) (V j) = k * (scoreN 2 U V j + scoreP 2 (U j) (V j))
    rw [scoreN_dot k U V j, scoreP_two, scoreP_two, Int.mul_add, Int.mul_assoc, Int.mul_neg]
theorem scoreN_law (U V : Nat → Int) : ∀ j, scoreN 1 U V j = scoreN 1 U (fun _ => 0) j + scoreN 1 V (fun _ => 0) j + 2 * scoreN 2 U V j
  | 0 => rfl
  | j + 1 => by
    show scoreN 1 U V j + scoreP 1 (U j) (V j) = scoreN 1 U (fun _ => 0) j + scoreP 1 (U j) 0 + (scoreN 1 V (fun _ => 0) j + scoreP 1 (V j) 0) + 2 * (scoreN 2 U V j + scoreP 2 (U j) (V j))
    rw [scoreN_law U V j, scoreP_one, scoreP_one, scoreP_one, scoreP_two, Int.sub_zero, Int.sub_zero, Int.mul_sub, Int.sub_mul, Int.sub_mul, Int.mul_comm (V j) (U j)]
    omega
theorem scoreN_comm (m : Int) (U V : Nat → Int) : ∀ j, scoreN m U V j = scoreN m V U j
  | 0 => rfl
  | j + 1 => by
    show scoreN m U V j + _ = scoreN m V U j + _
    rw [scoreN_comm m U V j, scoreP_comm]
theorem scoreN_pos (U V : Nat → Int) : ∀ j, 0 ≤ scoreN 1 U V j
  | 0 => Int.le_refl _
  | j + 1 => by
    have := scoreN_pos U V j
    have := sq_pos (U j - V j)
    show 0 ≤ scoreN 1 U V j + scoreP 1 _ _
    rw [scoreP_one]; omega
end Go.Ab
