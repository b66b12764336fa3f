/- Codes: what is reckoned, in plain numbers. -/
import Derived.Test.YtbahknfffhijlaaGreatDoorEv3
namespace Go.Ab

/-- The whole part, towards below, as the program reckons it. -/
theorem floor_eq {a b : Int} (hb : 0 < b) : (if a.tmod b < 0 then a.tdiv b - 1 else a.tdiv b) = a / b := by
  rcases Int.lt_or_le a 0 with h | h
  · have h1 : a.tdiv b = -((-a) / b) := by
      have : a = -(-a) := by omega
      rw [this, Int.neg_tdiv, Int.tdiv_eq_ediv_of_nonneg (by omega)]; simp
    have h2 : a.tmod b = -((-a) % b) := by
      have : a = -(-a) := by omega
      rw [this, Int.neg_tmod, Int.tmod_eq_emod_of_nonneg (by omega)]; simp
    have h3 := Int.emod_nonneg (-a) (by omega : b ≠ 0)
    have h4 := Int.emod_lt_of_pos (-a) hb
    have h5 := Int.emod_add_mul_ediv (-a) b
    rw [h1, h2]
    generalize (-a) / b = q at *
    generalize (-a) % b = r at *
    split
    · have : a / b = -q - 1 ∧ a % b = b - r := (Int.ediv_emod_unique hb).2 ⟨by rw [Int.mul_sub, Int.mul_neg]; omega, by omega, by omega⟩
      omega
    · have : a / b = -q ∧ a % b = 0 := (Int.ediv_emod_unique hb).2 ⟨by rw [Int.mul_neg]; omega, by omega, by omega⟩
      omega
  · rw [Int.tdiv_eq_ediv_of_nonneg h, Int.tmod_eq_emod_of_nonneg h, if_neg]
    have := Int.emod_nonneg a (by omega : b ≠ 0)
    omega

/-- A number's code; what a code tells back. -/
def codeZ (low step x : Int) : Int := min (max ((x - low + step / 2) / step) 0) 255
def backZ (low step c : Int) : Int := min (max (low + step * c) (-1048576)) 1048576
theorem codeZ_ge (low step x : Int) : 0 ≤ codeZ low step x ∧ codeZ low step x ≤ 255 := by unfold codeZ; omega
theorem codeZ_mono {low step x y : Int} (hs : 0 < step) (h : x ≤ y) : codeZ low step x ≤ codeZ low step y := by
  have := Int.ediv_le_ediv hs (show x - low + step / 2 ≤ y - low + step / 2 by omega)
  unfold codeZ; omega
theorem codeZ_step {low step n : Int} (hs : 0 < step) (h0 : 0 ≤ n) (h1 : n ≤ 255) : codeZ low step (low + n * step) = n := by
  have e : (low + n * step - low + step / 2) / step = n := by
    have e1 : low + n * step - low + step / 2 = step / 2 + n * step := by omega
    rw [e1, Int.add_mul_ediv_right _ _ (by omega), Int.ediv_eq_zero_of_lt (by omega) (by omega)]; omega
  unfold codeZ; rw [e]; omega
/-- How far off. -/
theorem codeZ_off {low step x : Int} (hs : 0 < step) (h0 : low ≤ x) (h1 : x ≤ low + 255 * step) (hx : -1048576 ≤ x ∧ x ≤ 1048576) :
    x - backZ low step (codeZ low step x) ≤ (step + 1) / 2 ∧ backZ low step (codeZ low step x) - x ≤ (step + 1) / 2 := by
  have d1 := Int.emod_nonneg (x - low + step / 2) (by omega : step ≠ 0)
  have d2 := Int.emod_lt_of_pos (x - low + step / 2) hs
  have d3 := Int.emod_add_mul_ediv (x - low + step / 2) step
  have hq : (x - low + step / 2) / step ≤ 255 := by
    have : (x - low + step / 2) / step < 256 := Int.ediv_lt_of_lt_mul hs (by omega)
    omega
  have hq0 : 0 ≤ (x - low + step / 2) / step := Int.ediv_nonneg (by omega) (by omega)
  have e : codeZ low step x = (x - low + step / 2) / step := by unfold codeZ; omega
  rw [e]
  unfold backZ
  generalize (x - low + step / 2) / step = q at *
  generalize (x - low + step / 2) % step = r at *
  generalize step * q = z at *
  omega
/-- The step of two bounds. -/
def stepZ (low high : Int) : Int := max ((high - low + 254) / 255) 1
theorem stepZ_pos (low high : Int) : 0 < stepZ low high := by unfold stepZ; omega
theorem stepZ_reach {low high : Int} : high ≤ low + 255 * stepZ low high := by unfold stepZ; omega
theorem stepZ_least {low high : Int} (h : 1 < stepZ low high) : low + 255 * (stepZ low high - 1) < high := by unfold stepZ at *; omega
end Go.Ab
