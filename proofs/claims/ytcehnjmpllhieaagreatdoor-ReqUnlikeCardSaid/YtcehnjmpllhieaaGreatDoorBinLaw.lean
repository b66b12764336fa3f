/- Numbers in bytes: plain. -/
namespace Go.Ab
set_option maxRecDepth 10000

abbrev pw (k : Nat) : Int := (256 : Int) ^ k
theorem pw_pos (k : Nat) : 0 < pw k := Int.pow_pos (by decide)
theorem pw_succ (k : Nat) : pw (k + 1) = 256 * pw k := by show (256 : Int) ^ (k + 1) = _; rw [Int.pow_succ, Int.mul_comm]
/-- Does a number fit in so many bytes? (From 1 on.) -/
def fitsB (k : Nat) (n : Int) : Prop := -128 ≤ n / pw (k - 1) ∧ n / pw (k - 1) ≤ 127
instance (k : Nat) (n : Int) : Decidable (fitsB k n) := by unfold fitsB; infer_instance
theorem fitsB_iff (k : Nat) (n : Int) : fitsB k n ↔ -(128 * pw (k - 1)) ≤ n ∧ n < 128 * pw (k - 1) := by
  unfold fitsB
  have h := pw_pos (k - 1)
  rw [Int.le_ediv_iff_mul_le h, show n / pw (k - 1) ≤ 127 ↔ n / pw (k - 1) < 128 by omega, Int.ediv_lt_iff_lt_mul h, Int.neg_mul]
/-- The number that so many bytes tell by two's complement. -/
def sxB (k : Nat) (v : Int) : Int := (v + 128 * pw (k - 1)) % pw k - 128 * pw (k - 1)
def bytesB : Nat → Int → List Int
  | 0, _ => []
  | k + 1, n => n % 256 :: bytesB k (n / 256)
def valB : List Int → Int
  | [] => 0
  | b :: l => b + 256 * valB l
def sizeG (n : Int) : Nat → Nat → Nat
  | 0, k => k
  | f + 1, k => if fitsB k n then k else sizeG n f (k + 1)
def sizeZ (n : Int) : Nat := if n = 0 then 0 else sizeG n 7 1
def encZ (n : Int) : List Int := (sizeZ n : Int) :: bytesB (sizeZ n) n
/-- The number behind a first byte. -/
def numB (k : Nat) (R : List Int) : Int := if k = 0 then 0 else sxB k (valB (R.take k))
def decC (k : Nat) (R : List Int) : Option (Int × List Int) := if sizeZ (numB k R) = k then some (numB k R, R.drop k) else none
def decB : List Int → Option (Int × List Int)
  | [] => none
  | c :: R => if c ≤ 8 ∧ c ≤ (R.length : Int) then decC c.toNat R else none
abbrev By (L : List Int) : Prop := ∀ x ∈ L, 0 ≤ x ∧ x ≤ 255
abbrev I64 (n : Int) : Prop := -9223372036854775808 ≤ n ∧ n ≤ 9223372036854775807

theorem bytes_len : ∀ (k : Nat) (n : Int), (bytesB k n).length = k
  | 0, _ => rfl
  | k + 1, n => by show (bytesB k (n / 256)).length + 1 = _; rw [bytes_len k]
theorem bytes_by : ∀ (k : Nat) (n : Int), By (bytesB k n)
  | 0, _ => fun _ h => (List.not_mem_nil h).elim
  | k + 1, n => fun x h => by
    rcases List.mem_cons.1 h with rfl | h
    · omega
    · exact bytes_by k _ x h
theorem div_div (n : Int) (i : Nat) : n / 256 / pw i = n / pw (i + 1) := by
  rw [pw_succ, Int.ediv_ediv_of_nonneg (by decide)]
theorem bytes_get : ∀ (k : Nat) (n : Int) (i : Nat), i < k → (bytesB k n)[i]? = some (n / pw i % 256)
  | 0, _, _, h => absurd h (by omega)
  | k + 1, n, 0, _ => by show some (n % 256) = some (n / 1 % 256); rw [Int.ediv_one]
  | k + 1, n, i + 1, h => by
    show (bytesB k (n / 256))[i]? = _
    rw [bytes_get k (n / 256) i (by omega), div_div]
theorem bytes_snoc : ∀ (k : Nat) (n : Int), bytesB (k + 1) n = bytesB k n ++ [n / pw k % 256]
  | 0, n => by show [n % 256] = [n / 1 % 256]; rw [Int.ediv_one]
  | k + 1, n => by
    show n % 256 :: bytesB (k + 1) (n / 256) = n % 256 :: (bytesB k (n / 256) ++ [n / pw (k + 1) % 256])
    rw [bytes_snoc k (n / 256), div_div]
theorem mod_step (n m : Int) (hm : 0 < m) : n % (256 * m) = n % 256 + 256 * (n / 256 % m) := by
  have e1 := Int.mul_ediv_add_emod (n / 256) m
  have h1 := Int.emod_nonneg (n / 256) (by omega : m ≠ 0)
  have h2 := Int.emod_lt_of_pos (n / 256) hm
  have e2 : n = 256 * m * (n / 256 / m) + (n % 256 + 256 * (n / 256 % m)) := by
    rw [Int.mul_assoc]
    generalize n / 256 / m = q at *
    generalize n / 256 % m = r at *
    generalize hx : m * q = x at *
    omega
  generalize n / 256 % m = r at *
  generalize n / 256 / m = q at *
  generalize hs : n % 256 = s at *
  have hs0 : 0 ≤ s ∧ s < 256 := by omega
  rw [e2, Int.add_comm, Int.add_mul_emod_self_left]
  exact Int.emod_eq_of_lt (by omega) (by omega)
theorem val_bytes : ∀ (k : Nat) (n : Int), valB (bytesB k n) = n % pw k
  | 0, n => by show 0 = n % 1; omega
  | k + 1, n => by
    show n % 256 + 256 * valB (bytesB k (n / 256)) = _
    rw [val_bytes k, pw_succ, mod_step n _ (pw_pos k)]
theorem bytes_val : ∀ {L : List Int}, By L → bytesB L.length (valB L) = L
  | [], _ => rfl
  | b :: l, h => by
    have hb := h b (by simp)
    show (b + 256 * valB l) % 256 :: bytesB l.length ((b + 256 * valB l) / 256) = _
    rw [show (b + 256 * valB l) % 256 = b by omega, show (b + 256 * valB l) / 256 = valB l by omega, bytes_val fun x hx => h x (by simp [hx])]
theorem bytes_mod : ∀ (k : Nat) (n m : Int), n % pw k = m % pw k → bytesB k n = bytesB k m
  | 0, _, _, _ => rfl
  | k + 1, n, m, h => by
    rw [pw_succ, mod_step _ _ (pw_pos k), mod_step _ _ (pw_pos k)] at h
    show n % 256 :: bytesB k (n / 256) = m % 256 :: bytesB k (m / 256)
    rw [show n % 256 = m % 256 by omega, bytes_mod k (n / 256) (m / 256) (by omega)]
theorem val_in : ∀ {L : List Int}, By L → 0 ≤ valB L ∧ valB L < pw L.length
  | [], _ => by show (0 : Int) ≤ 0 ∧ (0 : Int) < 1; omega
  | b :: l, h => by
    have hb := h b (by simp)
    have ih := val_in (L := l) fun x hx => h x (by simp [hx])
    show 0 ≤ b + 256 * valB l ∧ b + 256 * valB l < pw (l.length + 1)
    rw [pw_succ]; omega
theorem pw_pred {k : Nat} (h : 1 ≤ k) : pw k = 256 * pw (k - 1) := by rw [← pw_succ]; congr 1; omega
theorem sx_fits {k : Nat} (h : 1 ≤ k) {n : Int} (hf : fitsB k n) : sxB k (n % pw k) = n := by
  have hf := (fitsB_iff k n).1 hf
  have hp := pw_pos (k - 1)
  have e := pw_pred h
  unfold sxB
  rw [Int.emod_add_emod, Int.emod_eq_of_lt (by omega) (by omega)]
  omega
theorem sx_in {k : Nat} (h : 1 ≤ k) (v : Int) : fitsB k (sxB k v) := by
  rw [fitsB_iff]
  have hp := pw_pos (k - 1)
  have e := pw_pred h
  unfold sxB
  have h1 := Int.emod_nonneg (v + 128 * pw (k - 1)) (show pw k ≠ 0 by omega)
  have h2 := Int.emod_lt_of_pos (v + 128 * pw (k - 1)) (show 0 < pw k by omega)
  omega
theorem sx_mod {k : Nat} (v : Int) : sxB k v % pw k = v % pw k := by
  unfold sxB
  rw [Int.sub_eq_add_neg, Int.emod_add_emod, Int.add_neg_cancel_right]
theorem fits_mono {k j : Nat} {n : Int} (h : fitsB k n) (hj : k ≤ j) : fitsB j n := by
  rw [fitsB_iff] at *
  have e : pw (k - 1) ≤ pw (j - 1) := by
    obtain ⟨d, hd⟩ : ∃ d, j - 1 = k - 1 + d := ⟨j - 1 - (k - 1), by omega⟩
    have : pw (j - 1) = pw (k - 1) * pw d := by rw [hd]; exact Int.pow_add _ _ _
    rw [this]
    have p1 := pw_pos (k - 1)
    have p2 := pw_pos d
    have := Int.mul_le_mul_of_nonneg_left (show 1 ≤ pw d by omega) (show 0 ≤ pw (k - 1) by omega)
    omega
  omega
theorem fits8 {n : Int} : fitsB 8 n ↔ I64 n := by
  rw [fitsB_iff]
  show -(128 * (256 : Int) ^ 7) ≤ n ∧ n < 128 * (256 : Int) ^ 7 ↔ _
  unfold I64
  omega
theorem sizeG_spec (n : Int) : ∀ (f k : Nat), k + f = 8 → (∀ j, 1 ≤ j → j < k → ¬ fitsB j n) → I64 n → k ≤ sizeG n f k ∧ sizeG n f k ≤ 8 ∧ fitsB (sizeG n f k) n ∧ ∀ j, 1 ≤ j → j < sizeG n f k → ¬ fitsB j n
  | 0, k, hk, hno, hi => by
    have : k = 8 := by omega
    subst this
    exact ⟨Nat.le_refl _, Nat.le_refl _, fits8.2 hi, hno⟩
  | f + 1, k, hk, hno, hi => by
    unfold sizeG
    by_cases c : fitsB k n
    · rw [if_pos c]
      exact ⟨Nat.le_refl _, by omega, c, hno⟩
    · rw [if_neg c]
      obtain ⟨h1, h2⟩ := sizeG_spec n f (k + 1) (by omega) (fun j j1 j2 => by
        rcases Nat.lt_or_ge j k with q | q
        · exact hno j j1 q
        · have : j = k := by omega
          subst this; exact c) hi
      exact ⟨by omega, h2⟩
theorem size_spec {n : Int} (h : n ≠ 0) (hi : I64 n) : 1 ≤ sizeZ n ∧ sizeZ n ≤ 8 ∧ fitsB (sizeZ n) n ∧ ∀ j, 1 ≤ j → j < sizeZ n → ¬ fitsB j n := by
  unfold sizeZ
  rw [if_neg h]
  exact sizeG_spec n 7 1 rfl (fun j j1 j2 => by omega) hi
theorem size_zero : sizeZ 0 = 0 := rfl
theorem size_le {n : Int} (hi : I64 n) : sizeZ n ≤ 8 := by
  by_cases c : n = 0
  · subst c; decide
  · exact (size_spec c hi).2.1
theorem size_of {n : Int} {k : Nat} (h : n ≠ 0) (hi : I64 n) (h1 : 1 ≤ k) (hf : fitsB k n) (hno : ∀ j, 1 ≤ j → j < k → ¬ fitsB j n) : sizeZ n = k := by
  obtain ⟨a, b, c, d⟩ := size_spec h hi
  rcases Nat.lt_trichotomy (sizeZ n) k with q | q | q
  · exact absurd c (hno _ a q)
  · exact q
  · exact absurd hf (d _ h1 q)
theorem enc_by {n : Int} (hi : I64 n) : By (encZ n) := fun x hx => by
  have := size_le hi
  rcases List.mem_cons.1 hx with rfl | hx
  · omega
  · exact bytes_by _ _ x hx
theorem enc_len (n : Int) : (encZ n).length = sizeZ n + 1 := by show (bytesB _ _).length + 1 = _; rw [bytes_len]
/-- What was written is read. -/
theorem dec_enc {n : Int} (hi : I64 n) (R : List Int) : decB (encZ n ++ R) = some (n, R) := by
  have h8 := size_le hi
  show (if (sizeZ n : Int) ≤ 8 ∧ (sizeZ n : Int) ≤ ((bytesB (sizeZ n) n ++ R).length : Int) then decC (sizeZ n : Int).toNat (bytesB (sizeZ n) n ++ R) else none) = _
  rw [if_pos ⟨by omega, by rw [List.length_append, bytes_len]; omega⟩, Int.toNat_natCast]
  have e1 : (bytesB (sizeZ n) n ++ R).take (sizeZ n) = bytesB (sizeZ n) n := by rw [List.take_append_of_le_length (by rw [bytes_len]; omega), List.take_of_length_le (by rw [bytes_len]; omega)]
  have e2 : (bytesB (sizeZ n) n ++ R).drop (sizeZ n) = R := by rw [List.drop_append_of_le_length (by rw [bytes_len]; omega), List.drop_of_length_le (by rw [bytes_len]; omega), List.nil_append]
  have e : numB (sizeZ n) (bytesB (sizeZ n) n ++ R) = n := by
    unfold numB
    rw [e1, val_bytes]
    by_cases c : n = 0
    · subst c; rfl
    · obtain ⟨a, _, f, _⟩ := size_spec c hi
      rw [if_neg (by omega), sx_fits a f]
  unfold decC
  rw [e, if_pos rfl, e2]
theorem numB_in {k : Nat} (hk : k ≤ 8) (R : List Int) : I64 (numB k R) := by
  unfold numB
  by_cases z : k = 0
  · rw [if_pos z]; constructor <;> decide
  · rw [if_neg z]
    exact fits8.1 (fits_mono (sx_in (by omega) _) hk)
theorem numB_bytes {k : Nat} {R : List Int} (hR : By R) (hk : k ≤ R.length) : bytesB k (numB k R) = R.take k := by
  by_cases z : k = 0
  · subst z; rfl
  · have hl : (R.take k).length = k := by rw [List.length_take]; omega
    have hby : By (R.take k) := fun x hx => hR x (List.mem_of_mem_take hx)
    have h1 := bytes_val hby
    rw [hl] at h1
    unfold numB
    rw [if_neg z, bytes_mod k _ (valB (R.take k)) (sx_mod _), h1]
/-- What is read was written. -/
theorem enc_dec {B R : List Int} {n : Int} (hB : By B) (h : decB B = some (n, R)) : B = encZ n ++ R ∧ I64 n := by
  cases B with
  | nil => cases h
  | cons c Q =>
    have h : (if c ≤ 8 ∧ c ≤ (Q.length : Int) then decC c.toNat Q else none) = some (n, R) := h
    by_cases hc : c ≤ 8 ∧ c ≤ (Q.length : Int)
    · rw [if_pos hc] at h
      have hc0 := hB c (by simp)
      obtain ⟨k, hk⟩ : ∃ k : Nat, c = k := ⟨c.toNat, by omega⟩
      subst hk
      rw [Int.toNat_natCast] at h
      unfold decC at h
      by_cases hs : sizeZ (numB k Q) = k
      · rw [if_pos hs] at h
        obtain ⟨hn, hR⟩ := Prod.mk.inj (Option.some.inj h)
        have hb := numB_bytes (k := k) (R := Q) (fun x hx => hB x (by simp [hx])) (by omega)
        have hi := numB_in (k := k) (by omega) Q
        rw [hn] at hs hb hi
        refine ⟨?_, hi⟩
        unfold encZ
        rw [hs, hb, ← hR]
        show _ = (k : Int) :: (Q.take k ++ Q.drop k)
        rw [List.take_append_drop]
      · rw [if_neg hs] at h; cases h
    · rw [if_neg hc] at h; cases h
/-- The document's way: it stops where the sign of what is there gives all that is left. -/
theorem stop_iff {n : Int} {j : Nat} (h : 1 ≤ j) : (n / pw j = 0 ∧ n / pw (j - 1) % 256 < 128 ∨ n / pw j = -1 ∧ 128 ≤ n / pw (j - 1) % 256) ↔ fitsB j n := by
  unfold fitsB
  have e : n / pw j = n / pw (j - 1) / 256 := by
    rw [pw_pred h, Int.mul_comm, Int.ediv_ediv_of_nonneg (by have := pw_pos (j - 1); omega)]
  rw [e]
  generalize n / pw (j - 1) = q
  omega
end Go.Ab
