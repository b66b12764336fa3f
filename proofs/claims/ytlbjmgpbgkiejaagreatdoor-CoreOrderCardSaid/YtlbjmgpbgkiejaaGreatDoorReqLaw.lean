/- Numbers in bytes: plain. -/
namespace Go.Ab
set_option maxRecDepth 10000

abbrev pw (k : Nat) : Int := (256 : Int) ^ k
theorem pw_pos (k : Nat) : 0 < pw k := Int.pow_pos (by decide)
theorem pw_succ (k : Nat) : pw (k + 1) = 256 * pw k := by show (256 : Int) ^ (k + 1) = _; rw [Int.pow_succ, Int.mul_comm]
/-- Does a number fit in so many bytes? (From 1 on.) -/
def fitsB (k : Nat) (n : Int) : Prop := -128 ≤ n / pw (k - 1) ∧ n / pw (k - 1) ≤ 127
instance (k : Nat) (n : Int) : Decidable (fitsB k n) := by unfold fitsB; infer_instance
theorem fitsB_iff (k : Nat) (n : Int) : fitsB k n ↔ -(128 * pw (k - 1)) ≤ n ∧ n < 128 * pw (k - 1) := by
  unfold fitsB
  have h := pw_pos (k - 1)
  rw [Int.le_ediv_iff_mul_le h, show n / pw (k - 1) ≤ 127 ↔ n / pw (k - 1) < 128 by omega, Int.ediv_lt_iff_lt_mul h, Int.neg_mul]
/-- The number that so many bytes tell by two's complement. -/
def sxB (k : Nat) (v : Int) : Int := (v + 128 * pw (k - 1)) % pw k - 128 * pw (k - 1)
def bytesB : Nat → Int → List Int
  | 0, _ => []
  | k + 1, n => n % 256 :: bytesB k (n / 256)
def valB : List Int → Int
  | [] => 0
  | b :: l => b + 256 * valB l
def sizeG (n : Int) : Nat → Nat → Nat
  | 0, k => k
  | f + 1, k => if fitsB k n then k else sizeG n f (k + 1)
def sizeZ (n : Int) : Nat := if n = 0 then 0 else sizeG n 7 1
def encZ (n : Int) : List Int := (sizeZ n : Int) :: bytesB (sizeZ n) n
/-- The number behind a first byte. -/
def numB (k : Nat) (R : List Int) : Int := if k = 0 then 0 else sxB k (valB (R.take k))
def decC (k : Nat) (R : List Int) : Option (Int × List Int) := if sizeZ (numB k R) = k then some (numB k R, R.drop k) else none
def decB : List Int → Option (Int × List Int)
  | [] => none
  | c :: R => if c ≤ 8 ∧ c ≤ (R.length : Int) then decC c.toNat R else none
abbrev By (L : List Int) : Prop := ∀ x ∈ L, 0 ≤ x ∧ x ≤ 255
abbrev I64 (n : Int) : Prop := -9223372036854775808 ≤ n ∧ n ≤ 9223372036854775807

theorem bytes_len : ∀ (k : Nat) (n : Int), (bytesB k n).length = k
  | 0, _ => rfl
  | k + 1, n => by show (bytesB k (n / 256)).length + 1 = _; rw [bytes_len k]
theorem bytes_by : ∀ (k : Nat) (n : Int), By (bytesB k n)
  | 0, _ => fun _ h => (List.not_mem_nil h).elim
  | k + 1, n => fun x h => by
    rcases List.mem_cons.1 h with rfl | h
    · omega
    · exact bytes_by k _ x h
theorem div_div (n : Int) (i : Nat) : n / 256 / pw i = n / pw (i + 1) := by
  rw [pw_succ, Int.ediv_ediv_of_nonneg (by decide)]
theorem bytes_get : ∀ (k : Nat) (n : Int) (i : Nat), i < k → (bytesB k n)[i]? = some (n / pw i % 256)
  | 0, _, _, h => absurd h (by omega)
  | k + 1, n, 0, _ => by show some (n % 256) = some (n / 1 % 256); rw [Int.ediv_one]
  | k + 1, n, i + 1, h => by
    show (bytesB k (n / 256))[i]? = _
    rw [bytes_get k (n / 256) i (by omega), div_div]
theorem bytes_snoc : ∀ (k : Nat) (n : Int), bytesB (k + 1) n = bytesB k n ++ [n / pw k % 256]
  | 0, n => by show [n % 256] = [n / 1 % 256]; rw [Int.ediv_one]
  | k + 1, n => by
    show n % 256 :: bytesB (k + 1) (n / 256) = n % 256 :: (bytesB k (n / 256) ++ [n / pw (k + 1) % 256])
    rw [bytes_snoc k (n / 256), div_div]
theorem mod_step (n m : Int) (hm : 0 < m) : n % (256 * m) = n % 256 + 256 * (n / 256 % m) := by
  have e1 := Int.mul_ediv_add_emod (n / 256) m
  have h1 := Int.emod_nonneg (n / 256) (by omega : m ≠ 0)
  have h2 := Int.emod_lt_of_pos (n / 256) hm
  have e2 : n = 256 * m * (n / 256 / m) + (n % 256 + 256 * (n / 256 % m)) := by
    rw [Int.mul_assoc]
    generalize n / 256 / m = q at *
    generalize n / 256 % m = r at *
    generalize hx : m * q = x at *
    omega
  generalize n / 256 % m = r at *
  generalize n / 256 / m = q at *
  generalize hs : n % 256 = s at *
  have hs0 : 0 ≤ s ∧ s < 256 := by omega
  rw [e2, Int.add_comm, Int.add_mul_emod_self_left]
  exact Int.emod_eq_of_lt (by omega) (by omega)
theorem val_bytes : ∀ (k : Nat) (n : Int), valB (bytesB k n) = n % pw k
  | 0, n => by show 0 = n % 1; omega
  | k + 1, n => by
    show n % 256 + 256 * valB (bytesB k (n / 256)) = _
    rw [val_bytes k, pw_succ, mod_step n _ (pw_pos k)]
theorem bytes_val : ∀ {L : List Int}, By L → bytesB L.length (valB L) = L
  | [], _ => rfl
  | b :: l, h => by
    have hb := h b (by simp)
    show (b + 256 * valB l) % 256 :: bytesB l.length ((b + 256 * valB l) / 256) = _
    rw [show (b + 256 * valB l) % 256 = b by omega, show (b + 256 * valB l) / 256 = valB l by omega, bytes_val fun x hx => h x (by simp [hx])]
theorem bytes_mod : ∀ (k : Nat) (n m : Int), n % pw k = m % pw k → bytesB k n = bytesB k m
  | 0, _, _, _ => rfl
  | k + 1, n, m, h => by
    rw [pw_succ, mod_step _ _ (pw_pos k), mod_step _ _ (pw_pos k)] at h
    show n % 256 :: bytesB k (n / 256) = m % 256 :: bytesB k (m / 256)
    rw [show n % 256 = m % 256 by omega, bytes_mod k (n / 256) (m / 256) (by omega)]
theorem val_in : ∀ {L : List Int}, By L → 0 ≤ valB L ∧ valB L < pw L.length
  | [], _ => by show (0 : Int) ≤ 0 ∧ (0 : Int) < 1; omega
  | b :: l, h => by
    have hb := h b (by simp)
    have ih := val_in (L := l) fun x hx => h x (by simp [hx])
    show 0 ≤ b + 256 * valB l ∧ b + 256 * valB l < pw (l.length + 1)
    rw [pw_succ]; omega
theorem pw_pred {k : Nat} (h : 1 ≤ k) : pw k = 256 * pw (k - 1) := by rw [← pw_succ]; congr 1; omega
theorem sx_fits {k : Nat} (h : 1 ≤ k) {n : Int} (hf : fitsB k n) : sxB k (n % pw k) = n := by
  have hf := (fitsB_iff k n).1 hf
  have hp := pw_pos (k - 1)
  have e := pw_pred h
  unfold sxB
  rw [Int.emod_add_emod, Int.emod_eq_of_lt (by omega) (by omega)]
  omega
theorem sx_in {k : Nat} (h : 1 ≤ k) (v : Int) : fitsB k (sxB k v) := by
  rw [fitsB_iff]
  have hp := pw_pos (k - 1)
  have e := pw_pred h
  unfold sxB
  have h1 := Int.emod_nonneg (v + 128 * pw (k - 1)) (show pw k ≠ 0 by omega)
  have h2 := Int.emod_lt_of_pos (v + 128 * pw (k - 1)) (show 0 < pw k by omega)
  omega
theorem sx_mod {k : Nat} (v : Int) : sxB k v % pw k = v % pw k := by
  unfold sxB
  rw [Int.sub_eq_add_neg, Int.emod_add_emod, Int.add_neg_cancel_right]
theorem fits_mono {k j : Nat} {n : Int} (h : fitsB k n) (hj : k ≤ j) : fitsB j n := by
  rw [fitsB_iff] at *
  have e : pw (k - 1) ≤ pw (j - 1) := by
    obtain ⟨d, hd⟩ : ∃ d, j - 1 = k - 1 + d := ⟨j - 1 - (k - 1), by omega⟩
    have : pw (j - 1) = pw (k - 1) * pw d := by rw [hd]; exact Int.pow_add _ _ _
    rw [this]
    have p1 := pw_pos (k - 1)
    have p2 := pw_pos d
    have := Int.mul_le_mul_of_nonneg_left (show 1 ≤ pw d by omega) (show 0 ≤ pw (k - 1) by omega)
    omega
  omega
theorem fits8 {n : Int} : fitsB 8 n ↔ I64 n := by
  rw [fitsB_iff]
  show -(128 * (256 : Int) ^ 7) ≤ n ∧ n < 128 * (256 : Int) ^ 7 ↔ _
  unfold I64
  omega
theorem sizeG_spec (n : Int) : ∀ (f k : Nat), k + f = 8 → (∀ j, 1 ≤ j → j < k → ¬ fitsB j n) → I64 n → k ≤ sizeG n f k ∧ sizeG n f k ≤ 8 ∧ fitsB (sizeG n f k) n ∧ ∀ j, 1 ≤ j → j < sizeG n f k → ¬ fitsB j n
  | 0, k, hk, hno, hi => by
    have : k = 8 := by omega
    subst this
    exact ⟨Nat.le_refl _, Nat.le_refl _, fits8.2 hi, hno⟩
  | f + 1, k, hk, hno, hi => by
    unfold sizeG
    by_cases c : fitsB k n
    · rw [if_pos c]
      exact ⟨Nat.le_refl _, by omega, c, hno⟩
    · rw [if_neg c]
      obtain ⟨h1, h2⟩ := sizeG_spec n f (k + 1) (by omega) (fun j j1 j2 => by
        rcases Nat.lt_or_ge j k with q | q
        · exact hno j j1 q
        · have : j = k := by omega
          subst this; exact c) hi
      exact ⟨by omega, h2⟩
theorem size_spec {n : Int} (h : n ≠ 0) (hi : I64 n) : 1 ≤ sizeZ n ∧ sizeZ n ≤ 8 ∧ fitsB (sizeZ n) n ∧ ∀ j, 1 ≤ j → j < sizeZ n → ¬ fitsB j n := by
  unfold sizeZ
  rw [if_neg h]
  exact sizeG_spec n 7 1 rfl (fun j j1 j2 => by omega) hi
theorem size_zero : sizeZ 0 = 0 := rfl
theorem size_le {n : Int} (hi : I64 n) : sizeZ n ≤ 8 := by
  by_cases c : n = 0
  · subst c; decide
  · exact (size_spec c hi).2.1
theorem size_of {n : Int} {k : Nat} (h : n ≠ 0) (hi : I64 n) (h1 : 1 ≤ k) (hf : fitsB k n) (hno : ∀ j, 1 ≤ j → j < k → ¬ fitsB j n) : sizeZ n = k := by
  obtain ⟨a, b, c, d⟩ := size_spec h hi
  rcases Nat.lt_trichotomy (sizeZ n) k with q | q | q
  · exact absurd c (hno _ a q)
  · exact q
  · exact absurd hf (d _ h1 q)
theorem enc_by {n : Int} (hi : I64 n) : By (encZ n) := fun x hx => by
  have := size_le hi
  rcases List.mem_cons.1 hx with rfl | hx
  · omega
  · exact bytes_by _ _ x hx
theorem enc_len (n : Int) : (encZ n).length = sizeZ n + 1 := by show (bytesB _ _).length + 1 = _; rw [bytes_len]
/-- What was written is read. -/
theorem dec_enc {n : Int} (hi : I64 n) (R : List Int) : decB (encZ n ++ R) = some (n, R) := by
  have h8 := size_le hi
  show (if (sizeZ n : Int) ≤ 8 ∧ (sizeZ n : Int) ≤ ((bytesB (sizeZ n) n ++ R).length : Int) then decC (sizeZ n : Int).toNat (bytesB (sizeZ n) n ++ R) else none) = _
  rw [if_pos ⟨by omega, by rw [List.length_append, bytes_len]; omega⟩, Int.toNat_natCast]
  have e1 : (bytesB (sizeZ n) n ++ R).take (sizeZ n) = bytesB (sizeZ n) n := by rw [List.take_append_of_le_length (by rw [bytes_len]; omega), List.take_of_length_le (by rw [bytes_len]; omega)]
  have e2 : (bytesB (sizeZ n) n ++ R).drop (sizeZ n) = R := by rw [List.drop_append_of_le_length (by rw [bytes_len]; omega), List.drop_of_length_le (by rw [bytes_len]; omega), List.nil_append]
  have e : numB (sizeZ n) (bytesB (sizeZ n) n ++ R) = n := by
    unfold numB
    rw [e1, val_bytes]
    by_cases c : n = 0
    · subst c; rfl
    · obtain ⟨a, _, f, _⟩ := size_spec c hi
      rw [if_neg (by omega), sx_fits a f]
  unfold decC
  rw [e, if_pos rfl, e2]
theorem numB_in {k : Nat} (hk : k ≤ 8) (R : List Int) : I64 (numB k R) := by
  unfold numB
  by_cases z : k = 0
  · rw [if_pos z]; constructor <;> decide
  · rw [if_neg z]
    exact fits8.1 (fits_mono (sx_in (by omega) _) hk)
theorem numB_bytes {k : Nat} {R : List Int} (hR : By R) (hk : k ≤ R.length) : bytesB k (numB k R) = R.take k := by
  by_cases z : k = 0
  · subst z; rfl
  · have hl : (R.take k).length = k := by rw [List.length_take]; omega
    have hby : By (R.take k) := fun x hx => hR x (List.mem_of_mem_take hx)
    have h1 := bytes_val hby
    rw [hl] at h1
    unfold numB
    rw [if_neg z, bytes_mod k _ (valB (R.take k)) (sx_mod _), h1]
/-- What is read was written. -/
theorem enc_dec {B R : List Int} {n : Int} (hB : By B) (h : decB B = some (n, R)) : B = encZ n ++ R ∧ I64 n := by
  cases B with
  | nil => cases h
  | cons c Q =>
    have h : (if c ≤ 8 ∧ c ≤ (Q.length : Int) then decC c.toNat Q else none) = some (n, R) := h
    by_cases hc : c ≤ 8 ∧ c ≤ (Q.length : Int)
    · rw [if_pos hc] at h
      have hc0 := hB c (by simp)
      obtain ⟨k, hk⟩ : ∃ k : Nat, c = k := ⟨c.toNat, by omega⟩
      subst hk
      rw [Int.toNat_natCast] at h
      unfold decC at h
      by_cases hs : sizeZ (numB k Q) = k
      · rw [if_pos hs] at h
        obtain ⟨hn, hR⟩ := Prod.mk.inj (Option.some.inj h)
        have hb := numB_bytes (k := k) (R := Q) (fun x hx => hB x (by simp [hx])) (by omega)
        have hi := numB_in (k := k) (by omega) Q
        rw [hn] at hs hb hi
        refine ⟨?_, hi⟩
        unfold encZ
        rw [hs, hb, ← hR]
        show _ = (k : Int) :: (Q.take k ++ Q.drop k)
        rw [List.take_append_drop]
      · rw [if_neg hs] at h; cases h
    · rw [if_neg hc] at h; cases h
/-- The document's way: it stops where the sign of what is there gives all that is left. -/
theorem stop_iff {n : Int} {j : Nat} (h : 1 ≤ j) : (n / pw j = 0 ∧ n / pw (j - 1) % 256 < 128 ∨ n / pw j = -1 ∧ 128 ≤ n / pw (j - 1) % 256) ↔ fitsB j n := by
  unfold fitsB
  have e : n / pw j = n / pw (j - 1) / 256 := by
    rw [pw_pred h, Int.mul_comm, Int.ediv_ediv_of_nonneg (by have := pw_pos (j - 1); omega)]
  rw [e]
  generalize n / pw (j - 1) = q
  omega
end Go.Ab
/- Operations as bytes: plain. -/
namespace Go.Ab
set_option maxRecDepth 10000

/-- An operation. -/
structure OpV where
  kind : Int
  col : List UInt8
  name : List UInt8
  id : Int
  dim : Int
  metric : Int
  index : Int
  vec : List Int
  pay : List UInt8
  k : Int
  draw : Int
def OpV.zero : OpV := ⟨0, [], [], 0, 0, 0, 0, [], [], 0, 0⟩
def eqV (a b : OpV) : Bool := decide (a.kind = b.kind) && decide (a.col = b.col) && decide (a.name = b.name) && decide (a.id = b.id) && decide (a.dim = b.dim) && decide (a.metric = b.metric) && decide (a.index = b.index) && decide (a.vec = b.vec) && decide (a.pay = b.pay) && decide (a.k = b.k) && decide (a.draw = b.draw)
theorem eqV_iff (a b : OpV) : eqV a b = true ↔ a = b := by
  cases a; cases b
  simp only [eqV, Bool.and_eq_true, decide_eq_true_eq, OpV.mk.injEq, and_assoc]
def bareV (o : OpV) : OpV :=
  if o.kind = 1 then { OpV.zero with kind := o.kind, dim := o.dim, metric := o.metric, index := o.index, col := o.col }
  else if o.kind = 6 then { OpV.zero with kind := o.kind, index := o.index, col := o.col }
  else if o.kind = 2 ∨ o.kind = 15 then { OpV.zero with kind := o.kind, col := o.col }
  else if o.kind = 3 then { OpV.zero with kind := o.kind, vec := o.vec, pay := o.pay, draw := o.draw, col := o.col, id := o.id }
  else if o.kind = 4 ∨ o.kind = 12 then { OpV.zero with kind := o.kind, col := o.col, id := o.id }
  else if o.kind = 5 then { OpV.zero with kind := o.kind, name := o.name, col := o.col }
  else if o.kind = 10 then { OpV.zero with kind := o.kind, draw := o.draw }
  else if o.kind = 13 then { OpV.zero with kind := o.kind, col := o.col, vec := o.vec, k := o.k }
  else { OpV.zero with kind := o.kind }
abbrev inM (n : Int) : Prop := 0 ≤ n ∧ n ≤ 1000000
/-- An operation that may be. -/
def MayV (o : OpV) : Prop := 1 ≤ o.kind ∧ o.kind ≤ 15 ∧ bareV o = o ∧ o.col.length ≤ 12 ∧ o.name.length ≤ 12 ∧ o.vec.length ≤ 8 ∧ o.pay.length ≤ 40 ∧ inM o.id ∧ inM o.dim ∧ inM o.metric ∧ inM o.index ∧ inM o.k
/-- What any operation's fields are. -/
structure WfV (o : OpV) : Prop where
  k0 : I64 o.kind
  id : I64 o.id
  dim : I64 o.dim
  metric : I64 o.metric
  index : I64 o.index
  k : I64 o.k
  draw : 0 ≤ o.draw ∧ o.draw ≤ 4294967295
  vec : ∀ x ∈ o.vec, -2147483648 ≤ x ∧ x ≤ 2147483647

/-! Texts. -/
def unT (s : List UInt8) : List Int := s.map fun b => (b.toNat : Int)
def toT (L : List Int) : List UInt8 := L.map fun x => UInt8.ofNat x.toNat
theorem toT_unT (s : List UInt8) : toT (unT s) = s := by
  unfold toT unT
  rw [List.map_map]
  refine (List.map_congr_left fun b _ => ?_).trans (List.map_id s)
  show UInt8.ofNat ((b.toNat : Int)).toNat = id b
  rw [Int.toNat_natCast]; exact UInt8.ofNat_toNat
theorem unT_toT {L : List Int} (h : By L) : unT (toT L) = L := by
  unfold toT unT
  rw [List.map_map]
  refine (List.map_congr_left fun x hx => ?_).trans (List.map_id L)
  have hb := h x hx
  show ((UInt8.ofNat x.toNat).toNat : Int) = id x
  rw [UInt8.toNat_ofNat']
  show (((x.toNat) % 256 : Nat) : Int) = x
  omega
theorem unT_len (s : List UInt8) : (unT s).length = s.length := by simp [unT]
theorem toT_len (L : List Int) : (toT L).length = L.length := by simp [toT]
theorem unT_by (s : List UInt8) : By (unT s) := fun x hx => by
  obtain ⟨b, _, rfl⟩ := List.mem_map.1 hx
  have := b.toNat_lt
  omega
def encT (s : List UInt8) : List Int := encZ s.length ++ unT s
def encN (V : List Int) : List Int := encZ V.length ++ V.flatMap encZ
def fieldsV (o : OpV) : List Int :=
  if o.kind = 1 then encZ o.dim ++ encZ o.metric ++ encZ o.index
  else if o.kind = 6 then encZ o.index
  else if o.kind = 4 ∨ o.kind = 12 then encZ o.id
  else if o.kind = 3 then encZ o.id ++ encN o.vec ++ encT o.pay ++ encZ o.draw
  else if o.kind = 13 then encN o.vec ++ encZ o.k
  else []
def restV (o : OpV) : List Int :=
  if o.kind = 5 then encT o.name ++ encT o.col
  else if o.kind = 10 then encZ o.draw
  else if o.kind = 7 ∨ o.kind = 8 ∨ o.kind = 9 ∨ o.kind = 11 ∨ o.kind = 14 then []
  else encT o.col ++ fieldsV o
def opText (o : OpV) : List Int := encZ o.kind ++ restV o

/-! Read. -/
def pNum (m : Int) (B : List Int) : Option (Int × List Int) := (decB B).bind fun p => if 0 ≤ p.1 ∧ p.1 ≤ m then some p else none
def pText (m : Int) (B : List Int) : Option (List UInt8 × List Int) := (decB B).bind fun p => if 0 ≤ p.1 ∧ p.1 ≤ m ∧ p.1 ≤ (p.2.length : Int) then some (toT (p.2.take p.1.toNat), p.2.drop p.1.toNat) else none
def pInts : Nat → List Int → Option (List Int × List Int)
  | 0, B => some ([], B)
  | n + 1, B => (pInts n B).bind fun p => (decB p.2).bind fun q => some (p.1 ++ [q.1], q.2)
def pVec (B : List Int) : Option (List Int × List Int) := (decB B).bind fun p => if 0 ≤ p.1 ∧ p.1 ≤ 8 then (pInts p.1.toNat p.2).bind fun q => if ∀ x ∈ q.1, -2147483648 ≤ x ∧ x ≤ 2147483647 then some q else none else none
abbrev pM : List Int → Option (Int × List Int) := pNum 1000000
abbrev pD : List Int → Option (Int × List Int) := pNum 4294967295
/-- What comes behind Col. -/
def pFields (o : OpV) (B : List Int) : Option (OpV × List Int) :=
  if o.kind = 1 then (pM B).bind fun a => (pM a.2).bind fun b => (pM b.2).bind fun c => some ({ o with dim := a.1, metric := b.1, index := c.1 }, c.2)
  else if o.kind = 6 then (pM B).bind fun a => some ({ o with index := a.1 }, a.2)
  else if o.kind = 4 ∨ o.kind = 12 then (pM B).bind fun a => some ({ o with id := a.1 }, a.2)
  else if o.kind = 3 then (pM B).bind fun a => (pVec a.2).bind fun b => (pText 40 b.2).bind fun c => (pD c.2).bind fun d => some ({ o with id := a.1, vec := b.1, pay := c.1, draw := d.1 }, d.2)
  else if o.kind = 13 then (pVec B).bind fun a => (pM a.2).bind fun b => some ({ o with vec := a.1, k := b.1 }, b.2)
  else some (o, B)
def pRest (o : OpV) (B : List Int) : Option (OpV × List Int) :=
  if o.kind = 5 then (pText 12 B).bind fun a => (pText 12 a.2).bind fun b => some ({ o with name := a.1, col := b.1 }, b.2)
  else if o.kind = 10 then (pD B).bind fun a => some ({ o with draw := a.1 }, a.2)
  else if o.kind = 7 ∨ o.kind = 8 ∨ o.kind = 9 ∨ o.kind = 11 ∨ o.kind = 14 then some (o, B)
  else (pText 12 B).bind fun a => pFields { o with col := a.1 } a.2
def pOp (B : List Int) : Option (OpV × List Int) := (decB B).bind fun p => if 1 ≤ p.1 ∧ p.1 ≤ 15 then pRest { OpV.zero with kind := p.1 } p.2 else none

/-! What was written is read. -/
theorem pNum_enc {m n : Int} (h : 0 ≤ n ∧ n ≤ m) (hi : I64 n) (R : List Int) : pNum m (encZ n ++ R) = some (n, R) := by
  unfold pNum
  rw [dec_enc hi, Option.bind_some, if_pos h]
theorem pText_enc {m : Int} {s : List UInt8} (h : (s.length : Int) ≤ m) (hm : m ≤ 1000) (R : List Int) : pText m (encT s ++ R) = some (s, R) := by
  unfold pText encT
  rw [List.append_assoc, dec_enc ⟨by omega, by omega⟩, Option.bind_some, if_pos ⟨by simp, h, by show (s.length : Int) ≤ ((unT s ++ R).length : Int); rw [List.length_append, unT_len]; omega⟩]
  simp only [Int.toNat_natCast]
  rw [List.take_append_of_le_length (by rw [unT_len]; omega), List.take_of_length_le (by rw [unT_len]; omega), toT_unT, List.drop_append_of_le_length (by rw [unT_len]; omega), List.drop_of_length_le (by rw [unT_len]; omega), List.nil_append]
theorem pInts_enc {V : List Int} (hV : ∀ x ∈ V, I64 x) (R : List Int) : ∀ j, j ≤ V.length → pInts j (V.flatMap encZ ++ R) = some (V.take j, (V.drop j).flatMap encZ ++ R)
  | 0, _ => by simp [pInts]
  | j + 1, h => by
    have ih := pInts_enc hV R j (by omega)
    have hj : j < V.length := by omega
    have e : (V.drop j).flatMap encZ ++ R = encZ V[j] ++ ((V.drop (j + 1)).flatMap encZ ++ R) := by
      rw [List.drop_eq_getElem_cons hj, List.flatMap_cons, List.append_assoc]
    have d := dec_enc (hV _ (List.getElem_mem hj)) ((V.drop (j + 1)).flatMap encZ ++ R)
    rw [← e] at d
    show (pInts j (V.flatMap encZ ++ R)).bind _ = _
    rw [ih, Option.bind_some]
    show (decB ((V.drop j).flatMap encZ ++ R)).bind _ = _
    rw [d, Option.bind_some, List.take_succ_eq_append_getElem hj]
theorem pVec_enc {V : List Int} (hV : ∀ x ∈ V, -2147483648 ≤ x ∧ x ≤ 2147483647) (hl : V.length ≤ 8) (R : List Int) : pVec (encN V ++ R) = some (V, R) := by
  unfold pVec encN
  rw [List.append_assoc, dec_enc ⟨by omega, by omega⟩, Option.bind_some, if_pos ⟨by simp, by simp; omega⟩]
  have e := pInts_enc (fun x hx => by have := hV x hx; exact ⟨by omega, by omega⟩) R V.length (Nat.le_refl _)
  rw [List.take_length, List.drop_length] at e
  simp only [Int.toNat_natCast]
  rw [e, Option.bind_some, if_pos hV]
  simp
theorem i64_M {n : Int} (h : inM n) : I64 n := ⟨by omega, by omega⟩
theorem kind_cases {n : Int} (h1 : 1 ≤ n) (h2 : n ≤ 15) : n = 1 ∨ n = 2 ∨ n = 3 ∨ n = 4 ∨ n = 5 ∨ n = 6 ∨ n = 7 ∨ n = 8 ∨ n = 9 ∨ n = 10 ∨ n = 11 ∨ n = 12 ∨ n = 13 ∨ n = 14 ∨ n = 15 := by omega
theorem pOp_text {o : OpV} (h : MayV o) (w : WfV o) (R : List Int) : pOp (opText o ++ R) = some (o, R) := by
  obtain ⟨h1, h2, hb, hc, hn, hv, hp, m1, m2, m3, m4, m5⟩ := h
  have w1 := w.draw
  have w2 := w.vec
  clear w
  obtain ⟨kind, col, name, id, dim, metric, index, vec, pay, k, draw⟩ := o
  simp only at *
  have tc := fun R => pText_enc (m := 12) (s := col) (by omega) (by decide) R
  have tn := fun R => pText_enc (m := 12) (s := name) (by omega) (by decide) R
  have tp := fun R => pText_enc (m := 40) (s := pay) (by omega) (by decide) R
  have tv := fun R => pVec_enc w2 hv R
  have n1 := fun R => pNum_enc m1 (i64_M m1) R
  have n2 := fun R => pNum_enc m2 (i64_M m2) R
  have n3 := fun R => pNum_enc m3 (i64_M m3) R
  have n4 := fun R => pNum_enc m4 (i64_M m4) R
  have n5 := fun R => pNum_enc m5 (i64_M m5) R
  have n6 := fun R => pNum_enc w1 ⟨by omega, by omega⟩ R
  unfold pOp opText
  simp only [List.append_assoc]
  rw [dec_enc ⟨by omega, by omega⟩, Option.bind_some, if_pos ⟨h1, h2⟩]
  rcases kind_cases h1 h2 with rfl | rfl | rfl | rfl | rfl | rfl | rfl | rfl | rfl | rfl | rfl | rfl | rfl | rfl | rfl <;>
    simp [bareV, OpV.zero, eq_comm (a := (0 : Int))] at hb <;>
    simp [pRest, restV, fieldsV, pFields, OpV.zero, tc, tn, tp, tv, n1, n2, n3, n4, n5, n6, List.append_assoc, hb]

/-! What is read was written. -/
theorem bind_some' {α β : Type} {x : Option α} {f : α → Option β} {b : β} (h : x.bind f = some b) : ∃ a, x = some a ∧ f a = some b := Option.bind_eq_some_iff.1 h
theorem enc_pNum {m n : Int} {B R : List Int} (hB : By B) (h : pNum m B = some (n, R)) : B = encZ n ++ R ∧ (0 ≤ n ∧ n ≤ m) ∧ By R := by
  obtain ⟨p, h1, h2⟩ := bind_some' h
  obtain ⟨a, Q⟩ := p
  split at h2
  · rename_i c
    cases h2
    obtain ⟨e, _⟩ := enc_dec hB h1
    exact ⟨e, c, fun x hx => hB x (by rw [e]; simp [hx])⟩
  · cases h2
theorem enc_pText {m : Int} {s : List UInt8} {B R : List Int} (hB : By B) (h : pText m B = some (s, R)) : B = encT s ++ R ∧ (s.length : Int) ≤ m ∧ By R := by
  obtain ⟨p, h1, h2⟩ := bind_some' h
  obtain ⟨a, Q⟩ := p
  obtain ⟨e, _⟩ := enc_dec hB h1
  have hQ : By Q := fun x hx => hB x (by rw [e]; simp [hx])
  split at h2
  · rename_i c
    simp only [Option.some.injEq, Prod.mk.injEq] at h2 c
    obtain ⟨rfl, rfl⟩ := h2
    have hl : (toT (Q.take a.toNat)).length = a.toNat := by rw [toT_len, List.length_take]; omega
    refine ⟨?_, by rw [hl]; omega, fun x hx => hQ x (List.mem_of_mem_drop hx)⟩
    unfold encT
    rw [hl, Int.toNat_of_nonneg c.1, unT_toT fun x hx => hQ x (List.mem_of_mem_take hx), List.append_assoc, List.take_append_drop]
    exact e
  · cases h2
theorem enc_pInts {B : List Int} (hB : By B) : ∀ (k : Nat) (V R : List Int), pInts k B = some (V, R) → B = V.flatMap encZ ++ R ∧ By R ∧ V.length = k
  | 0, V, R, h => by cases h; exact ⟨by simp, hB, rfl⟩
  | k + 1, V, R, h => by
    obtain ⟨p, h1, h2⟩ := bind_some' h
    obtain ⟨q, h3, h4⟩ := bind_some' h2
    obtain ⟨e1, e2, e3⟩ := enc_pInts hB k p.1 p.2 h1
    obtain ⟨n, Q⟩ := q
    cases h4
    obtain ⟨e4, _⟩ := enc_dec e2 h3
    refine ⟨?_, fun x hx => e2 x (by rw [e4]; simp [hx]), by simp [e3]⟩
    rw [List.flatMap_append, List.append_assoc]
    simp only [List.flatMap_cons, List.flatMap_nil, List.append_nil]
    rw [← e4]; exact e1
theorem enc_pVec {V B R : List Int} (hB : By B) (h : pVec B = some (V, R)) : B = encN V ++ R ∧ (V.length ≤ 8 ∧ ∀ x ∈ V, -2147483648 ≤ x ∧ x ≤ 2147483647) ∧ By R := by
  obtain ⟨p, h1, h2⟩ := bind_some' h
  obtain ⟨a, Q⟩ := p
  obtain ⟨e, _⟩ := enc_dec hB h1
  have hQ : By Q := fun x hx => hB x (by rw [e]; simp [hx])
  split at h2
  · rename_i c
    obtain ⟨q, h3, h4⟩ := bind_some' h2
    split at h4
    · rename_i c2
      cases h4
      obtain ⟨e1, e2, e3⟩ := enc_pInts hQ _ _ _ h3
      simp only at c e1
      refine ⟨?_, ⟨by omega, c2⟩, e2⟩
      unfold encN
      rw [e3, Int.toNat_of_nonneg c.1, List.append_assoc, ← e1]
      exact e
    · cases h4
  · cases h2
theorem wf_zero (n : Int) (h1 : 1 ≤ n) (h2 : n ≤ 15) : WfV { OpV.zero with kind := n } := by
  have z : I64 0 := by constructor <;> decide
  exact ⟨⟨by simp only []; omega, by simp only []; omega⟩, z, z, z, z, z, by simp [OpV.zero], fun x hx => (List.not_mem_nil hx).elim⟩
theorem pOp_some {B R : List Int} {o : OpV} (hB : By B) (h : pOp B = some (o, R)) : B = opText o ++ R ∧ MayV o ∧ WfV o := by
  obtain ⟨p, h1, h2⟩ := bind_some' h
  obtain ⟨n, Q⟩ := p
  obtain ⟨e, _⟩ := enc_dec hB h1
  have hQ : By Q := fun x hx => hB x (by rw [e]; simp [hx])
  split at h2
  case isFalse => cases h2
  rename_i c
  obtain ⟨c1, c2⟩ := c
  simp only at c1 c2 h2
  have wz := wf_zero n c1 c2
  suffices key : Q = restV o ++ R ∧ o.kind = n ∧ bareV o = o ∧ o.col.length ≤ 12 ∧ o.name.length ≤ 12 ∧ o.vec.length ≤ 8 ∧ o.pay.length ≤ 40 ∧ inM o.id ∧ inM o.dim ∧ inM o.metric ∧ inM o.index ∧ inM o.k ∧ (0 ≤ o.draw ∧ o.draw ≤ 4294967295) ∧ (∀ x ∈ o.vec, -2147483648 ≤ x ∧ x ≤ 2147483647) by
    obtain ⟨q0, q1, q2, q3, q4, q5, q6, q7, q8, q9, q10, q11, q12, q13⟩ := key
    refine ⟨?_, ⟨by omega, by omega, q2, q3, q4, q5, q6, q7, q8, q9, q10, q11⟩, ⟨⟨by omega, by omega⟩, i64_M q7, i64_M q8, i64_M q9, i64_M q10, i64_M q11, q12, q13⟩⟩
    unfold opText
    rw [q1, List.append_assoc, ← q0]; exact e
  clear e h1 hB h wz
  have z : inM 0 := by constructor <;> decide
  have z2 : (0 : Int) ≤ 4294967295 := by decide
  rcases kind_cases c1 c2 with rfl | rfl | rfl | rfl | rfl | rfl | rfl | rfl | rfl | rfl | rfl | rfl | rfl | rfl | rfl
  · simp [pRest, pFields, OpV.zero, Option.bind_eq_some_iff] at h2
    obtain ⟨a, A, p1, b, B, p2, d, D, p3, f, p4, rfl⟩ := h2
    obtain ⟨e1, f1, g1⟩ := enc_pText hQ p1
    obtain ⟨e2, f2, g2⟩ := enc_pNum g1 p2
    obtain ⟨e3, f3, g3⟩ := enc_pNum g2 p3
    obtain ⟨e4, f4, g4⟩ := enc_pNum g3 p4
    refine ⟨by rw [e1, e2, e3, e4]; simp [restV, fieldsV], rfl, by simp [bareV, OpV.zero], by simp only []; omega, by simp, by simp, by simp, z, f2, f3, f4, z, ⟨Int.le_refl _, z2⟩, by simp⟩
  · simp [pRest, pFields, OpV.zero, Option.bind_eq_some_iff] at h2
    obtain ⟨a, p1, rfl⟩ := h2
    obtain ⟨e1, f1, g1⟩ := enc_pText hQ p1
    refine ⟨by rw [e1]; simp [restV, fieldsV], rfl, by simp [bareV, OpV.zero], by simp only []; omega, by simp, by simp, by simp, z, z, z, z, z, ⟨Int.le_refl _, z2⟩, by simp⟩
  · simp [pRest, pFields, OpV.zero, Option.bind_eq_some_iff] at h2
    obtain ⟨a, A, p1, b, B, p2, d, D, p3, f, F, p4, k, p5, rfl⟩ := h2
    obtain ⟨e1, f1, g1⟩ := enc_pText hQ p1
    obtain ⟨e2, f2, g2⟩ := enc_pNum g1 p2
    obtain ⟨e3, f3, g3⟩ := enc_pVec g2 p3
    obtain ⟨e4, f4, g4⟩ := enc_pText g3 p4
    obtain ⟨e5, f5, g5⟩ := enc_pNum g4 p5
    refine ⟨by rw [e1, e2, e3, e4, e5]; simp [restV, fieldsV], rfl, by simp [bareV, OpV.zero], by simp only []; omega, by simp, f3.1, by simp only []; omega, f2, z, z, z, z, f5, f3.2⟩
  · simp [pRest, pFields, OpV.zero, Option.bind_eq_some_iff] at h2
    obtain ⟨a, A, p1, b, p2, rfl⟩ := h2
    obtain ⟨e1, f1, g1⟩ := enc_pText hQ p1
    obtain ⟨e2, f2, g2⟩ := enc_pNum g1 p2
    refine ⟨by rw [e1, e2]; simp [restV, fieldsV], rfl, by simp [bareV, OpV.zero], by simp only []; omega, by simp, by simp, by simp, f2, z, z, z, z, ⟨Int.le_refl _, z2⟩, by simp⟩
  · simp [pRest, OpV.zero, Option.bind_eq_some_iff] at h2
    obtain ⟨a, A, p1, b, p2, rfl⟩ := h2
    obtain ⟨e1, f1, g1⟩ := enc_pText hQ p1
    obtain ⟨e2, f2, g2⟩ := enc_pText g1 p2
    refine ⟨by rw [e1, e2]; simp [restV], rfl, by simp [bareV, OpV.zero], by simp only []; omega, by simp only []; omega, by simp, by simp, z, z, z, z, z, ⟨Int.le_refl _, z2⟩, by simp⟩
  · simp [pRest, pFields, OpV.zero, Option.bind_eq_some_iff] at h2
    obtain ⟨a, A, p1, b, p2, rfl⟩ := h2
    obtain ⟨e1, f1, g1⟩ := enc_pText hQ p1
    obtain ⟨e2, f2, g2⟩ := enc_pNum g1 p2
    refine ⟨by rw [e1, e2]; simp [restV, fieldsV], rfl, by simp [bareV, OpV.zero], by simp only []; omega, by simp, by simp, by simp, z, z, z, f2, z, ⟨Int.le_refl _, z2⟩, by simp⟩
  · simp [pRest, OpV.zero ] at h2
    obtain ⟨rfl, rfl⟩ := h2
    exact ⟨by simp [restV], rfl, by simp [bareV, OpV.zero], by simp, by simp, by simp, by simp, z, z, z, z, z, ⟨Int.le_refl _, z2⟩, by simp⟩
  · simp [pRest, OpV.zero ] at h2
    obtain ⟨rfl, rfl⟩ := h2
    exact ⟨by simp [restV], rfl, by simp [bareV, OpV.zero], by simp, by simp, by simp, by simp, z, z, z, z, z, ⟨Int.le_refl _, z2⟩, by simp⟩
  · simp [pRest, OpV.zero ] at h2
    obtain ⟨rfl, rfl⟩ := h2
    exact ⟨by simp [restV], rfl, by simp [bareV, OpV.zero], by simp, by simp, by simp, by simp, z, z, z, z, z, ⟨Int.le_refl _, z2⟩, by simp⟩
  · simp [pRest, OpV.zero, Option.bind_eq_some_iff] at h2
    obtain ⟨a, p1, rfl⟩ := h2
    obtain ⟨e1, f1, g1⟩ := enc_pNum hQ p1
    refine ⟨by rw [e1]; simp [restV], rfl, by simp [bareV, OpV.zero], by simp, by simp, by simp, by simp, z, z, z, z, z, f1, by simp⟩
  · simp [pRest, OpV.zero ] at h2
    obtain ⟨rfl, rfl⟩ := h2
    exact ⟨by simp [restV], rfl, by simp [bareV, OpV.zero], by simp, by simp, by simp, by simp, z, z, z, z, z, ⟨Int.le_refl _, z2⟩, by simp⟩
  · simp [pRest, pFields, OpV.zero, Option.bind_eq_some_iff] at h2
    obtain ⟨a, A, p1, b, p2, rfl⟩ := h2
    obtain ⟨e1, f1, g1⟩ := enc_pText hQ p1
    obtain ⟨e2, f2, g2⟩ := enc_pNum g1 p2
    refine ⟨by rw [e1, e2]; simp [restV, fieldsV], rfl, by simp [bareV, OpV.zero], by simp only []; omega, by simp, by simp, by simp, f2, z, z, z, z, ⟨Int.le_refl _, z2⟩, by simp⟩
  · simp [pRest, pFields, OpV.zero, Option.bind_eq_some_iff] at h2
    obtain ⟨a, A, p1, b, B, p2, d, p3, rfl⟩ := h2
    obtain ⟨e1, f1, g1⟩ := enc_pText hQ p1
    obtain ⟨e2, f2, g2⟩ := enc_pVec g1 p2
    obtain ⟨e3, f3, g3⟩ := enc_pNum g2 p3
    refine ⟨by rw [e1, e2, e3]; simp [restV, fieldsV], rfl, by simp [bareV, OpV.zero], by simp only []; omega, by simp, f2.1, by simp, z, z, z, z, f3, ⟨Int.le_refl _, z2⟩, f2.2⟩
  · simp [pRest, OpV.zero ] at h2
    obtain ⟨rfl, rfl⟩ := h2
    exact ⟨by simp [restV], rfl, by simp [bareV, OpV.zero], by simp, by simp, by simp, by simp, z, z, z, z, z, ⟨Int.le_refl _, z2⟩, by simp⟩
  · simp [pRest, pFields, OpV.zero, Option.bind_eq_some_iff] at h2
    obtain ⟨a, p1, rfl⟩ := h2
    obtain ⟨e1, f1, g1⟩ := enc_pText hQ p1
    refine ⟨by rw [e1]; simp [restV, fieldsV], rfl, by simp [bareV, OpV.zero], by simp only []; omega, by simp, by simp, by simp, z, z, z, z, z, ⟨Int.le_refl _, z2⟩, by simp⟩

/-! The laws. -/
theorem text_inj {a b : OpV} (ha : MayV a) (wa : WfV a) (hb : MayV b) (wb : WfV b) (h : opText a = opText b) : a = b := by
  have h1 := pOp_text ha wa []
  have h2 := pOp_text hb wb []
  rw [h, h2] at h1
  exact (Prod.mk.inj (Option.some.inj h1)).1.symm
/-- A text that was cut off is none. -/
theorem pOp_cut {o p : OpV} {x R : List Int} (ho : MayV o) (wo : WfV o) (hx : By x) (hp : pOp x = some (p, [])) (e : opText o = x ++ R) : R = [] := by
  obtain ⟨e1, hm, hw⟩ := pOp_some hx hp
  rw [List.append_nil] at e1
  have h1 := pOp_text ho wo []
  rw [List.append_nil, e, e1, pOp_text hm hw] at h1
  exact (Prod.mk.inj (Option.some.inj h1)).2
end Go.Ab
