/- bin: readers; a vector is read. -/
import Derived.Test.YtcehnjmpllhieaaGreatDoorBinW
namespace Go.Ab
noncomputable section
open Go.Proofs
set_option maxRecDepth 10000
variable {H H' : AH}

/-! Bytes put together. -/
theorem pw_nat (i : Nat) : pw i = ((2 ^ (8 * i) : Nat) : Int) := by rw [← pw2]; norm_cast
theorem or_add {a b : Int} {i : Nat} (ha : 0 ≤ a ∧ a < pw i) (hb : 0 ≤ b ∧ b ≤ 255) (hi : i ≤ 7) : w_int .or H (.int .i64 a) (.int .i64 (IntKind.i64.wrap (b * pw i))) = some (.val (.int .i64 (IntKind.i64.wrap (a + b * pw i))) H) := by
  rw [w_int_of rfl]
  have h7 : pw i ≤ 72057594037927936 := by
    have : i = 0 ∨ i = 1 ∨ i = 2 ∨ i = 3 ∨ i = 4 ∨ i = 5 ∨ i = 6 ∨ i = 7 := by omega
    rcases this with rfl | rfl | rfl | rfl | rfl | rfl | rfl | rfl <;> decide
  have hp := pw_pos i
  have hb2 : 0 ≤ b * pw i ∧ b * pw i ≤ 255 * 72057594037927936 := ⟨Int.mul_nonneg hb.1 (by omega), Int.mul_le_mul hb.2 h7 (by omega) (by decide)⟩
  obtain ⟨A, rfl⟩ : ∃ A : Nat, a = A := ⟨a.toNat, by omega⟩
  obtain ⟨B, rfl⟩ : ∃ B : Nat, b = B := ⟨b.toNat, by omega⟩
  have e : ((BitVec.ofInt 64 (A : Int) ||| BitVec.ofInt 64 (IntKind.i64.wrap ((B : Int) * pw i))).toNat : Int) = (A : Int) + (B : Int) * pw i := by
    rw [BitVec.toNat_or, BitVec.toNat_ofInt, BitVec.toNat_ofInt]
    have e1 : ((A : Int) % ((2 ^ 64 : Nat) : Int)).toNat = A := by
      rw [Int.emod_eq_of_lt (by omega) (by show (A : Int) < 18446744073709551616; omega), Int.toNat_natCast]
    have e2 : (IntKind.i64.wrap ((B : Int) * pw i) % ((2 ^ 64 : Nat) : Int)).toNat = B * 2 ^ (8 * i) := by
      have : IntKind.i64.wrap ((B : Int) * pw i) % ((2 ^ 64 : Nat) : Int) = (B : Int) * pw i := by
        rw [wrap64_eq]
        generalize (B : Int) * pw i = x at *
        show ((x + 9223372036854775808) % 18446744073709551616 - 9223372036854775808) % 18446744073709551616 = x
        omega
      rw [this, pw_nat]
      norm_cast
    rw [e1, e2, Nat.or_comm]
    have hA : A < 2 ^ (8 * i) := by have := ha.2; rw [pw_nat] at this; exact_mod_cast this
    have := Nat.two_pow_add_eq_or_of_lt hA B
    rw [Nat.mul_comm B, ← this, pw_nat, Int.natCast_add, Int.natCast_mul, Int.mul_comm, Int.add_comm]
  show vO H (some (.int .i64 (IntKind.i64.wrap ((BitVec.ofInt 64 (A : Int) ||| BitVec.ofInt 64 (IntKind.i64.wrap ((B : Int) * pw i))).toNat : Int)))) = _
  rw [e, vO_some]

/-! Readers. -/
structure Rx (H0 H : AH) (rp : Nat) (B : List Int) (bad : Bool) : Prop where
  ext : Ext [] H0 H
  lo : H0.next ≤ rp
  lt : rp < H.next
  by_ : By B
  ex : ∃ Bb s, H.get rp = some (.cells 194 [s, .bool bad]) ∧ Is .u8 H Bb s B ∧ (B = [] ∨ Bb < rp)
theorem Rx.mono {H0 : AH} {rp : Nat} {B : List Int} {bad : Bool} (h : Rx H0 H rp B bad) {m : List Nat} (e : Ext m H H') (hr : rp ∉ m) (hm : ∀ b ∈ m, H0.next ≤ b) (hs : ∀ Bb s, H.get rp = some (.cells 194 [s, .bool bad]) → Is .u8 H Bb s B → Bb ∈ m → B = []) : Rx H0 H' rp B bad := by
  obtain ⟨Bb, s, a1, a2, a3⟩ := h.ex
  refine ⟨((h.ext.mono (m' := m) (by simp)).trans e).mono fun b hb hlt => by have := hm b hb; omega, h.lo, Nat.lt_of_lt_of_le h.lt e.next, h.by_, Bb, s, e.get h.lt hr a1, Sl.mono' a2 e fun q => by rw [hs Bb s a1 a2 q]; rfl, a3⟩
theorem Rx.mono0 {H0 : AH} {rp : Nat} {B : List Int} {bad : Bool} (h : Rx H0 H rp B bad) (e : Ext [] H H') : Rx H0 H' rp B bad := h.mono e (by simp) (by simp) (by simp)
theorem Rx.hi {H0 : AH} {rp : Nat} {B : List Int} {bad : Bool} (h : Rx H0 H rp B bad) {m : List Nat} (e : Ext m H H') (hm : ∀ b ∈ m, rp < b) : Rx H0 H' rp B bad := by
  obtain ⟨Bb, s, a1, a2, a3⟩ := h.ex
  have hlo := h.lo
  refine ⟨((h.ext.mono (m' := m) (by simp)).trans e).mono fun b hb hlt => by have := hm b hb; omega, h.lo, Nat.lt_of_lt_of_le h.lt e.next, h.by_, Bb, s, e.get h.lt (fun q => by have := hm _ q; omega) a1, Sl.mono' a2 e fun q => ?_, a3⟩
  rcases a3 with r | r
  · rw [r]; rfl
  · have := hm _ q; omega
theorem eq_rd (b o : Nat) : w_eq PP .eql 97 false true H (.ptr (some (b, o))) (.ptr none) = some (.val (.bool false) H) := by kernel_rfl
theorem Rx.ld {H0 : AH} {rp : Nat} {B : List Int} {bad : Bool} (h : Rx H0 H rp B bad) : ∃ Bb s, ldV (H.get rp) 0 = some s ∧ ldV (H.get rp) 1 = some (.bool bad) ∧ H.get rp = some (.cells 194 [s, .bool bad]) ∧ Is .u8 H Bb s B ∧ (B = [] ∨ Bb < rp) := by
  obtain ⟨Bb, s, a1, a2, a3⟩ := h.ex
  refine ⟨Bb, s, ?_, ?_, a1, a2, a3⟩
  · rw [a1, ldV_cells, show ([s, .bool bad] : List AV)[0]? = some s from rfl, ob_some, (Sl.facts a2).2.1]
  · rw [a1]; rfl
theorem err_wp {H0 : AH} {rp : Nat} {B : List Int} {bad : Bool} (h : Rx H0 H rp B bad) (K : AV → AH → Prop) (hK : K (.int .i64 (if bad then 1 else 0)) H) : CC.call 56 [.ptr (some (rp, 0))] H K := by
  refine m_bin_Reader_Err_ok _ _ _ ?_
  unfold m_bin_Reader_Err
  obtain ⟨Bb, s, l0, l1, _⟩ := h.ld
  rw [eq_rd, outP_val]
  cases bad with
  | true =>
    repeat (first | rw [outP_val] | rw [guardP_true] | rw [condP_true] | rw [l1] | rw [boolIs_bool] | rw [beq_ff] | rw [Bool.not_false] | rw [w_pick_b] | rw [if_neg Bool.false_ne_true] | rw [w_fieldAddr_ptr] | rw [w_nil_ptr] | rw [Nat.zero_add] | rw [w_load_c] | rw [vO_some])
    exact hK
  | false =>
    repeat (first | rw [outP_val] | rw [guardP_true] | rw [l1] | rw [condP_false] | rw [boolIs_bool] | rw [beq_ff] | rw [Bool.not_false] | rw [w_pick_b] | rw [if_neg Bool.false_ne_true] | rw [w_fieldAddr_ptr] | rw [w_nil_ptr] | rw [Nat.zero_add] | rw [w_load_c] | rw [vO_some])
    exact hK
/-- It is bad from now on. -/
theorem Rx.spoil {H0 : AH} {rp : Nat} {B : List Int} {bad : Bool} (h : Rx H0 H rp B bad) : ∃ G, w_store 1 H (.ptr (some (rp, 1))) (.bool true) = some (.skip G) ∧ Rx H0 G rp B true ∧ Ext [rp] H G := by
  obtain ⟨Bb, s, _, _, gp, is, hne⟩ := h.ld
  have e : Ext [rp] H (H.put rp (some (.cells 194 [s, .bool true]))) := (Ext.refl _ _).put (.inr (by simp)) _
  have hlo := h.lo
  refine ⟨_, by rw [w_store_c, gp, stN_snd _ _ _ _ _ rfl], ⟨((h.ext.mono (m' := [rp]) (by simp)).trans e).mono fun b hb hlt => by simp at hb; omega, h.lo, by rw [AH.next_put]; exact h.lt, h.by_, Bb, s, get_put_same _ _, Sl.mono' is e fun q => ?_, hne⟩, e⟩
  simp at q
  rcases hne with r | r
  · rw [r]; rfl
  · omega
/-- It goes on behind. -/
theorem Rx.step {H0 : AH} {rp : Nat} {B : List Int} {bad : Bool} (h : Rx H0 H rp B bad) {k : Nat} (hk : k ≤ B.length) : ∃ s' G, (∀ (G : AH) (s : AV), ldV (H.get rp) 0 = some s → w_slice (.sl 1) false false G s (some (.int .i64 k)) none none = some (.val s' G)) ∧ w_store 1 H (.ptr (some (rp, 0))) s' = some (.skip G) ∧ Rx H0 G rp (B.drop k) bad ∧ Ext [rp] H G := by
  obtain ⟨Bb, s, l0, _, gp, is, hne⟩ := h.ld
  obtain ⟨s3, b1, b2⟩ := Sl.cut is (hasHi := false) (some (.i64, k)) none (show k ≤ (nums .u8 B).length by simpa using hk) (Nat.le_refl _)
  have eb : (List.drop (loN 0 (some (IntKind.i64, k))) (nums .u8 B)).take (loN (nums .u8 B).length none - loN 0 (some (IntKind.i64, k))) = nums .u8 (B.drop k) := by
    show ((nums .u8 B).drop k).take ((nums .u8 B).length - k) = _
    rw [← List.map_drop, List.take_of_length_le (by simp)]
  rw [eb] at b2
  obtain ⟨g1, _, _, _⟩ := Sl.facts b2
  have e : Ext [rp] H (H.put rp (some (.cells 194 [s3, .bool bad]))) := (Ext.refl _ _).put (.inr (by simp)) _
  have hlo := h.lo
  refine ⟨s3, _, fun G s' hs' => ?_, by rw [w_store_c, gp, stN_fst _ _ _ _ _ g1], ⟨((h.ext.mono (m' := [rp]) (by simp)).trans e).mono fun b hb hlt => by simp at hb; omega, h.lo, by rw [AH.next_put]; exact h.lt, fun x hx => h.by_ x (List.mem_of_mem_drop hx), Bb, s3, get_put_same _ _, Sl.mono' b2 e fun q => ?_, ?_⟩, e⟩
  · rw [l0] at hs'
    cases hs'
    exact b1 G
  · simp at q
    rcases hne with r | r
    · rw [r]; simp
    · omega
  · rcases hne with r | r
    · left; rw [r]; simp
    · exact .inr r
/-- One number: what is read, and what is left. -/
def stepR : List Int × Bool → Int × (List Int × Bool)
  | (B, true) => (0, (B, true))
  | (B, false) => match decB B with
    | some (n, R) => (n, (R, false))
    | none => (0, (B, true))
theorem val_snoc : ∀ (L : List Int) (b : Int), valB (L ++ [b]) = valB L + b * pw L.length
  | [], b => by show b + 256 * 0 = 0 + b * 1; omega
  | x :: L, b => by
    show x + 256 * valB (L ++ [b]) = x + 256 * valB L + b * pw (L.length + 1)
    rw [val_snoc L b, pw_succ, Int.mul_add, ← Int.mul_assoc b, Int.mul_comm b 256, Int.mul_assoc 256 b, Int.add_assoc]
theorem wrap64_mod {k : Nat} (hk : k ≤ 8) (v : Int) : IntKind.i64.wrap v % pw k = v % pw k := by
  rw [wrap64_eq]
  have : k = 0 ∨ k = 1 ∨ k = 2 ∨ k = 3 ∨ k = 4 ∨ k = 5 ∨ k = 6 ∨ k = 7 ∨ k = 8 := by omega
  rcases this with rfl | rfl | rfl | rfl | rfl | rfl | rfl | rfl | rfl
  · show _ % (1 : Int) = _ % (1 : Int); omega
  · show _ % (256 : Int) = _ % (256 : Int); omega
  · show _ % (65536 : Int) = _ % (65536 : Int); omega
  · show _ % (16777216 : Int) = _ % (16777216 : Int); omega
  · show _ % (4294967296 : Int) = _ % (4294967296 : Int); omega
  · show _ % (1099511627776 : Int) = _ % (1099511627776 : Int); omega
  · show _ % (281474976710656 : Int) = _ % (281474976710656 : Int); omega
  · show _ % (72057594037927936 : Int) = _ % (72057594037927936 : Int); omega
  · show _ % (18446744073709551616 : Int) = _ % (18446744073709551616 : Int); omega
theorem wrap64_in' (v : Int) : I64 (IntKind.i64.wrap v) := by rw [wrap64_eq]; constructor <;> omega
theorem pw_le {i : Nat} (h : i ≤ 7) : pw i ≤ 72057594037927936 := by
  have : i = 0 ∨ i = 1 ∨ i = 2 ∨ i = 3 ∨ i = 4 ∨ i = 5 ∨ i = 6 ∨ i = 7 := by omega
  rcases this with rfl | rfl | rfl | rfl | rfl | rfl | rfl | rfl <;> decide
theorem rInt_wp {H0 : AH} {rp : Nat} {B : List Int} {bad : Bool} (h : Rx H0 H rp B bad) (hB : B.length ≤ 100000) (K : AV → AH → Prop) (hK : ∀ H', Ext [rp] H H' → Rx H0 H' rp (stepR (B, bad)).2.1 (stepR (B, bad)).2.2 → I64 (stepR (B, bad)).1 → K (.int .i64 (stepR (B, bad)).1) H') :
    CC.call 55 [.ptr (some (rp, 0))] H K := by
  refine m_bin_Reader_Int_ok _ _ _ ?_
  unfold m_bin_Reader_Int m_bin_Reader_Intt
  rw [outP_enter]
  refine err_wp h _ ?_
  cases bad with
  | true =>
    rw [if_pos rfl, w_neq, outP_val, show (!decide ((1 : Int) = 0)) = true from rfl, condP_true]
    exact hK H (Ext.refl _ _) h (show I64 0 from ⟨by decide, by decide⟩)
  | false =>
    rw [if_neg Bool.false_ne_true, w_neq, outP_val, show (!decide ((0 : Int) = 0)) = false from rfl, condP_false]
    have none' : decB B = none → ∃ G, w_store 1 H (.ptr (some (rp, 1))) (.bool true) = some (.skip G) ∧ K (.int .i64 0) G := fun e => by
      obtain ⟨G, g1, g2, g3⟩ := h.spoil
      refine ⟨G, g1, ?_⟩
      have := hK G g3
      simp only [stepR, e] at this
      exact this g2 (by constructor <;> decide)
    obtain ⟨Bb, s, l0, l1, gp, is, hne⟩ := h.ld
    have ln := is.len u8_sl
    unfold m_bin_Reader_Inttt
    cases B with
    | nil =>
      obtain ⟨G, g1, g2⟩ := none' rfl
      have ln' : ∀ G : AH, w_len PP 27 G s = some (.val (.int .i64 0) G) := ln
      have d : decide ((0 : Int) = 0) = true := rfl
      repeat (first | rw [outP_val] | rw [guardP_false] | rw [condP_true] | rw [l0] | rw [ln'] | rw [d] | rw [g1] | rw [boolIs_bool] | rw [beq_ff] | rw [Bool.not_true] | rw [outP_skip] | rw [w_pick_b] | rw [if_pos rfl] | rw [w_fieldAddr_ptr] | rw [w_nil_ptr] | rw [Nat.zero_add] | rw [w_load_c] | rw [vO_some] | rw [w_eql])
      exact g2
    | cons c Q =>
      have hc := h.by_ c (by simp)
      obtain ⟨o, a1, _, a3⟩ := is.at (j := 0) (by simp)
      have a1' : ∀ G : AH, w_indexAddr (.sl 1) G s (.int .i64 0) = some (.val (.ptr (some (Bb, o))) G) := a1
      have a3' : ldV (H.get Bb) o = some (.int .u8 c) := a3
      have d0 : decide (((c :: Q).length : Int) = 0) = false := decide_eq_false (by simp; omega)
      have wc : IntKind.i64.wrap c = c := wrap64_in (by omega) (by omega)
      by_cases c8 : (8 : Int) < c
      · obtain ⟨G, g1, g2⟩ := none' (by show (if c ≤ 8 ∧ c ≤ (Q.length : Int) then decC c.toNat Q else none) = none; rw [if_neg (by omega)])
        have d1 : decide ((8 : Int) < c) = true := decide_eq_true c8
        repeat (first | rw [outP_val] | rw [guardP_true] | rw [guardP_false] | rw [condP_true] | rw [l0] | rw [ln] | rw [d0] | rw [a1'] | rw [a3'] | rw [d1] | rw [g1] | rw [boolIs_bool] | rw [beq_ff] | rw [Bool.not_true] | rw [Bool.not_false] | rw [outP_skip] | rw [w_pick_b] | rw [if_pos rfl] | rw [if_neg Bool.false_ne_true] | rw [w_fieldAddr_ptr] | rw [w_nil_ptr] | rw [Nat.zero_add] | rw [w_load_c] | rw [vO_some] | rw [w_gtr] | rw [w_eql])
        exact g2
      have d1 : decide ((8 : Int) < c) = false := decide_eq_false c8
      by_cases cl : ((c :: Q).length : Int) ≤ c
      · obtain ⟨G, g1, g2⟩ := none' (by show (if c ≤ 8 ∧ c ≤ (Q.length : Int) then decC c.toNat Q else none) = none; rw [if_neg (by simp at cl; omega)])
        have d2 : decide (((c :: Q).length : Int) ≤ c) = true := decide_eq_true cl
        repeat (first | rw [outP_val] | rw [guardP_true] | rw [condP_true] | rw [l0] | rw [ln] | rw [d0] | rw [a1'] | rw [a3'] | rw [d1] | rw [wc] | rw [d2] | rw [g1] | rw [boolIs_bool] | rw [beq_ff] | rw [Bool.not_false] | rw [outP_skip] | rw [w_pick_b] | rw [if_neg Bool.false_ne_true] | rw [w_fieldAddr_ptr] | rw [w_nil_ptr] | rw [Nat.zero_add] | rw [w_load_c] | rw [vO_some] | rw [w_leq] | rw [w_gtr] | rw [w_eql] | rw [w_cint])
        exact g2
      have d2 : decide (((c :: Q).length : Int) ≤ c) = false := decide_eq_false cl
      repeat (first | rw [outP_val] | rw [guardP_true] | rw [l0] | rw [ln] | rw [d0] | rw [a1'] | rw [a3'] | rw [d1] | rw [wc] | rw [d2] | rw [condP_false] | rw [boolIs_bool] | rw [beq_ff] | rw [Bool.not_false] | rw [w_pick_b] | rw [if_neg Bool.false_ne_true] | rw [w_fieldAddr_ptr] | rw [w_nil_ptr] | rw [Nat.zero_add] | rw [w_load_c] | rw [vO_some] | rw [w_leq] | rw [w_gtr] | rw [w_eql] | rw [w_cint])
      unfold m_bin_Reader_Intttt
      repeat (first | rw [outP_val] | rw [l0] | rw [a1'] | rw [a3'] | rw [wc] | rw [w_fieldAddr_ptr] | rw [w_nil_ptr] | rw [Nat.zero_add] | rw [w_load_c] | rw [vO_some] | rw [w_cint])
      obtain ⟨k, rfl⟩ : ∃ k : Nat, c = k := ⟨c.toNat, by omega⟩
      have hkQ : k ≤ Q.length := by simp at cl; omega
      have hk8 : k ≤ 8 := by omega
      have hQ : By Q := fun x hx => h.by_ x (by simp [hx])
      unfold m_bin_Reader_Inttttt m_bin_Reader_Intttttth m_bin_Reader_Intttttthtb
      refine loopP_rule (I := fun t G => ∃ i : Nat, t = (.ptr (some (rp, 0)), .int .i64 k, .int .i64 (IntKind.i64.wrap (valB (Q.take i))), .int .i64 k, .int .i64 i) ∧ i ≤ k ∧ G = H) (μ := fun t _ => match t.2.2.2.2 with | .int _ z => k - z.toNat | _ => 0) ?_ ⟨0, rfl, Nat.zero_le _, rfl⟩
      rintro t G ⟨i, rfl, hi, rfl⟩ rec hrec
      unfold m_bin_Reader_Intttttthtbl
      rw [w_lss, outP_val]
      by_cases ci : i < k
      · obtain ⟨o2, b1, _, b3⟩ := is.at (j := 1 + i) (by simp; omega)
        have b1' : ∀ G : AH, w_indexAddr (.sl 1) G s (.int .i64 (1 + (i : Int))) = some (.val (.ptr (some (Bb, o2))) G) := fun G => by have := b1 G; rwa [show ((1 + i : Nat) : Int) = 1 + (i : Int) by omega] at this
        have e3 : (((k : Int) :: Q)[1 + i]'(by simp; omega)) = Q[i]'(by omega) := by rw [List.getElem_cons]; simp
        rw [e3] at b3
        have hq := hQ _ (List.getElem_mem (show i < Q.length by omega))
        have em : (8 : Int) * (i : Int) = ((8 * i : Nat) : Int) := by omega
        have wq : IntKind.i64.wrap (Q[i]'(by omega)) = Q[i]'(by omega) := wrap64_in (by omega) (by omega)
        have hv := val_in (L := Q.take i) fun x hx => hQ x (List.mem_of_mem_take hx)
        rw [List.length_take, Nat.min_eq_left (by omega)] at hv
        have hpl := pw_le (i := i) (by omega)
        have wv : IntKind.i64.wrap (valB (Q.take i)) = valB (Q.take i) := wrap64_in (by omega) (by omega)
        rw [decide_eq_true (by omega), condP_true, w_nil_ptr, outP_val, w_fieldAddr_ptr, outP_val, Nat.add_zero, w_load_c, l0, vO_some, outP_val, w_add_in (by omega) (by omega), outP_val, b1', outP_val, w_load_c, b3, vO_some, outP_val, w_cint, outP_val, wq, w_mul_in (by omega) (by omega), outP_val, em, w_shl (by omega), outP_val, pw2, wv, or_add hv hq (by omega), outP_val, w_add_in (by omega) (by omega), outP_val]
        refine hrec _ _ ⟨i + 1, ?_, by omega, rfl⟩ ?_
        · rw [List.take_succ_eq_append_getElem (by omega), val_snoc, List.length_take, Nat.min_eq_left (by omega)]; rfl
        · show k - ((i : Int) + 1).toNat < k - (i : Int).toNat
          omega
      · obtain rfl : i = k := by omega
        rw [decide_eq_false (by omega), condP_false]
        have key : ∀ n : Int, n = numB i Q → m_bin_Reader_Intttttttt K (.ptr (some (rp, 0))) (.int .i64 i) (.int .i64 n) G := by
          intro n hn
          have hI := numB_in hk8 Q
          rw [← hn] at hI
          unfold m_bin_Reader_Intttttttt
          rw [outP_enter]
          refine size_wp hI _ ?_
          have ed : decB ((i : Int) :: Q) = decC i Q := by
            show (if (i : Int) ≤ 8 ∧ (i : Int) ≤ (Q.length : Int) then decC (i : Int).toNat Q else none) = _
            rw [if_pos ⟨by omega, by omega⟩, Int.toNat_natCast]
          rw [w_neq, outP_val]
          by_cases cs : sizeZ n = i
          · rw [show (!decide ((sizeZ n : Int) = (i : Int))) = false by rw [decide_eq_true (by omega)]; rfl, condP_false]
            obtain ⟨s', G', c1, c2, c3, c4⟩ := h.step (k := 1 + i) (by simp; omega)
            have c1' : w_slice (.sl 1) false false G s (some (.int .i64 (1 + (i : Int)))) none none = some (.val s' G) := by have := c1 G s l0; rwa [show ((1 + i : Nat) : Int) = 1 + (i : Int) by omega] at this
            rw [w_nil_ptr, outP_val, w_fieldAddr_ptr, outP_val, Nat.add_zero, w_load_c, l0, vO_some, outP_val, w_add_in (by omega) (by omega), outP_val, c1', outP_val, w_nil_ptr, outP_val, w_fieldAddr_ptr, outP_val, Nat.add_zero, c2, outP_skip]
            have e5 : decB ((i : Int) :: Q) = some (n, Q.drop i) := by rw [ed]; unfold decC; rw [← hn, if_pos cs]
            have := hK G' c4
            simp only [stepR, e5] at this
            refine this ?_ hI
            rw [show ((i : Int) :: Q).drop (1 + i) = Q.drop i by rw [Nat.add_comm]; rfl] at c3
            exact c3
          · rw [show (!decide ((sizeZ n : Int) = (i : Int))) = true by rw [decide_eq_false (by omega)]; rfl, condP_true, w_nil_ptr, outP_val, w_fieldAddr_ptr, outP_val, Nat.zero_add]
            obtain ⟨G', g1, g2⟩ := none' (by rw [ed]; unfold decC; rw [← hn, if_neg cs])
            rw [g1, outP_skip]
            exact g2
        unfold m_bin_Reader_Inttttttt
        rw [w_gtr, outP_val]
        by_cases cz : 0 < i
        · have es : (8 : Int) * (8 - (i : Int)) = ((8 * (8 - i) : Nat) : Int) := by omega
          have m1 : IntKind.i64.wrap (8 - (i : Int)) = 8 - (i : Int) := wrap64_in (by omega) (by omega)
          have m2 : IntKind.i64.wrap (8 * (8 - (i : Int))) = 8 * (8 - (i : Int)) := wrap64_in (by omega) (by omega)
          rw [decide_eq_true (by omega), condP_true, w_sub, outP_val, m1, w_mul, outP_val, m2, es, w_shl (by omega), outP_val, w_sub, outP_val, m1, w_mul, outP_val, m2, es, w_shr (by omega), outP_val, sh_sx cz hk8]
          refine key _ ?_
          unfold numB
          rw [if_neg (by omega)]
          exact sx_same cz (wrap64_mod hk8 _)
        · obtain rfl : i = 0 := by omega
          rw [decide_eq_false (by omega), condP_false]
          exact key _ rfl
theorem end_wp {H0 : AH} {rp : Nat} {B : List Int} {bad : Bool} (h : Rx H0 H rp B bad) (K : AV → AH → Prop) (hK : K (.int .i64 (if bad = false ∧ B = [] then 0 else 1)) H) : CC.call 60 [.ptr (some (rp, 0))] H K := by
  refine m_bin_Reader_End_ok _ _ _ ?_
  unfold m_bin_Reader_End
  rw [outP_enter]
  refine err_wp h _ ?_
  obtain ⟨Bb, s, l0, l1, gp, is, hne⟩ := h.ld
  have ln := is.len u8_sl
  cases bad with
  | true =>
    have d : decide ((1 : Int) = 0) = false := rfl
    rw [if_pos rfl]
    repeat (first | rw [outP_val] | rw [guardP_false] | rw [condP_true] | rw [d] | rw [boolIs_bool] | rw [beq_ff] | rw [Bool.not_true] | rw [Bool.not_false] | rw [w_pick_b] | rw [if_pos rfl] | rw [w_neq])
    rw [if_neg (by simp)] at hK
    exact hK
  | false =>
    have d : decide ((0 : Int) = 0) = true := rfl
    rw [if_neg Bool.false_ne_true]
    cases B with
    | nil =>
      have ln' : ∀ G : AH, w_len PP 27 G s = some (.val (.int .i64 0) G) := ln
      have d2 : decide ((0 : Int) < 0) = false := rfl
      repeat (first | rw [outP_val] | rw [guardP_true] | rw [d] | rw [l0] | rw [ln'] | rw [d2] | rw [condP_false] | rw [boolIs_bool] | rw [beq_ff] | rw [Bool.not_true] | rw [Bool.not_false] | rw [w_pick_b] | rw [if_neg Bool.false_ne_true] | rw [w_fieldAddr_ptr] | rw [w_nil_ptr] | rw [Nat.zero_add] | rw [w_load_c] | rw [vO_some] | rw [w_gtr] | rw [w_neq])
      rw [if_pos ⟨rfl, rfl⟩] at hK
      exact hK
    | cons c Q =>
      have d2 : decide ((0 : Int) < ((c :: Q).length : Int)) = true := decide_eq_true (by rw [List.length_cons]; omega)
      repeat (first | rw [outP_val] | rw [guardP_true] | rw [condP_true] | rw [d] | rw [l0] | rw [ln] | rw [d2] | rw [boolIs_bool] | rw [beq_ff] | rw [Bool.not_true] | rw [Bool.not_false] | rw [w_pick_b] | rw [if_neg Bool.false_ne_true] | rw [w_fieldAddr_ptr] | rw [w_nil_ptr] | rw [Nat.zero_add] | rw [w_load_c] | rw [vO_some] | rw [w_gtr] | rw [w_neq])
      rw [if_neg (by simp)] at hK
      exact hK
theorem rd_build {s : AV} (h : SlK s) : w_build PP 194 H [(0, s)] = some (.val (.agg [s, .bool false]) H) := by
  rcases h with rfl | ⟨_, _, rfl⟩ | ⟨_, _, _, _, _, rfl⟩ <;> kernel_rfl
theorem newReader_wp {b : Nat} {s : AV} {B : List Int} (h : Is .u8 H b s B) (hB : By B) (hl : B.length ≤ 10000) (K : AV → AH → Prop) (hK : ∀ H' rp, Rx H H' rp B false → K (.ptr (some (rp, 0))) H') : CC.call 54 [s] H K := by
  refine m_bin_NewReader_ok _ _ _ ?_
  unfold m_bin_NewReader
  obtain ⟨s', H', B', e1, e2, e3, e4⟩ := (os_nil (H := H) 5 .u8 H.next).append (by_ := 1) h (by omega) (by simp; omega)
  have o4 : Os 5 .u8 H' B' s' B := by simpa using e4
  obtain ⟨g1, _, _, _⟩ := Own.facts o4
  rw [e1, outP_val, rd_build (Sl.slk o4.is), outP_val, w_box_c, parts_agg, show [s', AV.bool false].all AV.one = true by rw [List.all_cons, g1]; rfl, br_true, outP_val]
  have n2 := e2.next
  have x1 : Ext [] H' (H'.new (.cells 194 [s', .bool false])) := (Ext.refl _ _).new _
  refine hK _ _ ⟨(e2.mono fun b hb hlt => by simp at hb; omega).trans x1, n2, by rw [next_new]; omega, hB, B', s', get_new_same _ _, Sl.mono o4.is x1 (by simp), ?_⟩
  rcases Own.low o4 with r | r
  · exact .inr (by omega)
  · exact .inl (List.map_eq_nil_iff.1 r)
end
end Go.Ab
