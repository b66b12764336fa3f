/- bin: what its functions do. -/
import Derived.Test.YtcehnjmpllhieaaGreatDoorReqLaw
import Derived.Test.YtcehnjmpllhieaaGreatDoorVecsB
import Derived.Test.YtcehnjmpllhieaaGreatDoorMC
namespace Go.Ab
noncomputable section
open Go.Proofs
set_option maxRecDepth 10000
variable {H H' : AH}

/-! Shifts. -/
theorem w_shl {n : Int} {m : Nat} (h : m ≤ 63) : w_sh .shl H (.int .i64 n) (.int .i64 m) = some (.val (.int .i64 (IntKind.i64.wrap (n * 2 ^ m))) H) := by
  have e : min (m : Int).toNat IntKind.i64.bits = m := by rw [Int.toNat_natCast]; exact Nat.min_eq_left (by show m ≤ 64; omega)
  have z : ltZ (m : Int) 0 = false := rfl
  show vO H (br (ltZ (m : Int) 0) none (some (.int .i64 (wrapZ .i64 (n * 2 ^ min (m : Int).toNat IntKind.i64.bits))))) = _
  rw [z, br_false, e, wrapZ_eq, vO_some]
theorem w_shr {k : IntKind} {n : Int} {m : Nat} (h : m ≤ 63) : w_sh .shr H (.int .i64 n) (.int k m) = some (.val (.int .i64 (n / 2 ^ m)) H) := by
  have e : min (m : Int).toNat IntKind.i64.bits = m := by rw [Int.toNat_natCast]; exact Nat.min_eq_left (by show m ≤ 64; omega)
  have z : ltZ (m : Int) 0 = false := rfl
  show vO H (br (ltZ (m : Int) 0) none (some (.int .i64 (n.fdiv (2 ^ min (m : Int).toNat IntKind.i64.bits))))) = _
  rw [z, br_false, e, vO_some, Int.fdiv_eq_ediv_of_nonneg _ (Int.le_of_lt (Int.pow_pos (by decide)))]
theorem wrap64_eq (x : Int) : IntKind.i64.wrap x = (x + 9223372036854775808) % 18446744073709551616 - 9223372036854775808 := by
  simp only [IntKind.wrap, IntKind.bits, IntKind.signed, Bool.true_and]
  show (if decide (x % 18446744073709551616 ≥ 9223372036854775808) = true then x % 18446744073709551616 - 18446744073709551616 else x % 18446744073709551616) = _
  by_cases c : x % 18446744073709551616 ≥ 9223372036854775808
  · rw [if_pos (decide_eq_true c)]; omega
  · rw [if_neg (by simp; omega)]; omega
theorem wrap8_eq (x : Int) : IntKind.u8.wrap x = x % 256 := by
  simp only [IntKind.wrap, IntKind.bits, IntKind.signed, Bool.false_and]
  rfl
theorem pw2 (i : Nat) : (2 : Int) ^ (8 * i) = pw i := by rw [Int.pow_mul]; rfl
theorem sh_sx {k : Nat} (h1 : 1 ≤ k) (h8 : k ≤ 8) (n : Int) : IntKind.i64.wrap (n * 2 ^ (8 * (8 - k))) / 2 ^ (8 * (8 - k)) = sxB k n := by
  rw [wrap64_eq, pw2]
  unfold sxB
  have : k = 1 ∨ k = 2 ∨ k = 3 ∨ k = 4 ∨ k = 5 ∨ k = 6 ∨ k = 7 ∨ k = 8 := by omega
  rcases this with rfl | rfl | rfl | rfl | rfl | rfl | rfl | rfl
  · show ((n * 72057594037927936 + 9223372036854775808) % 18446744073709551616 - 9223372036854775808) / 72057594037927936 = (n + 128 * 1) % 256 - 128 * 1
    omega
  · show ((n * 281474976710656 + 9223372036854775808) % 18446744073709551616 - 9223372036854775808) / 281474976710656 = (n + 128 * 256) % 65536 - 128 * 256
    omega
  · show ((n * 1099511627776 + 9223372036854775808) % 18446744073709551616 - 9223372036854775808) / 1099511627776 = (n + 128 * 65536) % 16777216 - 128 * 65536
    omega
  · show ((n * 4294967296 + 9223372036854775808) % 18446744073709551616 - 9223372036854775808) / 4294967296 = (n + 128 * 16777216) % 4294967296 - 128 * 16777216
    omega
  · show ((n * 16777216 + 9223372036854775808) % 18446744073709551616 - 9223372036854775808) / 16777216 = (n + 128 * 4294967296) % 1099511627776 - 128 * 4294967296
    omega
  · show ((n * 65536 + 9223372036854775808) % 18446744073709551616 - 9223372036854775808) / 65536 = (n + 128 * 1099511627776) % 281474976710656 - 128 * 1099511627776
    omega
  · show ((n * 256 + 9223372036854775808) % 18446744073709551616 - 9223372036854775808) / 256 = (n + 128 * 281474976710656) % 72057594037927936 - 128 * 281474976710656
    omega
  · show ((n * 1 + 9223372036854775808) % 18446744073709551616 - 9223372036854775808) / 1 = (n + 128 * 72057594037927936) % 18446744073709551616 - 128 * 72057594037927936
    omega
theorem sx_same {k : Nat} (_h : 1 ≤ k) {v w : Int} (e : v % pw k = w % pw k) : sxB k v = sxB k w := by
  unfold sxB
  have : (v + 128 * pw (k - 1)) % pw k = (w + 128 * pw (k - 1)) % pw k := by rw [← Int.emod_add_emod, e, Int.emod_add_emod]
  rw [this]
theorem sx_iff {k : Nat} (h : 1 ≤ k) (n : Int) : n = sxB k n ↔ fitsB k n := by
  constructor
  · intro e
    rw [e]; exact sx_in h n
  · intro f
    have e1 := sx_fits h f
    rw [sx_same h (v := n % pw k) (w := n) (Int.emod_emod_of_dvd n (Int.dvd_refl _))] at e1
    exact e1.symm

/-! size. -/
theorem size_wp {n : Int} (hi : I64 n) (K : AV → AH → Prop) (hK : K (.int .i64 (sizeZ n : Int)) H) : CC.call 104 [.int .i64 n] H K := by
  refine m_bin_size_ok _ _ _ ?_
  unfold m_bin_size m_bin_sizet
  rw [w_eql, outP_val]
  by_cases c : n = 0
  · rw [decide_eq_true c, condP_true]
    subst c; exact hK
  rw [decide_eq_false c, condP_false]
  unfold m_bin_sizett m_bin_sizettthb
  refine loopP_rule (I := fun t G => ∃ k : Nat, t = (.int .i64 n, .int .i64 k) ∧ 1 ≤ k ∧ k ≤ 8 ∧ G = H ∧ ∀ j, 1 ≤ j → j < k → ¬ fitsB j n) (μ := fun t _ => match t.2 with | .int _ z => 8 - z.toNat | _ => 0) ?_ ⟨1, rfl, Nat.le_refl _, by omega, rfl, fun j j1 j2 => by omega⟩
  rintro t G ⟨k, rfl, k1, k8, rfl, hno⟩ rec hrec
  unfold m_bin_sizettthbl
  rw [w_lss, outP_val]
  by_cases ck : k < 8
  · have d1 : decide ((k : Int) < 8) = true := decide_eq_true (by omega)
    have es : (8 : Int) * (8 - (k : Int)) = ((8 * (8 - k) : Nat) : Int) := by omega
    have m1 : IntKind.i64.wrap (8 - (k : Int)) = 8 - (k : Int) := wrap64_in (by omega) (by omega)
    have m2 : IntKind.i64.wrap (8 * (8 - (k : Int))) = 8 * (8 - (k : Int)) := wrap64_in (by omega) (by omega)
    rw [d1]
    repeat (first | rw [outP_val] | rw [guardP_true] | rw [w_sub] | rw [m1] | rw [w_mul] | rw [m2] | rw [es] | rw [w_shl (m := 8 * (8 - k)) (by omega)] | rw [w_shr (m := 8 * (8 - k)) (by omega)] | rw [sh_sx k1 (by omega) n] | rw [boolIs_bool] | rw [beq_tt] | rw [w_pick_b] | rw [if_pos rfl] | rw [w_neq] | rw [w_add_in (by omega) (by omega)])
    have sf := sx_iff k1 n
    by_cases cf : n = sxB k n
    · have hf := sf.1 cf
      rw [decide_eq_true cf]
      repeat (first | rw [condP_false] | rw [Bool.not_true])
      rw [size_of c hi k1 hf hno] at hK
      exact hK
    · rw [decide_eq_false cf]
      repeat (first | rw [condP_true] | rw [Bool.not_false])
      refine hrec _ _ ⟨k + 1, by rfl, by omega, by omega, rfl, fun j j1 j2 => ?_⟩ ?_
      · rcases Nat.lt_or_ge j k with q | q
        · exact hno j j1 q
        · have : j = k := by omega
          subst this; exact fun f => cf (sf.2 f)
      · show 8 - ((k : Int) + 1).toNat < 8 - (k : Int).toNat
        omega
  · obtain rfl : k = 8 := by omega
    have d1 : decide (((8 : Nat) : Int) < 8) = false := by decide
    rw [d1]
    repeat (first | rw [outP_val] | rw [guardP_false] | rw [condP_false] | rw [boolIs_bool] | rw [beq_tt] | rw [w_pick_b] | rw [if_neg Bool.false_ne_true])
    rw [size_of c hi k1 (fits8.2 hi) hno] at hK
    exact hK

/-! Writers. -/
theorem u8_push : elT PP 5 = some (1, [.int .u8 0]) := u8_el
/-- A writer of its own: since H0 nothing but M's blocks was turned. -/
structure Wx (M : List Nat) (H0 H : AH) (wp : Nat) (L : List Int) : Prop where
  ext : Ext M H0 H
  lo : H0.next ≤ wp ∨ wp ∈ M
  lt : wp < H.next
  ex : ∃ B s, H.get wp = some (.cells 83 [s]) ∧ Os 5 .u8 H B s L ∧ (H0.next ≤ B ∨ B ∈ M) ∧ B ≠ wp
theorem Wx.mono {M : List Nat} {H0 : AH} {wp : Nat} {L : List Int} (h : Wx M H0 H wp L) (e : Ext [] H H') : Wx M H0 H' wp L := by
  obtain ⟨B, s, a1, a2, a3, a4⟩ := h.ex
  exact ⟨h.ext.trans (e.mono (by simp)), h.lo, Nat.lt_of_lt_of_le h.lt e.next, B, s, e.get h.lt (by simp) a1, Own.mono a2 e (by simp), a3, a4⟩
/-- The same writer, from now on: its two blocks. -/
theorem Wx.now {M : List Nat} {H0 : AH} {wp : Nat} {L : List Int} (h : Wx M H0 H wp L) : ∃ B, (H0.next ≤ B ∨ B ∈ M) ∧ (B = H.next ∨ ∃ o n c x, H.get wp = some (.cells 83 [.slice (some (B, o)) n c x])) ∧ Wx [wp, B] H H wp L := by
  obtain ⟨B, s, a1, a2, a3, a4⟩ := h.ex
  have hn := h.ext.next
  have hl := h.lt
  obtain ⟨rfl, q2⟩ | ⟨o, cc, ex, cs, rfl, _⟩ := id a2.ex
  · obtain rfl := List.map_eq_nil_iff.1 q2
    exact ⟨H.next, .inl hn, .inl rfl, Ext.refl _ _, .inr (by simp), h.lt, H.next, _, a1, os_nil _ _ _, .inr (by simp), by omega⟩
  · exact ⟨B, a3, .inr ⟨_, _, _, _, a1⟩, Ext.refl _ _, .inr (by simp), h.lt, B, _, a1, a2, .inr (by simp), a4⟩
/-- .. and back. -/
theorem Wx.back {M : List Nat} {H0 G : AH} {wp B : Nat} {L L' : List Int} (h : Wx M H0 H wp L) (hB : H0.next ≤ B ∨ B ∈ M) (w : Wx [wp, B] H G wp L') : Wx M H0 G wp L' := by
  obtain ⟨B2, s, a1, a2, a3, a4⟩ := w.ex
  have hn := h.ext.next
  refine ⟨⟨Nat.le_trans h.ext.next w.ext.next, fun b hb hm => ?_⟩, h.lo, w.lt, B2, s, a1, a2, ?_, a4⟩
  · rw [w.ext.same b (by omega) (by
      simp only [List.mem_cons, List.not_mem_nil, or_false]
      rintro (rfl | rfl)
      · rcases h.lo with q | q
        · omega
        · exact hm q
      · rcases hB with q | q
        · omega
        · exact hm q), h.ext.same b hb hm]
  · rcases a3 with q | q
    · left; omega
    · simp only [List.mem_cons, List.not_mem_nil, or_false] at q
      rcases q with rfl | rfl
      · exact h.lo
      · exact hB
theorem eq_wr (b o : Nat) : w_eq PP .eql 87 false true H (.ptr (some (b, o))) (.ptr none) = some (.val (.bool false) H) := by kernel_rfl
theorem stN_lone (b : Nat) (e : TypeId) (x v : AV) (h1 : v.one = true) : stN 1 H b (some (.cells e [x])) 0 v = some (.skip (H.put b (some (.cells e [v])))) := stN_one b e [x] 0 v h1 (by simp)
/-- The writer's slice, loaded. -/
theorem Wx.ld {M : List Nat} {H0 : AH} {wp : Nat} {L : List Int} (h : Wx M H0 H wp L) : ∃ B s, (∀ G : AH, G.get wp = H.get wp → w_load none G (.ptr (some (wp, 0))) = some (.val s G)) ∧ H.get wp = some (.cells 83 [s]) ∧ Os 5 .u8 H B s L ∧ (H0.next ≤ B ∨ B ∈ M) ∧ B ≠ wp := by
  obtain ⟨B, s, a1, a2, a3, a4⟩ := h.ex
  refine ⟨B, s, fun G hG => ?_, a1, a2, a3, a4⟩
  rw [w_load_c, hG, a1, ldV_cells, show ([s] : List AV)[0]? = some s from rfl, ob_some, (Own.facts a2).2.1, vO_some]
/-- What was pushed is stored. -/
theorem Wx.stored {M : List Nat} {H0 G : AH} {wp B B2 : Nat} {s s2 : AV} {L L2 : List Int} (h : Wx M H0 H wp L) (gw : H.get wp = some (.cells 83 [s])) (hB : H0.next ≤ B ∨ B ∈ M) (hBw : B ≠ wp) (e : Ext [B] H G) (hB2 : B2 = B ∨ H.next ≤ B2) (os : Os 5 .u8 G B2 s2 L2) :
    ∃ G', w_store 1 G (.ptr (some (wp, 0))) s2 = some (.skip G') ∧ Wx M H0 G' wp L2 := by
  have gw2 : G.get wp = _ := e.get h.lt (by simp; exact fun q => hBw q.symm) gw
  obtain ⟨g1, _, _, _⟩ := Own.facts os
  have n1 := e.next
  have n0 := h.ext.next
  have hlt := h.lt
  have hne : B2 ≠ wp := by rcases hB2 with rfl | q; exact hBw; omega
  refine ⟨G.put wp (some (.cells 83 [s2])), by rw [w_store_c, gw2, stN_lone _ _ _ _ g1], ⟨by rw [AH.next_put]; omega, fun b hb hm => ?_⟩, h.lo, by rw [AH.next_put]; omega, B2, s2, get_put_same _ _, Own.mono os ((Ext.refl _ _).put (.inr (by simp)) _ : Ext [wp] _ _) (by simp; exact hne), ?_, hne⟩
  · rw [get_put_ne _ (fun q => by
      subst q
      rcases h.lo with r | r
      · omega
      · exact hm r), e.same b (by omega) (by
      simp only [List.mem_cons, List.not_mem_nil, or_false]
      rintro rfl
      rcases hB with r | r
      · omega
      · exact hm r), h.ext.same b hb hm]
  · rcases hB2 with rfl | q
    · exact hB
    · left; omega
/-- Its row is no new block. -/
theorem Wx.notNew {M : List Nat} {H0 : AH} {wp o k c : Nat} {x : Bool} {L : List Int} (h : Wx M H0 H wp L) (q : H.get wp = some (.cells 83 [.slice (some (H.next, o)) k c x])) : False := by
  obtain ⟨B, s, b1, b2, _, _⟩ := h.ex
  rw [q] at b1
  cases b1
  obtain ⟨p1, _⟩ | ⟨_, _, _, _, p1, _, _, _, _, _, p3⟩ := b2.ex
  · cases p1
  · cases p1; omega
theorem i64s_sl : PP.underlying 179 = some (.slice 2) := by kernel_rfl
theorem encs_nine : ∀ {N : List Int}, (∀ n ∈ N, I64 n) → (N.flatMap encZ).length ≤ 9 * N.length
  | [], _ => by simp
  | x :: N, h => by
    have := encs_nine (N := N) fun y hy => h y (by simp [hy])
    have hx := size_le (h x (by simp))
    have := enc_len x
    rw [List.flatMap_cons, List.length_append, List.length_cons]; omega
theorem wInt_wp {M : List Nat} {H0 : AH} {wp bn : Nat} {sn : AV} {L N : List Int} (h : Wx M H0 H wp L) (hL : L.length ≤ 10000) (hn : Is .i64 H bn sn N) (hi : ∀ n ∈ N, I64 n) (hN : N.length ≤ 100) (hnw : bn ≠ wp) (hne : ∀ o n c x, H.get wp ≠ some (.cells 83 [.slice (some (bn, o)) n c x])) (hlt : bn < H.next) (K : AV → AH → Prop) (hK : ∀ H', Wx M H0 H' wp (L ++ N.flatMap encZ) → K (.tup []) H') :
    CC.call 42 [.ptr (some (wp, 0)), sn] H K := by
  refine m_bin_Writer_Int_ok _ _ _ _ ?_
  unfold m_bin_Writer_Int
  rw [eq_wr, outP_val, condP_false]
  unfold m_bin_Writer_Intt
  rw [hn.len i64s_sl, outP_val]
  unfold m_bin_Writer_Intttb
  obtain ⟨B0, hB0, hB0n, w0⟩ := h.now
  have hb0 : bn ≠ wp ∧ bn ≠ B0 := by
    refine ⟨hnw, ?_⟩
    rintro rfl
    rcases hB0n with q | ⟨o, n, c, x, q⟩
    · omega
    · exact hne o n c x q
  refine loopP_rule (I := fun t G => ∃ j : Nat, t = (.ptr (some (wp, 0)), sn, .int .i64 N.length, .int .i64 j) ∧ j ≤ N.length ∧ Wx [wp, B0] H G wp (L ++ (N.take j).flatMap encZ)) (μ := fun t _ => match t.2.2.2 with | .int _ z => N.length - z.toNat | _ => 0) ?_ ⟨0, rfl, Nat.zero_le _, by simpa using w0⟩
  rintro t G ⟨j, rfl, hj, wj⟩ rec hrec
  unfold m_bin_Writer_Intttbl
  rw [w_lss, outP_val]
  unfold m_bin_Writer_Intttblt
  by_cases cj : j < N.length
  · rw [decide_eq_true (by omega), condP_true]
    unfold m_bin_Writer_Intttbltthb
    have hnG : Is .i64 G bn sn N := Sl.mono hn wj.ext (by simp; exact hb0)
    obtain ⟨o, a1, _, a3⟩ := hnG.at cj
    have hin := hi _ (List.getElem_mem cj)
    have lj : ((N.take j).flatMap encZ).length ≤ 900 := by
      have := encs_nine (N := N.take j) fun y hy => hi y (List.mem_of_mem_take hy)
      rw [List.length_take] at this; omega
    rw [a1, outP_val, w_load_c, a3, vO_some, outP_val]
    have etk : L ++ (N.take (j + 1)).flatMap encZ = (L ++ (N.take j).flatMap encZ) ++ encZ N[j] := by
      rw [List.take_succ_eq_append_getElem cj, List.flatMap_append]; simp
    have go : ∀ G', Wx [wp, B0] H G' wp (L ++ (N.take (j + 1)).flatMap encZ) → rec (.ptr (some (wp, 0)), sn, .int .i64 N.length, .int .i64 ((j : Int) + 1)) G' := fun G' w' => by
      refine hrec _ _ ⟨j + 1, by rfl, by omega, w'⟩ ?_
      show N.length - ((j : Int) + 1).toNat < N.length - (j : Int).toNat
      omega
    rw [etk] at go
    generalize L ++ (N.take j).flatMap encZ = Lj at *
    have hLj : Lj.length ≤ 11000 := by
      have := congrArg List.length etk
      simp only [List.length_append] at this
      have l2 : ((N.take (j + 1)).flatMap encZ).length ≤ 900 := by
        have := encs_nine (N := N.take (j + 1)) fun y hy => hi y (List.mem_of_mem_take hy)
        rw [List.length_take] at this; omega
      omega
    clear hrec etk lj
    generalize N[j] = n at *
    unfold m_bin_Writer_Intttbltthbt
    rw [outP_enter]
    refine size_wp hin _ ?_
    have k8 := size_le hin
    unfold m_bin_Writer_Intttbltthbtt
    obtain ⟨B, s, ld, gw, os, hB, hBw⟩ := wj.ld
    rw [w_nil_ptr, outP_val, w_fieldAddr_ptr, outP_val, Nat.add_zero, ld G rfl, outP_val, w_cint, outP_val, wrap8_eq, show (sizeZ n : Int) % 256 = sizeZ n by omega]
    refine push_num u8_el (by omega) os (by omega) _ _ fun G1 s1 B1 e1 hB1 o1 => ?_
    obtain ⟨G2, st2, w2⟩ := wj.stored gw hB hBw e1 hB1 o1
    rw [w_nil_ptr, outP_val, w_fieldAddr_ptr, outP_val, Nat.add_zero, st2, outP_skip]
    unfold m_bin_Writer_Intttbltthbttt m_bin_Writer_Intttbltthbttttb
    refine loopP_rule (I := fun t G => ∃ i : Nat, t = (.ptr (some (wp, 0)), .int .i64 n, sn, .int .i64 N.length, .int .i64 j, .int .i64 (sizeZ n), .int .i64 i) ∧ i ≤ sizeZ n ∧ Wx [wp, B0] H G wp (Lj ++ ((sizeZ n : Int) :: bytesB i n))) (μ := fun t _ => match t.2.2.2.2.2.2 with | .int _ z => sizeZ n - z.toNat | _ => 0) ?_ ⟨0, rfl, Nat.zero_le _, w2⟩
    rintro t G3 ⟨i, rfl, hi', w3⟩ rec2 hrec2
    unfold m_bin_Writer_Intttbltthbttttbl
    rw [w_lss, outP_val]
    by_cases ci : i < sizeZ n
    · obtain ⟨B3, s3, ld3, gw3, os3, hB3, hBw3⟩ := w3.ld
      have em : (8 : Int) * (i : Int) = ((8 * i : Nat) : Int) := by omega
      have hlen : (Lj ++ ((sizeZ n : Int) :: bytesB i n)).length ≤ 100000 := by simp [bytes_len]; omega
      rw [decide_eq_true (by omega), condP_true, w_nil_ptr, outP_val, w_fieldAddr_ptr, outP_val, Nat.add_zero, ld3 (G3.more 1) (get_more _ _ _), outP_val, w_mul_in (by omega) (by omega), outP_val, em, w_shr (by omega), outP_val, pw2, w_cint, outP_val, wrap8_eq, show Nat.add G3.next 0 = G3.next from rfl]
      refine push_num_at u8_el (by omega) os3 hlen ((Own.low os3).imp id fun q => List.map_eq_nil_iff.1 q) _ _ fun G4 s4 B4 e4 hB4 o4 => ?_
      rw [List.append_assoc, List.cons_append, ← bytes_snoc] at o4
      obtain ⟨G5, st5, w5⟩ := w3.stored gw3 hB3 hBw3 e4 hB4 o4
      rw [w_nil_ptr, outP_val, w_fieldAddr_ptr, outP_val, Nat.add_zero, st5, outP_skip, w_add_in (by omega) (by omega), outP_val]
      refine hrec2 _ _ ⟨i + 1, by rfl, by omega, w5⟩ ?_
      show sizeZ n - ((i : Int) + 1).toNat < sizeZ n - (i : Int).toNat
      omega
    · obtain rfl : i = sizeZ n := by omega
      rw [decide_eq_false (by omega), condP_false, w_add_in (by omega) (by omega), outP_val]
      exact go _ w3
  · rw [decide_eq_false (by omega), condP_false]
    rw [List.take_of_length_le (by omega)] at wj
    exact hK _ (h.back hB0 wj)
theorem i64_el : elT PP 2 = some (1, [.int .i64 0]) := by kernel_rfl
/-- A number is written. -/
theorem wOne_wp {M : List Nat} {H0 : AH} {wp : Nat} {L : List Int} {n : Int} (h : Wx M H0 H wp L) (hL : L.length ≤ 10000) (hi : I64 n) (K : AV → AH → Prop) (hK : ∀ H', Wx M H0 H' wp (L ++ encZ n) → K (.tup []) H') :
    outP CC H (w_buildSlice PP 2 1 H [(0, .int .i64 n)] none) fun v G => outP CC G (some (.enter 42 [.ptr (some (wp, 0)), v])) K := by
  rw [bs_num i64_el, outP_val, outP_enter]
  have x1 : Ext [] H (H.new (.cells 2 [.int .i64 n])) := (Ext.refl _ _).new _
  have hlt := h.lt
  refine wInt_wp (N := [n]) (h.mono x1) hL (os_one 2 .i64 n).is (fun y hy => by rw [List.mem_singleton.1 hy]; exact hi) (by simp) (by omega) (fun o k c x q => ?_) (by rw [next_new]; omega) K fun H' w' => hK H' (by simpa using w')
  rw [get_new_ne _ (by omega)] at q
  exact h.notNew q
theorem wBytes_wp {M : List Nat} {H0 : AH} {wp : Nat} {L : List Int} (h : Wx M H0 H wp L) (hL : L.length ≤ 10000) (K : AV → AH → Prop) (hK : ∀ H' s B, Ext [] H H' → H.next ≤ B → Os 5 .u8 H' B s L → K s H') : CC.call 45 [.ptr (some (wp, 0))] H K := by
  refine m_bin_Writer_Bytes_ok _ _ _ ?_
  unfold m_bin_Writer_Bytes
  obtain ⟨B, s, ld, gw, os, hB, hBw⟩ := h.ld
  rw [eq_wr, outP_val, condP_false, w_nil_ptr, outP_val, w_fieldAddr_ptr, outP_val, Nat.add_zero, ld H rfl, outP_val]
  obtain ⟨s', H', B', e1, e2, e3, e4⟩ := (os_nil (H := H) 5 .u8 H.next).append (by_ := 1) os.is (by omega) (by simp; omega)
  rw [e1, outP_val]
  refine hK _ _ B' (e2.mono fun b hb hlt => by simp at hb; omega) (by omega) (by simpa using e4)

/-! A vector is written. -/
def encV (V : List Int) : List Int := encZ V.length ++ V.flatMap encZ
theorem encZ_le {n : Int} (hi : I64 n) : (encZ n).length ≤ 9 := by rw [enc_len]; have := size_le hi; omega
theorem encs_le : ∀ {V : List Int}, In32 V → (V.flatMap encZ).length ≤ 9 * V.length
  | [], _ => by simp
  | x :: V, h => by
    have := encs_le (V := V) fun y hy => h y (by simp [hy])
    have hx := h x (by simp)
    have := encZ_le (n := x) ⟨by omega, by omega⟩
    rw [List.flatMap_cons, List.length_append, List.length_cons]; omega
theorem put_wp {M : List Nat} {H0 : AH} {wp bv : Nat} {sv : AV} {L V : List Int} (h : Wx M H0 H wp L) (hL : L.length ≤ 5000) (hv : Is .i32 H0 bv sv V) (hb : bv ∈ M → V = []) (hV : In32 V) (hVl : V.length ≤ 100) (K : AV → AH → Prop) (hK : ∀ H', Wx M H0 H' wp (L ++ encV V) → K (.tup []) H') :
    CC.call 105 [.ptr (some (wp, 0)), sv] H K := by
  refine m_vect_Put_ok _ _ _ _ ?_
  unfold m_vect_Put
  have hvG : ∀ {G : AH} {L' : List Int}, Wx M H0 G wp L' → Is .i32 G bv sv V := fun w => Sl.mono' hv w.ext fun q => by rw [hb q]; rfl
  rw [(hvG h).len vec_sl, outP_val]
  refine wOne_wp h (by omega) ⟨by omega, by omega⟩ _ fun G1 w1 => ?_
  unfold m_vect_Putt
  rw [(hvG w1).len vec_sl, outP_val]
  unfold m_vect_Putttb
  have l0 := encZ_le (n := (V.length : Int)) ⟨by omega, by omega⟩
  refine loopP_rule (I := fun t G => ∃ j : Nat, t = (.ptr (some (wp, 0)), sv, .int .i64 V.length, .int .i64 j) ∧ j ≤ V.length ∧ Wx M H0 G wp (L ++ (encZ V.length ++ (V.take j).flatMap encZ))) (μ := fun t _ => match t.2.2.2 with | .int _ z => V.length - z.toNat | _ => 0) ?_ ⟨0, rfl, Nat.zero_le _, by simpa using w1⟩
  rintro t G ⟨j, rfl, hj, w⟩ rec hrec
  unfold m_vect_Putttbl
  rw [w_lss, outP_val]
  by_cases cj : j < V.length
  · obtain ⟨o, a1, _, a3⟩ := (hvG w).at cj
    have hx := hV _ (List.getElem_mem cj)
    have ll : ((V.take j).flatMap encZ).length ≤ 900 := by
      have := encs_le (V := V.take j) fun y hy => hV y (List.mem_of_mem_take hy)
      rw [List.length_take] at this; omega
    rw [decide_eq_true (by omega), condP_true, a1, outP_val, w_load_c, a3, vO_some, outP_val, w_cint, outP_val, wrap64_32 hx]
    refine wOne_wp w (by simp only [List.length_append]; omega) ⟨by omega, by omega⟩ _ fun G2 w2 => ?_
    rw [w_add_in (by omega) (by omega), outP_val]
    refine hrec _ _ ⟨j + 1, by rfl, by omega, ?_⟩ ?_
    · rw [List.take_succ_eq_append_getElem cj, List.flatMap_append]
      simp only [List.append_assoc] at w2 ⊢
      simpa using w2
    · show V.length - ((j : Int) + 1).toNat < V.length - (j : Int).toNat
      omega
  · rw [decide_eq_false (by omega), condP_false]
    rw [List.take_of_length_le (by omega)] at w
    exact hK _ w
end
end Go.Ab
