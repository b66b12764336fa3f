/- fieldfarelaw7.MetricTurn: what it does, at any input. -/
import Derived.Test.YtapkhdlohcbcmaaGreatDoorScoreLaw
import Derived.Test.YtapkhdlohcbcmaaGreatDoorVecsB
import Derived.Test.YtapkhdlohcbcmaaGreatDoorN5
namespace Go.Ab
noncomputable section
open Go.Proofs
set_option maxRecDepth 10000
variable {H H' : AH}

/-- Places that are written anew, one behind the other. -/
def mixTo (f g : Nat → Int) (n j : Nat) : List Int := (List.range n).map fun i => if i < j then f i else g i
theorem mixTo_zero (f g : Nat → Int) (n : Nat) : mixTo f g n 0 = (List.range n).map g := by
  unfold mixTo
  exact List.map_congr_left fun i _ => if_neg (by omega)
theorem mixTo_len (f g : Nat → Int) (n j : Nat) : (mixTo f g n j).length = n := by simp [mixTo]
theorem mixTo_set (f g : Nat → Int) (n j : Nat) : (mixTo f g n j).set j (f j) = mixTo f g n (j + 1) := by
  unfold mixTo
  refine List.ext_getElem (by simp) fun i h1 h2 => ?_
  rw [List.getElem_set]
  simp only [List.getElem_map, List.getElem_range]
  by_cases c : j = i
  · subst c; simp
  · simp only [c, if_false]
    by_cases d : i < j
    · rw [if_pos d, if_pos (by omega)]
    · rw [if_neg d, if_neg (by omega)]
theorem mixTo_all (f g : Nat → Int) (n : Nat) : mixTo f g n n = (List.range n).map f := by
  unfold mixTo
  exact List.map_congr_left fun i hi => if_pos (List.mem_range.1 hi)
theorem mixTo_at (f g : Nat → Int) {n j i : Nat} (hi : i < n) : (mixTo f g n j)[i]'(by rw [mixTo_len]; exact hi) = if i < j then f i else g i := by
  simp [mixTo]

abbrev sl4 (b : Nat) : AV := .slice (some (b, 0)) 4 4 true
/-- Rows of four, in blocks one behind the other. -/
def R5 (G : AH) (b0 : Nat) (f : Nat → List Int) : Prop := ∀ i, i < 5 → Os 21 .i32 G (b0 + i) (sl4 (b0 + i)) (f i)
def up5 (f : Nat → List Int) (i : Nat) (L : List Int) : Nat → List Int := fun t => if t = i then L else f t
theorem R5.at {b0 : Nat} {f : Nat → List Int} (h : R5 H b0 f) {i j : Nat} (hi : i < 5) (hj : j < (f i).length) : ∃ p, (∀ G : AH, w_indexAddr (.sl 1) G (sl4 (b0 + i)) (.int .i64 j) = some (.val (.ptr (some (b0 + i, p))) G)) ∧ ldV (H.get (b0 + i)) p = some (.int .i32 (f i)[j]) ∧
    ∀ x : Int, ∃ H', stN 1 H (b0 + i) (H.get (b0 + i)) p (.int .i32 x) = some (.skip H') ∧ Ext [b0 + i] H H' ∧ H'.next = H.next ∧ R5 H' b0 (up5 f i ((f i).set j x)) := by
  obtain ⟨p, a1, a2, a3, a4⟩ := (h i hi).at hj
  refine ⟨p, a1, a3, fun x => ?_⟩
  obtain ⟨G, b1, b2, b3, b4⟩ := a4 x
  refine ⟨G, b1, b2, b3, fun t ht => ?_⟩
  unfold up5
  by_cases c : t = i
  · subst c; rw [if_pos rfl]; exact b4
  · rw [if_neg c]
    exact Own.mono (h t ht) b2 (by simp; omega)
theorem prod_in {a k M N : Int} (ha : -M ≤ a ∧ a ≤ M) (hk : -N ≤ k ∧ k ≤ N) : -(M * N) ≤ a * k ∧ a * k ≤ M * N := by
  have h1 : a.natAbs ≤ M.natAbs := by omega
  have h2 : k.natAbs ≤ N.natAbs := by omega
  have c := Nat.mul_le_mul h1 h2
  have d : (a * k).natAbs = a.natAbs * k.natAbs := Int.natAbs_mul a k
  have e : ((M.natAbs * N.natAbs : Nat) : Int) = M * N := by rw [Int.natCast_mul, Int.natAbs_of_nonneg (by omega), Int.natAbs_of_nonneg (by omega)]
  omega
theorem scoreZ_four (m : Int) (U V : Nat → Int) (hU : ∀ i, -1048576 ≤ U i ∧ U i ≤ 1048576) (hV : ∀ i, -1048576 ≤ V i ∧ V i ≤ 1048576) : scoreZ m ((List.range 4).map U) ((List.range 4).map V) = scoreN m U V 4 := by
  have co : ∀ F : Nat → Int, (∀ i, -1048576 ≤ F i ∧ F i ≤ 1048576) → Co ((List.range 4).map F) := fun F h x hx => by
    obtain ⟨i, _, rfl⟩ := List.mem_map.1 hx
    exact h i
  rw [scoreZ_plain (co U hU) (co V hV) (by simp), show min ((List.range 4).map U).length ((List.range 4).map V).length = 4 by simp, scoreT_range m 4 U V 4 (Nat.le_refl _)]
theorem scoreN_in (m : Int) (U V : Nat → Int) (hU : ∀ i, -1048576 ≤ U i ∧ U i ≤ 1048576) (hV : ∀ i, -1048576 ≤ V i ∧ V i ≤ 1048576) : -17592186044416 ≤ scoreN m U V 4 ∧ scoreN m U V 4 ≤ 17592186044416 := by
  have co : ∀ F : Nat → Int, (∀ i, -1048576 ≤ F i ∧ F i ≤ 1048576) → Co ((List.range 4).map F) := fun F h x hx => by
    obtain ⟨i, _, rfl⟩ := List.mem_map.1 hx
    exact h i
  have := scoreT_bnd (m := m) (co U hU) (co V hV) 4
  rw [scoreT_range m 4 U V 4 (Nat.le_refl _)] at this
  omega
def pickF (A B C L : List Int) (i : Nat) : Int := if i < A.length ∧ i < B.length ∧ i < C.length then (L.getD i 0).tmod 100000 else 0
theorem pickF_in (A B C L : List Int) (i : Nat) : -100000 < pickF A B C L i ∧ pickF A B C L i < 100000 := by
  unfold pickF
  split
  · exact ⟨Int.lt_tmod_of_pos _ (by decide), Int.tmod_lt_of_pos _ (by decide)⟩
  · omega

theorem make4 (b : Nat) : w_makeSlice PP 21 H (.int .i64 4) (.int .i64 4) (some b) = some (.val (sl4 b) (H.put b (some (.cells 21 (List.replicate 4 (.int .i32 0)))))) := make_at (n := 4) i32_el i32_by (by omega) (by omega) b
theorem R5.ext {b0 : Nat} {f : Nat → List Int} (h : R5 H b0 f) {m : List Nat} (e : Ext m H H') (hm : ∀ x ∈ m, x < b0 ∨ b0 + 5 ≤ x) : R5 H' b0 f := fun i hi => Own.mono (h i hi) e fun q => by have := hm _ q; omega
theorem R5.is {b0 : Nat} {f : Nat → List Int} (h : R5 H b0 f) {i : Nat} (hi : i < 5) : Is .i32 H (b0 + i) (sl4 (b0 + i)) (f i) := (h i hi).is
/-- The scores are as they are to be. -/
theorem turn_end {b0 : Nat} {f : Nat → List Int} {U V : Nat → Int} {k d : Int} (hk : -8 ≤ k ∧ k ≤ 8) (hU : ∀ i, -100000 < U i ∧ U i < 100000) (hV : ∀ i, -100000 < V i ∧ V i < 100000) (hd : d = scoreN 1 U V 4)
    (_hb : b0 + 5 ≤ H.next) (hr : R5 H b0 f) (f0 : f 0 = (List.range 4).map U) (f1 : f 1 = (List.range 4).map V) (_l3 : (f 3).length = 4) (_l4 : (f 4).length = 4) {g3 g4 : Nat → Int} (f3 : f 3 = (List.range 4).map g3) (f4 : f 4 = (List.range 4).map g4)
    (K : AV → AH → Prop) (hK : ∀ H', Ext [b0 + 3, b0 + 4] H H' → K (.bool true) H') :
    m_fieldfarelaw7_MetricTurnttttttttth K (.int .i32 k) (sl4 (b0 + 0)) (sl4 (b0 + 1)) (sl4 (b0 + 3)) (sl4 (b0 + 4)) (.int .i64 d) H := by
  unfold m_fieldfarelaw7_MetricTurnttttttttth
  have l0 := (hr.is (i := 0) (by omega)).len vec_sl
  rw [f0, show ((List.range 4).map U).length = 4 by simp] at l0
  rw [l0, outP_val]
  unfold m_fieldfarelaw7_MetricTurnttttttttthtb
  refine loopP_rule (I := fun t G => ∃ (j : Nat) (f' : Nat → List Int), t = (.int .i32 k, sl4 (b0 + 0), sl4 (b0 + 1), sl4 (b0 + 3), sl4 (b0 + 4), .int .i64 d, .int .i64 4, .int .i64 j) ∧ j ≤ 4 ∧ Ext [b0 + 3, b0 + 4] H G ∧ R5 G b0 f' ∧ f' 0 = f 0 ∧ f' 1 = f 1 ∧ f' 3 = mixTo (fun i => k * U i) g3 4 j ∧ f' 4 = mixTo (fun i => k * V i) g4 4 j)
    (μ := fun t _ => match t.2.2.2.2.2.2.2 with | .int _ z => 4 - z.toNat | _ => 0) ?_ ⟨0, f, rfl, Nat.zero_le _, Ext.refl _ _, hr, rfl, rfl, by rw [mixTo_zero]; exact f3, by rw [mixTo_zero]; exact f4⟩
  rintro t G ⟨j, f', rfl, hj, x1, r, e0, e1, e3, e4⟩ rec hrec
  unfold m_fieldfarelaw7_MetricTurnttttttttthtbl
  have pU : ∀ i, -800000 ≤ k * U i ∧ k * U i ≤ 800000 := fun i => by have := prod_in hk (show -100000 ≤ U i ∧ U i ≤ 100000 by have := hU i; omega); omega
  have pV : ∀ i, -800000 ≤ k * V i ∧ k * V i ≤ 800000 := fun i => by have := prod_in hk (show -100000 ≤ V i ∧ V i ≤ 100000 by have := hV i; omega); omega
  rw [w_lss, outP_val]
  by_cases cj : j < 4
  · have q0 : j < (f' 0).length := by rw [e0, f0]; simpa using cj
    have q1 : j < (f' 1).length := by rw [e1, f1]; simpa using cj
    obtain ⟨p0, a1, a2, _⟩ := r.at (i := 0) (by omega) q0
    obtain ⟨p1, b1, b2, _⟩ := r.at (i := 1) (by omega) q1
    have v0 : (f' 0)[j] = U j := by simp only [e0, f0]; simp
    have v1 : (f' 1)[j] = V j := by simp only [e1, f1]; simp
    rw [v0] at a2
    rw [v1] at b2
    rw [decide_eq_true (by omega), condP_true, a1, outP_val, w_load_c, a2, vO_some, outP_val, w_mul, outP_val, wrap32_in (by have := pU j; omega) (by have := pU j; omega), b1, outP_val, w_load_c, b2, vO_some, outP_val, w_mul, outP_val, wrap32_in (by have := pV j; omega) (by have := pV j; omega)]
    obtain ⟨p3, c1, _, c3⟩ := r.at (i := 3) (j := j) (by omega) (by rw [e3, mixTo_len]; exact cj)
    obtain ⟨G2, d1, d2, d3, r2⟩ := c3 (k * U j)
    rw [c1, outP_val, w_store_c, d1, outP_skip]
    obtain ⟨p4, c1, _, c3⟩ := r2.at (i := 4) (j := j) (by omega) (show j < (f' 4).length by rw [e4, mixTo_len]; exact cj)
    obtain ⟨G3, m1, m2, m3, r3⟩ := c3 (k * V j)
    rw [c1, outP_val, w_store_c, m1, outP_skip, w_add_in (by omega) (by omega), outP_val]
    refine hrec _ _ ⟨j + 1, _, by rfl, by omega, (x1.trans (d2.mono (by simp))).trans (m2.mono (by simp)), r3, e0, e1, ?_, ?_⟩ ?_
    · show (f' 3).set j (k * U j) = _
      rw [e3]; exact mixTo_set (fun i => k * U i) g3 4 j
    · show (f' 4).set j (k * V j) = _
      rw [e4]; exact mixTo_set (fun i => k * V i) g4 4 j
    · show 4 - ((j : Int) + 1).toNat < 4 - (j : Int).toNat
      omega
  · obtain rfl : j = 4 := by omega
    rw [mixTo_all] at e3 e4
    rw [f0] at e0
    rw [f1] at e1
    rw [decide_eq_false (by omega), condP_false]
    have bU : ∀ i, -1048576 ≤ U i ∧ U i ≤ 1048576 := fun i => by have := hU i; omega
    have bV : ∀ i, -1048576 ≤ V i ∧ V i ≤ 1048576 := fun i => by have := hV i; omega
    have bkU : ∀ i, -1048576 ≤ k * U i ∧ k * U i ≤ 1048576 := fun i => by have := pU i; omega
    have bkV : ∀ i, -1048576 ≤ k * V i ∧ k * V i ≤ 1048576 := fun i => by have := pV i; omega
    have b00 : ∀ i : Nat, -1048576 ≤ (fun _ : Nat => (0 : Int)) i ∧ (fun _ : Nat => (0 : Int)) i ≤ 1048576 := fun _ => by show (-1048576 : Int) ≤ 0 ∧ (0 : Int) ≤ 1048576; decide
    have in32 : ∀ F : Nat → Int, (∀ i, -1048576 ≤ F i ∧ F i ≤ 1048576) → In32 ((List.range 4).map F) := fun F h x hx => by
      obtain ⟨i, _, rfl⟩ := List.mem_map.1 hx
      have := h i; omega
    have ln : ∀ F : Nat → Int, ((List.range 4).map F).length ≤ 1000000 := fun F => by simp
    have nx := x1.next
    have y1 : Ext [] G (G.more 2) := (Ext.refl _ _).more 2
    have i0 : ∀ G', Ext [] G G' → Is .i32 G' (b0 + 0) (sl4 (b0 + 0)) ((List.range 4).map U) := fun G' e => by have := r.is (i := 0) (by omega); rw [e0] at this; exact Sl.mono this e (by simp)
    have i1 : ∀ G', Ext [] G G' → Is .i32 G' (b0 + 1) (sl4 (b0 + 1)) ((List.range 4).map V) := fun G' e => by have := r.is (i := 1) (by omega); rw [e1] at this; exact Sl.mono this e (by simp)
    have i3 : ∀ G', Ext [] G G' → Is .i32 G' (b0 + 3) (sl4 (b0 + 3)) ((List.range 4).map fun i => k * U i) := fun G' e => by have := r.is (i := 3) (by omega); rw [e3] at this; exact Sl.mono this e (by simp)
    have i4 : ∀ G', Ext [] G G' → Is .i32 G' (b0 + 4) (sl4 (b0 + 4)) ((List.range 4).map fun i => k * V i) := fun G' e => by have := r.is (i := 4) (by omega); rw [e4] at this; exact Sl.mono this e (by simp)
    have hdb := scoreN_in 1 U V bU bV
    rw [← hd] at hdb
    have hsb := scoreN_in 2 U V bU bV
    have k64 : IntKind.i64.wrap k = k := wrap64_in (by omega) (by omega)
    have g1 := prod_in hdb hk
    have g2 := prod_in g1 hk
    have g3' := prod_in hk hsb
    have w1 : IntKind.i64.wrap (d * k) = d * k := wrap64_in (by omega) (by omega)
    have w2 : IntKind.i64.wrap (d * k * k) = d * k * k := wrap64_in (by omega) (by omega)
    have w3 : IntKind.i64.wrap (k * scoreN 2 U V 4) = k * scoreN 2 U V 4 := wrap64_in (by omega) (by omega)
    have w4 : IntKind.i64.wrap (2 * scoreN 2 U V 4) = 2 * scoreN 2 U V 4 := wrap64_in (by omega) (by omega)
    have nb := scoreN_in 1 U (fun _ => 0) bU b00
    have nc := scoreN_in 1 V (fun _ => 0) bV b00
    have w5 : IntKind.i64.wrap (scoreN 1 U (fun _ => 0) 4 + scoreN 1 V (fun _ => 0) 4) = scoreN 1 U (fun _ => 0) 4 + scoreN 1 V (fun _ => 0) 4 := wrap64_in (by omega) (by omega)
    have w6 : IntKind.i64.wrap (scoreN 1 U (fun _ => 0) 4 + scoreN 1 V (fun _ => 0) 4 + 2 * scoreN 2 U V 4) = scoreN 1 U (fun _ => 0) 4 + scoreN 1 V (fun _ => 0) 4 + 2 * scoreN 2 U V 4 := wrap64_in (by omega) (by omega)
    have s1 := scoreN_scale k U V 4
    have s2 := scoreN_dot k U V 4
    have s3 := scoreN_law U V 4
    rw [← hd] at s1 s3
    have dl : ∀ z : Int, decide (z = z) = true := fun z => decide_eq_true rfl
    have ib : ∀ (kk : IntKind) (z : Int), AV.beq (.int kk z) (.int kk z) = true := fun kk z => by simp [AV.beq, eqZ_eq, kEq]
    have z0 : (List.range 4).map (fun _ => (0 : Int)) = List.replicate 4 0 := rfl
    repeat (first | rw [outP_val] | rw [guardP_true] | rw [guardP_false] | rw [condP_true] | rw [k64] | rw [w_mul] | rw [w1] | rw [w2] | rw [condP_false] | rw [boolIs_bool] | rw [beq_tt] | rw [beq_ff] | rw [Bool.not_true] | rw [Bool.not_false] | rw [outP_skip] | rw [w_pick_b] | rw [if_pos rfl] | rw [if_neg Bool.false_ne_true] | rw [w_fieldAddr_ptr] | rw [w_nil_ptr] | rw [Nat.zero_add] | rw [w_load_c] | rw [w_load_n] | rw [vO_some] | rw [w_store_c] | rw [w_not] | rw [w_lss] | rw [w_leq] | rw [w_gtr] | rw [w_geq] | rw [w_eql] | rw [w_neq] | rw [w_cint] | rw [w_min2_int] | rw [w_max2_int] | rw [w_add_in (by omega) (by omega)] | rw [w_sub_in (by omega) (by omega)] | rw [w_mul_in (by omega) (by omega)])
    rw [outP_enter]
    refine score_wp (i3 _ y1) (i4 _ y1) (in32 _ bkU) (in32 _ bkV) (.inl (ln _)) 1 _ ?_
    rw [scoreZ_four 1 _ _ bkU bkV, s1]
    repeat (first | rw [outP_val] | rw [guardP_true] | rw [guardP_false] | rw [condP_true] | rw [reC_val] | rw [k64] | rw [ib] | rw [ckP_true] | rw [dl] | rw [condP_false] | rw [boolIs_bool] | rw [beq_tt] | rw [beq_ff] | rw [Bool.not_true] | rw [Bool.not_false] | rw [outP_skip] | rw [w_pick_b] | rw [if_pos rfl] | rw [if_neg Bool.false_ne_true] | rw [w_fieldAddr_ptr] | rw [w_nil_ptr] | rw [Nat.zero_add] | rw [w_load_c] | rw [w_load_n] | rw [vO_some] | rw [w_store_c] | rw [w_not] | rw [w_lss] | rw [w_leq] | rw [w_gtr] | rw [w_geq] | rw [w_eql] | rw [w_neq] | rw [w_cint] | rw [w_min2_int] | rw [w_max2_int] | rw [w_add_in (by omega) (by omega)] | rw [w_sub_in (by omega) (by omega)] | rw [w_mul_in (by omega) (by omega)])
    rw [outP_enter]
    refine score_wp (i3 _ y1) (i1 _ y1) (in32 _ bkU) (in32 _ bV) (.inl (ln _)) 2 _ ?_
    rw [scoreZ_four 2 _ _ bkU bV, s2]
    repeat (first | rw [outP_val] | rw [guardP_true] | rw [guardP_false] | rw [condP_true] | rw [reC_val] | rw [k64] | rw [ib] | rw [ckP_true] | rw [dl] | rw [condP_false] | rw [boolIs_bool] | rw [beq_tt] | rw [beq_ff] | rw [Bool.not_true] | rw [Bool.not_false] | rw [outP_skip] | rw [w_pick_b] | rw [if_pos rfl] | rw [if_neg Bool.false_ne_true] | rw [w_fieldAddr_ptr] | rw [w_nil_ptr] | rw [Nat.zero_add] | rw [w_load_c] | rw [w_load_n] | rw [vO_some] | rw [w_store_c] | rw [w_not] | rw [w_lss] | rw [w_leq] | rw [w_gtr] | rw [w_geq] | rw [w_eql] | rw [w_neq] | rw [w_cint] | rw [w_min2_int] | rw [w_max2_int] | rw [w_add_in (by omega) (by omega)] | rw [w_sub_in (by omega) (by omega)] | rw [w_mul_in (by omega) (by omega)])
    rw [outP_enter]
    refine score_wp (i0 _ y1) (i1 _ y1) (in32 _ bU) (in32 _ bV) (.inl (ln _)) 2 _ ?_
    rw [scoreZ_four 2 _ _ bU bV]
    repeat (first | rw [outP_val] | rw [guardP_true] | rw [guardP_false] | rw [condP_true] | rw [reC_val] | rw [k64] | rw [ib] | rw [ckP_true] | rw [w_mul] | rw [w3] | rw [dl] | rw [condP_false] | rw [boolIs_bool] | rw [beq_tt] | rw [beq_ff] | rw [Bool.not_true] | rw [Bool.not_false] | rw [outP_skip] | rw [w_pick_b] | rw [if_pos rfl] | rw [if_neg Bool.false_ne_true] | rw [w_fieldAddr_ptr] | rw [w_nil_ptr] | rw [Nat.zero_add] | rw [w_load_c] | rw [w_load_n] | rw [vO_some] | rw [w_store_c] | rw [w_not] | rw [w_lss] | rw [w_leq] | rw [w_gtr] | rw [w_geq] | rw [w_eql] | rw [w_neq] | rw [w_cint] | rw [w_min2_int] | rw [w_max2_int] | rw [w_add_in (by omega) (by omega)] | rw [w_sub_in (by omega) (by omega)] | rw [w_mul_in (by omega) (by omega)])
    rw [outP_enter]
    refine score_wp (i0 _ y1) (i1 _ y1) (in32 _ bU) (in32 _ bV) (.inl (ln _)) 1 _ ?_
    rw [scoreZ_four 1 _ _ bU bV, ← hd, guardP_true, make4, outP_val, guardP_true]
    have y2 : Ext [] G ((G.more 2).put (Nat.add G.next 0) (some (.cells 21 (List.replicate 4 (.int .i32 0))))) := y1.put (.inl (Nat.le_refl _)) _
    have o5 := os_zeros (get_put_same (H := G.more 2) (Nat.add G.next 0) (some (.cells 21 (List.replicate 4 (.int .i32 0))))) (by rw [AH.next_put, next_more]; show G.next + 0 < _; omega)
    rw [outP_enter]
    refine score_wp (i0 _ y2) o5.is (in32 _ bU) (in32 _ b00) (.inl (ln _)) 1 _ ?_
    rw [← z0, scoreZ_four 1 _ _ bU b00, guardP_true, make4, outP_val, guardP_true]
    have y3 := y2.put (b := Nat.add G.next 1) (.inl (by show G.next ≤ G.next + 1; omega)) (some (.cells 21 (List.replicate 4 (.int .i32 0))))
    have o6 := os_zeros (get_put_same (H := (G.more 2).put (Nat.add G.next 0) (some (.cells 21 (List.replicate 4 (.int .i32 0))))) (Nat.add G.next 1) (some (.cells 21 (List.replicate 4 (.int .i32 0))))) (by rw [AH.next_put, AH.next_put, next_more]; show G.next + 1 < _; omega)
    rw [outP_enter]
    refine score_wp (i1 _ y3) o6.is (in32 _ bV) (in32 _ b00) (.inl (ln _)) 1 _ ?_
    rw [← z0, scoreZ_four 1 _ _ bV b00, guardP_true, w_add, outP_val, w5, guardP_true, outP_enter]
    refine score_wp (i0 _ y3) (i1 _ y3) (in32 _ bU) (in32 _ bV) (.inl (ln _)) 2 _ ?_
    rw [scoreZ_four 2 _ _ bU bV, guardP_true, w_mul, outP_val, w4, guardP_true, w_add, outP_val, w6, ← s3, guardP_true, w_eql, outP_val, dl, w_pick_b, outP_val, if_pos rfl]
    exact hK _ ((x1.trans (y3.mono (by simp))))

theorem w_add32 {a b : Int} (h1 : -2147483648 ≤ a + b) (h2 : a + b ≤ 2147483647) : w_int .add H (.int .i32 a) (.int .i32 b) = some (.val (.int .i32 (a + b)) H) := by rw [w_add, wrap32_in h1 h2]
theorem metricTurn_wp {ba bb bc : Nat} {sa sb sc : AV} {A B C : List Int} (k : Int) (ha : Is .i32 H ba sa A) (hb : Is .i32 H bb sb B) (hc : Is .i32 H bc sc C) (hl : Laid H) (K : AV → AH → Prop) (hK : ∀ H', Ext [] H H' → K (.bool true) H') :
    CC.call 5 [sa, sb, sc, .int .i32 k] H K := by
  refine m_fieldfarelaw7_MetricTurn_ok _ _ _ _ _ _ ?_
  unfold m_fieldfarelaw7_MetricTurn m_fieldfarelaw7_MetricTurnt
  rw [outP_enter]
  refine begun_wp hl _ ?_
  unfold m_fieldfarelaw7_MetricTurntt
  rw [w_not, outP_val, Bool.not_true, condP_false]
  unfold m_fieldfarelaw7_MetricTurnttt
  have k1 := Int.lt_tmod_of_pos k (show (0 : Int) < 9 by decide)
  have k2 := Int.tmod_lt_of_pos k (show (0 : Int) < 9 by decide)
  rw [w_rem _ _ _ (show (9 : Int) ≠ 0 by decide), outP_val]
  generalize k.tmod 9 = k0 at *
  have hk : -8 ≤ k0 ∧ k0 ≤ 8 := by omega
  unfold m_fieldfarelaw7_MetricTurntttt
  rw [make4, outP_val, make4, outP_val, make4, outP_val]
  unfold m_fieldfarelaw7_MetricTurnttttt
  rw [make4, outP_val, make4, outP_val]
  have g0 : ∀ (G : AH) (b : Nat), b < G.next → Os 21 .i32 (G.put b (some (.cells 21 (List.replicate 4 (.int .i32 0))))) b (sl4 b) (List.replicate 4 0) := fun G b hb => os_zeros (get_put_same b _) (by rw [AH.next_put]; exact hb)
  have ex : ∀ (G : AH) (b : Nat), Ext [b] G (G.put b (some (.cells 21 (List.replicate 4 (.int .i32 0))))) := fun G b => (Ext.refl _ _).put (.inr (by simp)) _
  simp only [nat_add, Nat.add_zero, AH.next_put, next_more]
  obtain ⟨G, hG, x1, r, gn⟩ : ∃ G : AH, ((((((H.more 3).put H.next (some (.cells 21 (List.replicate 4 (.int .i32 0))))).put (H.next + 1) (some (.cells 21 (List.replicate 4 (.int .i32 0))))).put (H.next + 2) (some (.cells 21 (List.replicate 4 (.int .i32 0))))).more 2).put (H.next + 3) (some (.cells 21 (List.replicate 4 (.int .i32 0))))).put (H.next + 3 + 1) (some (.cells 21 (List.replicate 4 (.int .i32 0)))) = G ∧ Ext [] H G ∧ R5 G H.next (fun _ => List.replicate 4 0) ∧ H.next + 5 ≤ G.next := by
    refine ⟨_, rfl, ?_, ?_, ?_⟩
    · exact (((((((Ext.refl _ _).more 3).put (.inl (by omega)) _).put (.inl (by omega)) _).put (.inl (by omega)) _).more 2).put (.inl (by omega)) _).put (.inl (by omega)) _
    · intro i hi
      have m2 : ∀ G : AH, Ext [] G (G.more 2) := fun G => (Ext.refl _ _).more 2
      have : i = 0 ∨ i = 1 ∨ i = 2 ∨ i = 3 ∨ i = 4 := by omega
      rcases this with rfl | rfl | rfl | rfl | rfl
      · exact Own.mono (Own.mono (Own.mono (Own.mono (Own.mono (g0 (H.more 3) H.next (by rw [next_more]; omega)) (ex _ (H.next + 1)) (by simp <;> omega)) (ex _ (H.next + 2)) (by simp <;> omega)) (m2 _) (by simp)) (ex _ (H.next + 3)) (by simp <;> omega)) (ex _ (H.next + 3 + 1)) (by simp <;> omega)
      · exact Own.mono (Own.mono (Own.mono (Own.mono (g0 _ (H.next + 1) (by rw [AH.next_put, next_more]; omega)) (ex _ (H.next + 2)) (by simp <;> omega)) (m2 _) (by simp)) (ex _ (H.next + 3)) (by simp <;> omega)) (ex _ (H.next + 3 + 1)) (by simp <;> omega)
      · exact Own.mono (Own.mono (Own.mono (g0 _ (H.next + 2) (by rw [AH.next_put, AH.next_put, next_more]; omega)) (m2 _) (by simp)) (ex _ (H.next + 3)) (by simp <;> omega)) (ex _ (H.next + 3 + 1)) (by simp <;> omega)
      · exact Own.mono (g0 _ (H.next + 3) (by rw [next_more, AH.next_put, AH.next_put, AH.next_put, next_more]; omega)) (ex _ (H.next + 3 + 1)) (by simp <;> omega)
      · exact g0 _ (H.next + 3 + 1) (by rw [AH.next_put, next_more, AH.next_put, AH.next_put, AH.next_put, next_more]; omega)
    · rw [AH.next_put, AH.next_put, next_more, AH.next_put, AH.next_put, AH.next_put, next_more]; omega
  rw [hG]
  clear hG g0 ex
  have lowA := Sl.low ha
  have lowB := Sl.low hb
  have lowC := Sl.low hc
  unfold m_fieldfarelaw7_MetricTurntttttth m_fieldfarelaw7_MetricTurntttttthtb
  have hU := pickF_in A B C A
  have hV := pickF_in A B C B
  have hW := pickF_in A B C C
  have eU : ∀ j, j < A.length → j < B.length → j < C.length → ∀ (h : j < A.length), (A[j]).tmod 100000 = pickF A B C A j := fun j a b c h => by unfold pickF; rw [if_pos ⟨a, b, c⟩, getD_at h]
  have eV : ∀ j, j < A.length → j < B.length → j < C.length → ∀ (h : j < B.length), (B[j]).tmod 100000 = pickF A B C B j := fun j a b c h => by unfold pickF; rw [if_pos ⟨a, b, c⟩, getD_at h]
  have eW : ∀ j, j < A.length → j < B.length → j < C.length → ∀ (h : j < C.length), (C[j]).tmod 100000 = pickF A B C C j := fun j a b c h => by unfold pickF; rw [if_pos ⟨a, b, c⟩, getD_at h]
  have zU : ∀ j, ¬ (j < A.length ∧ j < B.length ∧ j < C.length) → pickF A B C A j = 0 ∧ pickF A B C B j = 0 ∧ pickF A B C C j = 0 := fun j h => by unfold pickF; rw [if_neg h, if_neg h, if_neg h]; exact ⟨rfl, rfl, rfl⟩
  generalize pickF A B C A = U at *
  generalize pickF A B C B = V at *
  generalize pickF A B C C = W at *
  refine loopP_rule (I := fun t G' => ∃ (j : Nat) (f : Nat → List Int), t = (sa, sb, sc, .int .i32 k0, sl4 (H.next + 0), sl4 (H.next + 1), sl4 (H.next + 2), sl4 (H.next + 3), sl4 (H.next + 4), .int .i64 j) ∧ j ≤ 4 ∧ Ext [] H G' ∧ H.next + 5 ≤ G'.next ∧ R5 G' H.next f ∧ f 0 = fillTo U 4 j ∧ f 1 = fillTo V 4 j ∧ f 2 = fillTo W 4 j ∧ f 3 = fillTo (fun i => U i + W i) 4 j ∧ f 4 = fillTo (fun i => V i + W i) 4 j)
    (μ := fun t _ => match t.2.2.2.2.2.2.2.2.2 with | .int _ z => 4 - z.toNat | _ => 0) ?_ ⟨0, _, rfl, Nat.zero_le _, x1, gn, r, (fillTo_zero _ _).symm, (fillTo_zero _ _).symm, (fillTo_zero _ _).symm, (fillTo_zero _ _).symm, (fillTo_zero _ _).symm⟩
  clear x1 r gn G
  rintro t G ⟨j, f, rfl, hj, x1, gn, r, f0, f1, f2, f3, f4⟩ rec hrec
  unfold m_fieldfarelaw7_MetricTurntttttthtbl
  rw [w_lss, outP_val]
  by_cases cj : j < 4
  · rw [decide_eq_true (by omega), condP_true]
    have cont : ∀ (G : AH) (f : Nat → List Int), Ext [] H G → H.next + 5 ≤ G.next → R5 G H.next f → f 0 = fillTo U 4 (j + 1) → f 1 = fillTo V 4 (j + 1) → f 2 = fillTo W 4 (j + 1) → f 3 = fillTo (fun i => U i + W i) 4 j → f 4 = fillTo (fun i => V i + W i) 4 j →
        m_fieldfarelaw7_MetricTurntttttthtblthbt K rec sa sb sc (.int .i32 k0) (sl4 (H.next + 0)) (sl4 (H.next + 1)) (sl4 (H.next + 2)) (sl4 (H.next + 3)) (sl4 (H.next + 4)) (.int .i64 j) G := by
      intro G f x1 gn r f0 f1 f2 f3 f4
      unfold m_fieldfarelaw7_MetricTurntttttthtblthbt
      have at_ : ∀ (F : Nat → Int) (L : List Int) (h : j < L.length), L = fillTo F 4 (j + 1) → L[j] = F j := fun F L h e => by subst e; simp [fillTo]
      have q : ∀ (F : Nat → Int) (L : List Int) (n : Nat), L = fillTo F 4 n → j < L.length := fun F L n e => by rw [e, fillTo_len]; exact cj
      obtain ⟨p0, a1, a2, _⟩ := r.at (i := 0) (by omega) (q _ _ _ f0)
      obtain ⟨p1, b1, b2, _⟩ := r.at (i := 1) (by omega) (q _ _ _ f1)
      obtain ⟨p2, c1, c2, _⟩ := r.at (i := 2) (by omega) (q _ _ _ f2)
      obtain ⟨p3, d1, _, d3⟩ := r.at (i := 3) (by omega) (q _ _ _ f3)
      rw [at_ U _ _ f0] at a2
      rw [at_ V _ _ f1] at b2
      rw [at_ W _ _ f2] at c2
      have bu := hU j
      have bv := hV j
      have bw := hW j
      rw [a1, outP_val, w_load_c, a2, vO_some, outP_val, c1, outP_val, w_load_c, c2, vO_some, outP_val, w_add32 (by omega) (by omega), outP_val, b1, outP_val, w_load_c, b2, vO_some, outP_val, c1, outP_val, w_load_c, c2, vO_some, outP_val, w_add32 (by omega) (by omega), outP_val]
      obtain ⟨G2, e1, e2, e3, r2⟩ := d3 (U j + W j)
      rw [d1, outP_val, w_store_c, e1, outP_skip]
      obtain ⟨p4, d1, _, d3⟩ := r2.at (i := 4) (j := j) (by omega) (show j < (f 4).length from q _ _ _ f4)
      obtain ⟨G3, m1, m2, m3, r3⟩ := d3 (V j + W j)
      rw [d1, outP_val, w_store_c, m1, outP_skip]
      unfold m_fieldfarelaw7_MetricTurntttttthtbltt
      rw [w_add_in (by omega) (by omega), outP_val]
      refine hrec _ _ ⟨j + 1, _, by rfl, by omega, ((x1.mono (m' := [H.next + 3, H.next + 4]) (by simp)).trans (e2.mono (by simp)) |>.trans (m2.mono (by simp))).mono (fun b hb hlt => by simp at hb; omega), by omega, r3, f0, f1, f2, ?_, ?_⟩ ?_
      · show (f 3).set j (U j + W j) = _
        rw [f3]; exact fillTo_set (fun i => U i + W i) 4 j
      · show (f 4).set j (V j + W j) = _
        rw [f4]; exact fillTo_set (fun i => V i + W i) 4 j
      · show 4 - ((j : Int) + 1).toNat < 4 - (j : Int).toNat
        omega
    have skip : ¬ (j < A.length ∧ j < B.length ∧ j < C.length) → m_fieldfarelaw7_MetricTurntttttthtblthbt K rec sa sb sc (.int .i32 k0) (sl4 (H.next + 0)) (sl4 (H.next + 1)) (sl4 (H.next + 2)) (sl4 (H.next + 3)) (sl4 (H.next + 4)) (.int .i64 j) G := fun h => by
      obtain ⟨z1, z2, z3⟩ := zU j h
      exact cont G f x1 gn r (by rw [f0, fillTo_skip U 4 j z1]) (by rw [f1, fillTo_skip V 4 j z2]) (by rw [f2, fillTo_skip W 4 j z3]) f3 f4
    have ha' : Is .i32 G ba sa A := Sl.mono ha x1 (by simp)
    have hb' : Is .i32 G bb sb B := Sl.mono hb x1 (by simp)
    have hc' : Is .i32 G bc sc C := Sl.mono hc x1 (by simp)
    have la := ha'.len vec_sl
    have lb := hb'.len vec_sl
    have lc := hc'.len vec_sl
    unfold m_fieldfarelaw7_MetricTurntttttthtblthb
    rw [la, outP_val, w_lss, outP_val]
    by_cases ca : j < A.length
    · have d1 : decide ((j : Int) < (A.length : Int)) = true := decide_eq_true (by omega)
      by_cases cb : j < B.length
      · have d2 : decide ((j : Int) < (B.length : Int)) = true := decide_eq_true (by omega)
        by_cases cc : j < C.length
        · have d3 : decide ((j : Int) < (C.length : Int)) = true := decide_eq_true (by omega)
          obtain ⟨oa, a1, _, a3⟩ := ha'.at ca
          obtain ⟨ob', b1, _, b3⟩ := hb'.at cb
          obtain ⟨oc, c1, _, c3⟩ := hc'.at cc
          repeat (first | rw [outP_val] | rw [guardP_true] | rw [guardP_false] | rw [condP_true] | rw [d1] | rw [d2] | rw [d3] | rw [lb] | rw [lc] | rw [a1] | rw [a3] | rw [b1] | rw [b3] | rw [c1] | rw [c3] | rw [w_rem _ _ _ (show (100000 : Int) ≠ 0 by decide)] | rw [eU j ca cb cc ca] | rw [eV j ca cb cc cb] | rw [eW j ca cb cc cc] | rw [condP_false] | rw [boolIs_bool] | rw [beq_tt] | rw [beq_ff] | rw [Bool.not_true] | rw [Bool.not_false] | rw [outP_skip] | rw [w_pick_b] | rw [if_pos rfl] | rw [if_neg Bool.false_ne_true] | rw [w_fieldAddr_ptr] | rw [w_nil_ptr] | rw [Nat.zero_add] | rw [w_load_c] | rw [w_load_n] | rw [vO_some] | rw [w_not] | rw [w_lss] | rw [w_leq] | rw [w_gtr] | rw [w_geq] | rw [w_eql] | rw [w_neq] | rw [w_cint] | rw [w_min2_int] | rw [w_max2_int] | rw [w_add_in (by omega) (by omega)] | rw [w_sub_in (by omega) (by omega)] | rw [w_mul_in (by omega) (by omega)] | rw [outP_enter])
          obtain ⟨p0, m1, _, m3⟩ := r.at (i := 0) (j := j) (by omega) (by rw [f0, fillTo_len]; exact cj)
          obtain ⟨G1, s1, s2, s3, r1⟩ := m3 (U j)
          rw [m1, outP_val, w_store_c, s1, outP_skip]
          obtain ⟨p1, m1, _, m3⟩ := r1.at (i := 1) (j := j) (by omega) (show j < (f 1).length by rw [f1, fillTo_len]; exact cj)
          obtain ⟨G2, t1, t2, t3, r2⟩ := m3 (V j)
          rw [m1, outP_val, w_store_c, t1, outP_skip]
          obtain ⟨p2, m1, _, m3⟩ := r2.at (i := 2) (j := j) (by omega) (show j < (f 2).length by rw [f2, fillTo_len]; exact cj)
          obtain ⟨G3, u1, u2, u3, r3⟩ := m3 (W j)
          rw [m1, outP_val, w_store_c, u1, outP_skip]
          refine cont G3 _ ((((x1.mono (m' := [H.next + 0, H.next + 1, H.next + 2]) (by simp)).trans (s2.mono (by simp))).trans (t2.mono (by simp))).trans (u2.mono (by simp)) |>.mono fun b hb hlt => by simp at hb; omega) (by omega) r3 ?_ ?_ ?_ f3 f4
          · show (f 0).set j (U j) = _
            rw [f0]; exact fillTo_set U 4 j
          · show (f 1).set j (V j) = _
            rw [f1]; exact fillTo_set V 4 j
          · show (f 2).set j (W j) = _
            rw [f2]; exact fillTo_set W 4 j
        · have d3 : decide ((j : Int) < (C.length : Int)) = false := decide_eq_false (by omega)
          repeat (first | rw [outP_val] | rw [guardP_true] | rw [guardP_false] | rw [condP_true] | rw [d1] | rw [d2] | rw [d3] | rw [lb] | rw [lc] | rw [condP_false] | rw [boolIs_bool] | rw [beq_tt] | rw [beq_ff] | rw [Bool.not_true] | rw [Bool.not_false] | rw [outP_skip] | rw [w_pick_b] | rw [if_pos rfl] | rw [if_neg Bool.false_ne_true] | rw [w_fieldAddr_ptr] | rw [w_nil_ptr] | rw [Nat.zero_add] | rw [w_load_c] | rw [w_load_n] | rw [vO_some] | rw [w_store_c] | rw [w_not] | rw [w_lss] | rw [w_leq] | rw [w_gtr] | rw [w_geq] | rw [w_eql] | rw [w_neq] | rw [w_cint] | rw [w_min2_int] | rw [w_max2_int] | rw [w_add_in (by omega) (by omega)] | rw [w_sub_in (by omega) (by omega)] | rw [w_mul_in (by omega) (by omega)] | rw [outP_enter])
          exact skip fun q => cc q.2.2
      · have d2 : decide ((j : Int) < (B.length : Int)) = false := decide_eq_false (by omega)
        repeat (first | rw [outP_val] | rw [guardP_true] | rw [guardP_false] | rw [condP_true] | rw [d1] | rw [d2] | rw [lb] | rw [condP_false] | rw [boolIs_bool] | rw [beq_tt] | rw [beq_ff] | rw [Bool.not_true] | rw [Bool.not_false] | rw [outP_skip] | rw [w_pick_b] | rw [if_pos rfl] | rw [if_neg Bool.false_ne_true] | rw [w_fieldAddr_ptr] | rw [w_nil_ptr] | rw [Nat.zero_add] | rw [w_load_c] | rw [w_load_n] | rw [vO_some] | rw [w_store_c] | rw [w_not] | rw [w_lss] | rw [w_leq] | rw [w_gtr] | rw [w_geq] | rw [w_eql] | rw [w_neq] | rw [w_cint] | rw [w_min2_int] | rw [w_max2_int] | rw [w_add_in (by omega) (by omega)] | rw [w_sub_in (by omega) (by omega)] | rw [w_mul_in (by omega) (by omega)] | rw [outP_enter])
        exact skip fun q => cb q.2.1
    · have d1 : decide ((j : Int) < (A.length : Int)) = false := decide_eq_false (by omega)
      repeat (first | rw [outP_val] | rw [guardP_true] | rw [guardP_false] | rw [condP_true] | rw [d1] | rw [condP_false] | rw [boolIs_bool] | rw [beq_tt] | rw [beq_ff] | rw [Bool.not_true] | rw [Bool.not_false] | rw [outP_skip] | rw [w_pick_b] | rw [if_pos rfl] | rw [if_neg Bool.false_ne_true] | rw [w_fieldAddr_ptr] | rw [w_nil_ptr] | rw [Nat.zero_add] | rw [w_load_c] | rw [w_load_n] | rw [vO_some] | rw [w_store_c] | rw [w_not] | rw [w_lss] | rw [w_leq] | rw [w_gtr] | rw [w_geq] | rw [w_eql] | rw [w_neq] | rw [w_cint] | rw [w_min2_int] | rw [w_max2_int] | rw [w_add_in (by omega) (by omega)] | rw [w_sub_in (by omega) (by omega)] | rw [w_mul_in (by omega) (by omega)] | rw [outP_enter])
      exact skip fun q => ca q.1
  · rw [decide_eq_false (by omega), condP_false]
    obtain rfl : j = 4 := by omega
    rw [fillTo_all] at f0 f1 f2 f3 f4
    unfold m_fieldfarelaw7_MetricTurnttttttt
    have bU : ∀ i, -1048576 ≤ U i ∧ U i ≤ 1048576 := fun i => by have := hU i; omega
    have bV : ∀ i, -1048576 ≤ V i ∧ V i ≤ 1048576 := fun i => by have := hV i; omega
    have bX : ∀ i, -1048576 ≤ U i + W i ∧ U i + W i ≤ 1048576 := fun i => by have := hU i; have := hW i; omega
    have bY : ∀ i, -1048576 ≤ V i + W i ∧ V i + W i ≤ 1048576 := fun i => by have := hV i; have := hW i; omega
    have in32 : ∀ F : Nat → Int, (∀ i, -1048576 ≤ F i ∧ F i ≤ 1048576) → In32 ((List.range 4).map F) := fun F h x hx => by
      obtain ⟨i, _, rfl⟩ := List.mem_map.1 hx
      have := h i; omega
    have ln : ∀ F : Nat → Int, ((List.range 4).map F).length ≤ 1000000 := fun F => by simp
    have i0 := r.is (i := 0) (by omega)
    have i1 := r.is (i := 1) (by omega)
    have i3 := r.is (i := 3) (by omega)
    have i4 := r.is (i := 4) (by omega)
    rw [f0] at i0
    rw [f1] at i1
    rw [f3] at i3
    rw [f4] at i4
    have dl : ∀ z : Int, decide (z = z) = true := fun z => decide_eq_true rfl
    have hp : decide (scoreN 1 U V 4 < 0) = false := decide_eq_false (by have := scoreN_pos U V 4; omega)
    rw [outP_enter]
    refine score_wp i0 i1 (in32 _ bU) (in32 _ bV) (.inl (ln _)) 1 _ ?_
    rw [scoreZ_four 1 _ _ bU bV]
    unfold m_fieldfarelaw7_MetricTurntttttttt
    rw [outP_enter]
    refine score_wp i1 i0 (in32 _ bV) (in32 _ bU) (.inl (ln _)) 1 _ ?_
    rw [scoreZ_four 1 _ _ bV bU, scoreN_comm 1 V U 4]
    repeat (first | rw [outP_val] | rw [guardP_true] | rw [guardP_false] | rw [condP_true] | rw [dl] | rw [condP_false] | rw [boolIs_bool] | rw [beq_tt] | rw [beq_ff] | rw [Bool.not_true] | rw [Bool.not_false] | rw [outP_skip] | rw [w_pick_b] | rw [if_pos rfl] | rw [if_neg Bool.false_ne_true] | rw [w_fieldAddr_ptr] | rw [w_nil_ptr] | rw [Nat.zero_add] | rw [w_load_c] | rw [w_load_n] | rw [vO_some] | rw [w_store_c] | rw [w_not] | rw [w_lss] | rw [w_leq] | rw [w_gtr] | rw [w_geq] | rw [w_eql] | rw [w_neq] | rw [w_cint] | rw [w_min2_int] | rw [w_max2_int] | rw [w_add_in (by omega) (by omega)] | rw [w_sub_in (by omega) (by omega)] | rw [w_mul_in (by omega) (by omega)])
    rw [outP_enter]
    refine score_wp i3 i4 (in32 _ bX) (in32 _ bY) (.inl (ln _)) 1 _ ?_
    rw [scoreZ_four 1 _ _ bX bY, scoreN_shift U V W 4]
    repeat (first | rw [outP_val] | rw [guardP_true] | rw [guardP_false] | rw [condP_true] | rw [dl] | rw [hp] | rw [condP_false] | rw [boolIs_bool] | rw [beq_tt] | rw [beq_ff] | rw [Bool.not_true] | rw [Bool.not_false] | rw [outP_skip] | rw [w_pick_b] | rw [if_pos rfl] | rw [if_neg Bool.false_ne_true] | rw [w_fieldAddr_ptr] | rw [w_nil_ptr] | rw [Nat.zero_add] | rw [w_load_c] | rw [w_load_n] | rw [vO_some] | rw [w_store_c] | rw [w_not] | rw [w_lss] | rw [w_leq] | rw [w_gtr] | rw [w_geq] | rw [w_eql] | rw [w_neq] | rw [w_cint] | rw [w_min2_int] | rw [w_max2_int] | rw [w_add_in (by omega) (by omega)] | rw [w_sub_in (by omega) (by omega)] | rw [w_mul_in (by omega) (by omega)] | rw [outP_enter])
    refine turn_end hk hU hV rfl gn r f0 f1 (by rw [f3]; simp) (by rw [f4]; simp) f3 f4 K fun H2 x2 => hK _ ?_
    exact ((x1.mono (m' := [H.next + 3, H.next + 4]) (by simp)).trans x2).mono fun b hb hlt => by simp at hb; omega
end
end Go.Ab
