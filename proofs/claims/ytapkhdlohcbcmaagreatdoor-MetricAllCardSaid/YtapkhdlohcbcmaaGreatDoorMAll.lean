/- fieldfarelaw7.MetricAll: what it does, at any input. -/
import Derived.Test.YtapkhdlohcbcmaaGreatDoorScore
import Derived.Test.YtapkhdlohcbcmaaGreatDoorVecsB
import Derived.Test.YtapkhdlohcbcmaaGreatDoorN9
namespace Go.Ab
noncomputable section
open Go.Proofs
set_option maxRecDepth 10000
variable {H H' : AH}

theorem refLess_wp (x y : Int × Int) (H : AH) (K : AV → AH → Prop) (hK : ∀ H', Ext [] H H' → K (.bool (lessB x y)) H') : CC.call 35 [hitA x, hitA y] H K := by
  refine m_fieldfareref1_Less_ok _ _ _ _ ?_
  unfold m_fieldfareref1_Less hitA hitL
  have hx : Ext [] H ((H.new (.cells 60 [.int .i64 x.1, .int .i64 x.2])).new (.cells 60 [.int .i64 y.1, .int .i64 y.2])) := ((Ext.refl _ _).new _).new _
  have key := lessB_iff x y
  by_cases c1 : x.2 < y.2
  · have d1 : decide (x.2 < y.2) = true := by simpa using c1
    have e : lessB x y = true := key.2 (.inl c1)
    simp (disch := first | omega | exact one_int _ _ | exact one_slice _ _ _ _ | exact one_ptr _ | assumption | ((repeat (first | rw [next_new] | rw [AH.next_put] | rw [next_more])) <;> omega) | fail) only [outP_val, w_fieldAddr_ptr, w_load_c, get_new_eq, get_new_ne, next_new, ldV_cells, 
      vO_some, Nat.zero_add, Nat.add_zero, List.getElem?_cons_zero, List.getElem?_cons_succ, ob_some, clearA_int, w_box_c, parts_agg, 
      one_int, List.all_cons, List.all_nil, Bool.and_self, br_true, w_lss, w_pick_b, 
      boolIs_bool, guardP_false, beq_ff, Bool.not_true, 
      if_true, d1]
    have := hK _ hx; rw [e] at this; exact this
  · have d1 : decide (x.2 < y.2) = false := by simpa using c1
    by_cases c2 : x.2 = y.2
    · have d2 : decide (x.2 = y.2) = true := by simpa using c2
      have e : lessB x y = decide (x.1 < y.1) := by rw [Bool.eq_iff_iff, key, decide_eq_true_iff]; omega
      simp (disch := first | omega | exact one_int _ _ | exact one_slice _ _ _ _ | exact one_ptr _ | assumption | ((repeat (first | rw [next_new] | rw [AH.next_put] | rw [next_more])) <;> omega) | fail) only [outP_val, w_fieldAddr_ptr, w_load_c, get_new_eq, get_new_ne, next_new, ldV_cells, 
      vO_some, Nat.zero_add, Nat.add_zero, List.getElem?_cons_zero, List.getElem?_cons_succ, ob_some, clearA_int, w_box_c, parts_agg, 
      one_int, List.all_cons, List.all_nil, Bool.and_self, br_true, w_eql, w_lss, w_pick_b, 
      boolIs_bool, guardP_true, beq_tt, beq_ff, 
      Bool.not_false, if_true, if_false, Bool.false_eq_true, d1, d2]
      have := hK _ hx; rw [e] at this; exact this
    · have d2 : decide (x.2 = y.2) = false := by simpa using c2
      have e : lessB x y = false := by
        cases q : lessB x y with
        | false => rfl
        | true => have := key.1 q; omega
      simp (disch := first | omega | exact one_int _ _ | exact one_slice _ _ _ _ | exact one_ptr _ | assumption | ((repeat (first | rw [next_new] | rw [AH.next_put] | rw [next_more])) <;> omega) | fail) only [outP_val, w_fieldAddr_ptr, w_load_c, get_new_eq, get_new_ne, next_new, ldV_cells, 
      vO_some, Nat.zero_add, Nat.add_zero, List.getElem?_cons_zero, List.getElem?_cons_succ, ob_some, clearA_int, w_box_c, parts_agg, 
      one_int, List.all_cons, List.all_nil, Bool.and_self, br_true, w_eql, w_lss, w_pick_b, 
      boolIs_bool, guardP_true, guardP_false, beq_tt, beq_ff, 
      Bool.not_false, if_false, Bool.false_eq_true, d1, d2]
      have := hK _ hx; rw [e] at this; exact this
theorem bool_eql (a b : Bool) : w_eq PP .eql 4 false false H (.bool a) (.bool b) = some (.val (.bool (a == b)) H) := by cases a <;> cases b <;> kernel_rfl
theorem eqlHit0 (a b c d : Int) : w_eq PP .eql 60 false false H (.agg [.int .i64 a, .int .i64 b]) (.agg [.int .i64 c, .int .i64 d]) = vO H (ob (br (eqZ a c) (br (eqZ b d) (some true) (some false)) (some false)) fun e => some (.bool e)) := by kernel_rfl
theorem eqlHit (x y : Int × Int) : w_eq PP .eql 60 false false H (hitA x) (hitA y) = some (.val (.bool (decide (x = y))) H) := by
  obtain ⟨a, b⟩ := x; obtain ⟨c, d⟩ := y
  show w_eq PP .eql 60 false false H (.agg [.int .i64 a, .int .i64 b]) (.agg [.int .i64 c, .int .i64 d]) = _
  rw [eqlHit0]
  simp only [br_eq, eqZ_eq, vO]
  by_cases h1 : a = c <;> by_cases h2 : b = d <;> simp [h1, h2]
theorem known_wp (m : Int) (K : AV → AH → Prop) (hK : K (.bool (decide (m = 1) || decide (m = 2))) H) : CC.call 33 [.int .i64 m] H K := by
  refine m_metric_Known_ok _ _ _ ?_
  unfold m_metric_Known
  by_cases c : m = 1
  · have d := decide_eq_true c
    repeat (first | rw [outP_val] | rw [guardP_true] | rw [guardP_false] | rw [condP_true] | rw [d] | rw [condP_false] | rw [boolIs_bool] | rw [beq_tt] | rw [beq_ff] | rw [Bool.not_true] | rw [Bool.not_false] | rw [outP_skip] | rw [w_pick_b] | rw [if_pos rfl] | rw [if_neg Bool.false_ne_true] | rw [w_fieldAddr_ptr] | rw [w_nil_ptr] | rw [Nat.zero_add] | rw [w_load_c] | rw [w_load_n] | rw [vO_some] | rw [w_store_c] | rw [w_not] | rw [w_lss] | rw [w_leq] | rw [w_gtr] | rw [w_geq] | rw [w_eql] | rw [w_neq] | rw [w_cint] | rw [w_min2_int] | rw [w_max2_int] | rw [w_add_in (by omega) (by omega)] | rw [w_sub_in (by omega) (by omega)] | rw [w_mul_in (by omega) (by omega)] | rw [outP_enter])
    rw [d, Bool.true_or] at hK; exact hK
  · have d := decide_eq_false c
    repeat (first | rw [outP_val] | rw [guardP_true] | rw [guardP_false] | rw [condP_true] | rw [d] | rw [condP_false] | rw [boolIs_bool] | rw [beq_tt] | rw [beq_ff] | rw [Bool.not_true] | rw [Bool.not_false] | rw [outP_skip] | rw [w_pick_b] | rw [if_pos rfl] | rw [if_neg Bool.false_ne_true] | rw [w_fieldAddr_ptr] | rw [w_nil_ptr] | rw [Nat.zero_add] | rw [w_load_c] | rw [w_load_n] | rw [vO_some] | rw [w_store_c] | rw [w_not] | rw [w_lss] | rw [w_leq] | rw [w_gtr] | rw [w_geq] | rw [w_eql] | rw [w_neq] | rw [w_cint] | rw [w_min2_int] | rw [w_max2_int] | rw [w_add_in (by omega) (by omega)] | rw [w_sub_in (by omega) (by omega)] | rw [w_mul_in (by omega) (by omega)] | rw [outP_enter])
    rw [d, Bool.false_or] at hK; exact hK
theorem rScore_wp {b1 b2 : Nat} {s1 s2 : AV} {A B : List Int} (h1 : Is .i32 H b1 s1 A) (h2 : Is .i32 H b2 s2 B) (hA : In32 A) (hB : In32 B) (hl : A.length ≤ 1000000 ∨ B.length ≤ 1000000) (m : Int) (K : AV → AH → Prop)
    (hK : K (.int .i64 (scoreZ m A B)) H) : CC.call 32 [.int .i64 m, s1, s2] H K := by
  refine m_fieldfareref1_Score_ok _ _ _ _ _ ?_
  unfold m_fieldfareref1_Score m_fieldfareref1_Scoret m_fieldfareref1_Scoretth m_fieldfareref1_Scoretthtb
  refine loopP_rule (I := fun t G => ∃ j : Nat, t = (.int .i64 m, s1, s2, .int .i64 (scoreS m A B j), .int .i64 j) ∧ j ≤ min A.length B.length ∧ G = H) (μ := fun t _ => match t.2.2.2.2 with | .int _ z => min A.length B.length - z.toNat | _ => 0) ?_ ⟨0, rfl, Nat.zero_le _, rfl⟩
  rintro t G ⟨j, rfl, hj, rfl⟩ rec hrec
  unfold m_fieldfareref1_Scoretthtbl
  rw [h1.len vec_sl, outP_val, h2.len vec_sl, outP_val, w_min2_int, outP_val, show min (A.length : Int) (B.length : Int) = ((min A.length B.length : Nat) : Int) by omega, w_lss, outP_val]
  by_cases c : j < min A.length B.length
  · have c1 : j < A.length := by omega
    have c2 : j < B.length := by omega
    obtain ⟨o1, a1, a2, a3⟩ := h1.at c1
    obtain ⟨o2, d1, d2, d3⟩ := h2.at c2
    have ia := hA _ (List.getElem_mem c1)
    have ib := hB _ (List.getElem_mem c2)
    have e : scoreS m A B (j + 1) = scoreStep m A[j] B[j] (scoreS m A B j) := by
      show scoreStep m (A.getD j 0) (B.getD j 0) _ = _
      rw [getD_at c1, getD_at c2]
    rw [decide_eq_true (by omega), condP_true]
    unfold m_fieldfareref1_Scoretthtblt
    rw [a1, outP_val, w_load_c, a3, vO_some, outP_val, w_cint, outP_val, wrap64_32 ia, d1, outP_val, w_load_c, d3, vO_some, outP_val, w_cint, outP_val, wrap64_32 ib, w_eql, outP_val]
    unfold m_fieldfareref1_Scoretthtbltt
    have dec : min A.length B.length - ((j : Int) + 1).toNat < min A.length B.length - (j : Int).toNat := by omega
    by_cases m1 : m = 1
    · rw [decide_eq_true m1, condP_true, w_sub, outP_val, w_sub, outP_val, w_mul64, outP_val, w_add, outP_val, w_add_in (by omega) (by omega), outP_val]
      refine hrec _ _ ⟨j + 1, ?_, by omega, rfl⟩ dec
      rw [e]; unfold scoreStep; rw [if_pos m1]; rfl
    · rw [decide_eq_false m1, condP_false, w_eql, outP_val]
      by_cases m2 : m = 2
      · rw [decide_eq_true m2, condP_true, w_mul64, outP_val, w_sub, outP_val, w_add_in (by omega) (by omega), outP_val]
        refine hrec _ _ ⟨j + 1, ?_, by omega, rfl⟩ dec
        rw [e]; unfold scoreStep; rw [if_neg m1, if_pos m2]; rfl
      · rw [decide_eq_false m2, condP_false, w_add_in (by omega) (by omega), outP_val]
        refine hrec _ _ ⟨j + 1, ?_, by omega, rfl⟩ dec
        rw [e]; unfold scoreStep; rw [if_neg m1, if_neg m2]; rfl
  · rw [decide_eq_false (by omega), condP_false]
    have : j = min A.length B.length := by omega
    subst this
    exact hK
theorem ldN_hit {G : AH} {p : Nat} {x : Int × Int} (h : G.get p = some (.cells 60 [.int .i64 x.1, .int .i64 x.2])) : ldN 2 (G.get p) 0 = some (hitA x) := by rw [h, ldN_pair]; rfl
theorem less3 (x y : Int × Int) : (x = y ∧ lessB x y = false ∧ lessB y x = false) ∨ (x ≠ y ∧ lessB x y = true ∧ lessB y x = false) ∨ (x ≠ y ∧ lessB x y = false ∧ lessB y x = true) := by
  have h1 := lessB_iff x y
  have h2 := lessB_iff y x
  have ne : ∀ b : Bool, ¬ (b = true) → b = false := fun b h => by cases b <;> simp_all
  by_cases c : x = y
  · subst c
    have : lessB x x = false := ne _ fun q => by have := h1.1 q; omega
    exact .inl ⟨rfl, this, this⟩
  · have c' : ¬ (x.1 = y.1 ∧ x.2 = y.2) := fun q => c (Prod.ext q.1 q.2)
    by_cases d : x.2 < y.2 ∨ x.2 = y.2 ∧ x.1 < y.1
    · exact .inr (.inl ⟨c, h1.2 d, ne _ fun q => by have := h2.1 q; omega⟩)
    · exact .inr (.inr ⟨c, ne _ fun q => d (h1.1 q), h2.2 (by omega)⟩)
theorem laid_new (h : Laid H) (h0 : 0 < H.next) (x : ABlk) : Laid (H.new x) := by
  show isLaid _ _ _ ((H.new x).get 0) = true
  rw [get_new_ne _ (by omega)]; exact h

theorem metricAll_wp {b1 b2 : Nat} {s1 s2 : AV} {A B : List Int} (m : Int) (h1 : Is .i32 H b1 s1 A) (h2 : Is .i32 H b2 s2 B) (x y : Int × Int) (hl : Laid H) (h0 : 0 < H.next) (K : AV → AH → Prop) (hK : ∀ H', Ext [] H H' → K (.bool true) H') :
    CC.call 9 [.int .i64 m, s1, s2, hitA x, hitA y] H K := by
  refine m_fieldfarelaw7_MetricAll_ok _ _ _ _ _ _ _ ?_
  unfold m_fieldfarelaw7_MetricAll
  have ox : ∀ x : Int × Int, (hitL x).all AV.one = true := fun _ => rfl
  have px : ∀ x : Int × Int, (hitA x).parts = hitL x := fun _ => rfl
  rw [w_box_c, px, ox, br_true, outP_val, w_box_c, px, ox, br_true, outP_val, outP_enter]
  have n1 : ((H.new (.cells 60 (hitL x))).new (.cells 60 (hitL y))).next = H.next + 2 := by rw [next_new, next_new]
  have x1 : Ext [] H ((H.new (.cells 60 (hitL x))).new (.cells 60 (hitL y))) := ((Ext.refl _ _).new _).new _
  have hl1 : Laid ((H.new (.cells 60 (hitL x))).new (.cells 60 (hitL y))) := laid_new (laid_new hl h0 _) (by rw [next_new]; omega) _
  have p1 : ((H.new (.cells 60 (hitL x))).new (.cells 60 (hitL y))).get H.next = some (.cells 60 (hitL x)) := by
    rw [get_new_ne _ (by rw [next_new]; omega), get_new_same]
  have p2 := get_new_same (H.new (.cells 60 (hitL x))) (.cells 60 (hitL y))
  rw [next_new] at p2 ⊢
  generalize (H.new (.cells 60 (hitL x))).new (.cells 60 (hitL y)) = G at *
  refine begun_wp hl1 _ ?_
  have h1 : Is .i32 G b1 s1 A := Sl.mono h1 x1 (by simp)
  have h2 : Is .i32 G b2 s2 B := Sl.mono h2 x1 (by simp)
  have ldx : ∀ G', Ext [] G G' → ldN 2 (G'.get H.next) 0 = some (hitA x) := fun G' e => ldN_hit (e.get (by omega) (by simp) p1)
  have ldy : ∀ G', Ext [] G G' → ldN 2 (G'.get (H.next + 1)) 0 = some (hitA y) := fun G' e => ldN_hit (e.get (by omega) (by simp) p2)
  rw [w_not, outP_val, Bool.not_true, condP_false, h1.len vec_sl, outP_val, w_min2_int, outP_val, show min (A.length : Int) 8 = ((min A.length 8 : Nat) : Int) by omega, outP_enter]
  refine vec_wp h1 _ (by omega) _ fun G1 u bu y1 hu ou => ?_
  have h2 : Is .i32 G1 b2 s2 B := Sl.mono h2 y1 (by simp)
  rw [h2.len vec_sl, outP_val, w_min2_int, outP_val, show min (B.length : Int) 8 = ((min B.length 8 : Nat) : Int) by omega, outP_enter]
  refine vec_wp h2 _ (by omega) _ fun G2 v bv y2 hv ov => ?_
  have ou : Os 21 .i32 G2 bu u (vecL A (min A.length 8)) := Own.mono ou y2 (by simp)
  have hU := vecL_in A (min A.length 8)
  have hV := vecL_in B (min B.length 8)
  have lU := vecL_len A (min A.length 8)
  have lV := vecL_len B (min B.length 8)
  generalize vecL A (min A.length 8) = U at *
  generalize vecL B (min B.length 8) = V at *
  have iU : In32 U := fun z hz => by have := hU z hz; omega
  have iV : In32 V := fun z hz => by have := hV z hz; omega
  have y12 := y1.trans y2
  have dl : ∀ z : Int, decide (z = z) = true := fun z => decide_eq_true rfl
  have comm : scoreZ m V U = scoreZ m U V := by
    rw [scoreZ_plain hV hU (by omega), scoreZ_plain hU hV (by omega), scoreT_comm, Nat.min_comm]
  rw [outP_enter]
  refine score_wp ou.is ov.is iU iV (by omega) m _ ?_
  rw [outP_enter]
  refine rScore_wp ou.is ov.is iU iV (by omega) m _ ?_
  repeat (first | rw [outP_val] | rw [guardP_true] | rw [guardP_false] | rw [condP_true] | rw [dl] | rw [condP_false] | rw [boolIs_bool] | rw [beq_tt] | rw [beq_ff] | rw [Bool.not_true] | rw [Bool.not_false] | rw [outP_skip] | rw [w_pick_b] | rw [if_pos rfl] | rw [if_neg Bool.false_ne_true] | rw [w_fieldAddr_ptr] | rw [w_nil_ptr] | rw [Nat.zero_add] | rw [w_load_c] | rw [w_load_n] | rw [vO_some] | rw [w_store_c] | rw [w_not] | rw [w_lss] | rw [w_leq] | rw [w_gtr] | rw [w_geq] | rw [w_eql] | rw [w_neq] | rw [w_cint] | rw [w_min2_int] | rw [w_max2_int] | rw [w_add_in (by omega) (by omega)] | rw [w_sub_in (by omega) (by omega)] | rw [w_mul_in (by omega) (by omega)])
  rw [outP_enter]
  refine score_wp ov.is ou.is iV iU (by omega) m _ ?_
  rw [comm]
  repeat (first | rw [outP_val] | rw [guardP_true] | rw [guardP_false] | rw [condP_true] | rw [dl] | rw [condP_false] | rw [boolIs_bool] | rw [beq_tt] | rw [beq_ff] | rw [Bool.not_true] | rw [Bool.not_false] | rw [outP_skip] | rw [w_pick_b] | rw [if_pos rfl] | rw [if_neg Bool.false_ne_true] | rw [w_fieldAddr_ptr] | rw [w_nil_ptr] | rw [Nat.zero_add] | rw [w_load_c] | rw [w_load_n] | rw [vO_some] | rw [w_store_c] | rw [w_not] | rw [w_lss] | rw [w_leq] | rw [w_gtr] | rw [w_geq] | rw [w_eql] | rw [w_neq] | rw [w_cint] | rw [w_min2_int] | rw [w_max2_int] | rw [w_add_in (by omega) (by omega)] | rw [w_sub_in (by omega) (by omega)] | rw [w_mul_in (by omega) (by omega)])
  rw [outP_enter]
  refine known_wp m _ ?_
  have q2 : m = 1 → scoreZ m U U = 0 := fun e => by subst e; rw [scoreZ_plain hU hU (by omega), scoreT_self]
  have q1 : m = 1 → 0 ≤ scoreZ m U V := fun e => by subst e; rw [scoreZ_plain hU hV (by omega)]; exact scoreT_pos _ _ _
  have e : Ext [] G G2 := y12
  have e2 : Ext [] G2 G2 := Ext.refl _ _
  have bb : ∀ b : Bool, (b == b) = true := fun b => by cases b <;> rfl
  have hb : ∀ a b : Int, AV.beq (.agg [.int .i64 a, .int .i64 b]) (.agg [.int .i64 a, .int .i64 b]) = true := fun a b => by simp [AV.beq, AV.beqL, eqZ_eq, kEq]
  have hh : ∀ z : Int × Int, AV.beq (hitA z) (hitA z) = true := fun z => hb z.1 z.2
  have m0 : (m = 1 ∧ decide (m = 1) = true ∧ decide (m = 2) = false ∧ decide (0 ≤ scoreZ m U V) = true ∧ scoreZ m U U = 0) ∨ (m ≠ 1 ∧ decide (m = 1) = false ∧ decide (m = 2) = true ∧ True ∧ True) ∨ (m ≠ 1 ∧ decide (m = 1) = false ∧ decide (m = 2) = false ∧ True ∧ True) := by
    by_cases c : m = 1
    · exact .inl ⟨c, decide_eq_true c, decide_eq_false (by omega), decide_eq_true (q1 c), q2 c⟩
    · by_cases c2 : m = 2
      · exact .inr (.inl ⟨c, decide_eq_false c, decide_eq_true c2, trivial, trivial⟩)
      · exact .inr (.inr ⟨c, decide_eq_false c, decide_eq_false c2, trivial, trivial⟩)
  have l0 : ∃ b1 b2 b3 : Bool, lessB x y = b1 ∧ lessB y x = b2 ∧ decide (x = y) = b3 ∧ ((b1 = false ∧ b2 = false ∧ b3 = true) ∨ (b1 = true ∧ b2 = false ∧ b3 = false) ∨ (b1 = false ∧ b2 = true ∧ b3 = false)) := by
    rcases less3 x y with ⟨q, l1, l2⟩ | ⟨q, l1, l2⟩ | ⟨q, l1, l2⟩
    · exact ⟨_, _, _, l1, l2, decide_eq_true q, .inl ⟨rfl, rfl, rfl⟩⟩
    · exact ⟨_, _, _, l1, l2, decide_eq_false q, .inr (.inl ⟨rfl, rfl, rfl⟩)⟩
    · exact ⟨_, _, _, l1, l2, decide_eq_false q, .inr (.inr ⟨rfl, rfl, rfl⟩)⟩
  obtain ⟨b1, b2, b3, l1, l2, l3, l0⟩ := l0
  rcases m0 with ⟨_, d1, d2, d3, d4⟩ | ⟨_, d1, d2, d3, d4⟩ | ⟨_, d1, d2, d3, d4⟩ <;> rcases l0 with ⟨rfl, rfl, rfl⟩ | ⟨rfl, rfl, rfl⟩ | ⟨rfl, rfl, rfl⟩ <;>
    (repeat (first | rw [outP_val] | rw [guardP_true] | rw [guardP_false] | rw [condP_true] | rw [l1] | rw [l2] | rw [l3] | rw [d1] | rw [d2] | rw [ldx _ e] | rw [ldy _ e] | rw [bool_eql] | rw [bb] | rw [eqlHit] | rw [Bool.true_or] | rw [Bool.false_or] | rw [reC_val] | rw [reC_false] | rw [hh] | rw [ckP_true] | rw [d3] | rw [d4] | rw [dl] | rw [condP_false] | rw [boolIs_bool] | rw [beq_tt] | rw [beq_ff] | rw [Bool.not_true] | rw [Bool.not_false] | rw [outP_skip] | rw [w_pick_b] | rw [if_pos rfl] | rw [if_neg Bool.false_ne_true] | rw [w_fieldAddr_ptr] | rw [w_nil_ptr] | rw [Nat.zero_add] | rw [w_load_c] | rw [w_load_n] | rw [vO_some] | rw [w_store_c] | rw [w_not] | rw [w_lss] | rw [w_leq] | rw [w_gtr] | rw [w_geq] | rw [w_eql] | rw [w_neq] | rw [w_cint] | rw [w_min2_int] | rw [w_max2_int] | rw [w_add_in (by omega) (by omega)] | rw [w_sub_in (by omega) (by omega)] | rw [w_mul_in (by omega) (by omega)] | (rw [outP_enter]; first | (refine less_wp x y _ _ fun G' z => ?_; replace e := e.trans z; replace e2 := e2.trans z) | (refine less_wp y x _ _ fun G' z => ?_; replace e := e.trans z; replace e2 := e2.trans z) | (refine refLess_wp x y _ _ fun G' z => ?_; replace e := e.trans z; replace e2 := e2.trans z) | refine score_wp (Sl.mono ou.is e2 (by simp)) (Sl.mono ou.is e2 (by simp)) iU iU (by omega) m _ ?_))) <;>
    exact hK _ (x1.trans e)
end
end Go.Ab
