/- fieldfarelaw7.QuantOrder: what it does, at any input. -/
import Derived.Test.YtapkhdlohcbcmaaGreatDoorQall
import Derived.Test.YtapkhdlohcbcmaaGreatDoorVecsB
import Derived.Test.YtapkhdlohcbcmaaGreatDoorN6
namespace Go.Ab
noncomputable section
open Go.Proofs
set_option maxRecDepth 10000
variable {H H' : AH}

theorem code_at {Y : List Vq} {d : Nat} (hd : 1 ≤ d ∧ d ≤ 8) {A : List Int} (hA : A.length = d) {i : Nat} (hi : i < d) :
    (codeL (makeLo Y d) (makeSt Y d) A).length = d ∧ (codeL (makeLo Y d) (makeSt Y d) A)[i]? = some (codeZ (lowF (goodL Y d) i) (stpF (goodL Y d) i) (A.getD i 0)) := by
  have hN : makeN (d : Int) = d := by unfold makeN; rw [if_pos (by omega)]; rfl
  have ll : (makeLo Y d).length = d := by unfold makeLo; rw [hN]; simp
  unfold codeL
  rw [if_pos (make_right Y d), ll]
  refine ⟨by simp, ?_⟩
  rw [List.getElem?_map, List.getElem?_range hi]
  show some (codeF (makeLo Y d) (makeSt Y d) A i) = _
  unfold codeF
  rw [if_pos (by omega), show (makeLo Y d).getD i 0 = lowF (goodL Y d) i from getD_rangeMap _ (by rw [hN]; exact hi), show (makeSt Y d).getD i 0 = stpF (goodL Y d) i from getD_rangeMap _ (by rw [hN]; exact hi)]
theorem quantOrder_wp {b b1 b2 : Nat} {s s1 s2 : AV} {Y : List Vq} {A B : List Int} (n : Int) (h : Sl H 1 b s (vrow Y)) (hy : ∀ y ∈ Y, VEl H y) (h1 : Is .i32 H b1 s1 A) (h2 : Is .i32 H b2 s2 B) (hl : Laid H) (K : AV → AH → Prop) (hK : ∀ H', Ext [] H H' → K (.bool true) H') :
    CC.call 6 [.int .i64 n, s, s1, s2] H K := by
  refine m_fieldfarelaw7_QuantOrder_ok _ _ _ _ _ _ ?_
  unfold m_fieldfarelaw7_QuantOrder m_fieldfarelaw7_QuantOrdert
  rw [outP_enter]
  refine begun_wp hl _ ?_
  unfold m_fieldfarelaw7_QuantOrdertt
  rw [w_not, outP_val, Bool.not_true, condP_false]
  unfold m_fieldfarelaw7_QuantOrderttt
  rw [outP_enter]
  refine dim_wp n _ fun d hd1 hd8 => ?_
  unfold m_fieldfarelaw7_QuantOrdertttt
  rw [outP_enter]
  refine vecs_wp h hy d 10 ⟨hd1, hd8⟩ (by omega) _ fun G1 l BZ Z x1 hBZ hz hZ => ?_
  have hZl : Z.length ≤ 1000 := by have := congrArg List.length hZ; simp at this; omega
  rw [outP_enter]
  refine make_wp hz.own.sl hZl (fun z q => (hz.vos z q).1.el) d _ fun G2 lo st bl bs x2 hbl hbs hbk => ?_
  obtain ⟨f1, f2, _, f3⟩ := hbk.lo.facts
  obtain ⟨g1, g2, _, g3⟩ := hbk.st.facts
  rw [w_alloc_none, outP_val, w_store_c, get_new_same, stN_two _ _ _ _ _ _ f1 g1, outP_skip]
  have x3 : Ext [] G2 ((G2.new (.cells 47 [.slice none 0 0 true, .slice none 0 0 true])).put G2.next (some (.cells 47 [lo, st]))) := ((Ext.refl _ _).new _).put (.inl (Nat.le_refl _)) _
  have hp := get_put_same (H := G2.new (.cells 47 [.slice none 0 0 true, .slice none 0 0 true])) G2.next (some (.cells 47 [lo, st]))
  have hpn : G2.next < ((G2.new (.cells 47 [.slice none 0 0 true, .slice none 0 0 true])).put G2.next (some (.cells 47 [lo, st]))).next := by rw [AH.next_put, next_new]; omega
  have hbk := hbk.mono0 x3
  have x13 := (x1.trans x2).trans x3
  generalize (G2.new (.cells 47 [.slice none 0 0 true, .slice none 0 0 true])).put G2.next (some (.cells 47 [lo, st])) = G at *
  generalize G2.next = p at *
  have ld2 : ∀ G' : AH, Ext [] G G' → ldN 2 (G'.get p) 0 = some (.agg [lo, st]) := fun G' e => by rw [e.get hpn (by simp) hp, ldN_two _ f3 g3]
  unfold m_fieldfarelaw7_QuantOrderttttt
  rw [outP_enter]
  refine vec_wp (Sl.mono h1 x13 (by simp)) d hd8 _ fun G3 u bu y1 hu ou => ?_
  rw [outP_enter]
  refine vec_wp (Sl.mono h2 (x13.trans y1) (by simp)) d hd8 _ fun G4 v bv y2 hv ov => ?_
  have ou : Os 21 .i32 G4 bu u (vecL A d) := Own.mono ou y2 (by simp)
  have y12 := y1.trans y2
  have hU := vecL_in A d
  have hV := vecL_in B d
  have lU := vecL_len A d
  have lV := vecL_len B d
  generalize vecL A d = U at *
  generalize vecL B d = V at *
  unfold m_fieldfarelaw7_QuantOrdertttttt
  rw [w_load_n, ld2 _ y12, vO_some, outP_val, w_load_n, ld2 _ y12, vO_some, outP_val, outP_enter]
  refine qCode_wp (hbk.mono0 y12) ou.is (fun z hz => by have := hU z hz; omega) (by omega) _ fun G5 c bc y3 hbc oc => ?_
  have y13 := y12.trans y3
  rw [w_load_n, ld2 _ y13, vO_some, reC_val, beq_two (Sl.slk hbk.lo) (Sl.slk hbk.st), ckP_true, outP_enter]
  have ov : Os 21 .i32 G5 bv v V := Own.mono ov y3 (by simp)
  refine qCode_wp (hbk.mono0 y13) ov.is (fun z hz => by have := hV z hz; omega) (by omega) _ fun G6 e be y4 hbe oe => ?_
  have ou : Is .i32 G6 bu u U := Sl.mono ou.is (y3.trans y4) (by simp)
  have ov : Is .i32 G6 bv v V := Sl.mono ov.is y4 (by simp)
  have oc : Is .u8 G6 bc c _ := Sl.mono oc.is y4 (by simp)
  have oe : Is .u8 G6 be e _ := oe.is
  have cU := fun i hi => code_at (Y := Z) ⟨hd1, hd8⟩ lU (i := i) hi
  have cV := fun i hi => code_at (Y := Z) ⟨hd1, hd8⟩ lV (i := i) hi
  have lc := (cU 0 (by omega)).1
  have le := (cV 0 (by omega)).1
  generalize codeL (makeLo Z d) (makeSt Z d) U = C at *
  generalize codeL (makeLo Z d) (makeSt Z d) V = E at *
  have nc := oc.len u8_sl
  have ne := oe.len u8_sl
  rw [lc] at nc
  rw [le] at ne
  have dl : ∀ z : Int, decide (z = z) = true := fun z => decide_eq_true rfl
  unfold m_fieldfarelaw7_QuantOrderttttttt
  repeat (first | rw [outP_val] | rw [guardP_true] | rw [guardP_false] | rw [condP_true] | rw [nc] | rw [ne] | rw [dl] | rw [condP_false] | rw [boolIs_bool] | rw [beq_tt] | rw [beq_ff] | rw [Bool.not_true] | rw [Bool.not_false] | rw [outP_skip] | rw [w_pick_b] | rw [if_pos rfl] | rw [if_neg Bool.false_ne_true] | rw [w_fieldAddr_ptr] | rw [w_nil_ptr] | rw [Nat.zero_add] | rw [w_load_c] | rw [w_load_n] | rw [vO_some] | rw [w_store_c] | rw [w_not] | rw [w_lss] | rw [w_leq] | rw [w_gtr] | rw [w_geq] | rw [w_eql] | rw [w_neq] | rw [w_cint] | rw [w_min2_int] | rw [w_max2_int] | rw [w_add_in (by omega) (by omega)] | rw [w_sub_in (by omega) (by omega)] | rw [w_mul_in (by omega) (by omega)] | rw [outP_enter])
  unfold m_fieldfarelaw7_QuantOrdertttttttth
  rw [nc, outP_val]
  unfold m_fieldfarelaw7_QuantOrdertttttttthtb
  refine loopP_rule (I := fun t G => ∃ j : Nat, t = (u, v, c, e, .int .i64 d, .int .i64 j) ∧ j ≤ d ∧ G = G6) (μ := fun t _ => match t.2.2.2.2.2 with | .int _ z => d - z.toNat | _ => 0) ?_ ⟨0, rfl, Nat.zero_le _, rfl⟩
  rintro t G' ⟨j, rfl, hj, rfl⟩ rec hrec
  unfold m_fieldfarelaw7_QuantOrdertttttttthtbl
  by_cases cj : j < d
  · have d1 : decide ((j : Int) < (d : Int)) = true := decide_eq_true (by omega)
    obtain ⟨o1, a1, _, a3⟩ := ou.at (j := j) (by omega)
    obtain ⟨o2, b1, _, b3⟩ := ov.at (j := j) (by omega)
    obtain ⟨o3, c1, _, c3⟩ := oc.at (j := j) (by omega)
    obtain ⟨o4, e1, _, e3⟩ := oe.at (j := j) (by omega)
    have eC : C[j] = codeZ (lowF (goodL Z d) j) (stpF (goodL Z d) j) U[j] := by
      have := (cU j cj).2
      rw [List.getElem?_eq_getElem (by omega), getD_at (by omega)] at this
      exact Option.some.inj this
    have eE : E[j] = codeZ (lowF (goodL Z d) j) (stpF (goodL Z d) j) V[j] := by
      have := (cV j cj).2
      rw [List.getElem?_eq_getElem (by omega), getD_at (by omega)] at this
      exact Option.some.inj this
    have hst := (stpF_in (Y := Z) (dim := d) j).1
    have m1 : U[j] ≤ V[j] → C[j] ≤ E[j] := fun q => by rw [eC, eE]; exact codeZ_mono (by omega) q
    have m2 : V[j] ≤ U[j] → E[j] ≤ C[j] := fun q => by rw [eC, eE]; exact codeZ_mono (by omega) q
    have next : rec (u, v, c, e, .int .i64 d, .int .i64 ((j : Int) + 1)) G' := hrec _ _ ⟨j + 1, by rfl, by omega, rfl⟩ (by
      show d - ((j : Int) + 1).toNat < d - (j : Int).toNat
      omega)
    generalize U[j] = uj at *
    generalize V[j] = vj at *
    generalize C[j] = xj at *
    generalize E[j] = yj at *
    rcases Int.lt_trichotomy uj vj with q | q | q
    · have d2 : decide (uj ≤ vj) = true := decide_eq_true (by omega)
      have d3 : decide (yj < xj) = false := decide_eq_false (by have := m1 (by omega); omega)
      have d4 : decide (vj ≤ uj) = false := decide_eq_false (by omega)
      repeat (first | rw [outP_val] | rw [guardP_true] | rw [guardP_false] | rw [condP_true] | rw [d1] | rw [a1] | rw [a3] | rw [b1] | rw [b3] | rw [c1] | rw [c3] | rw [e1] | rw [e3] | rw [d2] | rw [d3] | rw [d4] | rw [condP_false] | rw [boolIs_bool] | rw [beq_tt] | rw [beq_ff] | rw [Bool.not_true] | rw [Bool.not_false] | rw [outP_skip] | rw [w_pick_b] | rw [if_pos rfl] | rw [if_neg Bool.false_ne_true] | rw [w_fieldAddr_ptr] | rw [w_nil_ptr] | rw [Nat.zero_add] | rw [w_load_c] | rw [w_load_n] | rw [vO_some] | rw [w_store_c] | rw [w_not] | rw [w_lss] | rw [w_leq] | rw [w_gtr] | rw [w_geq] | rw [w_eql] | rw [w_neq] | rw [w_cint] | rw [w_min2_int] | rw [w_max2_int] | rw [w_add_in (by omega) (by omega)] | rw [w_sub_in (by omega) (by omega)] | rw [w_mul_in (by omega) (by omega)] | rw [outP_enter])
      exact next
    · have d2 : decide (uj ≤ vj) = true := decide_eq_true (by omega)
      have d3 : decide (yj < xj) = false := decide_eq_false (by have := m1 (by omega); omega)
      have d4 : decide (vj ≤ uj) = true := decide_eq_true (by omega)
      have d5 : decide (xj < yj) = false := decide_eq_false (by have := m2 (by omega); omega)
      repeat (first | rw [outP_val] | rw [guardP_true] | rw [guardP_false] | rw [condP_true] | rw [d1] | rw [a1] | rw [a3] | rw [b1] | rw [b3] | rw [c1] | rw [c3] | rw [e1] | rw [e3] | rw [d2] | rw [d3] | rw [d4] | rw [d5] | rw [condP_false] | rw [boolIs_bool] | rw [beq_tt] | rw [beq_ff] | rw [Bool.not_true] | rw [Bool.not_false] | rw [outP_skip] | rw [w_pick_b] | rw [if_pos rfl] | rw [if_neg Bool.false_ne_true] | rw [w_fieldAddr_ptr] | rw [w_nil_ptr] | rw [Nat.zero_add] | rw [w_load_c] | rw [w_load_n] | rw [vO_some] | rw [w_store_c] | rw [w_not] | rw [w_lss] | rw [w_leq] | rw [w_gtr] | rw [w_geq] | rw [w_eql] | rw [w_neq] | rw [w_cint] | rw [w_min2_int] | rw [w_max2_int] | rw [w_add_in (by omega) (by omega)] | rw [w_sub_in (by omega) (by omega)] | rw [w_mul_in (by omega) (by omega)] | rw [outP_enter])
      exact next
    · have d2 : decide (uj ≤ vj) = false := decide_eq_false (by omega)
      have d4 : decide (vj ≤ uj) = true := decide_eq_true (by omega)
      have d5 : decide (xj < yj) = false := decide_eq_false (by have := m2 (by omega); omega)
      repeat (first | rw [outP_val] | rw [guardP_true] | rw [guardP_false] | rw [condP_true] | rw [d1] | rw [a1] | rw [a3] | rw [b1] | rw [b3] | rw [c1] | rw [c3] | rw [e1] | rw [e3] | rw [d2] | rw [d4] | rw [d5] | rw [condP_false] | rw [boolIs_bool] | rw [beq_tt] | rw [beq_ff] | rw [Bool.not_true] | rw [Bool.not_false] | rw [outP_skip] | rw [w_pick_b] | rw [if_pos rfl] | rw [if_neg Bool.false_ne_true] | rw [w_fieldAddr_ptr] | rw [w_nil_ptr] | rw [Nat.zero_add] | rw [w_load_c] | rw [w_load_n] | rw [vO_some] | rw [w_store_c] | rw [w_not] | rw [w_lss] | rw [w_leq] | rw [w_gtr] | rw [w_geq] | rw [w_eql] | rw [w_neq] | rw [w_cint] | rw [w_min2_int] | rw [w_max2_int] | rw [w_add_in (by omega) (by omega)] | rw [w_sub_in (by omega) (by omega)] | rw [w_mul_in (by omega) (by omega)] | rw [outP_enter])
      exact next
  · rw [w_lss, outP_val, decide_eq_false (by omega), condP_false]
    exact hK _ (x13.trans (y13.trans y4))
end
end Go.Ab
