/- means.Middles without a turn, and a vector's copy. -/
import Derived.Test.YtjpjmeidpjjgdaaGreatDoorVecsB
import Derived.Test.YtjpjmeidpjjgdaaGreatDoorMMid
namespace Go.Ab
noncomputable section
open Go.Proofs
set_option maxRecDepth 10000
variable {H H' : AH}

theorem Zs.mono0 {B : Nat} {s : AV} {Z : List Vq} {N : Nat} (h : Zs H B s Z N) (x : Ext [] H H') : Zs H' B s Z N := by
  have n := x.next
  exact ⟨h.own.mono x (by simp), fun z q => by
    obtain ⟨v1, v2, v3⟩ := h.vos z q
    exact ⟨v1.mono x (by simp), by omega, v3⟩, h.apart, h.ne⟩
/-- One more vector. -/
theorem push_zs {Hb : AH} {B : Nat} {s : AV} {Z : List Vq} (hz : Zs H B s Z Hb.next) (x : Ext [] Hb H) (hB : Hb.next ≤ B) (hnil : Z = [] → s = .slice none 0 0 true) (hL : Z.length ≤ 1000) {v : AV} {Bv : Nat} {V : List Int} (ov : Os 21 .i32 H Bv v V)
    (hb1 : Hb.next ≤ Bv) (hb2 : Bv < H.next) (hV : In32 V) (hnew : ∀ z ∈ Z, z.2.1 ≠ Bv) (hne : Z ≠ [] → Bv ≠ B) (K : AV → AH → Prop)
    (hK : ∀ H' s' B', Ext [] Hb H' → Hb.next ≤ B' → Zs H' B' s' (Z ++ [(v, Bv, V)]) Hb.next → K s' H') :
    outP CC H (w_buildSlice PP 38 1 H [(0, v)] none) fun v G => outP CC G (w_append 38 1 24 G s v none) K := by
  obtain ⟨B0, hB0, hzo⟩ : ∃ B0, (B0 = B ∧ B < H.next ∧ Z ≠ [] ∨ B0 = H.next) ∧ Own H 38 1 B0 s (vrow Z) := by
    by_cases q : Z = []
    · refine ⟨H.next, .inr rfl, ?_⟩
      rw [hnil q, q]; exact Own.nil _ _ _ _
    · exact ⟨B, .inl ⟨rfl, (Own.low hz.own).resolve_right (fun r => q (List.map_eq_nil_iff.1 r)), q⟩, hz.own⟩
  refine push_vec hzo hL (v, Bv, V) (Sl.slk (Own.sl ov)) _ fun G2 s2 B2 x3 hB2 o3 => ?_
  have n0 := x.next
  have n2 := x3.next
  have hBv0 : Bv ≠ B0 := by
    rcases hB0 with ⟨e, _, q⟩ | e
    · rw [e]; exact hne q
    · omega
  have hvZ : ∀ z ∈ Z, z.2.1 ≠ B0 := fun z q => by
    have h1 := (hz.vos z q).2.1
    have h2 := hz.ne z q
    rcases hB0 with ⟨e, _⟩ | e <;> omega
  refine hK _ _ B2 ?_ ?_ ⟨o3, fun z q => ?_, ?_, fun z q => ?_⟩
  · refine ((x.mono (m' := [B0]) (by simp)).trans x3).mono fun b hb hlt => ?_
    simp at hb
    rcases hB0 with ⟨e, _⟩ | e <;> omega
  · rcases hB0 with ⟨e, _⟩ | e <;> omega
  · rcases List.mem_append.1 q with q | q
    · obtain ⟨v1, v2, v3⟩ := hz.vos z q
      exact ⟨v1.mono x3 (by simp; exact hvZ z q), by omega, v3⟩
    · have e := List.mem_singleton.1 q
      subst e
      exact ⟨⟨Own.mono ov x3 (by simp; exact hBv0), hV⟩, by show Bv < _; omega, hb1⟩
  · refine List.pairwise_append.2 ⟨hz.apart, List.pairwise_singleton _ _, fun x hx y hy' => ?_⟩
    have e := List.mem_singleton.1 hy'
    subst e
    exact hnew x hx
  · rcases List.mem_append.1 q with q | q
    · have h1 := (hz.vos z q).2.1
      have h2 := hvZ z q
      omega
    · have e := List.mem_singleton.1 q
      subst e
      show Bv ≠ B2
      omega

/-! A copy. -/
theorem eq_nn : w_eq PP .eql 38 false true H (.slice none 0 0 true) (.slice none 0 0 true) = some (.val (.bool true) H) := by kernel_rfl
theorem eq_nt (b o : Nat) : w_eq PP .eql 38 false true H (.tail b o) (.slice none 0 0 true) = some (.val (.bool false) H) := by kernel_rfl
theorem eq_ns (b o n c : Nat) (ex : Bool) : w_eq PP .eql 38 false true H (.slice (some (b, o)) n c ex) (.slice none 0 0 true) = some (.val (.bool false) H) := by kernel_rfl
theorem bs_nnone : w_buildSlice PP 21 0 H [] none = some (.val (.slice (some (H.next, 0)) 0 0 true) (H.new (.cells 21 []))) := by
  have h1 : Nat.ble (0 * 1) 16777216 = true := rfl
  have h2 : fillA (fun i => some (i * 1, 1)) [] (reps 0 [AV.int .i32 0]) = some [] := rfl
  have h3 : allB (fun x : Nat × AV => allB AV.one x.2.parts) [] = true := rfl
  simp only [w_buildSlice, oBuildSlice, i32_el, h1, h2, h3, br_true, val_mk, ob_some, newSlice, newTo_none_eq]
theorem app_none {b : Nat} {s : AV} {L : List Int} (h : Is .i32 H b s L) (hL : L.length ≤ 100000) : ∃ s' H' B', w_append 21 1 4 (H.new (.cells 21 [])) (.slice (some (H.next, 0)) 0 0 true) s none = some (.val s' H') ∧ Ext [] H H' ∧ H.next ≤ B' ∧ Os 21 .i32 H' B' s' L := by
  have x1 : Ext [] H (H.new (.cells 21 [])) := (Ext.refl _ _).new _
  have o1 : Own (H.new (.cells 21 [])) 21 1 H.next (.slice (some (H.next, 0)) 0 0 true) [] :=
    ⟨.inr ⟨0, 0, true, [], rfl, get_new_same _ _, Nat.le_refl _, by simp, fun q => (by cases q), rfl, by rw [next_new]; omega⟩, by simp, by simp, by simp⟩
  obtain ⟨s', H', B', e1, e2, e3, e4⟩ := o1.append (by_ := 4) (Sl.mono h x1 (by simp)) (by omega) (by simp only [List.length_nil, List.length_map]; omega)
  refine ⟨s', H', B', e1, ((x1.mono (m' := [H.next]) (by simp)).trans e2).mono fun b hb hlt => ?_, ?_, by simpa using e4⟩
  · simp at hb; omega
  · rw [next_new] at e3; omega
/-! Among. -/
abbrev midFn (p : Nat) : AV := .fn (.func 48) [] [.ptr (some (p, 0))]
theorem mid1_wp {b p bv : Nat} {s v : AV} {W V : List Int} (h : Is .i32 H b s W) (hv : Is .i32 H bv v V) (hW : W.length ≤ 1000000) (hp : H.get p = some (.cells 38 [v])) (K : AV → AH → Prop) (hK : K (.bool (decide (W = V))) H) : CC.call 48 [s, .ptr (some (p, 0))] H K := by
  refine m_means_Middles_1_ok _ _ _ _ ?_
  unfold m_means_Middles_1
  obtain ⟨f1, f2, _, f3⟩ := Sl.facts hv
  rw [w_load_c, hp, ldV_cells, show ([v] : List AV)[0]? = some v from rfl, ob_some, f2, vO_some, outP_val, outP_enter]
  exact vecEq_wp h hv hW _ hK
theorem among_wp {b p bv : Nat} {s v : AV} {Z : List Vq} {V : List Int} (h : Sl H 1 b s (vrow Z)) (hL : Z.length ≤ 1000) (hy : ∀ y ∈ Z, VEl H y ∧ y.2.2.length ≤ 1000) (hv : Is .i32 H bv v V) (hp : H.get p = some (.cells 38 [v])) (K : AV → AH → Prop)
    (hK : K (.bool (Z.any fun z => decide (z.2.2 = V))) H) : CC.call 47 [s, midFn p] H K := by
  refine m_slices_ContainsFunc_api_Vec_api_Vec_ok _ _ _ _ ?_
  unfold m_slices_ContainsFunc_api_Vec_api_Vec
  rw [outP_enter]
  have key : ∀ i : Int, (0 ≤ i ↔ (Z.any fun z => decide (z.2.2 = V)) = true) → outP CC H (w_int .geq H (.int .i64 i) (.int .i64 0)) fun v2 H2 => K v2 H2 := by
    intro i hi
    rw [w_geq, outP_val, show decide ((0 : Int) ≤ i) = (Z.any fun z => decide (z.2.2 = V)) by rw [Bool.eq_iff_iff, decide_eq_true_iff]; exact hi]
    exact hK
  refine m_slices_IndexFunc_api_Vec_api_Vec_ok _ _ _ _ ?_
  unfold m_slices_IndexFunc_api_Vec_api_Vec m_slices_IndexFunc_api_Vec_api_Vecth
  rw [vrow_len h, outP_val]
  unfold m_slices_IndexFunc_api_Vec_api_Vecthtb
  refine loopP_rule (I := fun t G => ∃ j : Nat, t = (s, midFn p, .int .i64 Z.length, .int .i64 j) ∧ j ≤ Z.length ∧ G = H ∧ ∀ y ∈ Z.take j, ¬ y.2.2 = V) (μ := fun t _ => match t.2.2.2 with | .int _ z => Z.length - z.toNat | _ => 0) ?_ ⟨0, rfl, Nat.zero_le _, rfl, fun x hx => by simp at hx⟩
  rintro t G ⟨j, rfl, hj, rfl, hno⟩ rec hrec
  unfold m_slices_IndexFunc_api_Vec_api_Vecthtbl
  rw [w_lss, outP_val]
  by_cases cj : j < Z.length
  · obtain ⟨o, a1, a2, a3⟩ := vrow_at h cj
    have he := hy _ (List.getElem_mem cj)
    rw [decide_eq_true (by omega), condP_true, a1, outP_val, w_load_c, a3, vO_some, outP_val]
    show CC.call 48 [Z[j].1, .ptr (some (p, 0))] G _
    refine mid1_wp he.1.is hv (by omega) hp _ ?_
    by_cases c : Z[j].2.2 = V
    · rw [decide_eq_true c, condP_true]
      exact key _ ⟨fun _ => List.any_eq_true.2 ⟨_, List.getElem_mem cj, decide_eq_true c⟩, fun _ => by omega⟩
    · rw [decide_eq_false c, condP_false, w_add_in (by omega) (by omega), outP_val]
      refine hrec _ _ ⟨j + 1, by rfl, by omega, rfl, fun x hx => ?_⟩ ?_
      · rw [List.take_succ_eq_append_getElem cj, List.mem_append] at hx
        rcases hx with hx | hx
        · exact hno x hx
        · simp at hx; subst hx; exact c
      · show Z.length - ((j : Int) + 1).toNat < Z.length - (j : Int).toNat
        omega
  · rw [decide_eq_false (by omega), condP_false]
    refine key _ ⟨fun q => by omega, fun q => ?_⟩
    obtain ⟨x, hx, hx'⟩ := List.any_eq_true.1 q
    exact absurd (of_decide_eq_true hx') (hno x (by rw [List.take_of_length_le (by omega)]; exact hx))

/-! Middles. -/
theorem mids_wp {b : Nat} {s : AV} {Y : List Vq} (h : Sl H 1 b s (vrow Y)) (hy : ∀ y ∈ Y, VEl H y) (hY : Y.length ≤ 1000) {d : Nat} (hd : 1 ≤ d ∧ d ≤ 8) (hyd : ∀ y ∈ Y, y.2.2.length = d) (K : AV → AH → Prop)
    (hK : ∀ H' s' B Z, Ext [] H H' → H.next ≤ B → Zs H' B s' Z H.next → (Y ≠ [] → Z ≠ []) → Z.length ≤ Y.length → (∀ z ∈ Z, z.2.2.length = d) → K s' H') : CC.call 22 [.int .i64 3, .int .i64 0, s] H K := by
  refine m_means_Middles_ok _ _ _ _ _ ?_
  unfold m_means_Middles m_means_Middlest
  rw [w_max2_int, outP_val, w_min2_int, outP_val, w_max2_int, outP_val, w_min2_int, outP_val, show min (max (3 : Int) 1) 16 = 3 from by decide, show min (max (0 : Int) 0) 10 = 0 from by decide]
  unfold m_means_Middlestt m_means_Middlesttth
  rw [vrow_len h, outP_val]
  unfold m_means_Middlesttthtb
  refine loopP_rule (I := fun t G => ∃ (j B : Nat) (s' : AV) (Z : List Vq), t = (.int .i64 3, .int .i64 0, s, s', s, .int .i64 Y.length, .int .i64 j) ∧ j ≤ Y.length ∧ Ext [] H G ∧ H.next ≤ B ∧ Zs G B s' Z H.next ∧ (0 < j → Z ≠ []) ∧ Z.length ≤ j ∧ (∀ z ∈ Z, z.2.2.length = d) ∧ (Z = [] → s' = .slice none 0 0 true))
    (μ := fun t _ => match t.2.2.2.2.2.2 with | .int _ z => Y.length - z.toNat | _ => 0) ?_ ⟨0, H.next, _, [], rfl, Nat.zero_le _, Ext.refl _ _, Nat.le_refl _, ⟨Own.nil _ _ _ _, by simp, List.Pairwise.nil, by simp⟩, by omega, Nat.le_refl _, by simp, fun _ => rfl⟩
  rintro t G ⟨j, B, s', Z, rfl, hj, x1, hB, hz, hne, hZj, hZd, hnil⟩ rec hrec
  unfold m_means_Middlesttthtbl
  have n1 := x1.next
  rw [w_lss, outP_val]
  by_cases cj : j < Y.length
  · obtain ⟨o, a1, a2, a3⟩ := vrow_at (h.mono x1 (by simp)) cj
    have he := (hy _ (List.getElem_mem cj)).mono0 x1
    have hel := hyd _ (List.getElem_mem cj)
    obtain ⟨f1, f2, _, f3⟩ := Sl.facts he.is
    rw [decide_eq_true (by omega), condP_true, a1, outP_val, w_load_c, a3, vO_some, outP_val, w_alloc_none, outP_val, w_store_c, get_new_same, stN_one _ _ _ _ _ f1 (Nat.zero_lt_one), outP_skip]
    have x2 : Ext [] G ((G.new (.cells 38 [.slice none 0 0 true])).put G.next (some (.cells 38 ([AV.slice none 0 0 true].set 0 Y[j].1)))) := ((Ext.refl _ _).new _).put (.inl (Nat.le_refl _)) _
    have hp := get_put_same (H := G.new (.cells 38 [.slice none 0 0 true])) G.next (some (.cells 38 ([AV.slice none 0 0 true].set 0 Y[j].1)))
    have hpn : G.next < ((G.new (.cells 38 [.slice none 0 0 true])).put G.next (some (.cells 38 ([AV.slice none 0 0 true].set 0 Y[j].1)))).next := by rw [AH.next_put, next_new]; omega
    rw [show [AV.slice none 0 0 true].set 0 Y[j].1 = [Y[j].1] from rfl] at x2 hp hpn ⊢
    generalize (G.new (.cells 38 [.slice none 0 0 true])).put G.next (some (.cells 38 [Y[j].1])) = G1 at *
    have x12 := x1.trans x2
    have hz1 := hz.mono0 x2
    have he1 := he.mono0 x2
    have n2 := x2.next
    generalize G.next = p at *
    have ldp : ∀ G' : AH, Ext [] G1 G' → ldV (G'.get p) 0 = some Y[j].1 := fun G' e => by rw [e.get hpn (by simp) hp, ldV_cells, show ([Y[j].1] : List AV)[0]? = some Y[j].1 from rfl, ob_some, f2]
    have dec : Y.length - ((j : Int) + 1).toNat < Y.length - (j : Int).toNat := by omega
    rw [vrow_len hz1.own.sl, outP_val, w_lss, outP_val, boolIs_bool, beq_tt]
    have skip : Z ≠ [] → outP CC G1 (w_int .add G1 (.int .i64 j) (.int .i64 1)) (fun v19 H19 => rec (.int .i64 3, .int .i64 0, s, s', s, .int .i64 Y.length, v19) H19) := fun q => by
      rw [w_add_in (by omega) (by omega), outP_val]
      exact hrec _ _ ⟨j + 1, B, s', Z, by rfl, by omega, x12, hB, hz1, fun _ => q, by omega, hZd, hnil⟩ dec
    by_cases c1 : Z.length < 3
    · rw [decide_eq_true (by omega), guardP_true, outP_val, guardP_true, outP_val, guardP_true, outP_enter]
      refine among_wp hz1.own.sl (by omega) (fun z q => ⟨(hz1.vos z q).1.el, by have := hZd z q; omega⟩) he1.is hp _ ?_
      rw [guardP_true, w_not, outP_val, w_pick_b, outP_val, if_pos rfl]
      cases c2 : Z.any fun z => decide (z.2.2 = Y[j].2.2) with
      | true =>
        rw [Bool.not_true, condP_false]
        exact skip fun q => by rw [q] at c2; cases c2
      | false =>
        rw [Bool.not_false, condP_true, bs_nnone, outP_val, w_load_c, ldp _ ((Ext.refl _ _).new _), vO_some, outP_val]
        obtain ⟨v, G2, Bv, e1, e2, e3, e4⟩ := app_none he1.is (by omega)
        refine st e1 ?_
        have n3 := e2.next
        have hlow : Bv < G2.next := (Own.low e4).resolve_right fun r => by rw [List.map_eq_nil_iff.1 r] at hel; simp at hel; omega
        have hz2 := hz1.mono0 e2
        refine push_zs hz2 (x12.trans e2) hB hnil (by omega) e4 (by omega) hlow he.in32 (fun z q => ?_) (fun q => ?_) _ fun G3 s3 B3 x4 hB3 hz3 => ?_
        · have := (hz1.vos z q).2.1; omega
        · have := (Own.low hz1.own).resolve_right fun r => q (List.map_eq_nil_iff.1 r)
          omega
        · rw [w_add_in (by omega) (by omega), outP_val]
          refine hrec _ _ ⟨j + 1, B3, s3, _, by rfl, by omega, x4, hB3, hz3, fun _ => by simp, by simp; omega, fun z q => ?_, fun q => by simp at q⟩ dec
          rcases List.mem_append.1 q with q | q
          · exact hZd z q
          · have e := List.mem_singleton.1 q
            subst e
            exact hel
    · rw [decide_eq_false (by omega), guardP_false, guardP_false, guardP_false, guardP_false, w_pick_b, outP_val, if_neg (by simp), condP_false]
      exact skip fun q => by rw [q] at c1; simp at c1
  · rw [decide_eq_false (by omega), condP_false]
    unfold m_means_Middlestttth m_means_Middlestttthtb
    refine loopP_rule (I := fun t G' => t = (s, s', .int .i64 0, .int .i64 0) ∧ G' = G) (μ := fun _ _ => 0) ?_ ⟨rfl, rfl⟩
    rintro t G' ⟨rfl, rfl⟩ rec2 _
    unfold m_means_Middlestttthtbl
    rw [w_lss, outP_val, decide_eq_false (by omega)]
    unfold m_means_Middlestttthtblt
    rw [condP_false]
    exact hK _ _ B Z x1 hB hz (fun q => hne (by have := List.length_pos_iff.2 q; omega)) (by omega) hZd
/-- None, and some turns. -/
theorem mids_nil (K : AV → AH → Prop) (hK : ∀ H', Ext [] H H' → K (.slice none 0 0 true) H') : CC.call 22 [.int .i64 3, .int .i64 2, .slice none 0 0 true] H K := by
  refine m_means_Middles_ok _ _ _ _ _ ?_
  unfold m_means_Middles m_means_Middlest
  rw [w_max2_int, outP_val, w_min2_int, outP_val, w_max2_int, outP_val, w_min2_int, outP_val, show min (max (3 : Int) 1) 16 = 3 from by decide, show min (max (2 : Int) 0) 10 = 2 from by decide]
  have l0 : ∀ G : AH, w_len PP 36 G (.slice none 0 0 true) = some (.val (.int .i64 0) G) := fun G => vrow_len (H := G) (b := 0) (Y := []) (Own.nil G 38 1 0).sl G
  unfold m_means_Middlestt m_means_Middlesttth
  rw [l0, outP_val]
  unfold m_means_Middlesttthtb
  refine loopP_rule (I := fun t G' => t = (.int .i64 3, .int .i64 2, .slice none 0 0 true, .slice none 0 0 true, .slice none 0 0 true, .int .i64 0, .int .i64 0) ∧ G' = H) (μ := fun _ _ => 0) ?_ ⟨rfl, rfl⟩
  rintro t G ⟨rfl, rfl⟩ rec _
  unfold m_means_Middlesttthtbl
  rw [w_lss, outP_val, decide_eq_false (by omega), condP_false]
  unfold m_means_Middlestttth m_means_Middlestttthtb
  refine loopP_rule (I := fun t G' => ∃ j : Nat, t = (.slice none 0 0 true, .slice none 0 0 true, .int .i64 2, .int .i64 j) ∧ j ≤ 2 ∧ Ext [] G G') (μ := fun t _ => match t.2.2.2 with | .int _ z => 2 - z.toNat | _ => 0) ?_ ⟨0, rfl, by omega, Ext.refl _ _⟩
  rintro t G1 ⟨j, rfl, hj, x1⟩ rec2 hrec2
  unfold m_means_Middlestttthtbl
  rw [w_lss, outP_val]
  unfold m_means_Middlestttthtblt
  by_cases c : j < 2
  · rw [decide_eq_true (by omega), condP_true]
    unfold m_means_Middlestttthtbltthb
    obtain ⟨G2, e1, e2, _⟩ := own_make (P := PP) (H := G1) (e := 36) (sz := 1) (by_ := 24) (z := [.slice none 0 0 true]) (by kernel_rfl) (by kernel_rfl) (by omega) rfl rfl rfl (n := 0) (by omega) (by omega) .i64 .i64
    rw [l0, outP_val]
    refine st e1 ?_
    unfold m_means_Middlestttthtbltthbth
    rw [l0, outP_val]
    unfold m_means_Middlestttthtbltthbthtb
    generalize (AV.slice (some (G1.next, 0)) 0 0 true) = w
    refine loopP_rule (I := fun t G' => t = (.slice none 0 0 true, .slice none 0 0 true, w, .int .i64 2, .int .i64 j, .slice none 0 0 true, .int .i64 0, .int .i64 0) ∧ G' = G2) (μ := fun _ _ => 0) ?_ ⟨rfl, rfl⟩
    rintro t G3 ⟨rfl, rfl⟩ rec3 _
    unfold m_means_Middlestttthtbltthbthtbl
    rw [w_lss, outP_val, decide_eq_false (by omega), condP_false]
    unfold m_means_Middlestttthtbltthbtt
    rw [l0, outP_val]
    unfold m_means_Middlestttthtbltthbtttb
    refine loopP_rule (I := fun t G' => t = (.slice none 0 0 true, .slice none 0 0 true, w, .int .i64 2, .int .i64 j, .int .i64 0, .int .i64 0) ∧ G' = G3) (μ := fun _ _ => 0) ?_ ⟨rfl, rfl⟩
    rintro t G4 ⟨rfl, rfl⟩ rec4 _
    unfold m_means_Middlestttthtbltthbtttbl
    rw [w_lss, outP_val, decide_eq_false (by omega), condP_false, w_add_in (by omega) (by omega), outP_val]
    refine hrec2 _ _ ⟨j + 1, by rfl, by omega, x1.trans e2⟩ ?_
    show 2 - ((j : Int) + 1).toNat < 2 - (j : Int).toNat
    omega
  · rw [decide_eq_false (by omega), condP_false]
    exact hK _ x1
end
end Go.Ab
