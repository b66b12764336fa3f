/- MetricOrder: what it does, at any three hits. -/
import Derived.Test.YtoafnnphjbdedaaGreatDoorBest
namespace Go.Ab
noncomputable section
open Go.Proofs
set_option maxRecDepth 10000
variable {H H' : AH}

/-! The order. -/
theorem lessB_iff (x y : Int × Int) : lessB x y = true ↔ (x.2 < y.2 ∨ (x.2 = y.2 ∧ x.1 < y.1)) := by
  unfold lessB
  by_cases h : x.2 = y.2
  · simp [h]
  · simp [h]
theorem lessB_trans {x y z : Int × Int} (h : lessB x y = true) (k : lessB y z = true) : lessB x z = true := by
  rw [lessB_iff] at *; omega
theorem lessB_total {x y : Int × Int} (hne : x.1 ≠ y.1) (h : lessB x y = false) : lessB y x = true := by
  have h : ¬ (lessB x y = true) := by rw [h]; simp
  rw [lessB_iff] at *; omega
abbrev Sorted (L : List (Int × Int)) : Prop := L.Pairwise fun x y => lessB x y = true
theorem posL_prefix (L : List (Int × Int)) (h : Int × Int) : ∀ x ∈ L.take (posL L h), lessB x h = true := by
  have e : L.take (posL L h) = L.takeWhile (fun x => lessB x h) := by
    induction L with
    | nil => rfl
    | cons x L ih =>
      by_cases q : lessB x h = true
      · simp only [posL, List.takeWhile_cons, q, if_true, List.length_cons, List.take_succ_cons] at ih ⊢
        rw [ih]
      · simp [posL, q]
  rw [e]
  intro x hx
  exact (List.all_eq_true.1 (List.all_takeWhile (p := fun x => lessB x h) (l := L))) x hx
theorem posL_next {L : List (Int × Int)} {h y : Int × Int} {r : List (Int × Int)} (e : L.drop (posL L h) = y :: r) : lessB y h = false := by
  induction L with
  | nil => simp at e
  | cons x L ih =>
    by_cases q : lessB x h = true
    · simp only [posL, List.takeWhile_cons, q, if_true, List.length_cons, List.drop_succ_cons] at ih e
      exact ih e
    · simp [posL, q] at e
      rw [← e.1]; simpa using q
theorem insert_sorted {L : List (Int × Int)} {h : Int × Int} (hs : Sorted L) (hid : ∀ x ∈ L, x.1 ≠ h.1) : Sorted (L.take (posL L h) ++ h :: L.drop (posL L h)) := by
  have e := List.take_append_drop (posL L h) L
  have hs' := hs
  rw [← e] at hs'
  have ⟨s1, s2, s3⟩ := List.pairwise_append.1 hs'
  have hd : ∀ y ∈ L.drop (posL L h), lessB h y = true := by
    intro y hy
    cases hr : L.drop (posL L h) with
    | nil => rw [hr] at hy; cases hy
    | cons z r =>
      have hz := posL_next hr
      have hzm : z ∈ L := List.mem_of_mem_drop (i := posL L h) (by rw [hr]; simp)
      have hhz := lessB_total (hid z hzm) hz
      rw [hr] at hy s2
      rcases List.mem_cons.1 hy with rfl | hy
      · exact hhz
      · exact lessB_trans hhz ((List.pairwise_cons.1 s2).1 y hy)
  refine List.pairwise_append.2 ⟨s1, List.pairwise_cons.2 ⟨hd, s2⟩, fun x hx y hy => ?_⟩
  rcases List.mem_cons.1 hy with rfl | hy
  · exact posL_prefix L _ x hx
  · exact s3 x hx y hy
theorem putL_sorted (k : Nat) {L : List (Int × Int)} (h : Int × Int) (hs : Sorted L) : Sorted (putL k L h).1 := by
  unfold putL
  split
  · exact hs
  · rename_i hid
    split
    · exact hs
    · exact (insert_sorted hs fun x hx q => hid (List.any_eq_true.2 ⟨x, hx, by simpa using q⟩)).sublist (List.take_sublist _ _)
theorem foldl_sorted (k : Nat) : ∀ (L : List (Int × Int)) {A : List (Int × Int)}, Sorted A → Sorted (L.foldl (fun a h => (putL k a h).1) A)
  | [], _, h => h
  | x :: L, _, h => foldl_sorted k L (putL_sorted k x h)
theorem bestL_sorted (k : Nat) (L : List (Int × Int)) : Sorted (bestL k L) := foldl_sorted k L List.Pairwise.nil

/-! begun. -/
abbrev Laid (H : AH) : Prop := isLaid 250 PP.globals.size 215 (H.get 0) = true
theorem begun_wp (h : Laid H) (K : AV → AH → Prop) (hK : K (.bool true) H) : CC.call 14 [] H K := by
  refine prim_wp (P := PP) (prim := prims7) (g := begA) (v := .bool true) (H' := H) (by kernel_rfl) ?_ hK
  show br (isLaid 250 PP.globals.size 215 (H.get 0)) (some (AV.bool true, H)) none = _
  rw [h]; rfl

theorem bs_three (x y z : Int × Int) : w_buildSlice PP 37 3 H [(0, .agg [.int .i64 x.1, .int .i64 x.2]), (1, .agg [.int .i64 y.1, .int .i64 y.2]), (2, .agg [.int .i64 z.1, .int .i64 z.2])] none =
    some (.val (.slice (some (H.next, 0)) 3 3 true) (H.new (.cells 37 [.int .i64 x.1, .int .i64 x.2, .int .i64 y.1, .int .i64 y.2, .int .i64 z.1, .int .i64 z.2]))) := by
  have h1 : Nat.ble (3 * 2) 16777216 = true := rfl
  have h2 : fillA (fun i => some (i * 2, 2)) [(0, AV.agg [.int .i64 x.1, .int .i64 x.2]), (1, AV.agg [.int .i64 y.1, .int .i64 y.2]), (2, AV.agg [.int .i64 z.1, .int .i64 z.2])] (reps 3 [AV.int IntKind.i64 0, AV.int IntKind.i64 0]) = some [.int .i64 x.1, .int .i64 x.2, .int .i64 y.1, .int .i64 y.2, .int .i64 z.1, .int .i64 z.2] := rfl
  have h3 : allB (fun x : Nat × AV => allB AV.one x.2.parts) [(0, AV.agg [.int .i64 x.1, .int .i64 x.2]), (1, AV.agg [.int .i64 y.1, .int .i64 y.2]), (2, AV.agg [.int .i64 z.1, .int .i64 z.2])] = true := rfl
  simp only [w_buildSlice, oBuildSlice, hit_el, h1, h2, h3, br_true, val_mk, ob_some, newSlice, newTo_none_eq]

theorem metricOrder_wp (x y z : Int × Int) (hl : Laid H) (h0 : 0 < H.next) (K : AV → AH → Prop) (hK : ∀ H', H'.get 0 = H.get 0 → K (.bool true) H') : CC.call 6 [hitA x, hitA y, hitA z] H K := by
  refine m_fieldfarelaw7_MetricOrder_ok _ _ _ _ _ ?_
  unfold m_fieldfarelaw7_MetricOrder m_fieldfarelaw7_MetricOrdert hitA hitL
  have x1 : Ext [] H (((H.new (.cells 37 [.int .i64 x.1, .int .i64 x.2])).new (.cells 37 [.int .i64 y.1, .int .i64 y.2])).new (.cells 37 [.int .i64 z.1, .int .i64 z.2])) := (((Ext.refl _ _).new _).new _).new _
  simp (disch := first | omega | exact one_int _ _ | exact one_slice _ _ _ _ | exact one_ptr _ | assumption | ((repeat (first | rw [next_new] | rw [AH.next_put] | rw [next_more])) <;> omega) | fail) only [outP_val, outP_enter, next_new, 
      w_box_c, parts_agg, 
      one_int, List.all_cons, List.all_nil, Bool.and_self, br_true 
      
      ]
  refine begun_wp (show isLaid _ _ _ _ = true by rw [x1.same 0 h0 (by simp)]; exact hl) _ ?_
  unfold m_fieldfarelaw7_MetricOrdertt m_fieldfarelaw7_MetricOrderttt
  generalize hn : H.next = n at *
  have gx : (((H.new (.cells 37 [.int .i64 x.1, .int .i64 x.2])).new (.cells 37 [.int .i64 y.1, .int .i64 y.2])).new (.cells 37 [.int .i64 z.1, .int .i64 z.2])).get n = some (.cells 37 [.int .i64 x.1, .int .i64 x.2]) := by
    simp (disch := first | omega | exact one_int _ _ | exact one_slice _ _ _ _ | exact one_ptr _ | assumption | ((repeat (first | rw [next_new] | rw [AH.next_put] | rw [next_more])) <;> omega) | fail) only [get_new_eq, get_new_ne 
      
      
      
      ]
  have gy : (((H.new (.cells 37 [.int .i64 x.1, .int .i64 x.2])).new (.cells 37 [.int .i64 y.1, .int .i64 y.2])).new (.cells 37 [.int .i64 z.1, .int .i64 z.2])).get (n + 1) = some (.cells 37 [.int .i64 y.1, .int .i64 y.2]) := by
    simp (disch := first | omega | exact one_int _ _ | exact one_slice _ _ _ _ | exact one_ptr _ | assumption | ((repeat (first | rw [next_new] | rw [AH.next_put] | rw [next_more])) <;> omega) | fail) only [get_new_eq, get_new_ne 
      
      
      
      ]
  have gz : (((H.new (.cells 37 [.int .i64 x.1, .int .i64 x.2])).new (.cells 37 [.int .i64 y.1, .int .i64 y.2])).new (.cells 37 [.int .i64 z.1, .int .i64 z.2])).get (n + 2) = some (.cells 37 [.int .i64 z.1, .int .i64 z.2]) := by
    simp (disch := first | omega | exact one_int _ _ | exact one_slice _ _ _ _ | exact one_ptr _ | assumption | ((repeat (first | rw [next_new] | rw [AH.next_put] | rw [next_more])) <;> omega) | fail) only [get_new_eq 
      
      
      
      ]
  have gn : (((H.new (.cells 37 [.int .i64 x.1, .int .i64 x.2])).new (.cells 37 [.int .i64 y.1, .int .i64 y.2])).new (.cells 37 [.int .i64 z.1, .int .i64 z.2])).next = n + 3 := by
    simp (disch := first | omega | exact one_int _ _ | exact one_slice _ _ _ _ | exact one_ptr _ | assumption | ((repeat (first | rw [next_new] | rw [AH.next_put] | rw [next_more])) <;> omega) | fail) only [next_new, 
      
      
      
      hn]
  generalize ((H.new (.cells 37 [.int .i64 x.1, .int .i64 x.2])).new (.cells 37 [.int .i64 y.1, .int .i64 y.2])).new (.cells 37 [.int .i64 z.1, .int .i64 z.2]) = G at *
  simp (disch := first | omega | exact one_int _ _ | exact one_slice _ _ _ _ | exact one_ptr _ | assumption | ((repeat (first | rw [next_new] | rw [AH.next_put] | rw [next_more])) <;> omega) | fail) only [outP_val, outP_enter, w_load_n, 
      ldN_pair, vO_some, 
      w_not, 
      condP_false, Bool.not_true, 
      gx, gy, gz, bs_three]
  generalize hcs : [AV.int IntKind.i64 x.fst, AV.int IntKind.i64 x.snd, AV.int IntKind.i64 y.fst, AV.int IntKind.i64 y.snd, AV.int IntKind.i64 z.fst, AV.int IntKind.i64 z.snd] = cs
  have o1 : Own (G.new (.cells 37 cs)) 37 2 G.next (.slice (some (G.next, 0)) 3 3 true) ([x, y, z].map hitL) := by
    subst hcs
    exact ⟨.inr ⟨0, 3, true, _, rfl, get_new_same _ _, Nat.le_refl _, Nat.le_refl _, fun q => (by cases q), rfl, by rw [next_new]; omega⟩, by simp [hitL], by simp [hitL, AV.known], by simp [hitL, AV.one]⟩
  have x2 : Ext [] G (G.new (.cells 37 cs)) := (Ext.refl _ _).new _
  refine of_wp o1.sl (by simp) 3 _ fun G2 s B x3 hB ho => ?_
  have hso := bestL_sorted (3 : Int).toNat [x, y, z]
  have hlen : (bestL (3 : Int).toNat [x, y, z]).length ≤ 3 := bestL_len _ _
  generalize bestL (3 : Int).toNat [x, y, z] = L at *
  have x4 := x2.trans x3
  have gx2 := x4.get (by omega) (by simp) gx
  have gy2 := x4.get (by omega) (by simp) gy
  have gz2 := x4.get (by omega) (by simp) gz
  have gn2 := x4.next
  have hhs : Hs G2 B s L := ho.sl
  have hk2 : G2.get 0 = H.get 0 := by rw [x4.same 0 (by omega) (by simp), x1.same 0 (by omega) (by simp)]
  unfold m_fieldfarelaw7_MetricOrdertttth m_fieldfarelaw7_MetricOrdertttthtb
  refine loopP_rule (I := fun t G3 => ∃ j : Nat, t = (.ptr (some (n, 0)), .ptr (some (n + 1, 0)), .ptr (some (n + 1 + 1, 0)), s, .int .i64 ((j + 1 : Nat) : Int)) ∧ Ext [] G2 G3 ∧ j ≤ 3) (μ := fun t _ => match t.2.2.2.2 with | .int _ z => 5 - z.toNat | _ => 0) ?_ ⟨0, rfl, Ext.refl _ _, by omega⟩
  rintro t G3 ⟨j, rfl, x5, hj⟩ rec hrec
  unfold m_fieldfarelaw7_MetricOrdertttthtbl
  have gx3 := x5.get (by omega) (by simp) gx2
  have gy3 := x5.get (by omega) (by simp) gy2
  have gz3 := x5.get (by omega) (by simp) gz2
  have gn3 := x5.next
  have hl3 := hhs.len
  have hh3 : Hs G3 B s L := Sl.mono hhs x5 (by simp)
  simp (disch := first | omega | exact one_int _ _ | exact one_slice _ _ _ _ | exact one_ptr _ | assumption | ((repeat (first | rw [next_new] | rw [AH.next_put] | rw [next_more])) <;> omega) | fail) only [outP_val, outP_enter, w_load_n, 
      w_lss, w_add, w_sub, wrap64_in, 
      condP_dec, 
      hl3]
  refine ⟨fun c => ?_, fun c => ?_⟩
  · have cj : j + 1 < L.length := by omega
    obtain ⟨o1, a1, a2, a3⟩ := hh3.at (j := j) (by omega)
    obtain ⟨o2, b1, b2, b3⟩ := hh3.at cj
    have e : ((j + 1 : Nat) : Int) - 1 = (j : Int) := by omega
    simp (disch := first | omega | exact one_int _ _ | exact one_slice _ _ _ _ | exact one_ptr _ | assumption | ((repeat (first | rw [next_new] | rw [AH.next_put] | rw [next_more])) <;> omega) | fail) only [outP_val, w_load_n, 
      vO_some, 
      e, a1, b1, a3, b3]
    refine less_wp L[j] L[j + 1] G3 _ fun G4 x6 => ?_
    have hless : lessB L[j] L[j + 1] = true := List.pairwise_iff_getElem.1 hso j (j + 1) (by omega) cj (by omega)
    simp (disch := first | omega | exact one_int _ _ | exact one_slice _ _ _ _ | exact one_ptr _ | assumption | ((repeat (first | rw [next_new] | rw [AH.next_put] | rw [next_more])) <;> omega) | fail) only [outP_val, 
      w_not, 
      condP_false, Bool.not_true, 
      hless]
    refine hrec _ _ ⟨j + 1, by rfl, x5.trans x6, by omega⟩ ?_
    show 5 - ((j + 1 : Nat) + 1 : Int).toNat < 5 - ((j + 1 : Nat) : Int).toNat
    omega
  · simp (disch := first | omega | exact one_int _ _ | exact one_slice _ _ _ _ | exact one_ptr _ | assumption | ((repeat (first | rw [next_new] | rw [AH.next_put] | rw [next_more])) <;> omega) | fail) only [outP_val, 
      ldN_pair, vO_some, 
      
      
      gx3, gy3 ]
    refine less_wp x y G3 _ fun G4 x6 => ?_
    have gy4 := x6.get (by omega) (by simp) gy3
    have gz4 := x6.get (by omega) (by simp) gz3
    have gx4 := x6.get (by omega) (by simp) gx3
    have gn4 := x6.next
    have k4 : ∀ G' : AH, Ext [] G4 G' → G'.get 0 = H.get 0 := fun G' q => by rw [q.same 0 (by omega) (by simp), x6.same 0 (by omega) (by simp), x5.same 0 (by omega) (by simp), hk2]
    cases hxy : lessB x y with
    | false =>
      simp (disch := first | omega | exact one_int _ _ | exact one_slice _ _ _ _ | exact one_ptr _ | assumption | ((repeat (first | rw [next_new] | rw [AH.next_put] | rw [next_more])) <;> omega) | fail) only [outP_val, 
      w_not, w_pick_b, 
      boolIs_bool, guardP_false, beq_tt, beq_ff, Bool.not_true, 
      Bool.not_false, if_true, if_false, Bool.false_eq_true ]
      exact hK _ (k4 _ (Ext.refl _ _))
    | true =>
      simp (disch := first | omega | exact one_int _ _ | exact one_slice _ _ _ _ | exact one_ptr _ | assumption | ((repeat (first | rw [next_new] | rw [AH.next_put] | rw [next_more])) <;> omega) | fail) only [outP_val, outP_enter, 
      ldN_pair, vO_some, 
      w_pick_b, 
      boolIs_bool, guardP_true, beq_tt, 
      if_true, gy4, gz4]
      refine less_wp y z G4 _ fun G5 x7 => ?_
      have gn5 := x7.next
      cases hyz : lessB y z with
      | false =>
        simp (disch := first | omega | exact one_int _ _ | exact one_slice _ _ _ _ | exact one_ptr _ | assumption | ((repeat (first | rw [next_new] | rw [AH.next_put] | rw [next_more])) <;> omega) | fail) only [outP_val, 
      w_not, w_pick_b, 
      boolIs_bool, guardP_false, beq_ff, Bool.not_true, 
      Bool.not_false, if_true ]
        exact hK _ (k4 _ x7)
      | true =>
        have gx5 := x7.get (by omega) (by simp) gx4
        have gz5 := x7.get (by omega) (by simp) gz4
        simp (disch := first | omega | exact one_int _ _ | exact one_slice _ _ _ _ | exact one_ptr _ | assumption | ((repeat (first | rw [next_new] | rw [AH.next_put] | rw [next_more])) <;> omega) | fail) only [outP_val, outP_enter, 
      ldN_pair, vO_some, 
      w_not, w_pick_b, 
      boolIs_bool, guardP_true, beq_ff, Bool.not_true, 
      Bool.not_false, if_false, Bool.false_eq_true, gx5, gz5]
        refine less_wp x z G5 _ fun G6 x8 => ?_
        have hxz := lessB_trans hxy hyz
        simp (disch := first | omega | exact one_int _ _ | exact one_slice _ _ _ _ | exact one_ptr _ | assumption | ((repeat (first | rw [next_new] | rw [AH.next_put] | rw [next_more])) <;> omega) | fail) only [
      
      
      
      hxz]
        exact hK _ (k4 _ (x7.trans x8))
end
end Go.Ab
