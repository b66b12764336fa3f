/- slices.Clone at []int. -/
import Derived.Test.YtlbjmgpbgkiejaaGreatDoorAppSeq
import Derived.Test.YtlbjmgpbgkiejaaGreatDoorMB
import Derived.Test.YtlbjmgpbgkiejaaGreatDoorVecK
namespace Go.Ab
noncomputable section
open Go.Proofs
set_option maxRecDepth 10000
variable {H H' : AH}

theorem eq_in : w_eq PP .eql 54 false true H (.slice none 0 0 true) (.slice none 0 0 true) = some (.val (.bool true) H) := by kernel_rfl
theorem eq_it (b o : Nat) : w_eq PP .eql 54 false true H (.tail b o) (.slice none 0 0 true) = some (.val (.bool false) H) := by kernel_rfl
theorem eq_is (b o n c : Nat) (ex : Bool) : w_eq PP .eql 54 false true H (.slice (some (b, o)) n c ex) (.slice none 0 0 true) = some (.val (.bool false) H) := by kernel_rfl
theorem bs_inone : w_buildSlice PP 3 0 H [] none = some (.val (.slice (some (H.next, 0)) 0 0 true) (H.new (.cells 3 []))) := by
  have h1 : Nat.ble (0 * 1) 16777216 = true := rfl
  have h2 : fillA (fun i => some (i * 1, 1)) [] (reps 0 [AV.int .i64 0]) = some [] := rfl
  have h3 : allB (fun x : Nat × AV => allB AV.one x.2.parts) [] = true := rfl
  simp only [w_buildSlice, oBuildSlice, int_el', h1, h2, h3, br_true, val_mk, ob_some, newSlice, newTo_none_eq]
theorem clone_ints {b : Nat} {s : AV} {L : List Int} (h : Is .i64 H b s L) (hL : L.length ≤ 100000) (K : AV → AH → Prop)
    (hK : ∀ H' s' B', Ext [] H H' → H.next ≤ B' → Os 3 .i64 H' B' s' L → K s' H') : CC.call 181 [s] H K := by
  refine m_slices_Clone_int_int_ok _ _ _ ?_
  unfold m_slices_Clone_int_int
  have go : outP CC H (w_buildSlice PP 3 0 H [] none) (fun v2 H2 => outP CC H2 (w_append 3 1 8 H2 v2 s none) fun v3 H3 => K v3 H3) := by
    rw [bs_inone, outP_val]
    have x1 : Ext [] H (H.new (.cells 3 [])) := (Ext.refl _ _).new _
    have o1 : Own (H.new (.cells 3 [])) 3 1 H.next (.slice (some (H.next, 0)) 0 0 true) [] :=
      ⟨.inr ⟨0, 0, true, [], rfl, get_new_same _ _, Nat.le_refl _, by simp, fun q => (by cases q), rfl, by rw [next_new]; omega⟩, by simp, by simp, by simp⟩
    obtain ⟨s', H', B', e1, e2, e3, e4⟩ := o1.append (by_ := 8) (Sl.mono h x1 (by simp)) (by omega) (by simp only [List.length_nil, List.length_map]; omega)
    refine st e1 (hK _ _ B' (((x1.mono (m' := [H.next]) (by simp)).trans e2).mono fun b hb hlt => ?_) ?_ (by simpa using e4))
    · simp at hb; omega
    · rw [next_new] at e3; omega
  obtain ⟨rfl | ⟨_, _, rfl⟩, hn⟩ | ⟨o, c, ex, rfl, h2, h3⟩ := h.ex
  · rw [eq_in, outP_val, condP_true]
    refine hK _ _ H.next (Ext.refl _ _) (Nat.le_refl _) ?_
    show Own _ _ _ _ _ _
    rw [hn]; exact Own.nil _ _ _ _
  · rw [eq_it, outP_val, condP_false]; exact go
  · rw [eq_is, outP_val, condP_false]; exact go
end
end Go.Ab
/- slices.Concat at []int. -/
namespace Go.Ab
noncomputable section
open Go.Proofs
set_option maxRecDepth 10000
variable {H H' : AH}

theorem grow_wp {n : Nat} (hn : n ≤ 1000000) (K : AV → AH → Prop) (hK : ∀ H' s' B, Ext [] H H' → H.next ≤ B → Os 3 .i64 H' B s' [] → K s' H') : CC.call 268 [.slice none 0 0 true, .int .i64 n] H K := by
  refine m_slices_Grow_int_int_ok _ _ _ _ ?_
  unfold m_slices_Grow_int_int m_slices_Grow_int_intt
  rw [w_lss, outP_val, decide_eq_false (by omega), condP_false]
  unfold m_slices_Grow_int_inttt
  have c0 : w_cap PP 54 H (.slice none 0 0 true) = some (.val (.int .i64 0) H) := by kernel_rfl
  have l0 : ∀ G : AH, w_len PP 54 G (.slice none 0 0 true) = some (.val (.int .i64 0) G) := fun G => (os_nil (H := G) 3 .i64 0).is.len ints_sl G
  rw [c0, outP_val, l0, outP_val, w_sub, outP_val, w_sub, outP_val, wrap64_in (x := 0 - 0) (by omega) (by omega), wrap64_in (by omega) (by omega), w_gtr, outP_val]
  by_cases c : n = 0
  · rw [decide_eq_false (by omega), condP_false]
    exact hK _ _ H.next (Ext.refl _ _) (Nat.le_refl _) (os_nil _ _ _)
  · rw [decide_eq_true (by omega), condP_true, c0, outP_val]
    have s0 : w_slice (.sl 1) true false H (.slice none 0 0 true) none (some (.int .i64 0)) none = some (.val (.slice none 0 0 true) H) := rfl
    rw [s0, outP_val, show ((n : Int) - (0 - 0)) = ((n : Nat) : Int) by omega]
    have g := w_appendZ_grow (H := H) (e := 3) (sz := 1) (by_ := 8) (n := 0) (c := 0) (m := n) (p := none) (k := .i64) (z := [.int .i64 0]) (L := []) (by omega) (by omega) (by omega) (by omega) rfl
    rw [Nat.zero_add] at g
    rw [g, outP_val, l0, outP_val]
    have s1 : ∀ G : AH, w_slice (.sl 1) true false G (.slice (some (H.next, 0)) n n false) none (some (.int .i64 0)) none = some (.val (.slice (some (H.next, 0)) 0 n false) G) := fun G => (w_slice_op (H := G) (sz := 1) (hasHi := true) none (some (.i64, 0)) (Nat.zero_le _) (Nat.zero_le _) (show 0 < n by omega))
    rw [s1, outP_val]
    refine hK _ _ H.next ((Ext.refl _ _).new _) (Nat.le_refl _) ⟨.inr ⟨0, n, false, _, rfl, get_new_same _ _, by simp, ?_, fun _ => ?_, by simp, by rw [next_new]; omega⟩, by simp, by simp, by simp⟩
    · simp [reps_length]
    · simp [reps_length]
/-- The first j, joined. -/
def catI (Y : List Vq) (j : Nat) : List Int := ((Y.take j).map fun y => y.2.2).flatten
theorem catI_succ {Y : List Vq} {j : Nat} (h : j < Y.length) : catI Y (j + 1) = catI Y j ++ Y[j].2.2 := by
  unfold catI
  rw [List.take_succ_eq_append_getElem h, List.map_append, List.flatten_append]
  simp
theorem catI_len {Y : List Vq} (hl : ∀ y ∈ Y, y.2.2.length ≤ 1000) : ∀ j, j ≤ Y.length → (catI Y j).length ≤ 1000 * j
  | 0, _ => by simp [catI]
  | j + 1, h => by
    have ih := catI_len hl j (by omega)
    have := hl _ (List.getElem_mem (show j < Y.length by omega))
    rw [catI_succ (by omega), List.length_append]
    omega
theorem concat_wp {b : Nat} {s : AV} {Y : List Vq} (h : Sl H 1 b s (vrow Y)) (hy : ∀ y ∈ Y, Is .i64 H y.2.1 y.1 y.2.2) (hn : Y.length ≤ 10) (hl : ∀ y ∈ Y, y.2.2.length ≤ 1000) (K : AV → AH → Prop)
    (hK : ∀ H' s' B, Ext [] H H' → H.next ≤ B → Os 3 .i64 H' B s' (Y.map fun y => y.2.2).flatten → K s' H') : CC.call 205 [s] H K := by
  refine m_slices_Concat_int_int_ok _ _ _ ?_
  unfold m_slices_Concat_int_int m_slices_Concat_int_intt m_slices_Concat_int_inttth
  have lv : ∀ G : AH, w_len PP 379 G s = some (.val (.int .i64 Y.length) G) := fun G => by
    have := Sl.len (P := PP) h (show PP.underlying 379 = some (.slice 54) by kernel_rfl) G
    rwa [List.length_map] at this
  rw [lv, outP_val]
  unfold m_slices_Concat_int_inttthtb
  have z0 : catI Y 0 = [] := rfl
  refine loopP_rule (I := fun t G => ∃ j : Nat, t = (s, .int .i64 ((catI Y j).length : Nat), s, .int .i64 Y.length, .int .i64 j) ∧ j ≤ Y.length ∧ G = H) (μ := fun t _ => match t.2.2.2.2 with | .int _ z => Y.length - z.toNat | _ => 0) ?_ ⟨0, rfl, Nat.zero_le _, rfl⟩
  rintro t G ⟨j, rfl, hj, rfl⟩ rec hrec
  unfold m_slices_Concat_int_inttthtbl
  rw [w_lss, outP_val]
  have cl := catI_len hl j hj
  by_cases c : j < Y.length
  · obtain ⟨o, a1, a2, a3⟩ := vrow_at h c
    have hc := hl _ (List.getElem_mem c)
    have e : ((catI Y j).length : Int) + (Y[j].2.2.length : Int) = ((catI Y (j + 1)).length : Int) := by rw [catI_succ c, List.length_append]; omega
    have cl2 := catI_len hl (j + 1) (by omega)
    rw [decide_eq_true (by omega), condP_true, a1, outP_val, w_load_c, a3, vO_some, outP_val, (hy _ (List.getElem_mem c)).len ints_sl, outP_val, w_add_in (by omega) (by omega), outP_val, w_lss, outP_val, decide_eq_false (by omega), condP_false, w_add_in (by omega) (by omega), outP_val, e]
    refine hrec _ _ ⟨j + 1, by rfl, by omega, rfl⟩ ?_
    show Y.length - ((j : Int) + 1).toNat < Y.length - (j : Int).toNat
    omega
  rw [decide_eq_false (by omega), condP_false]
  unfold m_slices_Concat_int_intttt
  rw [outP_enter]
  refine grow_wp (by omega) _ fun G1 s1 B1 x1 hB1 o1 => ?_
  unfold m_slices_Concat_int_inttttth
  rw [lv, outP_val]
  unfold m_slices_Concat_int_inttttthtb
  refine loopP_rule (I := fun t G' => ∃ (i B : Nat) (s' : AV), t = (s', s, .int .i64 Y.length, .int .i64 i) ∧ i ≤ Y.length ∧ Ext [] G G' ∧ G.next ≤ B ∧ Os 3 .i64 G' B s' (catI Y i)) (μ := fun t _ => match t.2.2.2 with | .int _ z => Y.length - z.toNat | _ => 0) ?_ ⟨0, B1, s1, rfl, Nat.zero_le _, x1, hB1, o1⟩
  rintro t G' ⟨i, B, s', rfl, hi, x2, hB, o2⟩ rec2 hrec2
  unfold m_slices_Concat_int_inttttthtbl
  rw [w_lss, outP_val]
  have n2 := x2.next
  by_cases ci : i < Y.length
  · obtain ⟨o, a1, a2, a3⟩ := vrow_at (h.mono x2 (by simp)) ci
    have hc := hl _ (List.getElem_mem ci)
    have cl2 := catI_len hl i hi
    have hyi : Is .i64 G' Y[i].2.1 Y[i].1 Y[i].2.2 := Sl.mono (hy _ (List.getElem_mem ci)) x2 (by simp)
    obtain ⟨s3, G3, B3, e1, e2, e3, e4⟩ := Own.append (by_ := 8) o2 hyi (by omega) (by simp only [List.length_map]; omega)
    rw [decide_eq_true (by omega), condP_true, a1, outP_val, w_load_c, a3, vO_some, outP_val]
    refine st e1 ?_
    rw [w_add_in (by omega) (by omega), outP_val]
    refine hrec2 _ _ ⟨i + 1, B3, s3, by rfl, by omega, ((x2.mono (m' := [B]) (by simp)).trans e2).mono fun q hq hlt => ?_, by omega, ?_⟩ ?_
    · simp at hq; omega
    · show Own _ _ _ _ _ _
      rw [catI_succ ci, show nums .i64 (catI Y i ++ Y[i].2.2) = nums .i64 (catI Y i) ++ nums .i64 Y[i].2.2 from List.map_append]; exact e4
    · show Y.length - ((i : Int) + 1).toNat < Y.length - (i : Int).toNat
      omega
  · rw [decide_eq_false (by omega), condP_false]
    refine hK _ s' B x2 hB ?_
    unfold catI at o2
    rw [List.take_of_length_le (by omega)] at o2
    exact o2
end
end Go.Ab
