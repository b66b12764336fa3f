/- slices.Clone at []int. -/
import Derived.Test.YtbahknfffhijlaaGreatDoorAppSeq
import Derived.Test.YtbahknfffhijlaaGreatDoorMPl
namespace Go.Ab
noncomputable section
open Go.Proofs
set_option maxRecDepth 10000
variable {H H' : AH}

theorem eq_in : w_eq PP .eql 31 false true H (.slice none 0 0 true) (.slice none 0 0 true) = some (.val (.bool true) H) := by kernel_rfl
theorem eq_it (b o : Nat) : w_eq PP .eql 31 false true H (.tail b o) (.slice none 0 0 true) = some (.val (.bool false) H) := by kernel_rfl
theorem eq_is (b o n c : Nat) (ex : Bool) : w_eq PP .eql 31 false true H (.slice (some (b, o)) n c ex) (.slice none 0 0 true) = some (.val (.bool false) H) := by kernel_rfl
theorem bs_inone : w_buildSlice PP 3 0 H [] none = some (.val (.slice (some (H.next, 0)) 0 0 true) (H.new (.cells 3 []))) := by
  have h1 : Nat.ble (0 * 1) 16777216 = true := rfl
  have h2 : fillA (fun i => some (i * 1, 1)) [] (reps 0 [AV.int .i64 0]) = some [] := rfl
  have h3 : allB (fun x : Nat × AV => allB AV.one x.2.parts) [] = true := rfl
  simp only [w_buildSlice, oBuildSlice, int_el', h1, h2, h3, br_true, val_mk, ob_some, newSlice, newTo_none_eq]
theorem clone_ints {b : Nat} {s : AV} {L : List Int} (h : Is .i64 H b s L) (hL : L.length ≤ 100000) (K : AV → AH → Prop)
    (hK : ∀ H' s' B', Ext [] H H' → H.next ≤ B' → Os 3 .i64 H' B' s' L → K s' H') : CC.call 29 [s] H K := by
  refine m_slices_Clone_int_int_ok _ _ _ ?_
  unfold m_slices_Clone_int_int
  have go : outP CC H (w_buildSlice PP 3 0 H [] none) (fun v2 H2 => outP CC H2 (w_append 3 1 8 H2 v2 s none) fun v3 H3 => K v3 H3) := by
    rw [bs_inone, outP_val]
    have x1 : Ext [] H (H.new (.cells 3 [])) := (Ext.refl _ _).new _
    have o1 : Own (H.new (.cells 3 [])) 3 1 H.next (.slice (some (H.next, 0)) 0 0 true) [] :=
      ⟨.inr ⟨0, 0, true, [], rfl, get_new_same _ _, Nat.le_refl _, by simp, fun q => (by cases q), rfl, by rw [next_new]; omega⟩, by simp, by simp, by simp⟩
    obtain ⟨s', H', B', e1, e2, e3, e4⟩ := o1.append (by_ := 8) (Sl.mono h x1 (by simp)) (by omega) (by simp only [List.length_nil, List.length_map]; omega)
    refine st e1 (hK _ _ B' (((x1.mono (m' := [H.next]) (by simp)).trans e2).mono fun b hb hlt => ?_) ?_ (by simpa using e4))
    · simp at hb; omega
    · rw [next_new] at e3; omega
  obtain ⟨rfl | ⟨_, _, rfl⟩, hn⟩ | ⟨o, c, ex, rfl, h2, h3⟩ := h.ex
  · rw [eq_in, outP_val, condP_true]
    refine hK _ _ H.next (Ext.refl _ _) (Nat.le_refl _) ?_
    show Own _ _ _ _ _ _
    rw [hn]; exact Own.nil _ _ _ _
  · rw [eq_it, outP_val, condP_false]; exact go
  · rw [eq_is, outP_val, condP_false]; exact go
end
end Go.Ab
