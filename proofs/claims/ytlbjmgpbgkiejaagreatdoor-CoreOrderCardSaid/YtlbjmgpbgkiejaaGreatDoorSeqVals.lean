/- slices.Collect of slices.Values: a copy. -/
import Derived.Test.YtlbjmgpbgkiejaaGreatDoorAppSeq
import Derived.Test.YtlbjmgpbgkiejaaGreatDoorMSeq
namespace Go.Ab
noncomputable section
open Go.Proofs
set_option maxRecDepth 10000
variable {H H' : AH}

abbrev valFn (p : Nat) : AV := .fn (.func 269) [] [.ptr (some (p, 0))]
theorem values_wp {b : Nat} {s : AV} {L : List Int} (h : Is .i64 H b s L) (K : AV → AH → Prop) (hK : ∀ H' p, Ext [] H H' → H.next ≤ p → p < H'.next → H'.get p = some (.cells 54 [s]) → K (valFn p) H') : CC.call 206 [s] H K := by
  refine m_slices_Values_int_int_ok _ _ _ ?_
  unfold m_slices_Values_int_int
  obtain ⟨f1, f2, f4, f3⟩ := Sl.facts h
  rw [w_box_c, f4, show [s].all AV.one = true by simp [f1], br_true, outP_val, outP_val]
  exact hK _ _ ((Ext.refl _ _).new _) (Nat.le_refl _) (by rw [next_new]; omega) (get_new_same _ _)
theorem collect_wp {b p : Nat} {s : AV} {L : List Int} (h : Is .i64 H b s L) (hL : L.length ≤ 100000) (hp : H.get p = some (.cells 54 [s])) (hpn : p < H.next) (K : AV → AH → Prop)
    (hK : ∀ H' s' B, Ext [] H H' → H.next ≤ B → Os 3 .i64 H' B s' L → K s' H') : CC.call 202 [valFn p] H K := by
  refine m_slices_Collect_int_ok _ _ _ ?_
  unfold m_slices_Collect_int
  rw [outP_enter]
  refine appendSeq_wp (by kernel_rfl) _ fun G hq => ?_
  show CC.call 269 [.yld (H.next + 2), .ptr (some (p, 0))] G _
  refine m_slices_Values_1_int_int_ok _ _ _ _ ?_
  unfold m_slices_Values_1_int_int
  obtain ⟨f1, f2, f4, f3⟩ := Sl.facts h
  rw [w_load_c, hq.ext.get hpn (by simp) hp, ldV_cells, show ([s] : List AV)[0]? = some s from rfl, ob_some, f2, vO_some, outP_val, h.len ints_sl, outP_val]
  unfold m_slices_Values_1_int_inttb
  refine loopP_rule (I := fun t G' => ∃ j : Nat, t = (.yld (H.next + 2), s, .int .i64 L.length, .int .i64 j) ∧ j ≤ L.length ∧ Sq H G' (L.take j)) (μ := fun t _ => match t.2.2.2 with | .int _ z => L.length - z.toNat | _ => 0) ?_ ⟨0, rfl, Nat.zero_le _, by simpa using hq⟩
  rintro t G' ⟨j, rfl, hj, hs⟩ rec hrec
  unfold m_slices_Values_1_int_inttbl
  rw [w_lss, outP_val]
  by_cases c : j < L.length
  · obtain ⟨o, a1, a2, a3⟩ := (show Is .i64 G' b s L from Sl.mono h hs.ext (by simp)).at c
    rw [decide_eq_true (by omega), condP_true, a1, outP_val, w_load_c, a3, vO_some, outP_val]
    show CC.round (H.next + 2) [.int .i64 L[j]] G' _
    refine sq_round hs (by rw [List.length_take]; omega) _ _ fun G2 h2 => ?_
    rw [w_not, outP_val, Bool.not_true, condP_false, w_add_in (by omega) (by omega), outP_val]
    refine hrec _ _ ⟨j + 1, by rfl, by omega, by rw [List.take_succ_eq_append_getElem c]; exact h2⟩ ?_
    show L.length - ((j : Int) + 1).toNat < L.length - (j : Int).toNat
    omega
  · rw [decide_eq_false (by omega), condP_false]
    refine ⟨L.take j, hs, fun G'' B s' e hB o => hK _ s' B e hB ?_⟩
    rw [List.take_of_length_le (by omega)] at o
    exact o
end
end Go.Ab
