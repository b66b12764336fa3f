/- fieldfarelaw7.MetricTurn answers true at any three vectors and any number, in whatever world in which errors.errorType is as the program's text lays it; the input reads as it did. -/
import Derived.Test.YtapkhdlohcbcmaaGreatDoorMTurn
import Derived.Test.YtapkhdlohcbcmaaGreatDoorInNums
namespace Go.Proofs.YtapkhdlohcbcmaaGreatDoor
open Go.ChangeShapes Go.WideShapes Go.RowKit Go.Ab Go.Joins
set_option maxRecDepth 100000

theorem params_of {t : TypeId} (ht : t ∈ Tryz.f5.params.toList) : t = 21 ∨ t = 25 := by
  rw [Tryz.params5] at ht
  simp only [List.mem_cons, List.not_mem_nil, or_false] at ht
  rcases ht with rfl | rfl | rfl | rfl <;> simp
theorem wants_of {t : TypeId} (ht : t ∈ Tryz.f5.params.toList) : Tryz.prog.wantsStandIn t = false := by
  have w21 : Tryz.prog.wantsStandIn 21 = false := by kernel_rfl
  have w25 : Tryz.prog.wantsStandIn 25 = false := by kernel_rfl
  have ht := params_of ht
  rcases ht with rfl | rfl <;> assumption
theorem law_lifted (os : Os) (started : os.Started) (H : Type) (enc : TypeId × Value → H) :
    ReturnsInHanded {} Tryz.checked os 5 .any (fun w args => (Rows.metricTurnSpec.pre enc Tryz.prog Tryz.f5 [] false w args ∧ laidMetH Tryz.prog Rows.metricTurnRow.laid w) ∧ sizedMet enc Tryz.prog Tryz.f5 (OpenSpec.ofChange Rows.metricTurnSpec) false w args)
      (Rows.metricTurnSpec.post enc Tryz.prog Tryz.f5 false true false false) := by
  refine returnsInHanded_of_change_and (C := Tryz.checked) (X := fun w _ => laidMetH Tryz.prog Rows.metricTurnRow.laid w) (fun _ _ _ hh h => h.of_heap hh) Tryz.own started (by kernel_rfl) Tryz.func5
    (ChangeSpec.witness_at (enc := enc) (C := Tryz.checked) (os := os) (X := fun w _ => laidMetH Tryz.prog Rows.metricTurnRow.laid w) false (laidWorld os) #[.slice none 0 0, .slice none 0 0, .slice none 0 0, .int .i32 0] 8 rfl (by kernel_rfl) (by kernel_rfl) (by kernel_rfl) (by kernel_rfl) (by kernel_rfl) (laidWorld_met os _)) ?_
  intro W base args ds gs before hval hW _ _ hL _
  obtain ⟨p, q, hA0, -⟩ := id hW
  have hA : DataW.TrodAll enc Tryz.prog W 0 (fun _ => true) true Tryz.f5.params.toList args.toList ds p := hA0
  rw [Tryz.params5] at hA
  obtain ⟨v0, v1, v2, v3, d0, d1, d2, d3, p0, p1, p2, p3, rfl, rfl, rfl, h0, h1, h2, h3⟩ := trodAll_four hA
  have hl := handle_of_laid hL
  have hi := exists_iface hl
  obtain ⟨ba, sa, A, r0, hb0, hs0, hn0, hw0⟩ := in_is (k := .i32) hi Tryz.underlying25 (by kernel_rfl) (by kernel_rfl) (hval 0 25 v0 (by rw [Tryz.params5]; rfl) rfl) h0
  obtain ⟨bb, sb, B, r1, hb1, hs1, hn1, hw1⟩ := in_is (k := .i32) hi Tryz.underlying25 (by kernel_rfl) (by kernel_rfl) (hval 1 25 v1 (by rw [Tryz.params5]; rfl) rfl) h1
  obtain ⟨bc, sc, C, r2, hb2, hs2, hn2, hw2⟩ := in_is (k := .i32) hi Tryz.underlying25 (by kernel_rfl) (by kernel_rfl) (hval 2 25 v2 (by rw [Tryz.params5]; rfl) rfl) h2
  obtain ⟨k, rfl, -, -, wf3⟩ := open_int (k := .i32) Tryz.underlying21 (hval 3 21 v3 (by rw [Tryz.params5]; rfl) rfl) h3
  refine (whole_calls (args := [sa, sb, sc, .int .i32 k]) hl ⟨_, _, rfl, r0, _, _, rfl, r1, _, _, rfl, r2, _, _, rfl, rfl, rfl⟩ (by kernel_rfl) (metricTurn_wp k hs0 hs1 hs2 (laid_whole hl) _ fun H' hx => ⟨rfl, hx⟩)).mono fun e W' ⟨he, hw⟩ => ?_
  subst he
  exact ⟨_, rfl, post_true (by kernel_rfl) rfl rfl (fun t ht => by
    have ht := params_of ht
    rcases ht with rfl | rfl <;> exact ⟨by kernel_rfl, by rw [Tryz.sizeT]; decide⟩) hW hw⟩

theorem law_said : Rows.MetricTurnSaid :=
  OpenClaim.holds_of_wide 5 Tryz.f5 rfl rfl rfl rfl rfl rfl rfl ⟨rfl, rfl, rfl, rfl, rfl⟩ rfl rfl rfl rfl rfl (by kernel_rfl) Tryz.func5 (by kernel_rfl)
    (of_decide_eq_true (by kernel_rfl)) (by unfold Func.isWrapper; rw [if_neg (of_decide_eq_false (by kernel_rfl))]; exact ⟨rfl, rfl⟩)
    (fun os started H enc _ => law_lifted os started H enc)

theorem metric_turn : Rows.MetricTurnCardSaid :=
  Claim7.holds_tied_plain_at .later [] [.handle] true (true, "f34650f2695f1f2692051df1fbad20d1e93ba2068ea7e2227dfd50fafc8abb2e") true
    law_said (fun _ h => by cases h) (by kernel_rfl) (fun _ h => by cases h) metricTurn_row_tie rfl ⟨rfl, rfl⟩ (by kernel_rfl) rfl
    (fun f fn hf hfn => by
      obtain rfl : f = 5 := Option.some.inj ((show Tryz.prog.funcNamed "fieldfare/fieldfarelaw7.MetricTurn" = some 5 by kernel_rfl).symm.trans hf) |>.symm
      obtain rfl : fn = Tryz.f5 := (Option.some.inj (Tryz.func5.symm.trans hfn)).symm
      exact ⟨by kernel_rfl, fun j t ht => by
        exact wants_of (Array.mem_toList_iff.2 (Array.mem_of_getElem? ht))⟩)
    (by kernel_rfl)
#print axioms metric_turn
end Go.Proofs.YtapkhdlohcbcmaaGreatDoor
