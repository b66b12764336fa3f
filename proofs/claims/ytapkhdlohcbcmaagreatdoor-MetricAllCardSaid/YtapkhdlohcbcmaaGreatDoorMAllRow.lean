/- fieldfarelaw7.MetricAll answers true at any number, any two vectors and any two hits, in whatever world in which errors.errorType is as the program's text lays it; the input reads as it did. -/
import Derived.Test.YtapkhdlohcbcmaaGreatDoorMAll
import Derived.Test.YtapkhdlohcbcmaaGreatDoorInNums
import Derived.Test.YtapkhdlohcbcmaaGreatDoorInHit
namespace Go.Proofs.YtapkhdlohcbcmaaGreatDoor
open Go.ChangeShapes Go.WideShapes Go.RowKit Go.Ab Go.Joins
set_option maxRecDepth 100000

theorem params_of {t : TypeId} (ht : t ∈ Tryz.f9.params.toList) : t = 3 ∨ t = 25 ∨ t = 60 := by
  rw [Tryz.params9] at ht
  simp only [List.mem_cons, List.not_mem_nil, or_false] at ht
  rcases ht with rfl | rfl | rfl | rfl | rfl <;> simp
theorem wants_of {t : TypeId} (ht : t ∈ Tryz.f9.params.toList) : Tryz.prog.wantsStandIn t = false := by
  have w3 : Tryz.prog.wantsStandIn 3 = false := by kernel_rfl
  have w25 : Tryz.prog.wantsStandIn 25 = false := by kernel_rfl
  have w60 : Tryz.prog.wantsStandIn 60 = false := by kernel_rfl
  have ht := params_of ht
  rcases ht with rfl | rfl | rfl <;> assumption
theorem law_lifted (os : Os) (started : os.Started) (H : Type) (enc : TypeId × Value → H) :
    ReturnsInHanded {} Tryz.checked os 9 .any (fun w args => (Rows.metricAllSpec.pre enc Tryz.prog Tryz.f9 [] false w args ∧ laidMetH Tryz.prog Rows.metricAllRow.laid w) ∧ sizedMet enc Tryz.prog Tryz.f9 (OpenSpec.ofChange Rows.metricAllSpec) false w args)
      (Rows.metricAllSpec.post enc Tryz.prog Tryz.f9 false true false false) := by
  refine returnsInHanded_of_change_and (C := Tryz.checked) (X := fun w _ => laidMetH Tryz.prog Rows.metricAllRow.laid w) (fun _ _ _ hh h => h.of_heap hh) Tryz.own started (by kernel_rfl) Tryz.func9
    (ChangeSpec.witness_at (enc := enc) (C := Tryz.checked) (os := os) (X := fun w _ => laidMetH Tryz.prog Rows.metricAllRow.laid w) false (laidWorld os) #[.int .i64 0, .slice none 0 0, .slice none 0 0, .agg #[.int .i64 0, .int .i64 0], .agg #[.int .i64 0, .int .i64 0]] 8 rfl (by kernel_rfl) (by kernel_rfl) (by kernel_rfl) (by kernel_rfl) (by kernel_rfl) (laidWorld_met os _)) ?_
  intro W base args ds gs before hval hW _ _ hL _
  obtain ⟨p, q, hA0, -⟩ := id hW
  have hA : DataW.TrodAll enc Tryz.prog W 0 (fun _ => true) true Tryz.f9.params.toList args.toList ds p := hA0
  rw [Tryz.params9] at hA
  obtain ⟨v0, v1, v2, v3, v4, d0, d1, d2, d3, d4, p0, p1, p2, p3, p4, rfl, rfl, rfl, h0, h1, h2, h3, h4⟩ := trodAll_five hA
  have hl := handle_of_laid hL
  have hi := exists_iface hl
  obtain ⟨m, rfl, -, -, wf0⟩ := open_int (k := .i64) Tryz.underlying3 (hval 0 3 v0 (by rw [Tryz.params9]; rfl) rfl) h0
  obtain ⟨b1, s1, A, r1, hb1, hs1, hn1, hw1⟩ := in_is (k := .i32) hi Tryz.underlying25 (by kernel_rfl) (by kernel_rfl) (hval 1 25 v1 (by rw [Tryz.params9]; rfl) rfl) h1
  obtain ⟨b2, s2, B, r2, hb2, hs2, hn2, hw2⟩ := in_is (k := .i32) hi Tryz.underlying25 (by kernel_rfl) (by kernel_rfl) (hval 2 25 v2 (by rw [Tryz.params9]; rfl) rfl) h2
  obtain ⟨x, rfl⟩ := open_hit (hval 3 60 v3 (by rw [Tryz.params9]; rfl) rfl) h3
  obtain ⟨y, rfl⟩ := open_hit (hval 4 60 v4 (by rw [Tryz.params9]; rfl) rfl) h4
  refine (whole_calls (args := [.int .i64 m, s1, s2, hitA x, hitA y]) hl ⟨_, _, rfl, rfl, _, _, rfl, r1, _, _, rfl, r2, _, _, rfl, rel_hit _ x, _, _, rfl, rel_hit _ y, rfl⟩ (by kernel_rfl) (metricAll_wp m hs1 hs2 x y (laid_whole hl) (Nat.lt_of_le_of_lt (Nat.zero_le _) hb1) _ fun H' hx => ⟨rfl, hx⟩)).mono fun e W' ⟨he, hw⟩ => ?_
  subst he
  exact ⟨_, rfl, post_true (by kernel_rfl) rfl rfl (fun t ht => by
    have ht := params_of ht
    rcases ht with rfl | rfl | rfl <;> exact ⟨by kernel_rfl, by rw [Tryz.sizeT]; decide⟩) hW hw⟩

theorem law_said : Rows.MetricAllSaid :=
  OpenClaim.holds_of_wide 9 Tryz.f9 rfl rfl rfl rfl rfl rfl rfl ⟨rfl, rfl, rfl, rfl, rfl⟩ rfl rfl rfl rfl rfl (by kernel_rfl) Tryz.func9 (by kernel_rfl)
    (of_decide_eq_true (by kernel_rfl)) (by unfold Func.isWrapper; rw [if_neg (of_decide_eq_false (by kernel_rfl))]; exact ⟨rfl, rfl⟩)
    (fun os started H enc _ => law_lifted os started H enc)

theorem metric_all : Rows.MetricAllCardSaid :=
  Claim7.holds_tied_plain_at .later [] [.handle] true (true, "f34650f2695f1f2692051df1fbad20d1e93ba2068ea7e2227dfd50fafc8abb2e") true
    law_said (fun _ h => by cases h) (by kernel_rfl) (fun _ h => by cases h) metricAll_row_tie rfl ⟨rfl, rfl⟩ (by kernel_rfl) rfl
    (fun f fn hf hfn => by
      obtain rfl : f = 9 := Option.some.inj ((show Tryz.prog.funcNamed "fieldfare/fieldfarelaw7.MetricAll" = some 9 by kernel_rfl).symm.trans hf) |>.symm
      obtain rfl : fn = Tryz.f9 := (Option.some.inj (Tryz.func9.symm.trans hfn)).symm
      exact ⟨by kernel_rfl, fun j t ht => by
        exact wants_of (Array.mem_toList_iff.2 (Array.mem_of_getElem? ht))⟩)
    (by kernel_rfl)
#print axioms metric_all
end Go.Proofs.YtapkhdlohcbcmaaGreatDoor
