/- fieldfarelaw7.VectRow answers true at any vectors and any number, in whatever world in which errors.errorType is as the program's text lays it; the input reads as it did. -/
import Derived.Test.YtapkhdlohcbcmaaGreatDoorVrow
import Derived.Test.YtapkhdlohcbcmaaGreatDoorInVs
import Derived.Test.YtapkhdlohcbcmaaGreatDoorInWf
namespace Go.Proofs.YtapkhdlohcbcmaaGreatDoor
open Go.ChangeShapes Go.WideShapes Go.RowKit Go.Ab Go.Joins
set_option maxRecDepth 100000

theorem params_of {t : TypeId} (ht : t ∈ Tryz.f4.params.toList) : t = 2 ∨ t = 28 := by
  rw [Tryz.params4] at ht
  simp only [List.mem_cons, List.not_mem_nil, or_false] at ht
  rcases ht with rfl | rfl <;> simp
theorem wants_of {t : TypeId} (ht : t ∈ Tryz.f4.params.toList) : Tryz.prog.wantsStandIn t = false := by
  have w2 : Tryz.prog.wantsStandIn 2 = false := by kernel_rfl
  have w28 : Tryz.prog.wantsStandIn 28 = false := by kernel_rfl
  have ht := params_of ht
  rcases ht with rfl | rfl <;> assumption
theorem law_lifted (os : Os) (started : os.Started) (H : Type) (enc : TypeId × Value → H) :
    ReturnsInHanded {} Tryz.checked os 4 .any (fun w args => (Rows.vectRowSpec.pre enc Tryz.prog Tryz.f4 [] false w args ∧ laidMetH Tryz.prog Rows.vectRowRow.laid w) ∧ sizedMet enc Tryz.prog Tryz.f4 (OpenSpec.ofChange Rows.vectRowSpec) false w args)
      (Rows.vectRowSpec.post enc Tryz.prog Tryz.f4 false true false false) := by
  refine returnsInHanded_of_change_and (C := Tryz.checked) (X := fun w _ => laidMetH Tryz.prog Rows.vectRowRow.laid w) (fun _ _ _ hh h => h.of_heap hh) Tryz.own started (by kernel_rfl) Tryz.func4
    (ChangeSpec.witness_at (enc := enc) (C := Tryz.checked) (os := os) (X := fun w _ => laidMetH Tryz.prog Rows.vectRowRow.laid w) false (laidWorld os) #[.slice none 0 0, .int .i64 0] 8 rfl (by kernel_rfl) (by kernel_rfl) (by kernel_rfl) (by kernel_rfl) (by kernel_rfl) (laidWorld_met os _)) ?_
  intro W base args ds gs before hval hW _ _ hL _
  obtain ⟨p, q, hA0, -⟩ := id hW
  have hA : DataW.TrodAll enc Tryz.prog W 0 (fun _ => true) true Tryz.f4.params.toList args.toList ds p := hA0
  rw [Tryz.params4] at hA
  obtain ⟨v0, v1, d0, d1, p0, p1, rfl, rfl, rfl, h0, h1⟩ := trodAll_two hA
  have hl := handle_of_laid hL
  have hi := exists_iface hl
  obtain ⟨b, s, Y, r0, hb0, hs0, hn0, hr0⟩ := in_vs hi (hval 0 28 v0 (by rw [Tryz.params4]; rfl) rfl) h0
  obtain ⟨n, rfl, -, -, wf1⟩ := open_int (k := .i64) Tryz.underlying2 (hval 1 2 v1 (by rw [Tryz.params4]; rfl) rfl) h1
  refine (whole_calls (args := [s, .int .i64 n]) hl ⟨_, _, rfl, r0, _, _, rfl, rfl, rfl⟩ (by kernel_rfl) (vectRow_wp hs0 hr0 (wfz wf1) (laid_whole hl) _ fun H' hx => ⟨rfl, hx⟩)).mono fun e W' ⟨he, hw⟩ => ?_
  subst he
  exact ⟨_, rfl, post_true (by kernel_rfl) rfl rfl (fun t ht => by
    have ht := params_of ht
    rcases ht with rfl | rfl <;> exact ⟨by kernel_rfl, by rw [Tryz.sizeT]; decide⟩) hW hw⟩

theorem law_said : Rows.VectRowSaid :=
  OpenClaim.holds_of_wide 4 Tryz.f4 rfl rfl rfl rfl rfl rfl rfl ⟨rfl, rfl, rfl, rfl, rfl⟩ rfl rfl rfl rfl rfl (by kernel_rfl) Tryz.func4 (by kernel_rfl)
    (of_decide_eq_true (by kernel_rfl)) (by unfold Func.isWrapper; rw [if_neg (of_decide_eq_false (by kernel_rfl))]; exact ⟨rfl, rfl⟩)
    (fun os started H enc _ => law_lifted os started H enc)

theorem vect_row : Rows.VectRowCardSaid :=
  Claim7.holds_tied_plain_at .later [] [.handle] true (true, "f34650f2695f1f2692051df1fbad20d1e93ba2068ea7e2227dfd50fafc8abb2e") true
    law_said (fun _ h => by cases h) (by kernel_rfl) (fun _ h => by cases h) vectRow_row_tie rfl ⟨rfl, rfl⟩ (by kernel_rfl) rfl
    (fun f fn hf hfn => by
      obtain rfl : f = 4 := Option.some.inj ((show Tryz.prog.funcNamed "fieldfare/fieldfarelaw7.VectRow" = some 4 by kernel_rfl).symm.trans hf) |>.symm
      obtain rfl : fn = Tryz.f4 := (Option.some.inj (Tryz.func4.symm.trans hfn)).symm
      exact ⟨by kernel_rfl, fun j t ht => by
        exact wants_of (Array.mem_toList_iff.2 (Array.mem_of_getElem? ht))⟩)
    (by kernel_rfl)
#print axioms vect_row
end Go.Proofs.YtapkhdlohcbcmaaGreatDoor
