/- fieldfarelaw7.QuantStep answers true at any two numbers and any byte, in whatever world in which errors.errorType is as the program's text lays it; the input reads as it did. -/
import Derived.Test.YtoafnnphjbdedaaGreatDoorQstep
import Derived.Test.YtoafnnphjbdedaaGreatDoorInNums
namespace Go.Proofs.YtoafnnphjbdedaaGreatDoor
open Go.ChangeShapes Go.WideShapes Go.RowKit Go.Ab Go.Joins
set_option maxRecDepth 100000

theorem params_of {t : TypeId} (ht : t ∈ Tryz.f12.params.toList) : t = 5 ∨ t = 21 := by
  rw [Tryz.params12] at ht
  simp only [List.mem_cons, List.not_mem_nil, or_false] at ht
  rcases ht with rfl | rfl | rfl <;> simp
theorem wants_of {t : TypeId} (ht : t ∈ Tryz.f12.params.toList) : Tryz.prog.wantsStandIn t = false := by
  have w5 : Tryz.prog.wantsStandIn 5 = false := by kernel_rfl
  have w21 : Tryz.prog.wantsStandIn 21 = false := by kernel_rfl
  have ht := params_of ht
  rcases ht with rfl | rfl <;> assumption
theorem law_lifted (os : Os) (started : os.Started) (H : Type) (enc : TypeId × Value → H) :
    ReturnsInHanded {} Tryz.checked os 12 .any (fun w args => (Rows.quantStepSpec.pre enc Tryz.prog Tryz.f12 [] false w args ∧ laidMetH Tryz.prog Rows.quantStepRow.laid w) ∧ sizedMet enc Tryz.prog Tryz.f12 (OpenSpec.ofChange Rows.quantStepSpec) false w args)
      (Rows.quantStepSpec.post enc Tryz.prog Tryz.f12 false true false false) := by
  refine returnsInHanded_of_change_and (C := Tryz.checked) (X := fun w _ => laidMetH Tryz.prog Rows.quantStepRow.laid w) (fun _ _ _ hh h => h.of_heap hh) Tryz.own started (by kernel_rfl) Tryz.func12
    (ChangeSpec.witness_at (enc := enc) (C := Tryz.checked) (os := os) (X := fun w _ => laidMetH Tryz.prog Rows.quantStepRow.laid w) false (laidWorld os) #[.int .i32 0, .int .i32 0, .int .u8 0] 8 rfl (by kernel_rfl) (by kernel_rfl) (by kernel_rfl) (by kernel_rfl) (by kernel_rfl) (laidWorld_met os _)) ?_
  intro W base args ds gs before hval hW _ _ hL _
  obtain ⟨p, q, hA0, -⟩ := id hW
  have hA : DataW.TrodAll enc Tryz.prog W 0 (fun _ => true) true Tryz.f12.params.toList args.toList ds p := hA0
  rw [Tryz.params12] at hA
  obtain ⟨v0, v1, v2, d0, d1, d2, p0, p1, p2, rfl, rfl, rfl, h0, h1, h2⟩ := trodAll_three hA
  have hl := handle_of_laid hL
  have hi := exists_iface hl
  obtain ⟨low, rfl, -, -, wf0⟩ := open_int (k := .i32) Tryz.underlying21 (hval 0 21 v0 (by rw [Tryz.params12]; rfl) rfl) h0
  obtain ⟨high, rfl, -, -, wf1⟩ := open_int (k := .i32) Tryz.underlying21 (hval 1 21 v1 (by rw [Tryz.params12]; rfl) rfl) h1
  obtain ⟨n, rfl, -, -, wf2⟩ := open_int (k := .u8) Tryz.underlying5 (hval 2 5 v2 (by rw [Tryz.params12]; rfl) rfl) h2
  refine (whole_calls (args := [.int .i32 low, .int .i32 high, .int .u8 n]) hl ⟨_, _, rfl, rfl, _, _, rfl, rfl, _, _, rfl, rfl, rfl⟩ (by kernel_rfl) (quantStep_wp (wf8 (L := [n]) (fun x hx => by rw [List.mem_singleton.1 hx]; exact wf2) n (by simp)) (laid_whole hl) _ fun H' hx => ⟨rfl, hx⟩)).mono fun e W' ⟨he, hw⟩ => ?_
  subst he
  exact ⟨_, rfl, post_true (by kernel_rfl) rfl rfl (fun t ht => by
    have ht := params_of ht
    rcases ht with rfl | rfl <;> exact ⟨by kernel_rfl, by rw [Tryz.sizeT]; decide⟩) hW hw⟩

theorem law_said : Rows.QuantStepSaid :=
  OpenClaim.holds_of_wide 12 Tryz.f12 rfl rfl rfl rfl rfl rfl rfl ⟨rfl, rfl, rfl, rfl, rfl⟩ rfl rfl rfl rfl rfl (by kernel_rfl) Tryz.func12 (by kernel_rfl)
    (of_decide_eq_true (by kernel_rfl)) (by unfold Func.isWrapper; rw [if_neg (of_decide_eq_false (by kernel_rfl))]; exact ⟨rfl, rfl⟩)
    (fun os started H enc _ => law_lifted os started H enc)

theorem quant_step : Rows.QuantStepCardSaid :=
  Claim7.holds_tied_plain_at .later [] [.handle] true (true, "9460f19fd34637022cd414d57d89785ee97073cda05863c38b126e1b4ec8e0d8") true
    law_said (fun _ h => by cases h) (by kernel_rfl) (fun _ h => by cases h) quantStep_row_tie rfl ⟨rfl, rfl⟩ (by kernel_rfl) rfl
    (fun f fn hf hfn => by
      obtain rfl : f = 12 := Option.some.inj ((show Tryz.prog.funcNamed "fieldfare/fieldfarelaw7.QuantStep" = some 12 by kernel_rfl).symm.trans hf) |>.symm
      obtain rfl : fn = Tryz.f12 := (Option.some.inj (Tryz.func12.symm.trans hfn)).symm
      exact ⟨by kernel_rfl, fun j t ht => by
        exact wants_of (Array.mem_toList_iff.2 (Array.mem_of_getElem? ht))⟩)
    (by kernel_rfl)
#print axioms quant_step
end Go.Proofs.YtoafnnphjbdedaaGreatDoor
