/- fieldfarelaw7.QuantAny answers true at any numbers and bytes, in whatever world in which errors.errorType is as the program's text lays it; the input reads as it did. -/
import Derived.Test.YtoafnnphjbdedaaGreatDoorQany
import Derived.Test.YtoafnnphjbdedaaGreatDoorInNums
namespace Go.Proofs.YtoafnnphjbdedaaGreatDoor
open Go.ChangeShapes Go.WideShapes Go.RowKit Go.Ab Go.Joins
set_option maxRecDepth 100000

theorem params_of {t : TypeId} (ht : t ∈ Tryz.f11.params.toList) : t = 27 ∨ t = 28 ∨ t = 72 := by
  rw [Tryz.params11] at ht
  simp only [List.mem_cons, List.not_mem_nil, or_false] at ht
  rcases ht with rfl | rfl | rfl | rfl <;> simp
theorem wants_of {t : TypeId} (ht : t ∈ Tryz.f11.params.toList) : Tryz.prog.wantsStandIn t = false := by
  have w27 : Tryz.prog.wantsStandIn 27 = false := by kernel_rfl
  have w28 : Tryz.prog.wantsStandIn 28 = false := by kernel_rfl
  have w72 : Tryz.prog.wantsStandIn 72 = false := by kernel_rfl
  have ht := params_of ht
  rcases ht with rfl | rfl | rfl <;> assumption
theorem law_lifted (os : Os) (started : os.Started) (H : Type) (enc : TypeId × Value → H) :
    ReturnsInHanded {} Tryz.checked os 11 .any (fun w args => (Rows.quantAnySpec.pre enc Tryz.prog Tryz.f11 [] false w args ∧ laidMetH Tryz.prog Rows.quantAnyRow.laid w) ∧ sizedMet enc Tryz.prog Tryz.f11 (OpenSpec.ofChange Rows.quantAnySpec) false w args)
      (Rows.quantAnySpec.post enc Tryz.prog Tryz.f11 false true false false) := by
  refine returnsInHanded_of_change_and (C := Tryz.checked) (X := fun w _ => laidMetH Tryz.prog Rows.quantAnyRow.laid w) (fun _ _ _ hh h => h.of_heap hh) Tryz.own started (by kernel_rfl) Tryz.func11
    (ChangeSpec.witness_at (enc := enc) (C := Tryz.checked) (os := os) (X := fun w _ => laidMetH Tryz.prog Rows.quantAnyRow.laid w) false (laidWorld os) #[.slice none 0 0, .slice none 0 0, .slice none 0 0, .slice none 0 0] 8 rfl (by kernel_rfl) (by kernel_rfl) (by kernel_rfl) (by kernel_rfl) (by kernel_rfl) (laidWorld_met os _)) ?_
  intro W base args ds gs before hval hW _ _ hL _
  obtain ⟨p, q, hA0, -⟩ := id hW
  have hA : DataW.TrodAll enc Tryz.prog W 0 (fun _ => true) true Tryz.f11.params.toList args.toList ds p := hA0
  rw [Tryz.params11] at hA
  obtain ⟨v0, v1, v2, v3, d0, d1, d2, d3, p0, p1, p2, p3, rfl, rfl, rfl, h0, h1, h2, h3⟩ := trodAll_four hA
  have hl := handle_of_laid hL
  have hi := exists_iface hl
  obtain ⟨b1, s1, L1, r0, hb0, hs0, hn0, hw0⟩ := in_is (k := .i32) hi Tryz.underlying27 (by kernel_rfl) (by kernel_rfl) (hval 0 27 v0 (by rw [Tryz.params11]; rfl) rfl) h0
  obtain ⟨b2, s2, L2, r1, hb1, hs1, hn1, hw1⟩ := in_is (k := .i32) hi Tryz.underlying27 (by kernel_rfl) (by kernel_rfl) (hval 1 27 v1 (by rw [Tryz.params11]; rfl) rfl) h1
  obtain ⟨b3, s3, L3, r2, hb2, hs2, hn2, hw2⟩ := in_is (k := .i32) hi Tryz.underlying28 (by kernel_rfl) (by kernel_rfl) (hval 2 28 v2 (by rw [Tryz.params11]; rfl) rfl) h2
  obtain ⟨b4, s4, L4, r3, hb3, hs3, hn3, hw3⟩ := in_is (k := .u8) hi Tryz.underlying72 (by kernel_rfl) (by kernel_rfl) (hval 3 72 v3 (by rw [Tryz.params11]; rfl) rfl) h3
  refine (whole_calls (args := [s1, s2, s3, s4]) hl ⟨_, _, rfl, r0, _, _, rfl, r1, _, _, rfl, r2, _, _, rfl, r3, rfl⟩ (by kernel_rfl) (quantAny_wp hs0 hs1 hs2 hs3 (wf32 hw0) (wf32 hw1) (wf32 hw2) (wf8 hw3) (laid_whole hl) _ fun H' hx => ⟨rfl, hx⟩)).mono fun e W' ⟨he, hw⟩ => ?_
  subst he
  exact ⟨_, rfl, post_true (by kernel_rfl) rfl rfl (fun t ht => by
    have ht := params_of ht
    rcases ht with rfl | rfl | rfl <;> exact ⟨by kernel_rfl, by rw [Tryz.sizeT]; decide⟩) hW hw⟩

theorem law_said : Rows.QuantAnySaid :=
  OpenClaim.holds_of_wide 11 Tryz.f11 rfl rfl rfl rfl rfl rfl rfl ⟨rfl, rfl, rfl, rfl, rfl⟩ rfl rfl rfl rfl rfl (by kernel_rfl) Tryz.func11 (by kernel_rfl)
    (of_decide_eq_true (by kernel_rfl)) (by unfold Func.isWrapper; rw [if_neg (of_decide_eq_false (by kernel_rfl))]; exact ⟨rfl, rfl⟩)
    (fun os started H enc _ => law_lifted os started H enc)

theorem quant_any : Rows.QuantAnyCardSaid :=
  Claim7.holds_tied_plain_at .later [] [.handle] true (true, "9460f19fd34637022cd414d57d89785ee97073cda05863c38b126e1b4ec8e0d8") true
    law_said (fun _ h => by cases h) (by kernel_rfl) (fun _ h => by cases h) quantAny_row_tie rfl ⟨rfl, rfl⟩ (by kernel_rfl) rfl
    (fun f fn hf hfn => by
      obtain rfl : f = 11 := Option.some.inj ((show Tryz.prog.funcNamed "fieldfare/fieldfarelaw7.QuantAny" = some 11 by kernel_rfl).symm.trans hf) |>.symm
      obtain rfl : fn = Tryz.f11 := (Option.some.inj (Tryz.func11.symm.trans hfn)).symm
      exact ⟨by kernel_rfl, fun j t ht => by
        exact wants_of (Array.mem_toList_iff.2 (Array.mem_of_getElem? ht))⟩)
    (by kernel_rfl)
#print axioms quant_any
end Go.Proofs.YtoafnnphjbdedaaGreatDoor
