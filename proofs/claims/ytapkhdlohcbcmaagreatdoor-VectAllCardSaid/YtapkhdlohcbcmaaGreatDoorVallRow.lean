/- fieldfarelaw7.VectAll answers true at any vectors, number and bytes, in whatever world in which errors.errorType is as the program's text lays it; the input reads as it did. -/
import Derived.Test.YtapkhdlohcbcmaaGreatDoorVall
import Derived.Test.YtapkhdlohcbcmaaGreatDoorInNums
namespace Go.Proofs.YtapkhdlohcbcmaaGreatDoor
open Go.ChangeShapes Go.WideShapes Go.RowKit Go.Ab Go.Joins
set_option maxRecDepth 100000

theorem params_of {t : TypeId} (ht : t ∈ Tryz.f8.params.toList) : t = 3 ∨ t = 25 ∨ t = 29 := by
  rw [Tryz.params8] at ht
  simp only [List.mem_cons, List.not_mem_nil, or_false] at ht
  rcases ht with rfl | rfl | rfl | rfl <;> simp
theorem wants_of {t : TypeId} (ht : t ∈ Tryz.f8.params.toList) : Tryz.prog.wantsStandIn t = false := by
  have w3 : Tryz.prog.wantsStandIn 3 = false := by kernel_rfl
  have w25 : Tryz.prog.wantsStandIn 25 = false := by kernel_rfl
  have w29 : Tryz.prog.wantsStandIn 29 = false := by kernel_rfl
  have ht := params_of ht
  rcases ht with rfl | rfl | rfl <;> assumption
theorem law_lifted (os : Os) (started : os.Started) (H : Type) (enc : TypeId × Value → H) :
    ReturnsInHanded {} Tryz.checked os 8 .any (fun w args => (Rows.vectAllSpec.pre enc Tryz.prog Tryz.f8 [] false w args ∧ laidMetH Tryz.prog Rows.vectAllRow.laid w) ∧ sizedMet enc Tryz.prog Tryz.f8 (OpenSpec.ofChange Rows.vectAllSpec) false w args)
      (Rows.vectAllSpec.post enc Tryz.prog Tryz.f8 false true false false) := by
  refine returnsInHanded_of_change_and (C := Tryz.checked) (X := fun w _ => laidMetH Tryz.prog Rows.vectAllRow.laid w) (fun _ _ _ hh h => h.of_heap hh) Tryz.own started (by kernel_rfl) Tryz.func8
    (ChangeSpec.witness_at (enc := enc) (C := Tryz.checked) (os := os) (X := fun w _ => laidMetH Tryz.prog Rows.vectAllRow.laid w) false (laidWorld os) #[.slice none 0 0, .slice none 0 0, .int .i64 0, .slice none 0 0] 8 rfl (by kernel_rfl) (by kernel_rfl) (by kernel_rfl) (by kernel_rfl) (by kernel_rfl) (laidWorld_met os _)) ?_
  intro W base args ds gs before hval hW _ _ hL _
  obtain ⟨p, q, hA0, -⟩ := id hW
  have hA : DataW.TrodAll enc Tryz.prog W 0 (fun _ => true) true Tryz.f8.params.toList args.toList ds p := hA0
  rw [Tryz.params8] at hA
  obtain ⟨v0, v1, v2, v3, d0, d1, d2, d3, p0, p1, p2, p3, rfl, rfl, rfl, h0, h1, h2, h3⟩ := trodAll_four hA
  have hl := handle_of_laid hL
  have hi := exists_iface hl
  obtain ⟨b, s, V, r0, hb0, hs0, hn0, hw0⟩ := in_is (k := .i32) hi Tryz.underlying25 (by kernel_rfl) (by kernel_rfl) (hval 0 25 v0 (by rw [Tryz.params8]; rfl) rfl) h0
  obtain ⟨bu, su, U, r1, hb1, hs1, hn1, hw1⟩ := in_is (k := .i32) hi Tryz.underlying25 (by kernel_rfl) (by kernel_rfl) (hval 1 25 v1 (by rw [Tryz.params8]; rfl) rfl) h1
  obtain ⟨n, rfl, -, -, wf2⟩ := open_int (k := .i64) Tryz.underlying3 (hval 2 3 v2 (by rw [Tryz.params8]; rfl) rfl) h2
  obtain ⟨bb, sb, B, r3, hb3, hs3, hn3, hw3⟩ := in_is (k := .u8) hi Tryz.underlying29 (by kernel_rfl) (by kernel_rfl) (hval 3 29 v3 (by rw [Tryz.params8]; rfl) rfl) h3
  refine (whole_calls (args := [s, su, .int .i64 n, sb]) hl ⟨_, _, rfl, r0, _, _, rfl, r1, _, _, rfl, rfl, _, _, rfl, r3, rfl⟩ (by kernel_rfl) (vectAll_wp n hs0 hs1 hs3 (wf32 hw0) (wf8 hw3) (laid_whole hl) _ fun H' hx => ⟨rfl, hx⟩)).mono fun e W' ⟨he, hw⟩ => ?_
  subst he
  exact ⟨_, rfl, post_true (by kernel_rfl) rfl rfl (fun t ht => by
    have ht := params_of ht
    rcases ht with rfl | rfl | rfl <;> exact ⟨by kernel_rfl, by rw [Tryz.sizeT]; decide⟩) hW hw⟩

theorem law_said : Rows.VectAllSaid :=
  OpenClaim.holds_of_wide 8 Tryz.f8 rfl rfl rfl rfl rfl rfl rfl ⟨rfl, rfl, rfl, rfl, rfl⟩ rfl rfl rfl rfl rfl (by kernel_rfl) Tryz.func8 (by kernel_rfl)
    (of_decide_eq_true (by kernel_rfl)) (by unfold Func.isWrapper; rw [if_neg (of_decide_eq_false (by kernel_rfl))]; exact ⟨rfl, rfl⟩)
    (fun os started H enc _ => law_lifted os started H enc)

theorem vect_all : Rows.VectAllCardSaid :=
  Claim7.holds_tied_plain_at .later [] [.handle] true (true, "f34650f2695f1f2692051df1fbad20d1e93ba2068ea7e2227dfd50fafc8abb2e") true
    law_said (fun _ h => by cases h) (by kernel_rfl) (fun _ h => by cases h) vectAll_row_tie rfl ⟨rfl, rfl⟩ (by kernel_rfl) rfl
    (fun f fn hf hfn => by
      obtain rfl : f = 8 := Option.some.inj ((show Tryz.prog.funcNamed "fieldfare/fieldfarelaw7.VectAll" = some 8 by kernel_rfl).symm.trans hf) |>.symm
      obtain rfl : fn = Tryz.f8 := (Option.some.inj (Tryz.func8.symm.trans hfn)).symm
      exact ⟨by kernel_rfl, fun j t ht => by
        exact wants_of (Array.mem_toList_iff.2 (Array.mem_of_getElem? ht))⟩)
    (by kernel_rfl)
#print axioms vect_all
end Go.Proofs.YtapkhdlohcbcmaaGreatDoor
