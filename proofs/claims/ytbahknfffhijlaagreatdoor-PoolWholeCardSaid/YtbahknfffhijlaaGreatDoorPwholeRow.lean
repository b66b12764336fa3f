/- fieldfarelaw7.PoolWhole answers true at any number and any operations, in whatever world in which errors.errorType is as the program's text lays it; the input reads as it did. -/
import Derived.Test.YtbahknfffhijlaaGreatDoorPwhole
import Derived.Test.YtbahknfffhijlaaGreatDoorInOps
import Derived.Test.YtbahknfffhijlaaGreatDoorInWf
namespace Go.Proofs.YtbahknfffhijlaaGreatDoor
open Go.ChangeShapes Go.WideShapes Go.RowKit Go.Ab Go.Joins
set_option maxRecDepth 100000

theorem params_of {t : TypeId} (ht : t ∈ Tryz.f3.params.toList) : t = 3 ∨ t = 22 := by
  rw [Tryz.params3] at ht
  simp only [List.mem_cons, List.not_mem_nil, or_false] at ht
  rcases ht with rfl | rfl <;> simp
theorem wants_of {t : TypeId} (ht : t ∈ Tryz.f3.params.toList) : Tryz.prog.wantsStandIn t = false := by
  have w3 : Tryz.prog.wantsStandIn 3 = false := by kernel_rfl
  have w22 : Tryz.prog.wantsStandIn 22 = false := by kernel_rfl
  have ht := params_of ht
  rcases ht with rfl | rfl <;> assumption
theorem law_lifted (os : Os) (started : os.Started) (H : Type) (enc : TypeId × Value → H) :
    ReturnsInHanded {} Tryz.checked os 3 .any (fun w args => (Rows.poolWholeSpec.pre enc Tryz.prog Tryz.f3 [] false w args ∧ laidMetH Tryz.prog Rows.poolWholeRow.laid w) ∧ sizedMet enc Tryz.prog Tryz.f3 (OpenSpec.ofChange Rows.poolWholeSpec) false w args)
      (Rows.poolWholeSpec.post enc Tryz.prog Tryz.f3 false true false false) := by
  refine returnsInHanded_of_change_and (C := Tryz.checked) (X := fun w _ => laidMetH Tryz.prog Rows.poolWholeRow.laid w) (fun _ _ _ hh h => h.of_heap hh) Tryz.own started (by kernel_rfl) Tryz.func3
    (ChangeSpec.witness_at (enc := enc) (C := Tryz.checked) (os := os) (X := fun w _ => laidMetH Tryz.prog Rows.poolWholeRow.laid w) false (laidWorld os) #[.int .i64 0, .slice none 0 0] 8 rfl (by kernel_rfl) (by kernel_rfl) (by kernel_rfl) (by kernel_rfl) (by kernel_rfl) (laidWorld_met os _)) ?_
  intro W base args ds gs before hval hW _ _ hL _
  obtain ⟨p, q, hA0, -⟩ := id hW
  have hA : DataW.TrodAll enc Tryz.prog W 0 (fun _ => true) true Tryz.f3.params.toList args.toList ds p := hA0
  rw [Tryz.params3] at hA
  obtain ⟨v0, v1, d0, d1, p0, p1, rfl, rfl, rfl, h0, h1⟩ := trodAll_two hA
  have hl := handle_of_laid hL
  have hi := exists_iface hl
  obtain ⟨n, rfl, -, -, wf0⟩ := open_int (k := .i64) Tryz.underlying3 (hval 0 3 v0 (by rw [Tryz.params3]; rfl) rfl) h0
  obtain ⟨b, s, L, r1, hb1, hs1, hn1, hw1⟩ := in_ops hi (hval 1 22 v1 (by rw [Tryz.params3]; rfl) rfl) h1
  refine (whole_calls_at prims8_ok (args := [.int .i64 n, s]) hl ⟨_, _, rfl, rfl, _, _, rfl, r1, rfl⟩ (by kernel_rfl) (poolWhole_wp n hs1 (laid_whole hl) _ fun H' hx => ⟨rfl, hx⟩)).mono fun e W' ⟨he, hw⟩ => ?_
  subst he
  exact ⟨_, rfl, post_true (by kernel_rfl) rfl rfl (fun t ht => by
    have ht := params_of ht
    rcases ht with rfl | rfl <;> exact ⟨by kernel_rfl, by rw [Tryz.sizeT]; decide⟩) hW hw⟩

theorem law_said : Rows.PoolWholeSaid :=
  OpenClaim.holds_of_wide 3 Tryz.f3 rfl rfl rfl rfl rfl rfl rfl ⟨rfl, rfl, rfl, rfl, rfl⟩ rfl rfl rfl rfl rfl (by kernel_rfl) Tryz.func3 (by kernel_rfl)
    (of_decide_eq_true (by kernel_rfl)) (by unfold Func.isWrapper; rw [if_neg (of_decide_eq_false (by kernel_rfl))]; exact ⟨rfl, rfl⟩)
    (fun os started H enc _ => law_lifted os started H enc)

theorem pool_whole : Rows.PoolWholeCardSaid :=
  Claim7.holds_tied_plain_at .later [] [.handle] true (true, "16d02d37c32d79b7f1716ff6c2696889dd69927e7f3cdf406fb6917d0bf0c00b") true
    law_said (fun _ h => by cases h) (by kernel_rfl) (fun _ h => by cases h) poolWhole_row_tie rfl ⟨rfl, rfl⟩ (by kernel_rfl) rfl
    (fun f fn hf hfn => by
      obtain rfl : f = 3 := Option.some.inj ((show Tryz.prog.funcNamed "fieldfare/fieldfarelaw7.PoolWhole" = some 3 by kernel_rfl).symm.trans hf) |>.symm
      obtain rfl : fn = Tryz.f3 := (Option.some.inj (Tryz.func3.symm.trans hfn)).symm
      exact ⟨by kernel_rfl, fun j t ht => by
        exact wants_of (Array.mem_toList_iff.2 (Array.mem_of_getElem? ht))⟩)
    (by kernel_rfl)
#print axioms pool_whole
end Go.Proofs.YtbahknfffhijlaaGreatDoor
