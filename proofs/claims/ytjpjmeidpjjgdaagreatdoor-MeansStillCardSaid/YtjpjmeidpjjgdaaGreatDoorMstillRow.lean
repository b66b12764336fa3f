/- fieldfarelaw7.MeansStill answers true at any numbers and any vectors, in whatever world in which errors.errorType is as the program's text lays it; the input reads as it did. -/
import Derived.Test.YtjpjmeidpjjgdaaGreatDoorMstill
import Derived.Test.YtjpjmeidpjjgdaaGreatDoorInVs
namespace Go.Proofs.YtjpjmeidpjjgdaaGreatDoor
open Go.ChangeShapes Go.WideShapes Go.RowKit Go.Ab Go.Joins
set_option maxRecDepth 100000

theorem params_of {t : TypeId} (ht : t ∈ Tryz.f5.params.toList) : t = 3 ∨ t = 36 := by
  rw [Tryz.params5] at ht
  simp only [List.mem_cons, List.not_mem_nil, or_false] at ht
  rcases ht with rfl | rfl | rfl <;> simp
theorem wants_of {t : TypeId} (ht : t ∈ Tryz.f5.params.toList) : Tryz.prog.wantsStandIn t = false := by
  have w3 : Tryz.prog.wantsStandIn 3 = false := by kernel_rfl
  have w36 : Tryz.prog.wantsStandIn 36 = false := by kernel_rfl
  have ht := params_of ht
  rcases ht with rfl | rfl <;> assumption
theorem law_lifted (os : Os) (started : os.Started) (H : Type) (enc : TypeId × Value → H) :
    ReturnsInHanded {} Tryz.checked os 5 .any (fun w args => (Rows.meansStillSpec.pre enc Tryz.prog Tryz.f5 [] false w args ∧ laidMetH Tryz.prog Rows.meansStillRow.laid w) ∧ sizedMet enc Tryz.prog Tryz.f5 (OpenSpec.ofChange Rows.meansStillSpec) false w args)
      (Rows.meansStillSpec.post enc Tryz.prog Tryz.f5 false true false false) := by
  refine returnsInHanded_of_change_and (C := Tryz.checked) (X := fun w _ => laidMetH Tryz.prog Rows.meansStillRow.laid w) (fun _ _ _ hh h => h.of_heap hh) Tryz.own started (by kernel_rfl) Tryz.func5
    (ChangeSpec.witness_at (enc := enc) (C := Tryz.checked) (os := os) (X := fun w _ => laidMetH Tryz.prog Rows.meansStillRow.laid w) false (laidWorld os) #[.int .i64 0, .slice none 0 0, .int .i64 0] 8 rfl (by kernel_rfl) (by kernel_rfl) (by kernel_rfl) (by kernel_rfl) (by kernel_rfl) (laidWorld_met os _)) ?_
  intro W base args ds gs before hval hW _ _ hL _
  obtain ⟨p, q, hA0, -⟩ := id hW
  have hA : DataW.TrodAll enc Tryz.prog W 0 (fun _ => true) true Tryz.f5.params.toList args.toList ds p := hA0
  rw [Tryz.params5] at hA
  obtain ⟨v0, v1, v2, d0, d1, d2, p0, p1, p2, rfl, rfl, rfl, h0, h1, h2⟩ := trodAll_three hA
  have hl := handle_of_laid hL
  have hi := exists_iface hl
  obtain ⟨n, rfl, -, -, wf0⟩ := open_int (k := .i64) Tryz.underlying3 (hval 0 3 v0 (by rw [Tryz.params5]; rfl) rfl) h0
  obtain ⟨b, s, Y, r1, hb1, hs1, hn1, hr1⟩ := in_vs hi (hval 1 36 v1 (by rw [Tryz.params5]; rfl) rfl) h1
  obtain ⟨r, rfl, -, -, wf2⟩ := open_int (k := .i64) Tryz.underlying3 (hval 2 3 v2 (by rw [Tryz.params5]; rfl) rfl) h2
  refine (whole_calls (args := [.int .i64 n, s, .int .i64 r]) hl ⟨_, _, rfl, rfl, _, _, rfl, r1, _, _, rfl, rfl, rfl⟩ (by kernel_rfl) (meansStill_wp n r hs1 hr1 (laid_whole hl) _ fun H' hx => ⟨rfl, hx⟩)).mono fun e W' ⟨he, hw⟩ => ?_
  subst he
  exact ⟨_, rfl, post_true (by kernel_rfl) rfl rfl (fun t ht => by
    have ht := params_of ht
    rcases ht with rfl | rfl <;> exact ⟨by kernel_rfl, by rw [Tryz.sizeT]; decide⟩) hW hw⟩

theorem law_said : Rows.MeansStillSaid :=
  OpenClaim.holds_of_wide 5 Tryz.f5 rfl rfl rfl rfl rfl rfl rfl ⟨rfl, rfl, rfl, rfl, rfl⟩ rfl rfl rfl rfl rfl (by kernel_rfl) Tryz.func5 (by kernel_rfl)
    (of_decide_eq_true (by kernel_rfl)) (by unfold Func.isWrapper; rw [if_neg (of_decide_eq_false (by kernel_rfl))]; exact ⟨rfl, rfl⟩)
    (fun os started H enc _ => law_lifted os started H enc)

theorem means_still : Rows.MeansStillCardSaid :=
  Claim7.holds_tied_plain_at .later [] [.handle] true (true, "387d6f2e8c78d38cd0246f61bd5a36c5584299eec1f6e890e29bb30ac54f18a1") true
    law_said (fun _ h => by cases h) (by kernel_rfl) (fun _ h => by cases h) meansStill_row_tie rfl ⟨rfl, rfl⟩ (by kernel_rfl) rfl
    (fun f fn hf hfn => by
      obtain rfl : f = 5 := Option.some.inj ((show Tryz.prog.funcNamed "fieldfare/fieldfarelaw7.MeansStill" = some 5 by kernel_rfl).symm.trans hf) |>.symm
      obtain rfl : fn = Tryz.f5 := (Option.some.inj (Tryz.func5.symm.trans hfn)).symm
      exact ⟨by kernel_rfl, fun j t ht => by
        exact wants_of (Array.mem_toList_iff.2 (Array.mem_of_getElem? ht))⟩)
    (by kernel_rfl)
#print axioms means_still
end Go.Proofs.YtjpjmeidpjjgdaaGreatDoor
