/- fieldfarelaw7.MeansOne answers true at any vectors and any number, in whatever world in which errors.errorType is as the program's text lays it; the input reads as it did. -/
import Derived.Test.YtjpjmeidpjjgdaaGreatDoorMone
import Derived.Test.YtjpjmeidpjjgdaaGreatDoorInVs
namespace Go.Proofs.YtjpjmeidpjjgdaaGreatDoor
open Go.ChangeShapes Go.WideShapes Go.RowKit Go.Ab Go.Joins
set_option maxRecDepth 100000

theorem params_of {t : TypeId} (ht : t ∈ Tryz.f9.params.toList) : t = 3 ∨ t = 36 := by
  rw [Tryz.params9] at ht
  simp only [List.mem_cons, List.not_mem_nil, or_false] at ht
  rcases ht with rfl | rfl <;> simp
theorem wants_of {t : TypeId} (ht : t ∈ Tryz.f9.params.toList) : Tryz.prog.wantsStandIn t = false := by
  have w3 : Tryz.prog.wantsStandIn 3 = false := by kernel_rfl
  have w36 : Tryz.prog.wantsStandIn 36 = false := by kernel_rfl
  have ht := params_of ht
  rcases ht with rfl | rfl <;> assumption
theorem law_lifted (os : Os) (started : os.Started) (H : Type) (enc : TypeId × Value → H) :
    ReturnsInHanded {} Tryz.checked os 9 .any (fun w args => (Rows.meansOneSpec.pre enc Tryz.prog Tryz.f9 [] false w args ∧ laidMetH Tryz.prog Rows.meansOneRow.laid w) ∧ sizedMet enc Tryz.prog Tryz.f9 (OpenSpec.ofChange Rows.meansOneSpec) false w args)
      (Rows.meansOneSpec.post enc Tryz.prog Tryz.f9 false true false false) := by
  refine returnsInHanded_of_change_and (C := Tryz.checked) (X := fun w _ => laidMetH Tryz.prog Rows.meansOneRow.laid w) (fun _ _ _ hh h => h.of_heap hh) Tryz.own started (by kernel_rfl) Tryz.func9
    (ChangeSpec.witness_at (enc := enc) (C := Tryz.checked) (os := os) (X := fun w _ => laidMetH Tryz.prog Rows.meansOneRow.laid w) false (laidWorld os) #[.slice none 0 0, .int .i64 0] 8 rfl (by kernel_rfl) (by kernel_rfl) (by kernel_rfl) (by kernel_rfl) (by kernel_rfl) (laidWorld_met os _)) ?_
  intro W base args ds gs before hval hW _ _ hL _
  obtain ⟨p, q, hA0, -⟩ := id hW
  have hA : DataW.TrodAll enc Tryz.prog W 0 (fun _ => true) true Tryz.f9.params.toList args.toList ds p := hA0
  rw [Tryz.params9] at hA
  obtain ⟨v0, v1, d0, d1, p0, p1, rfl, rfl, rfl, h0, h1⟩ := trodAll_two hA
  have hl := handle_of_laid hL
  have hi := exists_iface hl
  obtain ⟨b, s, Y, r0, hb0, hs0, hn0, hr0⟩ := in_vs hi (hval 0 36 v0 (by rw [Tryz.params9]; rfl) rfl) h0
  obtain ⟨r, rfl, -, -, wf1⟩ := open_int (k := .i64) Tryz.underlying3 (hval 1 3 v1 (by rw [Tryz.params9]; rfl) rfl) h1
  refine (whole_calls (args := [s, .int .i64 r]) hl ⟨_, _, rfl, r0, _, _, rfl, rfl, rfl⟩ (by kernel_rfl) (meansOne_wp r hs0 hr0 (laid_whole hl) _ fun H' hx => ⟨rfl, hx⟩)).mono fun e W' ⟨he, hw⟩ => ?_
  subst he
  exact ⟨_, rfl, post_true (by kernel_rfl) rfl rfl (fun t ht => by
    have ht := params_of ht
    rcases ht with rfl | rfl <;> exact ⟨by kernel_rfl, by rw [Tryz.sizeT]; decide⟩) hW hw⟩

theorem law_said : Rows.MeansOneSaid :=
  OpenClaim.holds_of_wide 9 Tryz.f9 rfl rfl rfl rfl rfl rfl rfl ⟨rfl, rfl, rfl, rfl, rfl⟩ rfl rfl rfl rfl rfl (by kernel_rfl) Tryz.func9 (by kernel_rfl)
    (of_decide_eq_true (by kernel_rfl)) (by unfold Func.isWrapper; rw [if_neg (of_decide_eq_false (by kernel_rfl))]; exact ⟨rfl, rfl⟩)
    (fun os started H enc _ => law_lifted os started H enc)

theorem means_one : Rows.MeansOneCardSaid :=
  Claim7.holds_tied_plain_at .later [] [.handle] true (true, "387d6f2e8c78d38cd0246f61bd5a36c5584299eec1f6e890e29bb30ac54f18a1") true
    law_said (fun _ h => by cases h) (by kernel_rfl) (fun _ h => by cases h) meansOne_row_tie rfl ⟨rfl, rfl⟩ (by kernel_rfl) rfl
    (fun f fn hf hfn => by
      obtain rfl : f = 9 := Option.some.inj ((show Tryz.prog.funcNamed "fieldfare/fieldfarelaw7.MeansOne" = some 9 by kernel_rfl).symm.trans hf) |>.symm
      obtain rfl : fn = Tryz.f9 := (Option.some.inj (Tryz.func9.symm.trans hfn)).symm
      exact ⟨by kernel_rfl, fun j t ht => by
        exact wants_of (Array.mem_toList_iff.2 (Array.mem_of_getElem? ht))⟩)
    (by kernel_rfl)
#print axioms means_one
end Go.Proofs.YtjpjmeidpjjgdaaGreatDoor
