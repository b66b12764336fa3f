/- fieldfarelaw7.MeansAll answers true at any numbers, vectors and vector, in whatever world in which errors.errorType is as the program's text lays it; the input reads as it did. -/
import Derived.Test.YtjpjmeidpjjgdaaGreatDoorMeall
import Derived.Test.YtjpjmeidpjjgdaaGreatDoorInVs
import Derived.Test.YtjpjmeidpjjgdaaGreatDoorInHit
namespace Go.Proofs.YtjpjmeidpjjgdaaGreatDoor
open Go.ChangeShapes Go.WideShapes Go.RowKit Go.Ab Go.Joins
set_option maxRecDepth 100000

theorem params_of {t : TypeId} (ht : t ∈ Tryz.f4.params.toList) : t = 3 ∨ t = 36 ∨ t = 38 := by
  rw [Tryz.params4] at ht
  simp only [List.mem_cons, List.not_mem_nil, or_false] at ht
  rcases ht with rfl | rfl | rfl | rfl | rfl <;> simp
theorem wants_of {t : TypeId} (ht : t ∈ Tryz.f4.params.toList) : Tryz.prog.wantsStandIn t = false := by
  have w3 : Tryz.prog.wantsStandIn 3 = false := by kernel_rfl
  have w36 : Tryz.prog.wantsStandIn 36 = false := by kernel_rfl
  have w38 : Tryz.prog.wantsStandIn 38 = false := by kernel_rfl
  have ht := params_of ht
  rcases ht with rfl | rfl | rfl <;> assumption
theorem law_lifted (os : Os) (started : os.Started) (H : Type) (enc : TypeId × Value → H) :
    ReturnsInHanded {} Tryz.checked os 4 .any (fun w args => (Rows.meansAllSpec.pre enc Tryz.prog Tryz.f4 [] false w args ∧ laidMetH Tryz.prog Rows.meansAllRow.laid w) ∧ sizedMet enc Tryz.prog Tryz.f4 (OpenSpec.ofChange Rows.meansAllSpec) false w args)
      (Rows.meansAllSpec.post enc Tryz.prog Tryz.f4 false true false false) := by
  refine returnsInHanded_of_change_and (C := Tryz.checked) (X := fun w _ => laidMetH Tryz.prog Rows.meansAllRow.laid w) (fun _ _ _ hh h => h.of_heap hh) Tryz.own started (by kernel_rfl) Tryz.func4
    (ChangeSpec.witness_at (enc := enc) (C := Tryz.checked) (os := os) (X := fun w _ => laidMetH Tryz.prog Rows.meansAllRow.laid w) false (laidWorld os) #[.int .i64 0, .int .i64 0, .int .i64 0, .slice none 0 0, .slice none 0 0] 8 rfl (by kernel_rfl) (by kernel_rfl) (by kernel_rfl) (by kernel_rfl) (by kernel_rfl) (laidWorld_met os _)) ?_
  intro W base args ds gs before hval hW _ _ hL _
  obtain ⟨p, q, hA0, -⟩ := id hW
  have hA : DataW.TrodAll enc Tryz.prog W 0 (fun _ => true) true Tryz.f4.params.toList args.toList ds p := hA0
  rw [Tryz.params4] at hA
  obtain ⟨v0, v1, v2, v3, v4, d0, d1, d2, d3, d4, p0, p1, p2, p3, p4, rfl, rfl, rfl, h0, h1, h2, h3, h4⟩ := trodAll_five hA
  have hl := handle_of_laid hL
  have hi := exists_iface hl
  obtain ⟨n, rfl, -, -, wf0⟩ := open_int (k := .i64) Tryz.underlying3 (hval 0 3 v0 (by rw [Tryz.params4]; rfl) rfl) h0
  obtain ⟨r, rfl, -, -, wf1⟩ := open_int (k := .i64) Tryz.underlying3 (hval 1 3 v1 (by rw [Tryz.params4]; rfl) rfl) h1
  obtain ⟨d, rfl, -, -, wf2⟩ := open_int (k := .i64) Tryz.underlying3 (hval 2 3 v2 (by rw [Tryz.params4]; rfl) rfl) h2
  obtain ⟨b, s, Y, r3, hb3, hs3, hn3, hr3⟩ := in_vs hi (hval 3 36 v3 (by rw [Tryz.params4]; rfl) rfl) h3
  obtain ⟨bv, v, V, r4, hb4, hs4, hn4, hw4⟩ := in_is (k := .i32) hi Tryz.underlying38 (by kernel_rfl) (by kernel_rfl) (hval 4 38 v4 (by rw [Tryz.params4]; rfl) rfl) h4
  refine (whole_calls (args := [.int .i64 n, .int .i64 r, .int .i64 d, s, v]) hl ⟨_, _, rfl, rfl, _, _, rfl, rfl, _, _, rfl, rfl, _, _, rfl, r3, _, _, rfl, r4, rfl⟩ (by kernel_rfl) (meansAll_wp n r d hs3 hr3 hs4 (laid_whole hl) _ fun H' hx => ⟨rfl, hx⟩)).mono fun e W' ⟨he, hw⟩ => ?_
  subst he
  exact ⟨_, rfl, post_true (by kernel_rfl) rfl rfl (fun t ht => by
    have ht := params_of ht
    rcases ht with rfl | rfl | rfl <;> exact ⟨by kernel_rfl, by rw [Tryz.sizeT]; decide⟩) hW hw⟩

theorem law_said : Rows.MeansAllSaid :=
  OpenClaim.holds_of_wide 4 Tryz.f4 rfl rfl rfl rfl rfl rfl rfl ⟨rfl, rfl, rfl, rfl, rfl⟩ rfl rfl rfl rfl rfl (by kernel_rfl) Tryz.func4 (by kernel_rfl)
    (of_decide_eq_true (by kernel_rfl)) (by unfold Func.isWrapper; rw [if_neg (of_decide_eq_false (by kernel_rfl))]; exact ⟨rfl, rfl⟩)
    (fun os started H enc _ => law_lifted os started H enc)

theorem means_all : Rows.MeansAllCardSaid :=
  Claim7.holds_tied_plain_at .later [] [.handle] true (true, "387d6f2e8c78d38cd0246f61bd5a36c5584299eec1f6e890e29bb30ac54f18a1") true
    law_said (fun _ h => by cases h) (by kernel_rfl) (fun _ h => by cases h) meansAll_row_tie rfl ⟨rfl, rfl⟩ (by kernel_rfl) rfl
    (fun f fn hf hfn => by
      obtain rfl : f = 4 := Option.some.inj ((show Tryz.prog.funcNamed "fieldfare/fieldfarelaw7.MeansAll" = some 4 by kernel_rfl).symm.trans hf) |>.symm
      obtain rfl : fn = Tryz.f4 := (Option.some.inj (Tryz.func4.symm.trans hfn)).symm
      exact ⟨by kernel_rfl, fun j t ht => by
        exact wants_of (Array.mem_toList_iff.2 (Array.mem_of_getElem? ht))⟩)
    (by kernel_rfl)
#print axioms means_all
end Go.Proofs.YtjpjmeidpjjgdaaGreatDoor
