/- fieldfarelaw23.ReqAll answers true at any operation, any cut, any bytes, in whatever world in which errors.errorType is as the program's text lays it; the input reads as it did. -/
import Derived.Test.YtcehnjmpllhieaaGreatDoorAll
import Derived.Test.YtcehnjmpllhieaaGreatDoorInOp
import Derived.Test.YtcehnjmpllhieaaGreatDoorInNums
namespace Go.Proofs.YtcehnjmpllhieaaGreatDoor
open Go.ChangeShapes Go.WideShapes Go.RowKit Go.Ab Go.Joins
set_option maxRecDepth 100000

theorem params_of {t : TypeId} (ht : t ∈ Tryz.f3.params.toList) : t = 3 ∨ t = 26 ∨ t = 27 := by
  rw [Tryz.params3] at ht
  simp only [List.mem_cons, List.not_mem_nil, or_false] at ht
  rcases ht with rfl | rfl | rfl <;> simp
theorem wants_of {t : TypeId} (ht : t ∈ Tryz.f3.params.toList) : Tryz.prog.wantsStandIn t = false := by
  have w3 : Tryz.prog.wantsStandIn 3 = false := by kernel_rfl
  have w26 : Tryz.prog.wantsStandIn 26 = false := by kernel_rfl
  have w27 : Tryz.prog.wantsStandIn 27 = false := by kernel_rfl
  have ht := params_of ht
  rcases ht with rfl | rfl | rfl <;> assumption
theorem law_lifted (os : Os) (started : os.Started) (H : Type) (enc : TypeId × Value → H) :
    ReturnsInHanded {} Tryz.checked os 3 .any (fun w args => (Rows.reqAllSpec.pre enc Tryz.prog Tryz.f3 [] false w args ∧ laidMetH Tryz.prog Rows.reqAllRow.laid w) ∧ sizedMet enc Tryz.prog Tryz.f3 (OpenSpec.ofChange Rows.reqAllSpec) false w args)
      (Rows.reqAllSpec.post enc Tryz.prog Tryz.f3 false true false false) := by
  refine returnsInHanded_of_change_and (C := Tryz.checked) (X := fun w _ => laidMetH Tryz.prog Rows.reqAllRow.laid w) (fun _ _ _ hh h => h.of_heap hh) Tryz.own started (by kernel_rfl) Tryz.func3
    (ChangeSpec.witness_at (enc := enc) (C := Tryz.checked) (os := os) (X := fun w _ => laidMetH Tryz.prog Rows.reqAllRow.laid w) false (laidWorld os) #[.agg #[.int .i64 0, .string ⟨#[]⟩, .string ⟨#[]⟩, .int .i64 0, .int .i64 0, .int .i64 0, .int .i64 0, .slice none 0 0, .string ⟨#[]⟩, .int .i64 0, .int .u32 0], .int .i64 0, .slice none 0 0] 8 rfl (by kernel_rfl) (by kernel_rfl) (by kernel_rfl) (by kernel_rfl) (by kernel_rfl) (laidWorld_met os _)) ?_
  intro W base args ds gs before hval hW _ _ hL _
  obtain ⟨p, q, hA0, -⟩ := id hW
  have hA : DataW.TrodAll enc Tryz.prog W 0 (fun _ => true) true Tryz.f3.params.toList args.toList ds p := hA0
  rw [Tryz.params3] at hA
  obtain ⟨v0, v1, v2, d0, d1, d2, p0, p1, p2, rfl, rfl, rfl, h0, h1, h2⟩ := trodAll_three hA
  have hl := handle_of_laid hL
  have hi := exists_iface hl
  have htab := tab_whole (tab_of_laid hL)
  obtain ⟨b, s, o, r0, vf0, wo0⟩ := in_op hi (hval 0 26 v0 (by rw [Tryz.params3]; rfl) rfl) h0
  obtain ⟨n, rfl, -, -, wf1⟩ := open_int (k := .i64) Tryz.underlying3 (hval 1 3 v1 (by rw [Tryz.params3]; rfl) rfl) h1
  obtain ⟨bb, sb, B, r2, hb2, hs2, hn2, hw2⟩ := in_is (k := .u8) hi Tryz.underlying27 (by kernel_rfl) (by kernel_rfl) (hval 2 27 v2 (by rw [Tryz.params3]; rfl) rfl) h2
  refine (whole_calls_at prims26_ok (args := [opA o s, .int .i64 n, sb]) hl ⟨_, _, rfl, r0, _, _, rfl, rfl, _, _, rfl, r2, rfl⟩ (by kernel_rfl) (reqAll_wp o n vf0 wo0 hs2 (wf8 hw2) (laid2_whole hl htab) (next_whole W) _ fun H' hx => ⟨rfl, hx⟩)).mono fun e W' ⟨he, hw⟩ => ?_
  subst he
  exact ⟨_, rfl, post_true (by kernel_rfl) rfl rfl (fun t ht => by
    have ht := params_of ht
    rcases ht with rfl | rfl | rfl <;> exact ⟨by kernel_rfl, by rw [Tryz.sizeT]; decide⟩) hW hw⟩

theorem andT {a b : Bool} (h1 : a = true) (h2 : b = true) : (a && b) = true := by rw [h1, h2]; rfl
set_option maxHeartbeats 10000000 in
theorem facts : joinedFacts Tryz.prog 3 Tryz.f3 Rows.reqAllSpec Rows.reqAllRow = true := by
  unfold joinedFacts
  repeat' with_reducible apply andT
  all_goals (as_aux_lemma => kernel_rfl)
theorem law_said : Rows.ReqAllSaid :=
  OpenClaim.holds_of_wide 3 Tryz.f3 rfl rfl rfl rfl rfl rfl rfl ⟨rfl, rfl, rfl, rfl, rfl⟩ rfl rfl rfl rfl rfl (by as_aux_lemma => kernel_rfl) Tryz.func3 facts
    (of_decide_eq_true (by as_aux_lemma => kernel_rfl)) (by unfold Func.isWrapper; rw [if_neg (of_decide_eq_false (by kernel_rfl))]; exact ⟨rfl, rfl⟩)
    (fun os started H enc _ => law_lifted os started H enc)

theorem said_wf : Rows.reqAllRow.wfByText (OpenSpec.ofChange Rows.reqAllSpec) = true := by kernel_rfl
theorem said_main : Tryz.prog.mainIs = some (true, "eebdfc08a2fe7a5251b7309d1136253ce915d4f1f447f9ab483dd6794c554644".toList) := by kernel_rfl
theorem said_looks : true = Tryz.prog.looks [] := by kernel_rfl
theorem said_goes : false = Rows.reqAllRow.goesBy Tryz.prog := (goes_none _ rfl).symm
theorem said_named : Tryz.prog.funcNamed "fieldfare/fieldfarelaw23.ReqAll" = some 3 := by kernel_rfl
theorem req_all : Rows.ReqAllCardSaid :=
  Claim7.holds_tied_plain_at .later [] [.data, .handle] true (true, "eebdfc08a2fe7a5251b7309d1136253ce915d4f1f447f9ab483dd6794c554644") true
    law_said (fun _ h => by cases h) said_wf (fun _ h => by cases h) reqAll_row_tie rfl ⟨rfl, rfl⟩ said_main rfl
    (fun f fn hf hfn => by
      obtain rfl : f = 3 := Option.some.inj (said_named.symm.trans hf) |>.symm
      obtain rfl : fn = Tryz.f3 := (Option.some.inj (Tryz.func3.symm.trans hfn)).symm
      exact ⟨said_looks, fun j t ht => by
        exact wants_of (Array.mem_toList_iff.2 (Array.mem_of_getElem? ht))⟩)
    said_goes
#print axioms req_all
end Go.Proofs.YtcehnjmpllhieaaGreatDoor
