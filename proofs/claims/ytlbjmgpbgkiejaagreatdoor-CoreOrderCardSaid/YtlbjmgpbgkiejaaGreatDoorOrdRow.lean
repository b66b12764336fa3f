/- fieldfarelaw23.CoreOrder answers true at any operation, any vectors, in whatever world in which errors.errorType is as the program's text lays it; the input reads as it did. -/
import Derived.Test.YtlbjmgpbgkiejaaGreatDoorOrd
import Derived.Test.YtlbjmgpbgkiejaaGreatDoorInOp
import Derived.Test.YtlbjmgpbgkiejaaGreatDoorInVs
namespace Go.Proofs.YtlbjmgpbgkiejaaGreatDoor
open Go.ChangeShapes Go.WideShapes Go.RowKit Go.Ab Go.Joins
set_option maxRecDepth 100000

theorem params_of {t : TypeId} (ht : t ∈ Tryz.f5.params.toList) : t = 22 ∨ t = 41 := by
  rw [Tryz.params5] at ht
  simp only [List.mem_cons, List.not_mem_nil, or_false] at ht
  rcases ht with rfl | rfl <;> simp
theorem wants_of {t : TypeId} (ht : t ∈ Tryz.f5.params.toList) : Tryz.prog.wantsStandIn t = false := by
  have w22 : Tryz.prog.wantsStandIn 22 = false := by kernel_rfl
  have w41 : Tryz.prog.wantsStandIn 41 = false := by kernel_rfl
  have ht := params_of ht
  rcases ht with rfl | rfl <;> assumption
theorem law_lifted (os : Os) (started : os.Started) (H : Type) (enc : TypeId × Value → H) :
    ReturnsInHanded {} Tryz.checked os 5 .any (fun w args => (Rows.coreOrderSpec.pre enc Tryz.prog Tryz.f5 [] false w args ∧ laidMetH Tryz.prog Rows.coreOrderRow.laid w) ∧ sizedMet enc Tryz.prog Tryz.f5 (OpenSpec.ofChange Rows.coreOrderSpec) false w args)
      (Rows.coreOrderSpec.post enc Tryz.prog Tryz.f5 false true false false) := by
  refine returnsInHanded_of_change_and (C := Tryz.checked) (X := fun w _ => laidMetH Tryz.prog Rows.coreOrderRow.laid w) (fun _ _ _ hh h => h.of_heap hh) Tryz.own started (by kernel_rfl) Tryz.func5
    (ChangeSpec.witness_at (enc := enc) (C := Tryz.checked) (os := os) (X := fun w _ => laidMetH Tryz.prog Rows.coreOrderRow.laid w) false (laidWorld os) #[.agg #[.int .i64 0, .string ⟨#[]⟩, .string ⟨#[]⟩, .int .i64 0, .int .i64 0, .int .i64 0, .int .i64 0, .slice none 0 0, .string ⟨#[]⟩, .int .i64 0, .int .u32 0], .slice none 0 0] 8 rfl (by kernel_rfl) (by kernel_rfl) (by kernel_rfl) (by kernel_rfl) (by kernel_rfl) (laidWorld_met os _)) ?_
  intro W base args ds gs before hval hW _ _ hL _
  obtain ⟨p, q, hA0, -⟩ := id hW
  have hA : DataW.TrodAll enc Tryz.prog W 0 (fun _ => true) true Tryz.f5.params.toList args.toList ds p := hA0
  rw [Tryz.params5] at hA
  obtain ⟨v0, v1, d0, d1, p0, p1, rfl, rfl, rfl, h0, h1⟩ := trodAll_two hA
  have hl := handle_of_laid hL
  have hi := exists_iface hl
  have htab := tab_whole (tab_of_laid hL)
  obtain ⟨b, s, o, r0, vf0, wo0⟩ := in_op hi (hval 0 41 v0 (by rw [Tryz.params5]; rfl) rfl) h0
  obtain ⟨b', s', Y, r1, hb1, hs1, hn1, hr1⟩ := in_vs hi (hval 1 22 v1 (by rw [Tryz.params5]; rfl) rfl) h1
  refine (whole_calls_at primsK_ok (args := [opA o s, s']) hl ⟨_, _, rfl, r0, _, _, rfl, r1, rfl⟩ (by kernel_rfl) (coreOrder_wp o vf0 hs1 hr1 (Nat.le_trans hn1 (by decide)) (laid2_whole hl htab) (next_whole W) _ fun H' hx => ⟨rfl, hx⟩)).mono fun e W' ⟨he, hw⟩ => ?_
  subst he
  exact ⟨_, rfl, post_true (by kernel_rfl) rfl rfl (fun t ht => by
    have ht := params_of ht
    rcases ht with rfl | rfl <;> exact ⟨by kernel_rfl, by rw [Tryz.sizeT]; decide⟩) hW hw⟩

theorem andT {a b : Bool} (h1 : a = true) (h2 : b = true) : (a && b) = true := by rw [h1, h2]; rfl
set_option maxHeartbeats 10000000 in
theorem facts : joinedFacts Tryz.prog 5 Tryz.f5 Rows.coreOrderSpec Rows.coreOrderRow = true := by
  unfold joinedFacts
  repeat' with_reducible apply andT
  all_goals (as_aux_lemma => kernel_rfl)
theorem law_said : Rows.CoreOrderSaid :=
  OpenClaim.holds_of_wide 5 Tryz.f5 rfl rfl rfl rfl rfl rfl rfl ⟨rfl, rfl, rfl, rfl, rfl⟩ rfl rfl rfl rfl rfl (by as_aux_lemma => kernel_rfl) Tryz.func5 facts
    (of_decide_eq_true (by as_aux_lemma => kernel_rfl)) (by unfold Func.isWrapper; rw [if_neg (of_decide_eq_false (by kernel_rfl))]; exact ⟨rfl, rfl⟩)
    (fun os started H enc _ => law_lifted os started H enc)

theorem said_wf : Rows.coreOrderRow.wfByText (OpenSpec.ofChange Rows.coreOrderSpec) = true := by kernel_rfl
theorem said_main : Tryz.prog.mainIs = some (true, "1b2e86b9f63ae100e0c68b45c5d7c7eb2f1160898a9f863e5d0abc918a2b2fa9".toList) := by kernel_rfl
theorem said_looks : true = Tryz.prog.looks [] := by kernel_rfl
theorem said_goes : false = Rows.coreOrderRow.goesBy Tryz.prog := (goes_none _ rfl).symm
theorem said_named : Tryz.prog.funcNamed "fieldfare/fieldfarelaw23.CoreOrder" = some 5 := by kernel_rfl
theorem core_order : Rows.CoreOrderCardSaid :=
  Claim7.holds_tied_plain_at .later [] [.data, .handle] true (true, "1b2e86b9f63ae100e0c68b45c5d7c7eb2f1160898a9f863e5d0abc918a2b2fa9") true
    law_said (fun _ h => by cases h) said_wf (fun _ h => by cases h) coreOrder_row_tie rfl ⟨rfl, rfl⟩ said_main rfl
    (fun f fn hf hfn => by
      obtain rfl : f = 5 := Option.some.inj (said_named.symm.trans hf) |>.symm
      obtain rfl : fn = Tryz.f5 := (Option.some.inj (Tryz.func5.symm.trans hfn)).symm
      exact ⟨said_looks, fun j t ht => by
        exact wants_of (Array.mem_toList_iff.2 (Array.mem_of_getElem? ht))⟩)
    said_goes
#print axioms core_order
end Go.Proofs.YtlbjmgpbgkiejaaGreatDoor
