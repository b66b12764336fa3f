/- fieldfarelaw23.CoreNone answers true, in whatever world in which the program's two laid variables are as its text lays them; nothing that was there is turned. -/
import Derived.Test.YtcehnjmpllhieaaGreatDoorCnoneRun
import Derived.Test.YtcehnjmpllhieaaGreatDoorIn
namespace Go.Proofs.YtcehnjmpllhieaaGreatDoor
open Go.ChangeShapes Go.WideShapes Go.RowKit Go.Ab Go.Joins
set_option maxRecDepth 100000

noncomputable def prims24 : PrimF := addP 6 beg2A prims23
theorem prims24_ok : PrimOk PP prims24 := PrimOk.add prims23_ok cnone_at
theorem cnone_calls {W : World} (hl : W.cell? ⟨0, 0, none⟩ = some (.iface 272 (.agg #[.pointer (some ⟨2, 30, none⟩)]))) (ht : ∀ (i : Nat) (z : Int), tabN[i]? = some z → W.cell? ⟨1, i, none⟩ = some (.int .u8 z)) :
    Calls Tryz.prog 6 #[] W fun e W' => e = .returned (.bool true) ∧ Below W.heap.size W W' := by
  refine whole_calls_at (args := []) prims24_ok hl rfl (by kernel_rfl) ?_
  refine prim_wp (P := PP) (prim := prims24) (g := beg2A) (v := .bool true) (H' := HW W) (by kernel_rfl) ?_ ⟨rfl, Ext.refl _ _⟩
  show br (isLaid 272 PP.globals.size 30 ((HW W).get 0)) (br (isTab tabV ((HW W).get 1)) (some (AV.bool true, HW W)) none) none = _
  rw [laid_whole hl, tab_whole ht]; rfl
theorem law_lifted (os : Os) (started : os.Started) (H : Type) (enc : TypeId × Value → H) :
    ReturnsInHanded {} Tryz.checked os 6 .any (fun w args => (Rows.coreNoneSpec.pre enc Tryz.prog Tryz.f6 [] false w args ∧ laidMetH Tryz.prog Rows.coreNoneRow.laid w) ∧ sizedMet enc Tryz.prog Tryz.f6 (OpenSpec.ofChange Rows.coreNoneSpec) false w args)
      (Rows.coreNoneSpec.post enc Tryz.prog Tryz.f6 false true false false) := by
  refine returnsInHanded_of_change_and (C := Tryz.checked) (X := fun w _ => laidMetH Tryz.prog Rows.coreNoneRow.laid w) (fun _ _ _ hh h => h.of_heap hh) Tryz.own started (by kernel_rfl) Tryz.func6
    (ChangeSpec.witness_at (enc := enc) (C := Tryz.checked) (os := os) (X := fun w _ => laidMetH Tryz.prog Rows.coreNoneRow.laid w) false (laidWorld os) #[] 8 rfl (by kernel_rfl) (by kernel_rfl) (by kernel_rfl) (by kernel_rfl) (by kernel_rfl) (laidWorld_met os _)) ?_
  intro W base args ds gs before hval hW _ _ hL _
  obtain ⟨p, q, hA0, -⟩ := id hW
  have hA : DataW.TrodAll enc Tryz.prog W 0 (fun _ => true) true Tryz.f6.params.toList args.toList ds p := hA0
  rw [Tryz.params6] at hA
  obtain ⟨rfl, rfl, rfl⟩ := trodAll_none hA
  refine (cnone_calls (handle_of_laid hL) (tab_of_laid hL)).mono fun e W' ⟨he, hw⟩ => ?_
  subst he
  exact ⟨_, rfl, post_true (by kernel_rfl) rfl rfl (fun t ht => by
    rw [Tryz.params6] at ht
    simp at ht) hW hw⟩

theorem andT {a b : Bool} (h1 : a = true) (h2 : b = true) : (a && b) = true := by rw [h1, h2]; rfl
set_option maxHeartbeats 10000000 in
theorem facts : joinedFacts Tryz.prog 6 Tryz.f6 Rows.coreNoneSpec Rows.coreNoneRow = true := by
  unfold joinedFacts
  repeat' with_reducible apply andT
  all_goals (as_aux_lemma => kernel_rfl)
theorem law_said : Rows.CoreNoneSaid :=
  OpenClaim.holds_of_wide 6 Tryz.f6 rfl rfl rfl rfl rfl rfl rfl ⟨rfl, rfl, rfl, rfl, rfl⟩ rfl rfl rfl rfl rfl (by as_aux_lemma => kernel_rfl) Tryz.func6 facts
    (of_decide_eq_true (by as_aux_lemma => kernel_rfl)) (by unfold Func.isWrapper; rw [if_neg (of_decide_eq_false (by kernel_rfl))]; exact ⟨rfl, rfl⟩)
    (fun os started H enc _ => law_lifted os started H enc)
theorem said_wf : Rows.coreNoneRow.wfByText (OpenSpec.ofChange Rows.coreNoneSpec) = true := by kernel_rfl
theorem said_main : Tryz.prog.mainIs = some (true, "eebdfc08a2fe7a5251b7309d1136253ce915d4f1f447f9ab483dd6794c554644".toList) := by kernel_rfl
theorem said_looks : true = Tryz.prog.looks [] := by kernel_rfl
theorem said_goes : false = Rows.coreNoneRow.goesBy Tryz.prog := (goes_none _ rfl).symm
theorem said_named : Tryz.prog.funcNamed "fieldfare/fieldfarelaw23.CoreNone" = some 6 := by kernel_rfl
theorem core_none : Rows.CoreNoneCardSaid :=
  Claim7.holds_tied_plain_at .later [] [.data, .handle] true (true, "eebdfc08a2fe7a5251b7309d1136253ce915d4f1f447f9ab483dd6794c554644") true
    law_said (fun _ h => by cases h) said_wf (fun _ h => by cases h) coreNone_row_tie rfl ⟨rfl, rfl⟩ said_main rfl
    (fun f fn hf hfn => by
      obtain rfl : f = 6 := Option.some.inj (said_named.symm.trans hf) |>.symm
      obtain rfl : fn = Tryz.f6 := (Option.some.inj (Tryz.func6.symm.trans hfn)).symm
      exact ⟨said_looks, fun j t ht => by
        rw [Tryz.params6] at ht
        simp at ht⟩)
    said_goes
#print axioms core_none
end Go.Proofs.YtcehnjmpllhieaaGreatDoor
