/- fieldfarelaw7.QuantAll answers true at any number, any vectors and any vector, in whatever world in which errors.errorType is as the program's text lays it; the input reads as it did. -/
import Derived.Test.YtoafnnphjbdedaaGreatDoorQall
import Derived.Test.YtoafnnphjbdedaaGreatDoorInVs
namespace Go.Proofs.YtoafnnphjbdedaaGreatDoor
open Go.ChangeShapes Go.WideShapes Go.RowKit Go.Ab Go.Joins
set_option maxRecDepth 100000

theorem params_of {t : TypeId} (ht : t ∈ Tryz.f10.params.toList) : t = 3 ∨ t = 22 ∨ t = 28 := by
  rw [Tryz.params10] at ht
  simp only [List.mem_cons, List.not_mem_nil, or_false] at ht
  rcases ht with rfl | rfl | rfl <;> simp
theorem wants_of {t : TypeId} (ht : t ∈ Tryz.f10.params.toList) : Tryz.prog.wantsStandIn t = false := by
  have w3 : Tryz.prog.wantsStandIn 3 = false := by kernel_rfl
  have w22 : Tryz.prog.wantsStandIn 22 = false := by kernel_rfl
  have w28 : Tryz.prog.wantsStandIn 28 = false := by kernel_rfl
  have ht := params_of ht
  rcases ht with rfl | rfl | rfl <;> assumption
theorem law_lifted (os : Os) (started : os.Started) (H : Type) (enc : TypeId × Value → H) :
    ReturnsInHanded {} Tryz.checked os 10 .any (fun w args => (Rows.quantAllSpec.pre enc Tryz.prog Tryz.f10 [] false w args ∧ laidMetH Tryz.prog Rows.quantAllRow.laid w) ∧ sizedMet enc Tryz.prog Tryz.f10 (OpenSpec.ofChange Rows.quantAllSpec) false w args)
      (Rows.quantAllSpec.post enc Tryz.prog Tryz.f10 false true false false) := by
  refine returnsInHanded_of_change_and (C := Tryz.checked) (X := fun w _ => laidMetH Tryz.prog Rows.quantAllRow.laid w) (fun _ _ _ hh h => h.of_heap hh) Tryz.own started (by kernel_rfl) Tryz.func10
    (ChangeSpec.witness_at (enc := enc) (C := Tryz.checked) (os := os) (X := fun w _ => laidMetH Tryz.prog Rows.quantAllRow.laid w) false (laidWorld os) #[.int .i64 0, .slice none 0 0, .slice none 0 0] 8 rfl (by kernel_rfl) (by kernel_rfl) (by kernel_rfl) (by kernel_rfl) (by kernel_rfl) (laidWorld_met os _)) ?_
  intro W base args ds gs before hval hW _ _ hL _
  obtain ⟨p, q, hA0, -⟩ := id hW
  have hA : DataW.TrodAll enc Tryz.prog W 0 (fun _ => true) true Tryz.f10.params.toList args.toList ds p := hA0
  rw [Tryz.params10] at hA
  obtain ⟨v0, v1, v2, d0, d1, d2, p0, p1, p2, rfl, rfl, rfl, h0, h1, h2⟩ := trodAll_three hA
  have hl := handle_of_laid hL
  have hi := exists_iface hl
  obtain ⟨dim, rfl, -, -, wf0⟩ := open_int (k := .i64) Tryz.underlying3 (hval 0 3 v0 (by rw [Tryz.params10]; rfl) rfl) h0
  obtain ⟨b, s, Y, r1, hb1, hs1, hn1, hr1⟩ := in_vs hi (hval 1 22 v1 (by rw [Tryz.params10]; rfl) rfl) h1
  obtain ⟨bv, v, V, r2, hb2, hs2, hn2, hw2⟩ := in_is (k := .i32) hi Tryz.underlying28 (by kernel_rfl) (by kernel_rfl) (hval 2 28 v2 (by rw [Tryz.params10]; rfl) rfl) h2
  refine (whole_calls (args := [.int .i64 dim, s, v]) hl ⟨_, _, rfl, rfl, _, _, rfl, r1, _, _, rfl, r2, rfl⟩ (by kernel_rfl) (quantAll_wp dim hs1 hr1 hs2 (wf32 hw2) (laid_whole hl) _ fun H' hx => ⟨rfl, hx⟩)).mono fun e W' ⟨he, hw⟩ => ?_
  subst he
  exact ⟨_, rfl, post_true (by kernel_rfl) rfl rfl (fun t ht => by
    have ht := params_of ht
    rcases ht with rfl | rfl | rfl <;> exact ⟨by kernel_rfl, by rw [Tryz.sizeT]; decide⟩) hW hw⟩

theorem law_said : Rows.QuantAllSaid :=
  OpenClaim.holds_of_wide 10 Tryz.f10 rfl rfl rfl rfl rfl rfl rfl ⟨rfl, rfl, rfl, rfl, rfl⟩ rfl rfl rfl rfl rfl (by kernel_rfl) Tryz.func10 (by kernel_rfl)
    (of_decide_eq_true (by kernel_rfl)) (by unfold Func.isWrapper; rw [if_neg (of_decide_eq_false (by kernel_rfl))]; exact ⟨rfl, rfl⟩)
    (fun os started H enc _ => law_lifted os started H enc)

theorem quant_all : Rows.QuantAllCardSaid :=
  Claim7.holds_tied_plain_at .later [] [.handle] true (true, "9460f19fd34637022cd414d57d89785ee97073cda05863c38b126e1b4ec8e0d8") true
    law_said (fun _ h => by cases h) (by kernel_rfl) (fun _ h => by cases h) quantAll_row_tie rfl ⟨rfl, rfl⟩ (by kernel_rfl) rfl
    (fun f fn hf hfn => by
      obtain rfl : f = 10 := Option.some.inj ((show Tryz.prog.funcNamed "fieldfare/fieldfarelaw7.QuantAll" = some 10 by kernel_rfl).symm.trans hf) |>.symm
      obtain rfl : fn = Tryz.f10 := (Option.some.inj (Tryz.func10.symm.trans hfn)).symm
      exact ⟨by kernel_rfl, fun j t ht => by
        exact wants_of (Array.mem_toList_iff.2 (Array.mem_of_getElem? ht))⟩)
    (by kernel_rfl)
#print axioms quant_all
end Go.Proofs.YtoafnnphjbdedaaGreatDoor
