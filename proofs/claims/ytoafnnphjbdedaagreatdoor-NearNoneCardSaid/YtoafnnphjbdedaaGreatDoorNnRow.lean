/- fieldfarelaw7.NearNone answers true, in whatever world in which errors.errorType is as the program's text lays it; nothing that was there is turned. -/
import Derived.Test.YtoafnnphjbdedaaGreatDoorNn
import Derived.Test.YtoafnnphjbdedaaGreatDoorAbFa
import Derived.Test.YtoafnnphjbdedaaGreatDoorRows
import Derived.Test.YtoafnnphjbdedaaGreatDoorTie
import Derived.Test.YtoafnnphjbdedaaGreatDoorCards
import Derived.ChangeSame
import Derived.ChangeVars
import Derived.JoinedOf
import Derived.RowKit
import Derived.RowKitTokens
import Derived.LaidLaws
import Derived.LaidHandle
import Derived.Stop.Joined
namespace Go.Proofs.YtoafnnphjbdedaaGreatDoor
open Go.ChangeShapes Go.WideShapes Go.RowKit Go.Ab

theorem Tryz.own : ownKnob Tryz.prog.godebug = none := by kernel_rfl
theorem Tryz.et : Tryz.prog.globalNamed "errors.errorType" = some 0 := by kernel_rfl
theorem Tryz.rt : (Tryz.prog.cutTypes.find? (·.1 == "internal/reflectlite.rtype")).map (·.2) = some 250 := by kernel_rfl
theorem Tryz.oneRow : ((List.range 293).filter fun t => Tryz.prog.rowNamed t [101, 114, 114, 111, 114]) = [215] := by kernel_rfl
theorem Tryz.sizeT : Tryz.prog.types.size = 293 := by kernel_rfl

/-- What the condition gives: the variable's one cell. -/
theorem handle_of_laid {W : World} (h : laidMetH Tryz.prog Rows.nearNoneRow.laid W) : W.cell? ⟨0, 0, none⟩ = some (.iface 250 (.agg #[.pointer (some ⟨1, 215, none⟩)])) := by
  have h' : laidMet Tryz.prog [] W ∧ handlesMet Tryz.prog Rows.nearNoneRow.laid W := h
  obtain ⟨name, u, ty, e1, e2, e3, e4, e5⟩ := h'.2 _ (List.mem_singleton.2 rfl)
  have en : name = [101, 114, 114, 111, 114] := (Option.some.inj e1).symm
  subst en
  obtain rfl := Option.some.inj (Tryz.rt.symm.trans e2)
  have hm : ty ∈ (List.range 293).filter fun t => Tryz.prog.rowNamed t [101, 114, 114, 111, 114] := List.mem_filter.2 ⟨List.mem_range.2 (by rw [← Tryz.sizeT]; exact e3), e4⟩
  rw [Tryz.oneRow] at hm
  obtain rfl := List.mem_singleton.1 hm
  have hh : typeHandle Tryz.prog 215 = .pointer (some ⟨1, 215, none⟩) := by kernel_rfl
  rw [hh] at e5
  simpa using World.var?_cell Tryz.et e5 0

/-- A world that meets the condition. -/
noncomputable def laidWorld (os : Os) : World :=
  let w0 := World.holding Tryz.prog os ⟨#[], #[], []⟩
  { w0 with heap := w0.heap.modify 0 fun
      | .cells _ t frozen => .cells #[.iface 250 (.agg #[.pointer (some ⟨1, 215, none⟩)])] t frozen
      | o => o }
theorem laidWorld_met (os : Os) (args : Array Value) : laidMetH Tryz.prog Rows.nearNoneRow.laid ((laidWorld os).forCall (fun _ _ => 0) ⟨#[], args, []⟩).memory :=
  laidMetH_of_parts (laidMet_nil _ _) (by kernel_rfl)

theorem nn_calls (W : World) (hl : W.cell? ⟨0, 0, none⟩ = some (.iface 250 (.agg #[.pointer (some ⟨1, 215, none⟩)]))) : Calls Tryz.prog 13 #[] W fun e W' => e = .returned (.bool true) ∧ Below W.heap.size W W' := by
  have hg : PP.globals.size = 1 := by kernel_rfl
  obtain ⟨ob', -, hr⟩ := real_start (P := PP) (rt := 250) (h := 215) (W := W) (by rw [hg]; exact hl)
  have hrun := nn_run ob'
  cases hev : evCall PP prims7 2000 13 [] (AH.start (PP.globals.size + 1) (begH ob')) with
  | none => rw [hev] at hrun; cases hrun
  | some r =>
    obtain ⟨v, H1⟩ := r
    rw [hev] at hrun
    have he : some (boolIs true v, H1.get 0) = some (true, some (begH ob')) := hrun
    simp only [Option.some.injEq, Prod.mk.injEq] at he
    obtain ⟨hv, h1⟩ := he
    have hv : v = .bool true := by
      cases v <;> first | (cases hv; done) | skip
      rename_i b; cases b
      · cases hv
      · rfl
    subst hv
    have hb : hasBody PP 13 = true := by kernel_rfl
    refine (call_ok prims7_ok seat_mixed seat_ok hb hev hr (show RelL _ [] #[].toList from rfl)).mono fun e W' hret => ?_
    unfold Ret at hret
    cases e with
    | returned v' =>
      obtain ⟨ρ', q1, g⟩ := hret
      cases q1
      refine ⟨rfl, below_of g hr fun b x hx => ?_⟩
      rw [get_start] at hx
      split at hx
      · rename_i hb0; subst hb0; cases hx; exact ⟨_, _, rfl, h1⟩
      · cases hx
    | _ => exact hret.elim

set_option maxRecDepth 100000 in
theorem law_lifted (os : Os) (started : os.Started) (H : Type) (enc : TypeId × Value → H) :
    ReturnsInHanded {} Tryz.checked os 13 .any (fun w args => (Rows.nearNoneSpec.pre enc Tryz.prog Tryz.f13 [] false w args ∧ laidMetH Tryz.prog Rows.nearNoneRow.laid w) ∧ sizedMet enc Tryz.prog Tryz.f13 (OpenSpec.ofChange Rows.nearNoneSpec) false w args)
      (Rows.nearNoneSpec.post enc Tryz.prog Tryz.f13 false true false false) := by
  refine returnsInHanded_of_change_and (C := Tryz.checked) (X := fun w _ => laidMetH Tryz.prog Rows.nearNoneRow.laid w) (fun _ _ _ hh h => h.of_heap hh) Tryz.own started (by kernel_rfl) Tryz.func13
    (ChangeSpec.witness_at (enc := enc) (C := Tryz.checked) (os := os) (X := fun w _ => laidMetH Tryz.prog Rows.nearNoneRow.laid w) false (laidWorld os) #[] 8 rfl (by kernel_rfl) (by kernel_rfl) (by kernel_rfl) (by kernel_rfl) (by kernel_rfl) (laidWorld_met os _)) ?_
  intro W base args ds gs before hval0 hW _ _ hL _
  have hW' := hW
  obtain ⟨p, q, hA0, hV0, rfl, hfz, hnd⟩ := hW
  have hA : DataW.TrodAll enc Tryz.prog W 0 (fun _ => true) true Tryz.f13.params.toList args.toList ds p := hA0
  have hV : DataW.TrodVars enc Tryz.prog W (fun _ => true) [] gs q := hV0
  rw [Tryz.params13] at hA
  obtain ⟨rfl, rfl, rfl⟩ := trodAll_none hA
  obtain ⟨rfl, rfl⟩ : gs = [] ∧ q = [] := by
    cases gs with
    | nil => exact ⟨rfl, hV⟩
    | cons g r => exact absurd hV (by intro h; cases h)
  refine (nn_calls W (handle_of_laid hL)).mono fun e W' ⟨he, hw⟩ => ?_
  subst he
  refine ⟨_, rfl, _, _, _, [], [], [], hW', ?_, trodAll_mk0, ?_, hw.frame _, fun h => by cases h⟩
  · exact trodAll_mk1 (shut_bool Tryz.underlying4 true)
  · rfl

theorem nn_said : Rows.NearNoneSaid :=
  OpenClaim.holds_of_wide 13 Tryz.f13 rfl rfl rfl rfl rfl rfl rfl ⟨rfl, rfl, rfl, rfl, rfl⟩ rfl rfl rfl rfl rfl (by kernel_rfl) Tryz.func13 (by kernel_rfl)
    (of_decide_eq_true (by kernel_rfl)) (by unfold Func.isWrapper; rw [if_neg (of_decide_eq_false (by kernel_rfl))]; exact ⟨rfl, rfl⟩)
    (fun os started H enc _ => law_lifted os started H enc)

theorem near_none : Rows.NearNoneCardSaid :=
  Claim7.holds_tied_plain_at .later [] [.handle] true (true, "9460f19fd34637022cd414d57d89785ee97073cda05863c38b126e1b4ec8e0d8") true
    nn_said (fun _ h => by cases h) (by kernel_rfl) (fun _ h => by cases h) nearNone_row_tie rfl ⟨rfl, rfl⟩ (by kernel_rfl) rfl
    (fun f fn hf hfn => by
      obtain rfl : f = 13 := Option.some.inj ((show Tryz.prog.funcNamed "fieldfare/fieldfarelaw7.NearNone" = some 13 by kernel_rfl).symm.trans hf) |>.symm
      obtain rfl : fn = Tryz.f13 := (Option.some.inj (Tryz.func13.symm.trans hfn)).symm
      exact ⟨by kernel_rfl, fun j t ht => by
        rw [Tryz.params13] at ht
        simp at ht⟩)
    (by kernel_rfl)
#print axioms near_none
end Go.Proofs.YtoafnnphjbdedaaGreatDoor
