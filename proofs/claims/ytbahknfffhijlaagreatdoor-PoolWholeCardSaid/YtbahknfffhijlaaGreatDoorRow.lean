/- What all rows of the seat share: from a run of the evaluator to what the row asks. -/
import Derived.Test.YtbahknfffhijlaaGreatDoorBeg
import Derived.Test.YtbahknfffhijlaaGreatDoorEv3
import Derived.Test.YtbahknfffhijlaaGreatDoorRows
import Derived.Test.YtbahknfffhijlaaGreatDoorTie
import Derived.Test.YtbahknfffhijlaaGreatDoorCards
import Derived.ChangeSame
import Derived.ChangeVars
import Derived.JoinedOf
import Derived.RowKit
import Derived.RowKitTokens
import Derived.LaidLaws
import Derived.LaidHandle
import Derived.Stop.Joined
import Derived.Carry
import Derived.Lib.SmallJoins
namespace Go.Proofs.YtbahknfffhijlaaGreatDoor
open Go.ChangeShapes Go.WideShapes Go.RowKit Go.Ab

theorem Tryz.own : ownKnob Tryz.prog.godebug = none := by kernel_rfl
theorem Tryz.et : Tryz.prog.globalNamed "errors.errorType" = some 0 := by kernel_rfl
theorem Tryz.rt : (Tryz.prog.cutTypes.find? (·.1 == "internal/reflectlite.rtype")).map (·.2) = some 224 := by kernel_rfl
theorem Tryz.oneRow : ((List.range 267).filter fun t => Tryz.prog.rowNamed t [101, 114, 114, 111, 114]) = [178] := by kernel_rfl
theorem Tryz.sizeT : Tryz.prog.types.size = 267 := by kernel_rfl

/-- What the condition gives: the variable's one cell. -/
theorem handle_of_laid {W : World} (h : laidMetH Tryz.prog Rows.poolWholeRow.laid W) : W.cell? ⟨0, 0, none⟩ = some (.iface 224 (.agg #[.pointer (some ⟨1, 178, none⟩)])) := by
  have h' : laidMet Tryz.prog [] W ∧ handlesMet Tryz.prog Rows.poolWholeRow.laid W := h
  obtain ⟨name, u, ty, e1, e2, e3, e4, e5⟩ := h'.2 _ (List.mem_singleton.2 rfl)
  have en : name = [101, 114, 114, 111, 114] := (Option.some.inj e1).symm
  subst en
  obtain rfl := Option.some.inj (Tryz.rt.symm.trans e2)
  have hm : ty ∈ (List.range 267).filter fun t => Tryz.prog.rowNamed t [101, 114, 114, 111, 114] := List.mem_filter.2 ⟨List.mem_range.2 (by rw [← Tryz.sizeT]; exact e3), e4⟩
  rw [Tryz.oneRow] at hm
  obtain rfl := List.mem_singleton.1 hm
  have hh : typeHandle Tryz.prog 178 = .pointer (some ⟨1, 178, none⟩) := by kernel_rfl
  rw [hh] at e5
  simpa using World.var?_cell Tryz.et e5 0

/-- A world that meets the condition. -/
noncomputable def laidWorld (os : Os) : World :=
  let w0 := World.holding Tryz.prog os ⟨#[], #[], []⟩
  { w0 with heap := w0.heap.modify 0 fun
      | .cells _ t frozen => .cells #[.iface 224 (.agg #[.pointer (some ⟨1, 178, none⟩)])] t frozen
      | o => o }
theorem laidWorld_met (os : Os) (args : Array Value) : laidMetH Tryz.prog Rows.poolWholeRow.laid ((laidWorld os).forCall (fun _ _ => 0) ⟨#[], args, []⟩).memory :=
  laidMetH_of_parts (laidMet_nil _ _) (by kernel_rfl)

/-- Arguments read behind the call as they read before it. -/
theorem args_stay {H : Type} {enc : TypeId × Value → H} {W W' : World} (hb : Below W.heap.size W W') : ∀ {ts : List TypeId} {vs : List Value} {ds : List (DataW H)} {ps : List MemPlace},
    DataW.TrodAll enc Tryz.prog W 0 (fun _ => true) true ts vs ds ps → (∀ t ∈ ts, Tryz.prog.readableRec t = true ∧ t < Tryz.prog.types.size) → (∀ x ∈ ps, x.block < W.heap.size) → ∀ {sp : Nat → Bool}, (∀ x ∈ ps, sp x.block = true) →
    DataW.TrodAll enc Tryz.prog W' 0 sp true ts vs ds ps
  | [], vs, ds, ps, h, _, _, _, _ => by
    obtain ⟨rfl, rfl, rfl⟩ := trodAll_nil h
    exact trodAll_mk0
  | t :: ts, vs, ds, ps, h, hr, hlt, sp, hsp => by
    obtain ⟨v, vs', d, ds', p, q, rfl, rfl, rfl, h1, h2⟩ := trodAll_cons h
    have hl : laidOutB Tryz.prog = true := by kernel_rfl
    exact ⟨p, q, WideElems.Trod_stays hl (hr t (by simp)).1 (hr t (by simp)).2 h1 (fun x hx => hb.same (hlt x (by simp [hx]))) (fun x hx => hsp x (by simp [hx])), args_stay hb h2 (fun t ht => hr t (by simp [ht])) (fun x hx => hlt x (by simp [hx])) (fun x hx => hsp x (by simp [hx])), rfl⟩

/-- The row's last step: it is true, and nothing has turned. -/
theorem post_true {H : Type} {enc : TypeId × Value → H} {f : Func} {s : ChangeSpec} {W W' : World} {args : Array Value} {ds gs : List (DataW H)} {before : List MemPlace}
    (hrt : f.resultTypes = #[4]) (hv : s.vars = []) (hfn : s.fn H ds = { results := [.lit (.bool true)], args := ds }) (hp : ∀ t ∈ f.params.toList, Tryz.prog.readableRec t = true ∧ t < Tryz.prog.types.size)
    (hW : DataW.Whole enc Tryz.prog f.params.toList s.vars false W args.toList ds gs before) (hb : Below W.heap.size W W') : s.post enc Tryz.prog f false true false false W args (.bool true) W' := by
  have hW' := hW
  have hlt := hW.lt
  obtain ⟨p, q, hA0, hV0, rfl, hfz, hnd⟩ := hW
  rw [hv] at hV0
  obtain ⟨rfl, rfl⟩ : gs = [] ∧ q = [] := by
    cases gs with
    | nil => exact ⟨rfl, hV0⟩
    | cons g r => exact absurd hV0 (by intro h; cases h)
  have hlp : ∀ x ∈ p, x.block < W.heap.size := fun x hx => hlt x (by simp [hx])
  refine ⟨_, [], _, [], p, [], hW', ?_, ?_, ?_, hb.frame _, fun h => by cases h⟩
  · rw [List.append_nil, hfn, hrt]
    exact trodAll_mk1 (shut_bool Tryz.underlying4 true)
  · rw [List.append_nil, hfn]
    exact args_stay hb hA0 hp hlp fun x hx => by simpa using hlp x hx
  · rw [List.append_nil, hfn, hv]
    rfl

/-- From what the evaluator tells to a call. -/
theorem run_calls_at {prim : PrimF} (hp : PrimOk PP prim) {n : FuncId} {args : List AV} {args' : Array Value} {W : World} {ρ : Env} {H0 : AH} (hr : Real PP ρ H0 W) (ha : RelL ρ args args'.toList) (hb : hasBody PP n = true) (hro : ∀ b x, H0.get b = some x → ∃ ob' f, x = .ro ob' f)
    (h : (WP PP prim).call n args H0 fun v H' => v = .bool true ∧ ∀ b, H0.get b ≠ none → H'.get b = H0.get b) : Calls Tryz.prog n args' W fun e W' => e = .returned (.bool true) ∧ Below W.heap.size W W' := by
  obtain ⟨m, v, H1, h1, rfl, h2⟩ := h
  refine (call_ok hp seat_mixed seat_ok hb (h1 m (Nat.le_refl _)) hr ha).mono fun e W' hret => ?_
  unfold Ret at hret
  cases e with
  | returned v' =>
    obtain ⟨ρ', q1, g⟩ := hret
    cases q1
    refine ⟨rfl, below_of g hr fun b x hx => ?_⟩
    obtain ⟨ob', f, rfl⟩ := hro b x hx
    exact ⟨ob', f, rfl, by rw [h2 b (by rw [hx]; simp), hx]⟩
  | _ => exact hret.elim
theorem run_calls {n : FuncId} {args : List AV} {args' : Array Value} {W : World} {ρ : Env} {H0 : AH} (hr : Real PP ρ H0 W) (ha : RelL ρ args args'.toList) (hb : hasBody PP n = true) (hro : ∀ b x, H0.get b = some x → ∃ ob' f, x = .ro ob' f)
    (h : CC.call n args H0 fun v H' => v = .bool true ∧ ∀ b, H0.get b ≠ none → H'.get b = H0.get b) : Calls Tryz.prog n args' W fun e W' => e = .returned (.bool true) ∧ Below W.heap.size W W' := run_calls_at prims7_ok hr ha hb hro h
end Go.Proofs.YtbahknfffhijlaaGreatDoor
