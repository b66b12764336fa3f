/- What all rows of the seat share: from a run of the evaluator to what the row asks. -/
import Derived.Test.YtlbjmgpbgkiejaaGreatDoorBeg
import Derived.Test.YtlbjmgpbgkiejaaGreatDoorEv3
import Derived.Test.YtlbjmgpbgkiejaaGreatDoorRows
import Derived.Test.YtlbjmgpbgkiejaaGreatDoorTie
import Derived.Test.YtlbjmgpbgkiejaaGreatDoorCards
import Derived.ChangeSame
import Derived.ChangeVars
import Derived.JoinedOf
import Derived.RowKit
import Derived.RowKitTokens
import Derived.LaidLaws
import Derived.LaidHandle
import Derived.Stop.Joined
import Derived.Carry
import Derived.Lib.SmallJoins
namespace Go.Proofs.YtlbjmgpbgkiejaaGreatDoor
open Go.ChangeShapes Go.WideShapes Go.RowKit Go.Ab

theorem Tryz.own : ownKnob Tryz.prog.godebug = none := by kernel_rfl
theorem Tryz.et : Tryz.prog.globalNamed "errors.errorType" = some 0 := by kernel_rfl
theorem Tryz.rt : (Tryz.prog.cutTypes.find? (·.1 == "internal/reflectlite.rtype")).map (·.2) = some 302 := by kernel_rfl
theorem Tryz.oneRow : ((List.range 500).filter fun t => Tryz.prog.rowNamed t [101, 114, 114, 111, 114]) = [36] := by kernel_rfl
theorem Tryz.sizeT : Tryz.prog.types.size = 500 := by kernel_rfl

/-- What the condition says: the table; the handle. -/
abbrev laid2 : List (String × DataW Unit) := [("math/bits.deBruijn32tab", Rows.laid_math_bits_deBruijn32tab), ("errors.errorType", Rows.laid_errors_errorType)]
theorem laid_parts {W : World} (h : laidMetH Tryz.prog Rows.coreOrderRow.laid W) : laidMet Tryz.prog [("math/bits.deBruijn32tab", Rows.laid_math_bits_deBruijn32tab)] W ∧ handlesMet Tryz.prog [("errors.errorType", Rows.laid_errors_errorType)] W := h
/-- What it gives: the variable's one cell. -/
theorem handle_of_laid {W : World} (h : laidMetH Tryz.prog Rows.coreOrderRow.laid W) : W.cell? ⟨0, 0, none⟩ = some (.iface 302 (.agg #[.pointer (some ⟨2, 36, none⟩)])) := by
  have h' := laid_parts h
  obtain ⟨name, u, ty, e1, e2, e3, e4, e5⟩ := h'.2 _ (List.mem_singleton.2 rfl)
  have en : name = [101, 114, 114, 111, 114] := (Option.some.inj e1).symm
  subst en
  obtain rfl := Option.some.inj (Tryz.rt.symm.trans e2)
  have hm : ty ∈ (List.range 500).filter fun t => Tryz.prog.rowNamed t [101, 114, 114, 111, 114] := List.mem_filter.2 ⟨List.mem_range.2 (by rw [← Tryz.sizeT]; exact e3), e4⟩
  rw [Tryz.oneRow] at hm
  obtain rfl := List.mem_singleton.1 hm
  have hh : typeHandle Tryz.prog 36 = .pointer (some ⟨2, 36, none⟩) := by kernel_rfl
  rw [hh] at e5
  simpa using World.var?_cell Tryz.et e5 0
/-- The table's numbers. -/
def tabN : List Int := [0, 1, 28, 2, 29, 14, 24, 3, 30, 22, 20, 15, 25, 17, 4, 8, 31, 27, 13, 23, 21, 19, 16, 7, 26, 12, 18, 6, 11, 5, 10, 9]
theorem Tryz.db : Tryz.prog.globalNamed "math/bits.deBruijn32tab" = some 1 := by kernel_rfl
theorem Tryz.dbt : (Tryz.prog.globals[1]?).map (·.type) = some 405 := by kernel_rfl
theorem tab_of_laid {W : World} (h : laidMetH Tryz.prog Rows.coreOrderRow.laid W) : ∀ (i : Nat) (z : Int), tabN[i]? = some z → W.cell? ⟨1, i, none⟩ = some (.int .u8 z) := by
  intro i z hz
  obtain ⟨ps, hv, _⟩ := (laid_parts h).1
  obtain ⟨g, t, cs, fuel, p, q, e1, e2, e3, e4, _⟩ := hv
  obtain rfl := Option.some.inj (Tryz.db.symm.trans e1)
  obtain rfl := Option.some.inj (Tryz.dbt.symm.trans e2)
  obtain ⟨xs, m, _, hx, hl, hn, he⟩ := DataW.trod_array (n := 32) (e := 5) (by kernel_rfl) e4
  have hi : i < 32 := (List.getElem?_eq_some_iff.1 hz).1
  have h1 : Tryz.prog.cellsOf (5 : Nat) = 1 := by kernel_rfl
  have h32 : Tryz.prog.cellsOf (405 : Nat) = 32 := by kernel_rfl
  have hd : xs.map (·.1) = tabN.map fun z => DataW.lit (.int .u8 z) := by
    have := congrArg Prod.fst hx
    exact (DataW.agg.inj this).symm
  have hxi : ∃ y, xs[i]? = some y ∧ y.1 = .lit (.int .u8 z) := by
    have := congrArg (fun l : List (DataW Unit) => l[i]?) hd
    simp only [List.getElem?_map, hz, Option.map_some] at this
    obtain ⟨y, a, b⟩ := Option.map_eq_some_iff.1 this
    exact ⟨y, a, b⟩
  obtain ⟨y, hy, hyz⟩ := hxi
  have := he i hi
  rw [hy, h1, Nat.mul_one] at this
  obtain ⟨c, hc⟩ : ∃ c, cs.toList[i]? = some c := ⟨_, List.getElem?_eq_getElem (by rw [hl, h32]; exact hi)⟩
  have htake : (cs.toList.drop i).take 1 = [c] := by
    have hlt := (List.getElem?_eq_some_iff.1 hc).1
    rw [List.drop_eq_getElem_cons hlt, List.take_succ_cons, List.take_zero]
    rw [List.getElem?_eq_getElem hlt] at hc
    rw [Option.some.inj hc]
  rw [htake] at this
  obtain ⟨a, ea, rfl, _⟩ := DataW.trod_int (k := .u8) (by kernel_rfl) this
  cases hyz
  have := World.var?_cell Tryz.db e3 i
  rw [← Array.getElem?_toList, hc] at this
  cases ea
  exact this

/-- A world that meets the condition. -/
noncomputable def laidWorld (os : Os) : World :=
  let w0 := World.holding Tryz.prog os ⟨#[], #[], []⟩
  { w0 with heap := (w0.heap.modify 0 fun
      | .cells _ t frozen => .cells #[.iface 302 (.agg #[.pointer (some ⟨2, 36, none⟩)])] t frozen
      | o => o).modify 1 fun
      | .cells _ t frozen => .cells (tabN.map (Value.int .u8)).toArray t frozen
      | o => o }
theorem laidWorld_met (os : Os) (args : Array Value) : laidMetH Tryz.prog Rows.coreOrderRow.laid ((laidWorld os).forCall (fun _ _ => 0) ⟨#[], args, []⟩).memory :=
  laidMetH_of_parts (laidMet_of_run' 8 (by kernel_rfl) (by kernel_rfl)) (by kernel_rfl)

/-- No function starts a goroutine: some at a time. -/
theorem goes0 : allB (fun fn : Func => !fn.goes) ((Tryz.prog.funcs.toList.drop (0 * 72)).take 72) = true := by kernel_rfl
theorem goes1 : allB (fun fn : Func => !fn.goes) ((Tryz.prog.funcs.toList.drop (1 * 72)).take 72) = true := by kernel_rfl
theorem goes2 : allB (fun fn : Func => !fn.goes) ((Tryz.prog.funcs.toList.drop (2 * 72)).take 72) = true := by kernel_rfl
theorem goes3 : allB (fun fn : Func => !fn.goes) ((Tryz.prog.funcs.toList.drop (3 * 72)).take 72) = true := by kernel_rfl
theorem goes4 : allB (fun fn : Func => !fn.goes) ((Tryz.prog.funcs.toList.drop (4 * 72)).take 72) = true := by kernel_rfl
theorem goes5 : allB (fun fn : Func => !fn.goes) ((Tryz.prog.funcs.toList.drop (5 * 72)).take 72) = true := by kernel_rfl
theorem goes6 : allB (fun fn : Func => !fn.goes) ((Tryz.prog.funcs.toList.drop (6 * 72)).take 72) = true := by kernel_rfl
theorem goes_all : allB (fun fn : Func => !fn.goes) Tryz.prog.funcs.toList = true := allB_segs 72 7 (by decide) (fun i hi => match i, hi with
  | 0, _ => goes0
  | 1, _ => goes1
  | 2, _ => goes2
  | 3, _ => goes3
  | 4, _ => goes4
  | 5, _ => goes5
  | 6, _ => goes6
  | i + 7, h => absurd h (by omega)) (Nat.le_of_ble_eq_true (by kernel_rfl))
theorem goes_none (c : OpenClaim) (hs : c.start = .entering) : c.goesBy Tryz.prog = false := by
  have h : ∀ fn ∈ Tryz.prog.funcs.toList, fn.goes = false := by
    have := goes_all
    rw [allB_eq, List.all_eq_true] at this
    intro fn hf
    have := this fn hf
    simpa using this
  have g : ∀ f, Tryz.prog.goes f = false := by
    intro f
    unfold Program.goes
    rw [Bool.or_eq_false_iff]
    refine ⟨List.any_eq_false.2 fun x _ => ?_, ?_⟩
    · cases hx : Tryz.prog.funcs[x]? with
      | none => simp
      | some fn =>
        have : fn ∈ Tryz.prog.funcs.toList := Array.mem_toList_iff.2 (Array.mem_of_getElem? hx)
        simp [h fn this]
    · rw [Bool.and_eq_false_iff]
      right
      rw [← Array.any_toList, List.any_eq_false]
      intro fn hf
      simp [h fn hf]
  unfold OpenClaim.goesBy Program.goesAt Program.goesFrom
  rw [hs]
  cases Tryz.prog.funcNamed c.func with
  | none => rfl
  | some f => simp [g f]

/-- Arguments read behind the call as they read before it. -/
theorem args_stay {H : Type} {enc : TypeId × Value → H} {W W' : World} (hb : Below W.heap.size W W') : ∀ {ts : List TypeId} {vs : List Value} {ds : List (DataW H)} {ps : List MemPlace},
    DataW.TrodAll enc Tryz.prog W 0 (fun _ => true) true ts vs ds ps → (∀ t ∈ ts, Tryz.prog.readableRec t = true ∧ t < Tryz.prog.types.size) → (∀ x ∈ ps, x.block < W.heap.size) → ∀ {sp : Nat → Bool}, (∀ x ∈ ps, sp x.block = true) →
    DataW.TrodAll enc Tryz.prog W' 0 sp true ts vs ds ps
  | [], vs, ds, ps, h, _, _, _, _ => by
    obtain ⟨rfl, rfl, rfl⟩ := trodAll_nil h
    exact trodAll_mk0
  | t :: ts, vs, ds, ps, h, hr, hlt, sp, hsp => by
    obtain ⟨v, vs', d, ds', p, q, rfl, rfl, rfl, h1, h2⟩ := trodAll_cons h
    have hl : laidOutB Tryz.prog = true := by kernel_rfl
    exact ⟨p, q, WideElems.Trod_stays hl (hr t (by simp)).1 (hr t (by simp)).2 h1 (fun x hx => hb.same (hlt x (by simp [hx]))) (fun x hx => hsp x (by simp [hx])), args_stay hb h2 (fun t ht => hr t (by simp [ht])) (fun x hx => hlt x (by simp [hx])) (fun x hx => hsp x (by simp [hx])), rfl⟩

/-- The row's last step: it is true, and nothing has turned. -/
theorem post_true {H : Type} {enc : TypeId × Value → H} {f : Func} {s : ChangeSpec} {W W' : World} {args : Array Value} {ds gs : List (DataW H)} {before : List MemPlace}
    (hrt : f.resultTypes = #[4]) (hv : s.vars = []) (hfn : s.fn H ds = { results := [.lit (.bool true)], args := ds }) (hp : ∀ t ∈ f.params.toList, Tryz.prog.readableRec t = true ∧ t < Tryz.prog.types.size)
    (hW : DataW.Whole enc Tryz.prog f.params.toList s.vars false W args.toList ds gs before) (hb : Below W.heap.size W W') : s.post enc Tryz.prog f false true false false W args (.bool true) W' := by
  have hW' := hW
  have hlt := hW.lt
  obtain ⟨p, q, hA0, hV0, rfl, hfz, hnd⟩ := hW
  rw [hv] at hV0
  obtain ⟨rfl, rfl⟩ : gs = [] ∧ q = [] := by
    cases gs with
    | nil => exact ⟨rfl, hV0⟩
    | cons g r => exact absurd hV0 (by intro h; cases h)
  have hlp : ∀ x ∈ p, x.block < W.heap.size := fun x hx => hlt x (by simp [hx])
  refine ⟨_, [], _, [], p, [], hW', ?_, ?_, ?_, hb.frame _, fun h => by cases h⟩
  · rw [List.append_nil, hfn, hrt]
    exact trodAll_mk1 (shut_bool Tryz.underlying4 true)
  · rw [List.append_nil, hfn]
    exact args_stay hb hA0 hp hlp fun x hx => by simpa using hlp x hx
  · rw [List.append_nil, hfn, hv]
    rfl

/-- From what the evaluator tells to a call. -/
theorem run_calls_at {prim : PrimF} (hp : PrimOk PP prim) {n : FuncId} {args : List AV} {args' : Array Value} {W : World} {ρ : Env} {H0 : AH} (hr : Real PP ρ H0 W) (ha : RelL ρ args args'.toList) (hb : hasBody PP n = true) (hro : ∀ b x, H0.get b = some x → ∃ ob' f, x = .ro ob' f)
    (h : (WP PP prim).call n args H0 fun v H' => v = .bool true ∧ ∀ b, H0.get b ≠ none → H'.get b = H0.get b) : Calls Tryz.prog n args' W fun e W' => e = .returned (.bool true) ∧ Below W.heap.size W W' := by
  obtain ⟨m, v, H1, h1, rfl, h2⟩ := h
  refine (call_ok hp seat_mixed seat_ok hb (h1 m (Nat.le_refl _)) hr ha).mono fun e W' hret => ?_
  unfold Ret at hret
  cases e with
  | returned v' =>
    obtain ⟨ρ', q1, g⟩ := hret
    cases q1
    refine ⟨rfl, below_of g hr fun b x hx => ?_⟩
    obtain ⟨ob', f, rfl⟩ := hro b x hx
    exact ⟨ob', f, rfl, by rw [h2 b (by rw [hx]; simp), hx]⟩
  | _ => exact hret.elim
theorem run_calls {n : FuncId} {args : List AV} {args' : Array Value} {W : World} {ρ : Env} {H0 : AH} (hr : Real PP ρ H0 W) (ha : RelL ρ args args'.toList) (hb : hasBody PP n = true) (hro : ∀ b x, H0.get b = some x → ∃ ob' f, x = .ro ob' f)
    (h : CC.call n args H0 fun v H' => v = .bool true ∧ ∀ b, H0.get b ≠ none → H'.get b = H0.get b) : Calls Tryz.prog n args' W fun e W' => e = .returned (.bool true) ∧ Below W.heap.size W W' := run_calls_at prims7_ok hr ha hb hro h
end Go.Proofs.YtlbjmgpbgkiejaaGreatDoor
