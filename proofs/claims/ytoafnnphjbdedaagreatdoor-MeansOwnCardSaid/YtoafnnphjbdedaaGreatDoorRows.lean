/-
  NARROWER THAN 'FOR EVERY INPUT', by the rows' own cells (each row's printed sentence says how): MeansOwn: laid · BestOwn: laid · BestOrder: laid · MetricOrder: laid · BestMerge: laid · PoolWhole: laid · BestAll: laid · QuantAll: laid · QuantAny: laid · QuantStep: laid · NearNone: laid.
  DERIVED. THE GIVEN ROWS OF THIS SEAT. 11 by the template 'for every input the law returns true; each argument reads behind the call as it read before'; 0 by the template 'total and deterministic' (their statements: YtoafnnphjbdedaaGreatDoorTotals.lean).
  GIVEN WITH THE SEED: the statements are not yours to turn. If you find one false, say at which input.
  Laid BY PROGRAM, IN A SANDBOX (cutbox-rows.mjs): the forced cells as the released guide's own fill.sh prints them over the translation a1e2538866faa428… (all of the seat's roots in one cut). By AI agents, Wed Nov 11 2026. No macro, syntax, notation, axiom, sorry.
-/
import Derived.Test.YtoafnnphjbdedaaGreatDoorChecked
import GoSem.Claim
import GoSem.ClaimJoined
import GoSem.ClaimMapViews
import Derived.JoinedTies
import Derived.KernelRfl
namespace Go.Proofs.YtoafnnphjbdedaaGreatDoor
/- THE CELL 'sum', in the pinned program and in every row, IS THE sha256 OF THE DUMP (.gsa) THAT YtoafnnphjbdedaaGreatDoorProg.lean LOADS. Nothing in Lean hashes anything: it is a label: what it is worth is what the hold of that sum in a sandbox is worth. -/
noncomputable def Tryz.pinned : Pinned := { name := "ytoafnnphjbdedaagreatdoor", sum := "a1e2538866faa428ae61f5c6aa22f30832f8f19bdec9c92869b6227e4799d29c", checked := Tryz.checked }
namespace Rows
def none {H : Type} : Left H := { results := [], args := [] }

/- WHAT THE LISTED PACKAGE-LEVEL VARIABLES READ AS WHEN THE CALL BEGINS. Each datum BY PROGRAM (the guide's laid-datum.mjs) off the statement by which the dump's own 'gosem.cut.vars' lays the variable. In a bare row this is a premise. The card (YtoafnnphjbdedaaGreatDoorCards.lean) ties it to the program's text. -/
def laid_errors_errorType {H : Type} : DataW H := .iface "internal/reflectlite.rtype" (.agg [.ptr (.lit (.string [101, 114, 114, 111, 114]))])

/-- 'fieldfarelaw7.MeansOwn': WHATEVER THE INPUT: true; the input reads as it did. -/
def meansOwnSpec : ChangeSpec := { name := "meansOwn", fn := fun _ => fun
  | [d1, d2] => { results := [.lit (.bool true)], args := [d1, d2] }
  | _ => none }
def meansOwnRow : OpenClaim := { program := "ytoafnnphjbdedaagreatdoor", sum := "a1e2538866faa428ae61f5c6aa22f30832f8f19bdec9c92869b6227e4799d29c", func := "fieldfare/fieldfarelaw7.MeansOwn", spec := "meansOwn", inPlace := ["slices.overlaps[fieldfare/api.Hit]", "internal/reflectlite.ValueOf", "(internal/reflectlite.Value).Type", "(internal/reflectlite.Value).IsNil", "internal/reflectlite.TypeOf", "(internal/reflectlite.Value).Elem", "(internal/reflectlite.Value).Set"], unfollowed := true, recurses := true, named := ["errors.errorType"], apart := false, laid := [("errors.errorType", laid_errors_errorType)] }
def MeansOwnSaid : Prop := meansOwnRow.holds Tryz.pinned (OpenSpec.ofChange meansOwnSpec)

/-- ITS FALSE NEIGHBOUR: 'it returns false'. Refute it at one input. -/
def meansOwnWrong : ChangeSpec := { name := "meansOwn", fn := fun _ => fun
  | [d1, d2] => { results := [.lit (.bool false)], args := [d1, d2] }
  | _ => none }
def MeansOwnWrongFalsely : Prop := meansOwnRow.holds Tryz.pinned (OpenSpec.ofChange meansOwnWrong)

/-- 'fieldfarelaw7.BestOwn': WHATEVER THE INPUT: true; the input reads as it did. -/
def bestOwnSpec : ChangeSpec := { name := "bestOwn", fn := fun _ => fun
  | [d1, d2] => { results := [.lit (.bool true)], args := [d1, d2] }
  | _ => none }
def bestOwnRow : OpenClaim := { program := "ytoafnnphjbdedaagreatdoor", sum := "a1e2538866faa428ae61f5c6aa22f30832f8f19bdec9c92869b6227e4799d29c", func := "fieldfare/fieldfarelaw7.BestOwn", spec := "bestOwn", inPlace := ["slices.overlaps[fieldfare/api.Hit]", "internal/reflectlite.ValueOf", "(internal/reflectlite.Value).Type", "(internal/reflectlite.Value).IsNil", "internal/reflectlite.TypeOf", "(internal/reflectlite.Value).Elem", "(internal/reflectlite.Value).Set"], unfollowed := true, recurses := true, named := ["errors.errorType"], apart := false, laid := [("errors.errorType", laid_errors_errorType)] }
def BestOwnSaid : Prop := bestOwnRow.holds Tryz.pinned (OpenSpec.ofChange bestOwnSpec)

/-- ITS FALSE NEIGHBOUR: 'it returns false'. Refute it at one input. -/
def bestOwnWrong : ChangeSpec := { name := "bestOwn", fn := fun _ => fun
  | [d1, d2] => { results := [.lit (.bool false)], args := [d1, d2] }
  | _ => none }
def BestOwnWrongFalsely : Prop := bestOwnRow.holds Tryz.pinned (OpenSpec.ofChange bestOwnWrong)

/-- 'fieldfarelaw7.BestOrder': WHATEVER THE INPUT: true; the input reads as it did. -/
def bestOrderSpec : ChangeSpec := { name := "bestOrder", fn := fun _ => fun
  | [d1, d2, d3] => { results := [.lit (.bool true)], args := [d1, d2, d3] }
  | _ => none }
def bestOrderRow : OpenClaim := { program := "ytoafnnphjbdedaagreatdoor", sum := "a1e2538866faa428ae61f5c6aa22f30832f8f19bdec9c92869b6227e4799d29c", func := "fieldfare/fieldfarelaw7.BestOrder", spec := "bestOrder", inPlace := ["slices.overlaps[fieldfare/api.Hit]", "internal/reflectlite.ValueOf", "(internal/reflectlite.Value).Type", "(internal/reflectlite.Value).IsNil", "internal/reflectlite.TypeOf", "(internal/reflectlite.Value).Elem", "(internal/reflectlite.Value).Set"], unfollowed := true, recurses := true, named := ["errors.errorType"], apart := false, laid := [("errors.errorType", laid_errors_errorType)] }
def BestOrderSaid : Prop := bestOrderRow.holds Tryz.pinned (OpenSpec.ofChange bestOrderSpec)

/-- ITS FALSE NEIGHBOUR: 'it returns false'. Refute it at one input. -/
def bestOrderWrong : ChangeSpec := { name := "bestOrder", fn := fun _ => fun
  | [d1, d2, d3] => { results := [.lit (.bool false)], args := [d1, d2, d3] }
  | _ => none }
def BestOrderWrongFalsely : Prop := bestOrderRow.holds Tryz.pinned (OpenSpec.ofChange bestOrderWrong)

/-- 'fieldfarelaw7.MetricOrder': WHATEVER THE INPUT: true; the input reads as it did. -/
def metricOrderSpec : ChangeSpec := { name := "metricOrder", fn := fun _ => fun
  | [d1, d2, d3] => { results := [.lit (.bool true)], args := [d1, d2, d3] }
  | _ => none }
def metricOrderRow : OpenClaim := { program := "ytoafnnphjbdedaagreatdoor", sum := "a1e2538866faa428ae61f5c6aa22f30832f8f19bdec9c92869b6227e4799d29c", func := "fieldfare/fieldfarelaw7.MetricOrder", spec := "metricOrder", inPlace := ["slices.overlaps[fieldfare/api.Hit]", "internal/reflectlite.ValueOf", "(internal/reflectlite.Value).Type", "(internal/reflectlite.Value).IsNil", "internal/reflectlite.TypeOf", "(internal/reflectlite.Value).Elem", "(internal/reflectlite.Value).Set"], unfollowed := true, recurses := true, named := ["errors.errorType"], apart := false, laid := [("errors.errorType", laid_errors_errorType)] }
def MetricOrderSaid : Prop := metricOrderRow.holds Tryz.pinned (OpenSpec.ofChange metricOrderSpec)

/-- ITS FALSE NEIGHBOUR: 'it returns false'. Refute it at one input. -/
def metricOrderWrong : ChangeSpec := { name := "metricOrder", fn := fun _ => fun
  | [d1, d2, d3] => { results := [.lit (.bool false)], args := [d1, d2, d3] }
  | _ => none }
def MetricOrderWrongFalsely : Prop := metricOrderRow.holds Tryz.pinned (OpenSpec.ofChange metricOrderWrong)

/-- 'fieldfarelaw7.BestMerge': WHATEVER THE INPUT: true; the input reads as it did. -/
def bestMergeSpec : ChangeSpec := { name := "bestMerge", fn := fun _ => fun
  | [d1, d2, d3] => { results := [.lit (.bool true)], args := [d1, d2, d3] }
  | _ => none }
def bestMergeRow : OpenClaim := { program := "ytoafnnphjbdedaagreatdoor", sum := "a1e2538866faa428ae61f5c6aa22f30832f8f19bdec9c92869b6227e4799d29c", func := "fieldfare/fieldfarelaw7.BestMerge", spec := "bestMerge", inPlace := ["slices.overlaps[fieldfare/api.Hit]", "internal/reflectlite.ValueOf", "(internal/reflectlite.Value).Type", "(internal/reflectlite.Value).IsNil", "internal/reflectlite.TypeOf", "(internal/reflectlite.Value).Elem", "(internal/reflectlite.Value).Set"], unfollowed := true, recurses := true, named := ["errors.errorType"], apart := false, laid := [("errors.errorType", laid_errors_errorType)] }
def BestMergeSaid : Prop := bestMergeRow.holds Tryz.pinned (OpenSpec.ofChange bestMergeSpec)

/-- ITS FALSE NEIGHBOUR: 'it returns false'. Refute it at one input. -/
def bestMergeWrong : ChangeSpec := { name := "bestMerge", fn := fun _ => fun
  | [d1, d2, d3] => { results := [.lit (.bool false)], args := [d1, d2, d3] }
  | _ => none }
def BestMergeWrongFalsely : Prop := bestMergeRow.holds Tryz.pinned (OpenSpec.ofChange bestMergeWrong)

/-- 'fieldfarelaw7.PoolWhole': WHATEVER THE INPUT: true; the input reads as it did. -/
def poolWholeSpec : ChangeSpec := { name := "poolWhole", fn := fun _ => fun
  | [d1, d2] => { results := [.lit (.bool true)], args := [d1, d2] }
  | _ => none }
def poolWholeRow : OpenClaim := { program := "ytoafnnphjbdedaagreatdoor", sum := "a1e2538866faa428ae61f5c6aa22f30832f8f19bdec9c92869b6227e4799d29c", func := "fieldfare/fieldfarelaw7.PoolWhole", spec := "poolWhole", inPlace := ["slices.overlaps[fieldfare/api.Hit]", "internal/reflectlite.ValueOf", "(internal/reflectlite.Value).Type", "(internal/reflectlite.Value).IsNil", "internal/reflectlite.TypeOf", "(internal/reflectlite.Value).Elem", "(internal/reflectlite.Value).Set"], unfollowed := true, recurses := true, named := ["errors.errorType"], apart := false, laid := [("errors.errorType", laid_errors_errorType)] }
def PoolWholeSaid : Prop := poolWholeRow.holds Tryz.pinned (OpenSpec.ofChange poolWholeSpec)

/-- ITS FALSE NEIGHBOUR: 'it returns false'. Refute it at one input. -/
def poolWholeWrong : ChangeSpec := { name := "poolWhole", fn := fun _ => fun
  | [d1, d2] => { results := [.lit (.bool false)], args := [d1, d2] }
  | _ => none }
def PoolWholeWrongFalsely : Prop := poolWholeRow.holds Tryz.pinned (OpenSpec.ofChange poolWholeWrong)

/-- 'fieldfarelaw7.BestAll': WHATEVER THE INPUT: true; the input reads as it did. -/
def bestAllSpec : ChangeSpec := { name := "bestAll", fn := fun _ => fun
  | [d1, d2] => { results := [.lit (.bool true)], args := [d1, d2] }
  | _ => none }
def bestAllRow : OpenClaim := { program := "ytoafnnphjbdedaagreatdoor", sum := "a1e2538866faa428ae61f5c6aa22f30832f8f19bdec9c92869b6227e4799d29c", func := "fieldfare/fieldfarelaw7.BestAll", spec := "bestAll", inPlace := ["slices.overlaps[fieldfare/api.Hit]", "internal/reflectlite.ValueOf", "(internal/reflectlite.Value).Type", "(internal/reflectlite.Value).IsNil", "internal/reflectlite.TypeOf", "(internal/reflectlite.Value).Elem", "(internal/reflectlite.Value).Set"], unfollowed := true, recurses := true, named := ["errors.errorType"], apart := false, laid := [("errors.errorType", laid_errors_errorType)] }
def BestAllSaid : Prop := bestAllRow.holds Tryz.pinned (OpenSpec.ofChange bestAllSpec)

/-- ITS FALSE NEIGHBOUR: 'it returns false'. Refute it at one input. -/
def bestAllWrong : ChangeSpec := { name := "bestAll", fn := fun _ => fun
  | [d1, d2] => { results := [.lit (.bool false)], args := [d1, d2] }
  | _ => none }
def BestAllWrongFalsely : Prop := bestAllRow.holds Tryz.pinned (OpenSpec.ofChange bestAllWrong)

/-- 'fieldfarelaw7.QuantAll': WHATEVER THE INPUT: true; the input reads as it did. -/
def quantAllSpec : ChangeSpec := { name := "quantAll", fn := fun _ => fun
  | [d1, d2, d3] => { results := [.lit (.bool true)], args := [d1, d2, d3] }
  | _ => none }
def quantAllRow : OpenClaim := { program := "ytoafnnphjbdedaagreatdoor", sum := "a1e2538866faa428ae61f5c6aa22f30832f8f19bdec9c92869b6227e4799d29c", func := "fieldfare/fieldfarelaw7.QuantAll", spec := "quantAll", inPlace := ["slices.overlaps[fieldfare/api.Hit]", "internal/reflectlite.ValueOf", "(internal/reflectlite.Value).Type", "(internal/reflectlite.Value).IsNil", "internal/reflectlite.TypeOf", "(internal/reflectlite.Value).Elem", "(internal/reflectlite.Value).Set"], unfollowed := true, recurses := true, named := ["errors.errorType"], apart := false, laid := [("errors.errorType", laid_errors_errorType)] }
def QuantAllSaid : Prop := quantAllRow.holds Tryz.pinned (OpenSpec.ofChange quantAllSpec)

/-- ITS FALSE NEIGHBOUR: 'it returns false'. Refute it at one input. -/
def quantAllWrong : ChangeSpec := { name := "quantAll", fn := fun _ => fun
  | [d1, d2, d3] => { results := [.lit (.bool false)], args := [d1, d2, d3] }
  | _ => none }
def QuantAllWrongFalsely : Prop := quantAllRow.holds Tryz.pinned (OpenSpec.ofChange quantAllWrong)

/-- 'fieldfarelaw7.QuantAny': WHATEVER THE INPUT: true; the input reads as it did. -/
def quantAnySpec : ChangeSpec := { name := "quantAny", fn := fun _ => fun
  | [d1, d2, d3, d4] => { results := [.lit (.bool true)], args := [d1, d2, d3, d4] }
  | _ => none }
def quantAnyRow : OpenClaim := { program := "ytoafnnphjbdedaagreatdoor", sum := "a1e2538866faa428ae61f5c6aa22f30832f8f19bdec9c92869b6227e4799d29c", func := "fieldfare/fieldfarelaw7.QuantAny", spec := "quantAny", inPlace := ["slices.overlaps[fieldfare/api.Hit]", "internal/reflectlite.ValueOf", "(internal/reflectlite.Value).Type", "(internal/reflectlite.Value).IsNil", "internal/reflectlite.TypeOf", "(internal/reflectlite.Value).Elem", "(internal/reflectlite.Value).Set"], unfollowed := true, recurses := true, named := ["errors.errorType"], apart := false, laid := [("errors.errorType", laid_errors_errorType)] }
def QuantAnySaid : Prop := quantAnyRow.holds Tryz.pinned (OpenSpec.ofChange quantAnySpec)

/-- ITS FALSE NEIGHBOUR: 'it returns false'. Refute it at one input. -/
def quantAnyWrong : ChangeSpec := { name := "quantAny", fn := fun _ => fun
  | [d1, d2, d3, d4] => { results := [.lit (.bool false)], args := [d1, d2, d3, d4] }
  | _ => none }
def QuantAnyWrongFalsely : Prop := quantAnyRow.holds Tryz.pinned (OpenSpec.ofChange quantAnyWrong)

/-- 'fieldfarelaw7.QuantStep': WHATEVER THE INPUT: true; the input reads as it did. -/
def quantStepSpec : ChangeSpec := { name := "quantStep", fn := fun _ => fun
  | [d1, d2, d3] => { results := [.lit (.bool true)], args := [d1, d2, d3] }
  | _ => none }
def quantStepRow : OpenClaim := { program := "ytoafnnphjbdedaagreatdoor", sum := "a1e2538866faa428ae61f5c6aa22f30832f8f19bdec9c92869b6227e4799d29c", func := "fieldfare/fieldfarelaw7.QuantStep", spec := "quantStep", inPlace := ["slices.overlaps[fieldfare/api.Hit]", "internal/reflectlite.ValueOf", "(internal/reflectlite.Value).Type", "(internal/reflectlite.Value).IsNil", "internal/reflectlite.TypeOf", "(internal/reflectlite.Value).Elem", "(internal/reflectlite.Value).Set"], unfollowed := true, recurses := true, named := ["errors.errorType"], apart := false, laid := [("errors.errorType", laid_errors_errorType)] }
def QuantStepSaid : Prop := quantStepRow.holds Tryz.pinned (OpenSpec.ofChange quantStepSpec)

/-- ITS FALSE NEIGHBOUR: 'it returns false'. Refute it at one input. -/
def quantStepWrong : ChangeSpec := { name := "quantStep", fn := fun _ => fun
  | [d1, d2, d3] => { results := [.lit (.bool false)], args := [d1, d2, d3] }
  | _ => none }
def QuantStepWrongFalsely : Prop := quantStepRow.holds Tryz.pinned (OpenSpec.ofChange quantStepWrong)

/-- 'fieldfarelaw7.NearNone': WHATEVER THE INPUT: true; the input reads as it did. -/
def nearNoneSpec : ChangeSpec := { name := "nearNone", fn := fun _ => fun
  | [] => { results := [.lit (.bool true)], args := [] }
  | _ => none }
def nearNoneRow : OpenClaim := { program := "ytoafnnphjbdedaagreatdoor", sum := "a1e2538866faa428ae61f5c6aa22f30832f8f19bdec9c92869b6227e4799d29c", func := "fieldfare/fieldfarelaw7.NearNone", spec := "nearNone", inPlace := ["slices.overlaps[fieldfare/api.Hit]", "internal/reflectlite.ValueOf", "(internal/reflectlite.Value).Type", "(internal/reflectlite.Value).IsNil", "internal/reflectlite.TypeOf", "(internal/reflectlite.Value).Elem", "(internal/reflectlite.Value).Set"], unfollowed := true, recurses := true, named := ["errors.errorType"], apart := false, laid := [("errors.errorType", laid_errors_errorType)] }
def NearNoneSaid : Prop := nearNoneRow.holds Tryz.pinned (OpenSpec.ofChange nearNoneSpec)

/-- ITS FALSE NEIGHBOUR: 'it returns false'. Refute it at one input. -/
def nearNoneWrong : ChangeSpec := { name := "nearNone", fn := fun _ => fun
  | [] => { results := [.lit (.bool false)], args := [] }
  | _ => none }
def NearNoneWrongFalsely : Prop := nearNoneRow.holds Tryz.pinned (OpenSpec.ofChange nearNoneWrong)

/- THE SECOND FORM. 'bulk': how many values and letters a reading holds, each counted each time it is reached (what is shared counts as often as it is met; a slice's spare places count too). A statement '..UptoSaid' is the law's where the arguments, and the package variables that the reading takes, are together of bulk at most 1048576: NARROWER than '..Said'. Prove '..Said' where nothing that the law and all that it calls make is longer than what came in: it says more and counts as full. Else prove '..UptoSaid'. A law counts once. -/
mutual
def uptoBulk {H : Type} : DataW H → Nat
  | .lit (.string bytes) => bytes.length + 1
  | .lit _ => 1
  | .nil => 1
  | .ptr d => uptoBulk d + 1
  | .slice elems spare => uptoBulkAll elems + uptoBulkAll spare + 1
  | .agg parts => uptoBulkAll parts + 1
  | .iface _ d => uptoBulk d + 1
  | .map entries => uptoBulkEntries entries + 1
  | .held _ => 1
def uptoBulkAll {H : Type} : List (DataW H) → Nat
  | [] => 0
  | d :: r => uptoBulk d + uptoBulkAll r
def uptoBulkEntries {H : Type} : List (Lit × DataW H) → Nat
  | [] => 0
  | x :: r => uptoBulkEntry x + uptoBulkEntries r
def uptoBulkEntry {H : Type} : Lit × DataW H → Nat
  | (.string bytes, d) => bytes.length + uptoBulk d + 1
  | (_, d) => uptoBulk d + 1
 end
def uptoSmall : (H : Type) → List (DataW H) → Bool := fun _ ds => decide (uptoBulkAll ds ≤ 1048576)
def OpenSpec.upto (s : _root_.Go.ChangeSpec) : _root_.Go.OpenSpec := { _root_.Go.OpenSpec.ofChange s with cond := some uptoSmall }

/-- 'fieldfarelaw7.MeansOwn', WHERE WHAT IT READS IS OF BULK AT MOST 1048576: true; the input reads as it did. -/
def meansOwnUptoRow : OpenClaim := { program := "ytoafnnphjbdedaagreatdoor", sum := "a1e2538866faa428ae61f5c6aa22f30832f8f19bdec9c92869b6227e4799d29c", func := "fieldfare/fieldfarelaw7.MeansOwn", spec := "meansOwn", inPlace := ["slices.overlaps[fieldfare/api.Hit]", "internal/reflectlite.ValueOf", "(internal/reflectlite.Value).Type", "(internal/reflectlite.Value).IsNil", "internal/reflectlite.TypeOf", "(internal/reflectlite.Value).Elem", "(internal/reflectlite.Value).Set"], unfollowed := true, recurses := true, named := ["errors.errorType"], apart := false, laid := [("errors.errorType", laid_errors_errorType)], narrowed := true }
def MeansOwnUptoSaid : Prop := meansOwnUptoRow.holds Tryz.pinned (OpenSpec.upto meansOwnSpec)

/-- 'fieldfarelaw7.BestOwn', WHERE WHAT IT READS IS OF BULK AT MOST 1048576: true; the input reads as it did. -/
def bestOwnUptoRow : OpenClaim := { program := "ytoafnnphjbdedaagreatdoor", sum := "a1e2538866faa428ae61f5c6aa22f30832f8f19bdec9c92869b6227e4799d29c", func := "fieldfare/fieldfarelaw7.BestOwn", spec := "bestOwn", inPlace := ["slices.overlaps[fieldfare/api.Hit]", "internal/reflectlite.ValueOf", "(internal/reflectlite.Value).Type", "(internal/reflectlite.Value).IsNil", "internal/reflectlite.TypeOf", "(internal/reflectlite.Value).Elem", "(internal/reflectlite.Value).Set"], unfollowed := true, recurses := true, named := ["errors.errorType"], apart := false, laid := [("errors.errorType", laid_errors_errorType)], narrowed := true }
def BestOwnUptoSaid : Prop := bestOwnUptoRow.holds Tryz.pinned (OpenSpec.upto bestOwnSpec)

/-- 'fieldfarelaw7.BestOrder', WHERE WHAT IT READS IS OF BULK AT MOST 1048576: true; the input reads as it did. -/
def bestOrderUptoRow : OpenClaim := { program := "ytoafnnphjbdedaagreatdoor", sum := "a1e2538866faa428ae61f5c6aa22f30832f8f19bdec9c92869b6227e4799d29c", func := "fieldfare/fieldfarelaw7.BestOrder", spec := "bestOrder", inPlace := ["slices.overlaps[fieldfare/api.Hit]", "internal/reflectlite.ValueOf", "(internal/reflectlite.Value).Type", "(internal/reflectlite.Value).IsNil", "internal/reflectlite.TypeOf", "(internal/reflectlite.Value).Elem", "(internal/reflectlite.Value).Set"], unfollowed := true, recurses := true, named := ["errors.errorType"], apart := false, laid := [("errors.errorType", laid_errors_errorType)], narrowed := true }
def BestOrderUptoSaid : Prop := bestOrderUptoRow.holds Tryz.pinned (OpenSpec.upto bestOrderSpec)

/-- 'fieldfarelaw7.MetricOrder', WHERE WHAT IT READS IS OF BULK AT MOST 1048576: true; the input reads as it did. -/
def metricOrderUptoRow : OpenClaim := { program := "ytoafnnphjbdedaagreatdoor", sum := "a1e2538866faa428ae61f5c6aa22f30832f8f19bdec9c92869b6227e4799d29c", func := "fieldfare/fieldfarelaw7.MetricOrder", spec := "metricOrder", inPlace := ["slices.overlaps[fieldfare/api.Hit]", "internal/reflectlite.ValueOf", "(internal/reflectlite.Value).Type", "(internal/reflectlite.Value).IsNil", "internal/reflectlite.TypeOf", "(internal/reflectlite.Value).Elem", "(internal/reflectlite.Value).Set"], unfollowed := true, recurses := true, named := ["errors.errorType"], apart := false, laid := [("errors.errorType", laid_errors_errorType)], narrowed := true }
def MetricOrderUptoSaid : Prop := metricOrderUptoRow.holds Tryz.pinned (OpenSpec.upto metricOrderSpec)

/-- 'fieldfarelaw7.BestMerge', WHERE WHAT IT READS IS OF BULK AT MOST 1048576: true; the input reads as it did. -/
def bestMergeUptoRow : OpenClaim := { program := "ytoafnnphjbdedaagreatdoor", sum := "a1e2538866faa428ae61f5c6aa22f30832f8f19bdec9c92869b6227e4799d29c", func := "fieldfare/fieldfarelaw7.BestMerge", spec := "bestMerge", inPlace := ["slices.overlaps[fieldfare/api.Hit]", "internal/reflectlite.ValueOf", "(internal/reflectlite.Value).Type", "(internal/reflectlite.Value).IsNil", "internal/reflectlite.TypeOf", "(internal/reflectlite.Value).Elem", "(internal/reflectlite.Value).Set"], unfollowed := true, recurses := true, named := ["errors.errorType"], apart := false, laid := [("errors.errorType", laid_errors_errorType)], narrowed := true }
def BestMergeUptoSaid : Prop := bestMergeUptoRow.holds Tryz.pinned (OpenSpec.upto bestMergeSpec)

/-- 'fieldfarelaw7.PoolWhole', WHERE WHAT IT READS IS OF BULK AT MOST 1048576: true; the input reads as it did. -/
def poolWholeUptoRow : OpenClaim := { program := "ytoafnnphjbdedaagreatdoor", sum := "a1e2538866faa428ae61f5c6aa22f30832f8f19bdec9c92869b6227e4799d29c", func := "fieldfare/fieldfarelaw7.PoolWhole", spec := "poolWhole", inPlace := ["slices.overlaps[fieldfare/api.Hit]", "internal/reflectlite.ValueOf", "(internal/reflectlite.Value).Type", "(internal/reflectlite.Value).IsNil", "internal/reflectlite.TypeOf", "(internal/reflectlite.Value).Elem", "(internal/reflectlite.Value).Set"], unfollowed := true, recurses := true, named := ["errors.errorType"], apart := false, laid := [("errors.errorType", laid_errors_errorType)], narrowed := true }
def PoolWholeUptoSaid : Prop := poolWholeUptoRow.holds Tryz.pinned (OpenSpec.upto poolWholeSpec)

/-- 'fieldfarelaw7.BestAll', WHERE WHAT IT READS IS OF BULK AT MOST 1048576: true; the input reads as it did. -/
def bestAllUptoRow : OpenClaim := { program := "ytoafnnphjbdedaagreatdoor", sum := "a1e2538866faa428ae61f5c6aa22f30832f8f19bdec9c92869b6227e4799d29c", func := "fieldfare/fieldfarelaw7.BestAll", spec := "bestAll", inPlace := ["slices.overlaps[fieldfare/api.Hit]", "internal/reflectlite.ValueOf", "(internal/reflectlite.Value).Type", "(internal/reflectlite.Value).IsNil", "internal/reflectlite.TypeOf", "(internal/reflectlite.Value).Elem", "(internal/reflectlite.Value).Set"], unfollowed := true, recurses := true, named := ["errors.errorType"], apart := false, laid := [("errors.errorType", laid_errors_errorType)], narrowed := true }
def BestAllUptoSaid : Prop := bestAllUptoRow.holds Tryz.pinned (OpenSpec.upto bestAllSpec)

/-- 'fieldfarelaw7.QuantAll', WHERE WHAT IT READS IS OF BULK AT MOST 1048576: true; the input reads as it did. -/
def quantAllUptoRow : OpenClaim := { program := "ytoafnnphjbdedaagreatdoor", sum := "a1e2538866faa428ae61f5c6aa22f30832f8f19bdec9c92869b6227e4799d29c", func := "fieldfare/fieldfarelaw7.QuantAll", spec := "quantAll", inPlace := ["slices.overlaps[fieldfare/api.Hit]", "internal/reflectlite.ValueOf", "(internal/reflectlite.Value).Type", "(internal/reflectlite.Value).IsNil", "internal/reflectlite.TypeOf", "(internal/reflectlite.Value).Elem", "(internal/reflectlite.Value).Set"], unfollowed := true, recurses := true, named := ["errors.errorType"], apart := false, laid := [("errors.errorType", laid_errors_errorType)], narrowed := true }
def QuantAllUptoSaid : Prop := quantAllUptoRow.holds Tryz.pinned (OpenSpec.upto quantAllSpec)

/-- 'fieldfarelaw7.QuantAny', WHERE WHAT IT READS IS OF BULK AT MOST 1048576: true; the input reads as it did. -/
def quantAnyUptoRow : OpenClaim := { program := "ytoafnnphjbdedaagreatdoor", sum := "a1e2538866faa428ae61f5c6aa22f30832f8f19bdec9c92869b6227e4799d29c", func := "fieldfare/fieldfarelaw7.QuantAny", spec := "quantAny", inPlace := ["slices.overlaps[fieldfare/api.Hit]", "internal/reflectlite.ValueOf", "(internal/reflectlite.Value).Type", "(internal/reflectlite.Value).IsNil", "internal/reflectlite.TypeOf", "(internal/reflectlite.Value).Elem", "(internal/reflectlite.Value).Set"], unfollowed := true, recurses := true, named := ["errors.errorType"], apart := false, laid := [("errors.errorType", laid_errors_errorType)], narrowed := true }
def QuantAnyUptoSaid : Prop := quantAnyUptoRow.holds Tryz.pinned (OpenSpec.upto quantAnySpec)

/-- 'fieldfarelaw7.QuantStep', WHERE WHAT IT READS IS OF BULK AT MOST 1048576: true; the input reads as it did. -/
def quantStepUptoRow : OpenClaim := { program := "ytoafnnphjbdedaagreatdoor", sum := "a1e2538866faa428ae61f5c6aa22f30832f8f19bdec9c92869b6227e4799d29c", func := "fieldfare/fieldfarelaw7.QuantStep", spec := "quantStep", inPlace := ["slices.overlaps[fieldfare/api.Hit]", "internal/reflectlite.ValueOf", "(internal/reflectlite.Value).Type", "(internal/reflectlite.Value).IsNil", "internal/reflectlite.TypeOf", "(internal/reflectlite.Value).Elem", "(internal/reflectlite.Value).Set"], unfollowed := true, recurses := true, named := ["errors.errorType"], apart := false, laid := [("errors.errorType", laid_errors_errorType)], narrowed := true }
def QuantStepUptoSaid : Prop := quantStepUptoRow.holds Tryz.pinned (OpenSpec.upto quantStepSpec)

/-- 'fieldfarelaw7.NearNone', WHERE WHAT IT READS IS OF BULK AT MOST 1048576: true; the input reads as it did. -/
def nearNoneUptoRow : OpenClaim := { program := "ytoafnnphjbdedaagreatdoor", sum := "a1e2538866faa428ae61f5c6aa22f30832f8f19bdec9c92869b6227e4799d29c", func := "fieldfare/fieldfarelaw7.NearNone", spec := "nearNone", inPlace := ["slices.overlaps[fieldfare/api.Hit]", "internal/reflectlite.ValueOf", "(internal/reflectlite.Value).Type", "(internal/reflectlite.Value).IsNil", "internal/reflectlite.TypeOf", "(internal/reflectlite.Value).Elem", "(internal/reflectlite.Value).Set"], unfollowed := true, recurses := true, named := ["errors.errorType"], apart := false, laid := [("errors.errorType", laid_errors_errorType)], narrowed := true }
def NearNoneUptoSaid : Prop := nearNoneUptoRow.holds Tryz.pinned (OpenSpec.upto nearNoneSpec)

end Rows
end Go.Proofs.YtoafnnphjbdedaaGreatDoor
