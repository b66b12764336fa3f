/-
  NARROWER THAN 'FOR EVERY INPUT', by the rows' own cells (each row's printed sentence says how): VectEdges: laid · VectRow: laid · MetricTurn: laid · QuantOrder: laid · QuantTurn: laid · VectAll: laid · MetricAll: laid.
  DERIVED. THE GIVEN ROWS OF THIS SEAT. 7 by the template 'for every input the law returns true; each argument reads behind the call as it read before'; 0 by the template 'total and deterministic' (their statements: YtapkhdlohcbcmaaGreatDoorTotals.lean).
  GIVEN WITH THE SEED: the statements are not yours to turn. If you find one false, say at which input.
  Laid BY PROGRAM, IN A SANDBOX (cutbox-rows.mjs): the forced cells as the released guide's own fill.sh prints them over the translation 31309af01cf17d0b… (all of the seat's roots in one cut). By AI agents, Wed Nov 11 2026. No macro, syntax, notation, axiom, sorry.
-/
import Derived.Test.YtapkhdlohcbcmaaGreatDoorChecked
import GoSem.Claim
import GoSem.ClaimJoined
import GoSem.ClaimMapViews
import Derived.JoinedTies
import Derived.KernelRfl
namespace Go.Proofs.YtapkhdlohcbcmaaGreatDoor
/- THE CELL 'sum', in the pinned program and in every row, IS THE sha256 OF THE DUMP (.gsa) THAT YtapkhdlohcbcmaaGreatDoorProg.lean LOADS. Nothing in Lean hashes anything: it is a label: what it is worth is what the hold of that sum in a sandbox is worth. -/
noncomputable def Tryz.pinned : Pinned := { name := "ytapkhdlohcbcmaagreatdoor", sum := "31309af01cf17d0b9a05cd624b6a92981243bf269be921e40d1f88fa5eab3c62", checked := Tryz.checked }
namespace Rows
def none {H : Type} : Left H := { results := [], args := [] }

/- WHAT THE LISTED PACKAGE-LEVEL VARIABLES READ AS WHEN THE CALL BEGINS. Each datum BY PROGRAM (the guide's laid-datum.mjs) off the statement by which the dump's own 'gosem.cut.vars' lays the variable. In a bare row this is a premise. The card (YtapkhdlohcbcmaaGreatDoorCards.lean) ties it to the program's text. -/
def laid_errors_errorType {H : Type} : DataW H := .iface "internal/reflectlite.rtype" (.agg [.ptr (.lit (.string [101, 114, 114, 111, 114]))])

/-- 'fieldfarelaw7.VectEdges': WHATEVER THE INPUT: true; the input reads as it did. -/
def vectEdgesSpec : ChangeSpec := { name := "vectEdges", fn := fun _ => fun
  | [d1, d2, d3] => { results := [.lit (.bool true)], args := [d1, d2, d3] }
  | _ => none }
def vectEdgesRow : OpenClaim := { program := "ytapkhdlohcbcmaagreatdoor", sum := "31309af01cf17d0b9a05cd624b6a92981243bf269be921e40d1f88fa5eab3c62", func := "fieldfare/fieldfarelaw7.VectEdges", spec := "vectEdges", inPlace := ["slices.overlaps[fieldfare/api.Hit]", "internal/reflectlite.ValueOf", "(internal/reflectlite.Value).Type", "(internal/reflectlite.Value).IsNil", "internal/reflectlite.TypeOf", "(internal/reflectlite.Value).Elem", "(internal/reflectlite.Value).Set"], unfollowed := true, recurses := true, named := ["errors.errorType"], apart := false, laid := [("errors.errorType", laid_errors_errorType)] }
def VectEdgesSaid : Prop := vectEdgesRow.holds Tryz.pinned (OpenSpec.ofChange vectEdgesSpec)

/-- ITS FALSE NEIGHBOUR: 'it returns false'. Refute it at one input. -/
def vectEdgesWrong : ChangeSpec := { name := "vectEdges", fn := fun _ => fun
  | [d1, d2, d3] => { results := [.lit (.bool false)], args := [d1, d2, d3] }
  | _ => none }
def VectEdgesWrongFalsely : Prop := vectEdgesRow.holds Tryz.pinned (OpenSpec.ofChange vectEdgesWrong)

/-- 'fieldfarelaw7.VectRow': WHATEVER THE INPUT: true; the input reads as it did. -/
def vectRowSpec : ChangeSpec := { name := "vectRow", fn := fun _ => fun
  | [d1, d2] => { results := [.lit (.bool true)], args := [d1, d2] }
  | _ => none }
def vectRowRow : OpenClaim := { program := "ytapkhdlohcbcmaagreatdoor", sum := "31309af01cf17d0b9a05cd624b6a92981243bf269be921e40d1f88fa5eab3c62", func := "fieldfare/fieldfarelaw7.VectRow", spec := "vectRow", inPlace := ["slices.overlaps[fieldfare/api.Hit]", "internal/reflectlite.ValueOf", "(internal/reflectlite.Value).Type", "(internal/reflectlite.Value).IsNil", "internal/reflectlite.TypeOf", "(internal/reflectlite.Value).Elem", "(internal/reflectlite.Value).Set"], unfollowed := true, recurses := true, named := ["errors.errorType"], apart := false, laid := [("errors.errorType", laid_errors_errorType)] }
def VectRowSaid : Prop := vectRowRow.holds Tryz.pinned (OpenSpec.ofChange vectRowSpec)

/-- ITS FALSE NEIGHBOUR: 'it returns false'. Refute it at one input. -/
def vectRowWrong : ChangeSpec := { name := "vectRow", fn := fun _ => fun
  | [d1, d2] => { results := [.lit (.bool false)], args := [d1, d2] }
  | _ => none }
def VectRowWrongFalsely : Prop := vectRowRow.holds Tryz.pinned (OpenSpec.ofChange vectRowWrong)

/-- 'fieldfarelaw7.MetricTurn': WHATEVER THE INPUT: true; the input reads as it did. -/
def metricTurnSpec : ChangeSpec := { name := "metricTurn", fn := fun _ => fun
  | [d1, d2, d3, d4] => { results := [.lit (.bool true)], args := [d1, d2, d3, d4] }
  | _ => none }
def metricTurnRow : OpenClaim := { program := "ytapkhdlohcbcmaagreatdoor", sum := "31309af01cf17d0b9a05cd624b6a92981243bf269be921e40d1f88fa5eab3c62", func := "fieldfare/fieldfarelaw7.MetricTurn", spec := "metricTurn", inPlace := ["slices.overlaps[fieldfare/api.Hit]", "internal/reflectlite.ValueOf", "(internal/reflectlite.Value).Type", "(internal/reflectlite.Value).IsNil", "internal/reflectlite.TypeOf", "(internal/reflectlite.Value).Elem", "(internal/reflectlite.Value).Set"], unfollowed := true, recurses := true, named := ["errors.errorType"], apart := false, laid := [("errors.errorType", laid_errors_errorType)] }
def MetricTurnSaid : Prop := metricTurnRow.holds Tryz.pinned (OpenSpec.ofChange metricTurnSpec)

/-- ITS FALSE NEIGHBOUR: 'it returns false'. Refute it at one input. -/
def metricTurnWrong : ChangeSpec := { name := "metricTurn", fn := fun _ => fun
  | [d1, d2, d3, d4] => { results := [.lit (.bool false)], args := [d1, d2, d3, d4] }
  | _ => none }
def MetricTurnWrongFalsely : Prop := metricTurnRow.holds Tryz.pinned (OpenSpec.ofChange metricTurnWrong)

/-- 'fieldfarelaw7.QuantOrder': WHATEVER THE INPUT: true; the input reads as it did. -/
def quantOrderSpec : ChangeSpec := { name := "quantOrder", fn := fun _ => fun
  | [d1, d2, d3, d4] => { results := [.lit (.bool true)], args := [d1, d2, d3, d4] }
  | _ => none }
def quantOrderRow : OpenClaim := { program := "ytapkhdlohcbcmaagreatdoor", sum := "31309af01cf17d0b9a05cd624b6a92981243bf269be921e40d1f88fa5eab3c62", func := "fieldfare/fieldfarelaw7.QuantOrder", spec := "quantOrder", inPlace := ["slices.overlaps[fieldfare/api.Hit]", "internal/reflectlite.ValueOf", "(internal/reflectlite.Value).Type", "(internal/reflectlite.Value).IsNil", "internal/reflectlite.TypeOf", "(internal/reflectlite.Value).Elem", "(internal/reflectlite.Value).Set"], unfollowed := true, recurses := true, named := ["errors.errorType"], apart := false, laid := [("errors.errorType", laid_errors_errorType)] }
def QuantOrderSaid : Prop := quantOrderRow.holds Tryz.pinned (OpenSpec.ofChange quantOrderSpec)

/-- ITS FALSE NEIGHBOUR: 'it returns false'. Refute it at one input. -/
def quantOrderWrong : ChangeSpec := { name := "quantOrder", fn := fun _ => fun
  | [d1, d2, d3, d4] => { results := [.lit (.bool false)], args := [d1, d2, d3, d4] }
  | _ => none }
def QuantOrderWrongFalsely : Prop := quantOrderRow.holds Tryz.pinned (OpenSpec.ofChange quantOrderWrong)

/-- 'fieldfarelaw7.QuantTurn': WHATEVER THE INPUT: true; the input reads as it did. -/
def quantTurnSpec : ChangeSpec := { name := "quantTurn", fn := fun _ => fun
  | [d1, d2, d3] => { results := [.lit (.bool true)], args := [d1, d2, d3] }
  | _ => none }
def quantTurnRow : OpenClaim := { program := "ytapkhdlohcbcmaagreatdoor", sum := "31309af01cf17d0b9a05cd624b6a92981243bf269be921e40d1f88fa5eab3c62", func := "fieldfare/fieldfarelaw7.QuantTurn", spec := "quantTurn", inPlace := ["slices.overlaps[fieldfare/api.Hit]", "internal/reflectlite.ValueOf", "(internal/reflectlite.Value).Type", "(internal/reflectlite.Value).IsNil", "internal/reflectlite.TypeOf", "(internal/reflectlite.Value).Elem", "(internal/reflectlite.Value).Set"], unfollowed := true, recurses := true, named := ["errors.errorType"], apart := false, laid := [("errors.errorType", laid_errors_errorType)] }
def QuantTurnSaid : Prop := quantTurnRow.holds Tryz.pinned (OpenSpec.ofChange quantTurnSpec)

/-- ITS FALSE NEIGHBOUR: 'it returns false'. Refute it at one input. -/
def quantTurnWrong : ChangeSpec := { name := "quantTurn", fn := fun _ => fun
  | [d1, d2, d3] => { results := [.lit (.bool false)], args := [d1, d2, d3] }
  | _ => none }
def QuantTurnWrongFalsely : Prop := quantTurnRow.holds Tryz.pinned (OpenSpec.ofChange quantTurnWrong)

/-- 'fieldfarelaw7.VectAll': WHATEVER THE INPUT: true; the input reads as it did. -/
def vectAllSpec : ChangeSpec := { name := "vectAll", fn := fun _ => fun
  | [d1, d2, d3, d4] => { results := [.lit (.bool true)], args := [d1, d2, d3, d4] }
  | _ => none }
def vectAllRow : OpenClaim := { program := "ytapkhdlohcbcmaagreatdoor", sum := "31309af01cf17d0b9a05cd624b6a92981243bf269be921e40d1f88fa5eab3c62", func := "fieldfare/fieldfarelaw7.VectAll", spec := "vectAll", inPlace := ["slices.overlaps[fieldfare/api.Hit]", "internal/reflectlite.ValueOf", "(internal/reflectlite.Value).Type", "(internal/reflectlite.Value).IsNil", "internal/reflectlite.TypeOf", "(internal/reflectlite.Value).Elem", "(internal/reflectlite.Value).Set"], unfollowed := true, recurses := true, named := ["errors.errorType"], apart := false, laid := [("errors.errorType", laid_errors_errorType)] }
def VectAllSaid : Prop := vectAllRow.holds Tryz.pinned (OpenSpec.ofChange vectAllSpec)

/-- ITS FALSE NEIGHBOUR: 'it returns false'. Refute it at one input. -/
def vectAllWrong : ChangeSpec := { name := "vectAll", fn := fun _ => fun
  | [d1, d2, d3, d4] => { results := [.lit (.bool false)], args := [d1, d2, d3, d4] }
  | _ => none }
def VectAllWrongFalsely : Prop := vectAllRow.holds Tryz.pinned (OpenSpec.ofChange vectAllWrong)

/-- 'fieldfarelaw7.MetricAll': WHATEVER THE INPUT: true; the input reads as it did. -/
def metricAllSpec : ChangeSpec := { name := "metricAll", fn := fun _ => fun
  | [d1, d2, d3, d4, d5] => { results := [.lit (.bool true)], args := [d1, d2, d3, d4, d5] }
  | _ => none }
def metricAllRow : OpenClaim := { program := "ytapkhdlohcbcmaagreatdoor", sum := "31309af01cf17d0b9a05cd624b6a92981243bf269be921e40d1f88fa5eab3c62", func := "fieldfare/fieldfarelaw7.MetricAll", spec := "metricAll", inPlace := ["slices.overlaps[fieldfare/api.Hit]", "internal/reflectlite.ValueOf", "(internal/reflectlite.Value).Type", "(internal/reflectlite.Value).IsNil", "internal/reflectlite.TypeOf", "(internal/reflectlite.Value).Elem", "(internal/reflectlite.Value).Set"], unfollowed := true, recurses := true, named := ["errors.errorType"], apart := false, laid := [("errors.errorType", laid_errors_errorType)] }
def MetricAllSaid : Prop := metricAllRow.holds Tryz.pinned (OpenSpec.ofChange metricAllSpec)

/-- ITS FALSE NEIGHBOUR: 'it returns false'. Refute it at one input. -/
def metricAllWrong : ChangeSpec := { name := "metricAll", fn := fun _ => fun
  | [d1, d2, d3, d4, d5] => { results := [.lit (.bool false)], args := [d1, d2, d3, d4, d5] }
  | _ => none }
def MetricAllWrongFalsely : Prop := metricAllRow.holds Tryz.pinned (OpenSpec.ofChange metricAllWrong)

/- THE SECOND FORM. 'bulk': how many values and letters a reading holds, each counted each time it is reached (what is shared counts as often as it is met; a slice's spare places count too). A statement '..UptoSaid' is the law's where the arguments, and the package variables that the reading takes, are together of bulk at most 1048576: NARROWER than '..Said'. Prove '..Said' where nothing that the law and all that it calls make is longer than what came in: it says more and counts as full. Else prove '..UptoSaid'. A law counts once. -/
mutual
def uptoBulk {H : Type} : DataW H → Nat
  | .lit (.string bytes) => bytes.length + 1
  | .lit _ => 1
  | .nil => 1
  | .ptr d => uptoBulk d + 1
  | .slice elems spare => uptoBulkAll elems + uptoBulkAll spare + 1
  | .agg parts => uptoBulkAll parts + 1
  | .iface _ d => uptoBulk d + 1
  | .map entries => uptoBulkEntries entries + 1
  | .held _ => 1
def uptoBulkAll {H : Type} : List (DataW H) → Nat
  | [] => 0
  | d :: r => uptoBulk d + uptoBulkAll r
def uptoBulkEntries {H : Type} : List (Lit × DataW H) → Nat
  | [] => 0
  | x :: r => uptoBulkEntry x + uptoBulkEntries r
def uptoBulkEntry {H : Type} : Lit × DataW H → Nat
  | (.string bytes, d) => bytes.length + uptoBulk d + 1
  | (_, d) => uptoBulk d + 1
 end
def uptoSmall : (H : Type) → List (DataW H) → Bool := fun _ ds => decide (uptoBulkAll ds ≤ 1048576)
def OpenSpec.upto (s : _root_.Go.ChangeSpec) : _root_.Go.OpenSpec := { _root_.Go.OpenSpec.ofChange s with cond := some uptoSmall }

/-- 'fieldfarelaw7.VectEdges', WHERE WHAT IT READS IS OF BULK AT MOST 1048576: true; the input reads as it did. -/
def vectEdgesUptoRow : OpenClaim := { program := "ytapkhdlohcbcmaagreatdoor", sum := "31309af01cf17d0b9a05cd624b6a92981243bf269be921e40d1f88fa5eab3c62", func := "fieldfare/fieldfarelaw7.VectEdges", spec := "vectEdges", inPlace := ["slices.overlaps[fieldfare/api.Hit]", "internal/reflectlite.ValueOf", "(internal/reflectlite.Value).Type", "(internal/reflectlite.Value).IsNil", "internal/reflectlite.TypeOf", "(internal/reflectlite.Value).Elem", "(internal/reflectlite.Value).Set"], unfollowed := true, recurses := true, named := ["errors.errorType"], apart := false, laid := [("errors.errorType", laid_errors_errorType)], narrowed := true }
def VectEdgesUptoSaid : Prop := vectEdgesUptoRow.holds Tryz.pinned (OpenSpec.upto vectEdgesSpec)

/-- 'fieldfarelaw7.VectRow', WHERE WHAT IT READS IS OF BULK AT MOST 1048576: true; the input reads as it did. -/
def vectRowUptoRow : OpenClaim := { program := "ytapkhdlohcbcmaagreatdoor", sum := "31309af01cf17d0b9a05cd624b6a92981243bf269be921e40d1f88fa5eab3c62", func := "fieldfare/fieldfarelaw7.VectRow", spec := "vectRow", inPlace := ["slices.overlaps[fieldfare/api.Hit]", "internal/reflectlite.ValueOf", "(internal/reflectlite.Value).Type", "(internal/reflectlite.Value).IsNil", "internal/reflectlite.TypeOf", "(internal/reflectlite.Value).Elem", "(internal/reflectlite.Value).Set"], unfollowed := true, recurses := true, named := ["errors.errorType"], apart := false, laid := [("errors.errorType", laid_errors_errorType)], narrowed := true }
def VectRowUptoSaid : Prop := vectRowUptoRow.holds Tryz.pinned (OpenSpec.upto vectRowSpec)

/-- 'fieldfarelaw7.MetricTurn', WHERE WHAT IT READS IS OF BULK AT MOST 1048576: true; the input reads as it did. -/
def metricTurnUptoRow : OpenClaim := { program := "ytapkhdlohcbcmaagreatdoor", sum := "31309af01cf17d0b9a05cd624b6a92981243bf269be921e40d1f88fa5eab3c62", func := "fieldfare/fieldfarelaw7.MetricTurn", spec := "metricTurn", inPlace := ["slices.overlaps[fieldfare/api.Hit]", "internal/reflectlite.ValueOf", "(internal/reflectlite.Value).Type", "(internal/reflectlite.Value).IsNil", "internal/reflectlite.TypeOf", "(internal/reflectlite.Value).Elem", "(internal/reflectlite.Value).Set"], unfollowed := true, recurses := true, named := ["errors.errorType"], apart := false, laid := [("errors.errorType", laid_errors_errorType)], narrowed := true }
def MetricTurnUptoSaid : Prop := metricTurnUptoRow.holds Tryz.pinned (OpenSpec.upto metricTurnSpec)

/-- 'fieldfarelaw7.QuantOrder', WHERE WHAT IT READS IS OF BULK AT MOST 1048576: true; the input reads as it did. -/
def quantOrderUptoRow : OpenClaim := { program := "ytapkhdlohcbcmaagreatdoor", sum := "31309af01cf17d0b9a05cd624b6a92981243bf269be921e40d1f88fa5eab3c62", func := "fieldfare/fieldfarelaw7.QuantOrder", spec := "quantOrder", inPlace := ["slices.overlaps[fieldfare/api.Hit]", "internal/reflectlite.ValueOf", "(internal/reflectlite.Value).Type", "(internal/reflectlite.Value).IsNil", "internal/reflectlite.TypeOf", "(internal/reflectlite.Value).Elem", "(internal/reflectlite.Value).Set"], unfollowed := true, recurses := true, named := ["errors.errorType"], apart := false, laid := [("errors.errorType", laid_errors_errorType)], narrowed := true }
def QuantOrderUptoSaid : Prop := quantOrderUptoRow.holds Tryz.pinned (OpenSpec.upto quantOrderSpec)

/-- 'fieldfarelaw7.QuantTurn', WHERE WHAT IT READS IS OF BULK AT MOST 1048576: true; the input reads as it did. -/
def quantTurnUptoRow : OpenClaim := { program := "ytapkhdlohcbcmaagreatdoor", sum := "31309af01cf17d0b9a05cd624b6a92981243bf269be921e40d1f88fa5eab3c62", func := "fieldfare/fieldfarelaw7.QuantTurn", spec := "quantTurn", inPlace := ["slices.overlaps[fieldfare/api.Hit]", "internal/reflectlite.ValueOf", "(internal/reflectlite.Value).Type", "(internal/reflectlite.Value).IsNil", "internal/reflectlite.TypeOf", "(internal/reflectlite.Value).Elem", "(internal/reflectlite.Value).Set"], unfollowed := true, recurses := true, named := ["errors.errorType"], apart := false, laid := [("errors.errorType", laid_errors_errorType)], narrowed := true }
def QuantTurnUptoSaid : Prop := quantTurnUptoRow.holds Tryz.pinned (OpenSpec.upto quantTurnSpec)

/-- 'fieldfarelaw7.VectAll', WHERE WHAT IT READS IS OF BULK AT MOST 1048576: true; the input reads as it did. -/
def vectAllUptoRow : OpenClaim := { program := "ytapkhdlohcbcmaagreatdoor", sum := "31309af01cf17d0b9a05cd624b6a92981243bf269be921e40d1f88fa5eab3c62", func := "fieldfare/fieldfarelaw7.VectAll", spec := "vectAll", inPlace := ["slices.overlaps[fieldfare/api.Hit]", "internal/reflectlite.ValueOf", "(internal/reflectlite.Value).Type", "(internal/reflectlite.Value).IsNil", "internal/reflectlite.TypeOf", "(internal/reflectlite.Value).Elem", "(internal/reflectlite.Value).Set"], unfollowed := true, recurses := true, named := ["errors.errorType"], apart := false, laid := [("errors.errorType", laid_errors_errorType)], narrowed := true }
def VectAllUptoSaid : Prop := vectAllUptoRow.holds Tryz.pinned (OpenSpec.upto vectAllSpec)

/-- 'fieldfarelaw7.MetricAll', WHERE WHAT IT READS IS OF BULK AT MOST 1048576: true; the input reads as it did. -/
def metricAllUptoRow : OpenClaim := { program := "ytapkhdlohcbcmaagreatdoor", sum := "31309af01cf17d0b9a05cd624b6a92981243bf269be921e40d1f88fa5eab3c62", func := "fieldfare/fieldfarelaw7.MetricAll", spec := "metricAll", inPlace := ["slices.overlaps[fieldfare/api.Hit]", "internal/reflectlite.ValueOf", "(internal/reflectlite.Value).Type", "(internal/reflectlite.Value).IsNil", "internal/reflectlite.TypeOf", "(internal/reflectlite.Value).Elem", "(internal/reflectlite.Value).Set"], unfollowed := true, recurses := true, named := ["errors.errorType"], apart := false, laid := [("errors.errorType", laid_errors_errorType)], narrowed := true }
def MetricAllUptoSaid : Prop := metricAllUptoRow.holds Tryz.pinned (OpenSpec.upto metricAllSpec)

end Rows
end Go.Proofs.YtapkhdlohcbcmaaGreatDoor
