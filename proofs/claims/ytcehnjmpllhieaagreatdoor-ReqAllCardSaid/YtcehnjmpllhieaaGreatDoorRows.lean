/-
  NARROWER THAN 'FOR EVERY INPUT', by the rows' own cells (each row's printed sentence says how): ReqAll: laid · ReqUnlike: laid · ReqTurned: laid · CoreNone: laid.
  DERIVED. THE GIVEN ROWS OF THIS SEAT. 4 by the template 'for every input the law returns true; each argument reads behind the call as it read before'; 0 by the template 'total and deterministic' (their statements: YtcehnjmpllhieaaGreatDoorTotals.lean).
  GIVEN WITH THE SEED: the statements are not yours to turn. If you find one false, say at which input.
  Laid BY PROGRAM, IN A SANDBOX (cutbox-rows.mjs): the forced cells as the released guide's own fill.sh prints them over the translation b17a06251b0e12ba… (all of the seat's roots in one cut). By AI agents, Wed Nov 11 2026. No macro, syntax, notation, axiom, sorry.
-/
import Derived.Test.YtcehnjmpllhieaaGreatDoorChecked
import GoSem.Claim
import GoSem.ClaimJoined
import GoSem.ClaimMapViews
import Derived.JoinedTies
import Derived.KernelRfl
namespace Go.Proofs.YtcehnjmpllhieaaGreatDoor
/- THE CELL 'sum', in the pinned program and in every row, IS THE sha256 OF THE DUMP (.gsa) THAT YtcehnjmpllhieaaGreatDoorProg.lean LOADS. Nothing in Lean hashes anything: it is a label: what it is worth is what the hold of that sum in a sandbox is worth. -/
noncomputable def Tryz.pinned : Pinned := { name := "ytcehnjmpllhieaagreatdoor", sum := "b17a06251b0e12bac29491b1e2db772f5cbd8759ed6bd64c94c17a60227acd3d", checked := Tryz.checked }
namespace Rows
def none {H : Type} : Left H := { results := [], args := [] }

/- WHAT THE LISTED PACKAGE-LEVEL VARIABLES READ AS WHEN THE CALL BEGINS. Each datum BY PROGRAM (the guide's laid-datum.mjs) off the statement by which the dump's own 'gosem.cut.vars' lays the variable. In a bare row this is a premise. The card (YtcehnjmpllhieaaGreatDoorCards.lean) ties it to the program's text. -/
def laid_math_bits_deBruijn32tab {H : Type} : DataW H := .agg [.lit (.int .u8 0), .lit (.int .u8 1), .lit (.int .u8 28), .lit (.int .u8 2), .lit (.int .u8 29), .lit (.int .u8 14), .lit (.int .u8 24), .lit (.int .u8 3), .lit (.int .u8 30), .lit (.int .u8 22), .lit (.int .u8 20), .lit (.int .u8 15), .lit (.int .u8 25), .lit (.int .u8 17), .lit (.int .u8 4), .lit (.int .u8 8), .lit (.int .u8 31), .lit (.int .u8 27), .lit (.int .u8 13), .lit (.int .u8 23), .lit (.int .u8 21), .lit (.int .u8 19), .lit (.int .u8 16), .lit (.int .u8 7), .lit (.int .u8 26), .lit (.int .u8 12), .lit (.int .u8 18), .lit (.int .u8 6), .lit (.int .u8 11), .lit (.int .u8 5), .lit (.int .u8 10), .lit (.int .u8 9)]
def laid_errors_errorType {H : Type} : DataW H := .iface "internal/reflectlite.rtype" (.agg [.ptr (.lit (.string [101, 114, 114, 111, 114]))])

/-- 'fieldfarelaw23.ReqAll': WHATEVER THE INPUT: true; the input reads as it did. -/
def reqAllSpec : ChangeSpec := { name := "reqAll", fn := fun _ => fun
  | [d1, d2, d3] => { results := [.lit (.bool true)], args := [d1, d2, d3] }
  | _ => none }
def reqAllRow : OpenClaim := { program := "ytcehnjmpllhieaagreatdoor", sum := "b17a06251b0e12bac29491b1e2db772f5cbd8759ed6bd64c94c17a60227acd3d", func := "fieldfare/fieldfarelaw23.ReqAll", spec := "reqAll", inPlace := ["slices.overlaps[fieldfare/api.Hit]", "slices.overlaps[int]", "internal/reflectlite.ValueOf", "(internal/reflectlite.Value).Type", "(internal/reflectlite.Value).IsNil", "internal/reflectlite.TypeOf", "(internal/reflectlite.Value).Elem", "(internal/reflectlite.Value).Set"], unfollowed := true, recurses := true, named := ["math/bits.deBruijn32tab", "errors.errorType"], apart := false, laid := [("math/bits.deBruijn32tab", laid_math_bits_deBruijn32tab), ("errors.errorType", laid_errors_errorType)] }
def ReqAllSaid : Prop := reqAllRow.holds Tryz.pinned (OpenSpec.ofChange reqAllSpec)

/-- ITS FALSE NEIGHBOUR: 'it returns false'. Refute it at one input. -/
def reqAllWrong : ChangeSpec := { name := "reqAll", fn := fun _ => fun
  | [d1, d2, d3] => { results := [.lit (.bool false)], args := [d1, d2, d3] }
  | _ => none }
def ReqAllWrongFalsely : Prop := reqAllRow.holds Tryz.pinned (OpenSpec.ofChange reqAllWrong)

/-- 'fieldfarelaw23.ReqUnlike': WHATEVER THE INPUT: true; the input reads as it did. -/
def reqUnlikeSpec : ChangeSpec := { name := "reqUnlike", fn := fun _ => fun
  | [d1, d2] => { results := [.lit (.bool true)], args := [d1, d2] }
  | _ => none }
def reqUnlikeRow : OpenClaim := { program := "ytcehnjmpllhieaagreatdoor", sum := "b17a06251b0e12bac29491b1e2db772f5cbd8759ed6bd64c94c17a60227acd3d", func := "fieldfare/fieldfarelaw23.ReqUnlike", spec := "reqUnlike", inPlace := ["slices.overlaps[fieldfare/api.Hit]", "slices.overlaps[int]", "internal/reflectlite.ValueOf", "(internal/reflectlite.Value).Type", "(internal/reflectlite.Value).IsNil", "internal/reflectlite.TypeOf", "(internal/reflectlite.Value).Elem", "(internal/reflectlite.Value).Set"], unfollowed := true, recurses := true, named := ["math/bits.deBruijn32tab", "errors.errorType"], apart := false, laid := [("math/bits.deBruijn32tab", laid_math_bits_deBruijn32tab), ("errors.errorType", laid_errors_errorType)] }
def ReqUnlikeSaid : Prop := reqUnlikeRow.holds Tryz.pinned (OpenSpec.ofChange reqUnlikeSpec)

/-- ITS FALSE NEIGHBOUR: 'it returns false'. Refute it at one input. -/
def reqUnlikeWrong : ChangeSpec := { name := "reqUnlike", fn := fun _ => fun
  | [d1, d2] => { results := [.lit (.bool false)], args := [d1, d2] }
  | _ => none }
def ReqUnlikeWrongFalsely : Prop := reqUnlikeRow.holds Tryz.pinned (OpenSpec.ofChange reqUnlikeWrong)

/-- 'fieldfarelaw23.ReqTurned': WHATEVER THE INPUT: true; the input reads as it did. -/
def reqTurnedSpec : ChangeSpec := { name := "reqTurned", fn := fun _ => fun
  | [d1, d2, d3] => { results := [.lit (.bool true)], args := [d1, d2, d3] }
  | _ => none }
def reqTurnedRow : OpenClaim := { program := "ytcehnjmpllhieaagreatdoor", sum := "b17a06251b0e12bac29491b1e2db772f5cbd8759ed6bd64c94c17a60227acd3d", func := "fieldfare/fieldfarelaw23.ReqTurned", spec := "reqTurned", inPlace := ["slices.overlaps[fieldfare/api.Hit]", "slices.overlaps[int]", "internal/reflectlite.ValueOf", "(internal/reflectlite.Value).Type", "(internal/reflectlite.Value).IsNil", "internal/reflectlite.TypeOf", "(internal/reflectlite.Value).Elem", "(internal/reflectlite.Value).Set"], unfollowed := true, recurses := true, named := ["math/bits.deBruijn32tab", "errors.errorType"], apart := false, laid := [("math/bits.deBruijn32tab", laid_math_bits_deBruijn32tab), ("errors.errorType", laid_errors_errorType)] }
def ReqTurnedSaid : Prop := reqTurnedRow.holds Tryz.pinned (OpenSpec.ofChange reqTurnedSpec)

/-- ITS FALSE NEIGHBOUR: 'it returns false'. Refute it at one input. -/
def reqTurnedWrong : ChangeSpec := { name := "reqTurned", fn := fun _ => fun
  | [d1, d2, d3] => { results := [.lit (.bool false)], args := [d1, d2, d3] }
  | _ => none }
def ReqTurnedWrongFalsely : Prop := reqTurnedRow.holds Tryz.pinned (OpenSpec.ofChange reqTurnedWrong)

/-- 'fieldfarelaw23.CoreNone': WHATEVER THE INPUT: true; the input reads as it did. -/
def coreNoneSpec : ChangeSpec := { name := "coreNone", fn := fun _ => fun
  | [] => { results := [.lit (.bool true)], args := [] }
  | _ => none }
def coreNoneRow : OpenClaim := { program := "ytcehnjmpllhieaagreatdoor", sum := "b17a06251b0e12bac29491b1e2db772f5cbd8759ed6bd64c94c17a60227acd3d", func := "fieldfare/fieldfarelaw23.CoreNone", spec := "coreNone", inPlace := ["slices.overlaps[fieldfare/api.Hit]", "slices.overlaps[int]", "internal/reflectlite.ValueOf", "(internal/reflectlite.Value).Type", "(internal/reflectlite.Value).IsNil", "internal/reflectlite.TypeOf", "(internal/reflectlite.Value).Elem", "(internal/reflectlite.Value).Set"], unfollowed := true, recurses := true, named := ["math/bits.deBruijn32tab", "errors.errorType"], apart := false, laid := [("math/bits.deBruijn32tab", laid_math_bits_deBruijn32tab), ("errors.errorType", laid_errors_errorType)] }
def CoreNoneSaid : Prop := coreNoneRow.holds Tryz.pinned (OpenSpec.ofChange coreNoneSpec)

/-- ITS FALSE NEIGHBOUR: 'it returns false'. Refute it at one input. -/
def coreNoneWrong : ChangeSpec := { name := "coreNone", fn := fun _ => fun
  | [] => { results := [.lit (.bool false)], args := [] }
  | _ => none }
def CoreNoneWrongFalsely : Prop := coreNoneRow.holds Tryz.pinned (OpenSpec.ofChange coreNoneWrong)

/- THE SECOND FORM. 'bulk': how many values and letters a reading holds, each counted each time it is reached (what is shared counts as often as it is met; a slice's spare places count too). A statement '..UptoSaid' is the law's where the arguments, and the package variables that the reading takes, are together of bulk at most 1048576: NARROWER than '..Said'. Prove '..Said' where nothing that the law and all that it calls make is longer than what came in: it says more and counts as full. Else prove '..UptoSaid'. A law counts once. -/
mutual
def uptoBulk {H : Type} : DataW H → Nat
  | .lit (.string bytes) => bytes.length + 1
  | .lit _ => 1
  | .nil => 1
  | .ptr d => uptoBulk d + 1
  | .slice elems spare => uptoBulkAll elems + uptoBulkAll spare + 1
  | .agg parts => uptoBulkAll parts + 1
  | .iface _ d => uptoBulk d + 1
  | .map entries => uptoBulkEntries entries + 1
  | .held _ => 1
def uptoBulkAll {H : Type} : List (DataW H) → Nat
  | [] => 0
  | d :: r => uptoBulk d + uptoBulkAll r
def uptoBulkEntries {H : Type} : List (Lit × DataW H) → Nat
  | [] => 0
  | x :: r => uptoBulkEntry x + uptoBulkEntries r
def uptoBulkEntry {H : Type} : Lit × DataW H → Nat
  | (.string bytes, d) => bytes.length + uptoBulk d + 1
  | (_, d) => uptoBulk d + 1
 end
def uptoSmall : (H : Type) → List (DataW H) → Bool := fun _ ds => decide (uptoBulkAll ds ≤ 1048576)
def OpenSpec.upto (s : _root_.Go.ChangeSpec) : _root_.Go.OpenSpec := { _root_.Go.OpenSpec.ofChange s with cond := some uptoSmall }

/-- 'fieldfarelaw23.ReqAll', WHERE WHAT IT READS IS OF BULK AT MOST 1048576: true; the input reads as it did. -/
def reqAllUptoRow : OpenClaim := { program := "ytcehnjmpllhieaagreatdoor", sum := "b17a06251b0e12bac29491b1e2db772f5cbd8759ed6bd64c94c17a60227acd3d", func := "fieldfare/fieldfarelaw23.ReqAll", spec := "reqAll", inPlace := ["slices.overlaps[fieldfare/api.Hit]", "slices.overlaps[int]", "internal/reflectlite.ValueOf", "(internal/reflectlite.Value).Type", "(internal/reflectlite.Value).IsNil", "internal/reflectlite.TypeOf", "(internal/reflectlite.Value).Elem", "(internal/reflectlite.Value).Set"], unfollowed := true, recurses := true, named := ["math/bits.deBruijn32tab", "errors.errorType"], apart := false, laid := [("math/bits.deBruijn32tab", laid_math_bits_deBruijn32tab), ("errors.errorType", laid_errors_errorType)], narrowed := true }
def ReqAllUptoSaid : Prop := reqAllUptoRow.holds Tryz.pinned (OpenSpec.upto reqAllSpec)

/-- 'fieldfarelaw23.ReqUnlike', WHERE WHAT IT READS IS OF BULK AT MOST 1048576: true; the input reads as it did. -/
def reqUnlikeUptoRow : OpenClaim := { program := "ytcehnjmpllhieaagreatdoor", sum := "b17a06251b0e12bac29491b1e2db772f5cbd8759ed6bd64c94c17a60227acd3d", func := "fieldfare/fieldfarelaw23.ReqUnlike", spec := "reqUnlike", inPlace := ["slices.overlaps[fieldfare/api.Hit]", "slices.overlaps[int]", "internal/reflectlite.ValueOf", "(internal/reflectlite.Value).Type", "(internal/reflectlite.Value).IsNil", "internal/reflectlite.TypeOf", "(internal/reflectlite.Value).Elem", "(internal/reflectlite.Value).Set"], unfollowed := true, recurses := true, named := ["math/bits.deBruijn32tab", "errors.errorType"], apart := false, laid := [("math/bits.deBruijn32tab", laid_math_bits_deBruijn32tab), ("errors.errorType", laid_errors_errorType)], narrowed := true }
def ReqUnlikeUptoSaid : Prop := reqUnlikeUptoRow.holds Tryz.pinned (OpenSpec.upto reqUnlikeSpec)

/-- 'fieldfarelaw23.ReqTurned', WHERE WHAT IT READS IS OF BULK AT MOST 1048576: true; the input reads as it did. -/
def reqTurnedUptoRow : OpenClaim := { program := "ytcehnjmpllhieaagreatdoor", sum := "b17a06251b0e12bac29491b1e2db772f5cbd8759ed6bd64c94c17a60227acd3d", func := "fieldfare/fieldfarelaw23.ReqTurned", spec := "reqTurned", inPlace := ["slices.overlaps[fieldfare/api.Hit]", "slices.overlaps[int]", "internal/reflectlite.ValueOf", "(internal/reflectlite.Value).Type", "(internal/reflectlite.Value).IsNil", "internal/reflectlite.TypeOf", "(internal/reflectlite.Value).Elem", "(internal/reflectlite.Value).Set"], unfollowed := true, recurses := true, named := ["math/bits.deBruijn32tab", "errors.errorType"], apart := false, laid := [("math/bits.deBruijn32tab", laid_math_bits_deBruijn32tab), ("errors.errorType", laid_errors_errorType)], narrowed := true }
def ReqTurnedUptoSaid : Prop := reqTurnedUptoRow.holds Tryz.pinned (OpenSpec.upto reqTurnedSpec)

/-- 'fieldfarelaw23.CoreNone', WHERE WHAT IT READS IS OF BULK AT MOST 1048576: true; the input reads as it did. -/
def coreNoneUptoRow : OpenClaim := { program := "ytcehnjmpllhieaagreatdoor", sum := "b17a06251b0e12bac29491b1e2db772f5cbd8759ed6bd64c94c17a60227acd3d", func := "fieldfare/fieldfarelaw23.CoreNone", spec := "coreNone", inPlace := ["slices.overlaps[fieldfare/api.Hit]", "slices.overlaps[int]", "internal/reflectlite.ValueOf", "(internal/reflectlite.Value).Type", "(internal/reflectlite.Value).IsNil", "internal/reflectlite.TypeOf", "(internal/reflectlite.Value).Elem", "(internal/reflectlite.Value).Set"], unfollowed := true, recurses := true, named := ["math/bits.deBruijn32tab", "errors.errorType"], apart := false, laid := [("math/bits.deBruijn32tab", laid_math_bits_deBruijn32tab), ("errors.errorType", laid_errors_errorType)], narrowed := true }
def CoreNoneUptoSaid : Prop := coreNoneUptoRow.holds Tryz.pinned (OpenSpec.upto coreNoneSpec)

end Rows
end Go.Proofs.YtcehnjmpllhieaaGreatDoor
