/-
  DERIVED. GIVEN WITH THE SEED: THE CARDS: each row of YtoafnnphjbdedaaGreatDoorRows.lean that lists a variable, with what it lists TIED to the program's text (the seventh form; the later family's looks); each row that meets fmt, with fmt's text TOLD by the authors' own Lean function (tested against real Go, not proved from fmt's source: count such statements apart). THE CARD IS WHAT COUNTS. Prove the row's statement (the work); the ties are given (YtoafnnphjbdedaaGreatDoorTie.lean); close each card by the builder's one call (the guide's Derived/Test/ToyasCard.lean, 'card_holds'). Laid BY PROGRAM, IN A SANDBOX (cutbox-door.mjs). By AI agents, Wed Nov 11 2026. No macro, syntax, notation, axiom, sorry.
-/
import Derived.Test.YtoafnnphjbdedaaGreatDoorRows
import GoSem.ClaimSeven
namespace Go.Proofs.YtoafnnphjbdedaaGreatDoor
namespace Rows

/-- THE TIED CARD OF 'fieldfarelaw7.MeansOwn'. -/
def meansOwnCard : Claim7 := { stood := { row := meansOwnRow, standIns := [], harness := (true, "9460f19fd34637022cd414d57d89785ee97073cda05863c38b126e1b4ec8e0d8"), looks := true }, kinds := [], alts := [], laidByText := true, laidKinds := [.handle], laidTests := true, laidLooks := .later }
def MeansOwnCardSaid : Prop := Claim7.holds Tryz.pinned (.plain (OpenSpec.ofChange meansOwnSpec)) meansOwnCard

/-- THE TIED CARD OF 'fieldfarelaw7.BestOwn'. -/
def bestOwnCard : Claim7 := { stood := { row := bestOwnRow, standIns := [], harness := (true, "9460f19fd34637022cd414d57d89785ee97073cda05863c38b126e1b4ec8e0d8"), looks := true }, kinds := [], alts := [], laidByText := true, laidKinds := [.handle], laidTests := true, laidLooks := .later }
def BestOwnCardSaid : Prop := Claim7.holds Tryz.pinned (.plain (OpenSpec.ofChange bestOwnSpec)) bestOwnCard

/-- THE TIED CARD OF 'fieldfarelaw7.BestOrder'. -/
def bestOrderCard : Claim7 := { stood := { row := bestOrderRow, standIns := [], harness := (true, "9460f19fd34637022cd414d57d89785ee97073cda05863c38b126e1b4ec8e0d8"), looks := true }, kinds := [], alts := [], laidByText := true, laidKinds := [.handle], laidTests := true, laidLooks := .later }
def BestOrderCardSaid : Prop := Claim7.holds Tryz.pinned (.plain (OpenSpec.ofChange bestOrderSpec)) bestOrderCard

/-- THE TIED CARD OF 'fieldfarelaw7.MetricOrder'. -/
def metricOrderCard : Claim7 := { stood := { row := metricOrderRow, standIns := [], harness := (true, "9460f19fd34637022cd414d57d89785ee97073cda05863c38b126e1b4ec8e0d8"), looks := true }, kinds := [], alts := [], laidByText := true, laidKinds := [.handle], laidTests := true, laidLooks := .later }
def MetricOrderCardSaid : Prop := Claim7.holds Tryz.pinned (.plain (OpenSpec.ofChange metricOrderSpec)) metricOrderCard

/-- THE TIED CARD OF 'fieldfarelaw7.BestMerge'. -/
def bestMergeCard : Claim7 := { stood := { row := bestMergeRow, standIns := [], harness := (true, "9460f19fd34637022cd414d57d89785ee97073cda05863c38b126e1b4ec8e0d8"), looks := true }, kinds := [], alts := [], laidByText := true, laidKinds := [.handle], laidTests := true, laidLooks := .later }
def BestMergeCardSaid : Prop := Claim7.holds Tryz.pinned (.plain (OpenSpec.ofChange bestMergeSpec)) bestMergeCard

/-- THE TIED CARD OF 'fieldfarelaw7.PoolWhole'. -/
def poolWholeCard : Claim7 := { stood := { row := poolWholeRow, standIns := [], harness := (true, "9460f19fd34637022cd414d57d89785ee97073cda05863c38b126e1b4ec8e0d8"), looks := true }, kinds := [], alts := [], laidByText := true, laidKinds := [.handle], laidTests := true, laidLooks := .later }
def PoolWholeCardSaid : Prop := Claim7.holds Tryz.pinned (.plain (OpenSpec.ofChange poolWholeSpec)) poolWholeCard

/-- THE TIED CARD OF 'fieldfarelaw7.BestAll'. -/
def bestAllCard : Claim7 := { stood := { row := bestAllRow, standIns := [], harness := (true, "9460f19fd34637022cd414d57d89785ee97073cda05863c38b126e1b4ec8e0d8"), looks := true }, kinds := [], alts := [], laidByText := true, laidKinds := [.handle], laidTests := true, laidLooks := .later }
def BestAllCardSaid : Prop := Claim7.holds Tryz.pinned (.plain (OpenSpec.ofChange bestAllSpec)) bestAllCard

/-- THE TIED CARD OF 'fieldfarelaw7.QuantAll'. -/
def quantAllCard : Claim7 := { stood := { row := quantAllRow, standIns := [], harness := (true, "9460f19fd34637022cd414d57d89785ee97073cda05863c38b126e1b4ec8e0d8"), looks := true }, kinds := [], alts := [], laidByText := true, laidKinds := [.handle], laidTests := true, laidLooks := .later }
def QuantAllCardSaid : Prop := Claim7.holds Tryz.pinned (.plain (OpenSpec.ofChange quantAllSpec)) quantAllCard

/-- THE TIED CARD OF 'fieldfarelaw7.QuantAny'. -/
def quantAnyCard : Claim7 := { stood := { row := quantAnyRow, standIns := [], harness := (true, "9460f19fd34637022cd414d57d89785ee97073cda05863c38b126e1b4ec8e0d8"), looks := true }, kinds := [], alts := [], laidByText := true, laidKinds := [.handle], laidTests := true, laidLooks := .later }
def QuantAnyCardSaid : Prop := Claim7.holds Tryz.pinned (.plain (OpenSpec.ofChange quantAnySpec)) quantAnyCard

/-- THE TIED CARD OF 'fieldfarelaw7.QuantStep'. -/
def quantStepCard : Claim7 := { stood := { row := quantStepRow, standIns := [], harness := (true, "9460f19fd34637022cd414d57d89785ee97073cda05863c38b126e1b4ec8e0d8"), looks := true }, kinds := [], alts := [], laidByText := true, laidKinds := [.handle], laidTests := true, laidLooks := .later }
def QuantStepCardSaid : Prop := Claim7.holds Tryz.pinned (.plain (OpenSpec.ofChange quantStepSpec)) quantStepCard

/-- THE TIED CARD OF 'fieldfarelaw7.NearNone'. -/
def nearNoneCard : Claim7 := { stood := { row := nearNoneRow, standIns := [], harness := (true, "9460f19fd34637022cd414d57d89785ee97073cda05863c38b126e1b4ec8e0d8"), looks := true }, kinds := [], alts := [], laidByText := true, laidKinds := [.handle], laidTests := true, laidLooks := .later }
def NearNoneCardSaid : Prop := Claim7.holds Tryz.pinned (.plain (OpenSpec.ofChange nearNoneSpec)) nearNoneCard

/-- THE SECOND FORM's CARD OF 'fieldfarelaw7.MeansOwn'. -/
def meansOwnUptoCard : Claim7 := { stood := { row := meansOwnUptoRow, standIns := [], harness := (true, "9460f19fd34637022cd414d57d89785ee97073cda05863c38b126e1b4ec8e0d8"), looks := true }, kinds := [], alts := [], laidByText := true, laidKinds := [.handle], laidTests := true, laidLooks := .later }
def MeansOwnUptoCardSaid : Prop := Claim7.holds Tryz.pinned (.plain (OpenSpec.upto meansOwnSpec)) meansOwnUptoCard

/-- THE SECOND FORM's CARD OF 'fieldfarelaw7.BestOwn'. -/
def bestOwnUptoCard : Claim7 := { stood := { row := bestOwnUptoRow, standIns := [], harness := (true, "9460f19fd34637022cd414d57d89785ee97073cda05863c38b126e1b4ec8e0d8"), looks := true }, kinds := [], alts := [], laidByText := true, laidKinds := [.handle], laidTests := true, laidLooks := .later }
def BestOwnUptoCardSaid : Prop := Claim7.holds Tryz.pinned (.plain (OpenSpec.upto bestOwnSpec)) bestOwnUptoCard

/-- THE SECOND FORM's CARD OF 'fieldfarelaw7.BestOrder'. -/
def bestOrderUptoCard : Claim7 := { stood := { row := bestOrderUptoRow, standIns := [], harness := (true, "9460f19fd34637022cd414d57d89785ee97073cda05863c38b126e1b4ec8e0d8"), looks := true }, kinds := [], alts := [], laidByText := true, laidKinds := [.handle], laidTests := true, laidLooks := .later }
def BestOrderUptoCardSaid : Prop := Claim7.holds Tryz.pinned (.plain (OpenSpec.upto bestOrderSpec)) bestOrderUptoCard

/-- THE SECOND FORM's CARD OF 'fieldfarelaw7.MetricOrder'. -/
def metricOrderUptoCard : Claim7 := { stood := { row := metricOrderUptoRow, standIns := [], harness := (true, "9460f19fd34637022cd414d57d89785ee97073cda05863c38b126e1b4ec8e0d8"), looks := true }, kinds := [], alts := [], laidByText := true, laidKinds := [.handle], laidTests := true, laidLooks := .later }
def MetricOrderUptoCardSaid : Prop := Claim7.holds Tryz.pinned (.plain (OpenSpec.upto metricOrderSpec)) metricOrderUptoCard

/-- THE SECOND FORM's CARD OF 'fieldfarelaw7.BestMerge'. -/
def bestMergeUptoCard : Claim7 := { stood := { row := bestMergeUptoRow, standIns := [], harness := (true, "9460f19fd34637022cd414d57d89785ee97073cda05863c38b126e1b4ec8e0d8"), looks := true }, kinds := [], alts := [], laidByText := true, laidKinds := [.handle], laidTests := true, laidLooks := .later }
def BestMergeUptoCardSaid : Prop := Claim7.holds Tryz.pinned (.plain (OpenSpec.upto bestMergeSpec)) bestMergeUptoCard

/-- THE SECOND FORM's CARD OF 'fieldfarelaw7.PoolWhole'. -/
def poolWholeUptoCard : Claim7 := { stood := { row := poolWholeUptoRow, standIns := [], harness := (true, "9460f19fd34637022cd414d57d89785ee97073cda05863c38b126e1b4ec8e0d8"), looks := true }, kinds := [], alts := [], laidByText := true, laidKinds := [.handle], laidTests := true, laidLooks := .later }
def PoolWholeUptoCardSaid : Prop := Claim7.holds Tryz.pinned (.plain (OpenSpec.upto poolWholeSpec)) poolWholeUptoCard

/-- THE SECOND FORM's CARD OF 'fieldfarelaw7.BestAll'. -/
def bestAllUptoCard : Claim7 := { stood := { row := bestAllUptoRow, standIns := [], harness := (true, "9460f19fd34637022cd414d57d89785ee97073cda05863c38b126e1b4ec8e0d8"), looks := true }, kinds := [], alts := [], laidByText := true, laidKinds := [.handle], laidTests := true, laidLooks := .later }
def BestAllUptoCardSaid : Prop := Claim7.holds Tryz.pinned (.plain (OpenSpec.upto bestAllSpec)) bestAllUptoCard

/-- THE SECOND FORM's CARD OF 'fieldfarelaw7.QuantAll'. -/
def quantAllUptoCard : Claim7 := { stood := { row := quantAllUptoRow, standIns := [], harness := (true, "9460f19fd34637022cd414d57d89785ee97073cda05863c38b126e1b4ec8e0d8"), looks := true }, kinds := [], alts := [], laidByText := true, laidKinds := [.handle], laidTests := true, laidLooks := .later }
def QuantAllUptoCardSaid : Prop := Claim7.holds Tryz.pinned (.plain (OpenSpec.upto quantAllSpec)) quantAllUptoCard

/-- THE SECOND FORM's CARD OF 'fieldfarelaw7.QuantAny'. -/
def quantAnyUptoCard : Claim7 := { stood := { row := quantAnyUptoRow, standIns := [], harness := (true, "9460f19fd34637022cd414d57d89785ee97073cda05863c38b126e1b4ec8e0d8"), looks := true }, kinds := [], alts := [], laidByText := true, laidKinds := [.handle], laidTests := true, laidLooks := .later }
def QuantAnyUptoCardSaid : Prop := Claim7.holds Tryz.pinned (.plain (OpenSpec.upto quantAnySpec)) quantAnyUptoCard

/-- THE SECOND FORM's CARD OF 'fieldfarelaw7.QuantStep'. -/
def quantStepUptoCard : Claim7 := { stood := { row := quantStepUptoRow, standIns := [], harness := (true, "9460f19fd34637022cd414d57d89785ee97073cda05863c38b126e1b4ec8e0d8"), looks := true }, kinds := [], alts := [], laidByText := true, laidKinds := [.handle], laidTests := true, laidLooks := .later }
def QuantStepUptoCardSaid : Prop := Claim7.holds Tryz.pinned (.plain (OpenSpec.upto quantStepSpec)) quantStepUptoCard

/-- THE SECOND FORM's CARD OF 'fieldfarelaw7.NearNone'. -/
def nearNoneUptoCard : Claim7 := { stood := { row := nearNoneUptoRow, standIns := [], harness := (true, "9460f19fd34637022cd414d57d89785ee97073cda05863c38b126e1b4ec8e0d8"), looks := true }, kinds := [], alts := [], laidByText := true, laidKinds := [.handle], laidTests := true, laidLooks := .later }
def NearNoneUptoCardSaid : Prop := Claim7.holds Tryz.pinned (.plain (OpenSpec.upto nearNoneSpec)) nearNoneUptoCard
end Rows
end Go.Proofs.YtoafnnphjbdedaaGreatDoor
