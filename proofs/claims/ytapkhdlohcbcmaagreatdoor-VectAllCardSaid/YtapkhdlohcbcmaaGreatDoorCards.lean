/-
  DERIVED. GIVEN WITH THE SEED: THE CARDS: each row of YtapkhdlohcbcmaaGreatDoorRows.lean that lists a variable, with what it lists TIED to the program's text (the seventh form; the later family's looks); each row that meets fmt, with fmt's text TOLD by the authors' own Lean function (tested against real Go, not proved from fmt's source: count such statements apart). THE CARD IS WHAT COUNTS. Prove the row's statement (the work); the ties are given (YtapkhdlohcbcmaaGreatDoorTie.lean); close each card by the builder's one call (the guide's Derived/Test/ToyasCard.lean, 'card_holds'). Laid BY PROGRAM, IN A SANDBOX (cutbox-door.mjs). By AI agents, Wed Nov 11 2026. No macro, syntax, notation, axiom, sorry.
-/
import Derived.Test.YtapkhdlohcbcmaaGreatDoorRows
import GoSem.ClaimSeven
namespace Go.Proofs.YtapkhdlohcbcmaaGreatDoor
namespace Rows

/-- THE TIED CARD OF 'fieldfarelaw7.VectEdges'. -/
def vectEdgesCard : Claim7 := { stood := { row := vectEdgesRow, standIns := [], harness := (true, "f34650f2695f1f2692051df1fbad20d1e93ba2068ea7e2227dfd50fafc8abb2e"), looks := true }, kinds := [], alts := [], laidByText := true, laidKinds := [.handle], laidTests := true, laidLooks := .later }
def VectEdgesCardSaid : Prop := Claim7.holds Tryz.pinned (.plain (OpenSpec.ofChange vectEdgesSpec)) vectEdgesCard

/-- THE TIED CARD OF 'fieldfarelaw7.VectRow'. -/
def vectRowCard : Claim7 := { stood := { row := vectRowRow, standIns := [], harness := (true, "f34650f2695f1f2692051df1fbad20d1e93ba2068ea7e2227dfd50fafc8abb2e"), looks := true }, kinds := [], alts := [], laidByText := true, laidKinds := [.handle], laidTests := true, laidLooks := .later }
def VectRowCardSaid : Prop := Claim7.holds Tryz.pinned (.plain (OpenSpec.ofChange vectRowSpec)) vectRowCard

/-- THE TIED CARD OF 'fieldfarelaw7.MetricTurn'. -/
def metricTurnCard : Claim7 := { stood := { row := metricTurnRow, standIns := [], harness := (true, "f34650f2695f1f2692051df1fbad20d1e93ba2068ea7e2227dfd50fafc8abb2e"), looks := true }, kinds := [], alts := [], laidByText := true, laidKinds := [.handle], laidTests := true, laidLooks := .later }
def MetricTurnCardSaid : Prop := Claim7.holds Tryz.pinned (.plain (OpenSpec.ofChange metricTurnSpec)) metricTurnCard

/-- THE TIED CARD OF 'fieldfarelaw7.QuantOrder'. -/
def quantOrderCard : Claim7 := { stood := { row := quantOrderRow, standIns := [], harness := (true, "f34650f2695f1f2692051df1fbad20d1e93ba2068ea7e2227dfd50fafc8abb2e"), looks := true }, kinds := [], alts := [], laidByText := true, laidKinds := [.handle], laidTests := true, laidLooks := .later }
def QuantOrderCardSaid : Prop := Claim7.holds Tryz.pinned (.plain (OpenSpec.ofChange quantOrderSpec)) quantOrderCard

/-- THE TIED CARD OF 'fieldfarelaw7.QuantTurn'. -/
def quantTurnCard : Claim7 := { stood := { row := quantTurnRow, standIns := [], harness := (true, "f34650f2695f1f2692051df1fbad20d1e93ba2068ea7e2227dfd50fafc8abb2e"), looks := true }, kinds := [], alts := [], laidByText := true, laidKinds := [.handle], laidTests := true, laidLooks := .later }
def QuantTurnCardSaid : Prop := Claim7.holds Tryz.pinned (.plain (OpenSpec.ofChange quantTurnSpec)) quantTurnCard

/-- THE TIED CARD OF 'fieldfarelaw7.VectAll'. -/
def vectAllCard : Claim7 := { stood := { row := vectAllRow, standIns := [], harness := (true, "f34650f2695f1f2692051df1fbad20d1e93ba2068ea7e2227dfd50fafc8abb2e"), looks := true }, kinds := [], alts := [], laidByText := true, laidKinds := [.handle], laidTests := true, laidLooks := .later }
def VectAllCardSaid : Prop := Claim7.holds Tryz.pinned (.plain (OpenSpec.ofChange vectAllSpec)) vectAllCard

/-- THE TIED CARD OF 'fieldfarelaw7.MetricAll'. -/
def metricAllCard : Claim7 := { stood := { row := metricAllRow, standIns := [], harness := (true, "f34650f2695f1f2692051df1fbad20d1e93ba2068ea7e2227dfd50fafc8abb2e"), looks := true }, kinds := [], alts := [], laidByText := true, laidKinds := [.handle], laidTests := true, laidLooks := .later }
def MetricAllCardSaid : Prop := Claim7.holds Tryz.pinned (.plain (OpenSpec.ofChange metricAllSpec)) metricAllCard

/-- THE SECOND FORM's CARD OF 'fieldfarelaw7.VectEdges'. -/
def vectEdgesUptoCard : Claim7 := { stood := { row := vectEdgesUptoRow, standIns := [], harness := (true, "f34650f2695f1f2692051df1fbad20d1e93ba2068ea7e2227dfd50fafc8abb2e"), looks := true }, kinds := [], alts := [], laidByText := true, laidKinds := [.handle], laidTests := true, laidLooks := .later }
def VectEdgesUptoCardSaid : Prop := Claim7.holds Tryz.pinned (.plain (OpenSpec.upto vectEdgesSpec)) vectEdgesUptoCard

/-- THE SECOND FORM's CARD OF 'fieldfarelaw7.VectRow'. -/
def vectRowUptoCard : Claim7 := { stood := { row := vectRowUptoRow, standIns := [], harness := (true, "f34650f2695f1f2692051df1fbad20d1e93ba2068ea7e2227dfd50fafc8abb2e"), looks := true }, kinds := [], alts := [], laidByText := true, laidKinds := [.handle], laidTests := true, laidLooks := .later }
def VectRowUptoCardSaid : Prop := Claim7.holds Tryz.pinned (.plain (OpenSpec.upto vectRowSpec)) vectRowUptoCard

/-- THE SECOND FORM's CARD OF 'fieldfarelaw7.MetricTurn'. -/
def metricTurnUptoCard : Claim7 := { stood := { row := metricTurnUptoRow, standIns := [], harness := (true, "f34650f2695f1f2692051df1fbad20d1e93ba2068ea7e2227dfd50fafc8abb2e"), looks := true }, kinds := [], alts := [], laidByText := true, laidKinds := [.handle], laidTests := true, laidLooks := .later }
def MetricTurnUptoCardSaid : Prop := Claim7.holds Tryz.pinned (.plain (OpenSpec.upto metricTurnSpec)) metricTurnUptoCard

/-- THE SECOND FORM's CARD OF 'fieldfarelaw7.QuantOrder'. -/
def quantOrderUptoCard : Claim7 := { stood := { row := quantOrderUptoRow, standIns := [], harness := (true, "f34650f2695f1f2692051df1fbad20d1e93ba2068ea7e2227dfd50fafc8abb2e"), looks := true }, kinds := [], alts := [], laidByText := true, laidKinds := [.handle], laidTests := true, laidLooks := .later }
def QuantOrderUptoCardSaid : Prop := Claim7.holds Tryz.pinned (.plain (OpenSpec.upto quantOrderSpec)) quantOrderUptoCard

/-- THE SECOND FORM's CARD OF 'fieldfarelaw7.QuantTurn'. -/
def quantTurnUptoCard : Claim7 := { stood := { row := quantTurnUptoRow, standIns := [], harness := (true, "f34650f2695f1f2692051df1fbad20d1e93ba2068ea7e2227dfd50fafc8abb2e"), looks := true }, kinds := [], alts := [], laidByText := true, laidKinds := [.handle], laidTests := true, laidLooks := .later }
def QuantTurnUptoCardSaid : Prop := Claim7.holds Tryz.pinned (.plain (OpenSpec.upto quantTurnSpec)) quantTurnUptoCard

/-- THE SECOND FORM's CARD OF 'fieldfarelaw7.VectAll'. -/
def vectAllUptoCard : Claim7 := { stood := { row := vectAllUptoRow, standIns := [], harness := (true, "f34650f2695f1f2692051df1fbad20d1e93ba2068ea7e2227dfd50fafc8abb2e"), looks := true }, kinds := [], alts := [], laidByText := true, laidKinds := [.handle], laidTests := true, laidLooks := .later }
def VectAllUptoCardSaid : Prop := Claim7.holds Tryz.pinned (.plain (OpenSpec.upto vectAllSpec)) vectAllUptoCard

/-- THE SECOND FORM's CARD OF 'fieldfarelaw7.MetricAll'. -/
def metricAllUptoCard : Claim7 := { stood := { row := metricAllUptoRow, standIns := [], harness := (true, "f34650f2695f1f2692051df1fbad20d1e93ba2068ea7e2227dfd50fafc8abb2e"), looks := true }, kinds := [], alts := [], laidByText := true, laidKinds := [.handle], laidTests := true, laidLooks := .later }
def MetricAllUptoCardSaid : Prop := Claim7.holds Tryz.pinned (.plain (OpenSpec.upto metricAllSpec)) metricAllUptoCard
end Rows
end Go.Proofs.YtapkhdlohcbcmaaGreatDoor
