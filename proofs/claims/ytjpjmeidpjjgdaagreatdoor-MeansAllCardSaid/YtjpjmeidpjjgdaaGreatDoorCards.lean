/-
  DERIVED. GIVEN WITH THE SEED: THE CARDS: each row of YtjpjmeidpjjgdaaGreatDoorRows.lean that lists a variable, with what it lists TIED to the program's text (the seventh form; the later family's looks); each row that meets fmt, with fmt's text TOLD by the authors' own Lean function (tested against real Go, not proved from fmt's source: count such statements apart). THE CARD IS WHAT COUNTS. Prove the row's statement (the work); the ties are given (YtjpjmeidpjjgdaaGreatDoorTie.lean); close each card by the builder's one call (the guide's Derived/Test/ToyasCard.lean, 'card_holds'). Laid BY PROGRAM, IN A SANDBOX (cutbox-door.mjs). By AI agents, Wed Nov 11 2026. No macro, syntax, notation, axiom, sorry.
-/
import Derived.Test.YtjpjmeidpjjgdaaGreatDoorRows
import GoSem.ClaimSeven
namespace Go.Proofs.YtjpjmeidpjjgdaaGreatDoor
namespace Rows

/-- THE TIED CARD OF 'fieldfarelaw7.PoolAll'. -/
def poolAllCard : Claim7 := { stood := { row := poolAllRow, standIns := [], harness := (true, "387d6f2e8c78d38cd0246f61bd5a36c5584299eec1f6e890e29bb30ac54f18a1"), looks := true }, kinds := [], alts := [], laidByText := true, laidKinds := [.handle], laidTests := true, laidLooks := .later }
def PoolAllCardSaid : Prop := Claim7.holds Tryz.pinned (.plain (OpenSpec.ofChange poolAllSpec)) poolAllCard

/-- THE TIED CARD OF 'fieldfarelaw7.MeansAll'. -/
def meansAllCard : Claim7 := { stood := { row := meansAllRow, standIns := [], harness := (true, "387d6f2e8c78d38cd0246f61bd5a36c5584299eec1f6e890e29bb30ac54f18a1"), looks := true }, kinds := [], alts := [], laidByText := true, laidKinds := [.handle], laidTests := true, laidLooks := .later }
def MeansAllCardSaid : Prop := Claim7.holds Tryz.pinned (.plain (OpenSpec.ofChange meansAllSpec)) meansAllCard

/-- THE TIED CARD OF 'fieldfarelaw7.MeansStill'. -/
def meansStillCard : Claim7 := { stood := { row := meansStillRow, standIns := [], harness := (true, "387d6f2e8c78d38cd0246f61bd5a36c5584299eec1f6e890e29bb30ac54f18a1"), looks := true }, kinds := [], alts := [], laidByText := true, laidKinds := [.handle], laidTests := true, laidLooks := .later }
def MeansStillCardSaid : Prop := Claim7.holds Tryz.pinned (.plain (OpenSpec.ofChange meansStillSpec)) meansStillCard

/-- THE TIED CARD OF 'fieldfarelaw7.PoolTurn'. -/
def poolTurnCard : Claim7 := { stood := { row := poolTurnRow, standIns := [], harness := (true, "387d6f2e8c78d38cd0246f61bd5a36c5584299eec1f6e890e29bb30ac54f18a1"), looks := true }, kinds := [], alts := [], laidByText := true, laidKinds := [.handle], laidTests := true, laidLooks := .later }
def PoolTurnCardSaid : Prop := Claim7.holds Tryz.pinned (.plain (OpenSpec.ofChange poolTurnSpec)) poolTurnCard

/-- THE TIED CARD OF 'fieldfarelaw7.PoolLeast'. -/
def poolLeastCard : Claim7 := { stood := { row := poolLeastRow, standIns := [], harness := (true, "387d6f2e8c78d38cd0246f61bd5a36c5584299eec1f6e890e29bb30ac54f18a1"), looks := true }, kinds := [], alts := [], laidByText := true, laidKinds := [.handle], laidTests := true, laidLooks := .later }
def PoolLeastCardSaid : Prop := Claim7.holds Tryz.pinned (.plain (OpenSpec.ofChange poolLeastSpec)) poolLeastCard

/-- THE TIED CARD OF 'fieldfarelaw7.MeansNear'. -/
def meansNearCard : Claim7 := { stood := { row := meansNearRow, standIns := [], harness := (true, "387d6f2e8c78d38cd0246f61bd5a36c5584299eec1f6e890e29bb30ac54f18a1"), looks := true }, kinds := [], alts := [], laidByText := true, laidKinds := [.handle], laidTests := true, laidLooks := .later }
def MeansNearCardSaid : Prop := Claim7.holds Tryz.pinned (.plain (OpenSpec.ofChange meansNearSpec)) meansNearCard

/-- THE TIED CARD OF 'fieldfarelaw7.MeansOne'. -/
def meansOneCard : Claim7 := { stood := { row := meansOneRow, standIns := [], harness := (true, "387d6f2e8c78d38cd0246f61bd5a36c5584299eec1f6e890e29bb30ac54f18a1"), looks := true }, kinds := [], alts := [], laidByText := true, laidKinds := [.handle], laidTests := true, laidLooks := .later }
def MeansOneCardSaid : Prop := Claim7.holds Tryz.pinned (.plain (OpenSpec.ofChange meansOneSpec)) meansOneCard

/-- THE TIED CARD OF 'fieldfarelaw7.PoolWhole'. -/
def poolWholeCard : Claim7 := { stood := { row := poolWholeRow, standIns := [], harness := (true, "387d6f2e8c78d38cd0246f61bd5a36c5584299eec1f6e890e29bb30ac54f18a1"), looks := true }, kinds := [], alts := [], laidByText := true, laidKinds := [.handle], laidTests := true, laidLooks := .later }
def PoolWholeCardSaid : Prop := Claim7.holds Tryz.pinned (.plain (OpenSpec.ofChange poolWholeSpec)) poolWholeCard

/-- THE SECOND FORM's CARD OF 'fieldfarelaw7.PoolAll'. -/
def poolAllUptoCard : Claim7 := { stood := { row := poolAllUptoRow, standIns := [], harness := (true, "387d6f2e8c78d38cd0246f61bd5a36c5584299eec1f6e890e29bb30ac54f18a1"), looks := true }, kinds := [], alts := [], laidByText := true, laidKinds := [.handle], laidTests := true, laidLooks := .later }
def PoolAllUptoCardSaid : Prop := Claim7.holds Tryz.pinned (.plain (OpenSpec.upto poolAllSpec)) poolAllUptoCard

/-- THE SECOND FORM's CARD OF 'fieldfarelaw7.MeansAll'. -/
def meansAllUptoCard : Claim7 := { stood := { row := meansAllUptoRow, standIns := [], harness := (true, "387d6f2e8c78d38cd0246f61bd5a36c5584299eec1f6e890e29bb30ac54f18a1"), looks := true }, kinds := [], alts := [], laidByText := true, laidKinds := [.handle], laidTests := true, laidLooks := .later }
def MeansAllUptoCardSaid : Prop := Claim7.holds Tryz.pinned (.plain (OpenSpec.upto meansAllSpec)) meansAllUptoCard

/-- THE SECOND FORM's CARD OF 'fieldfarelaw7.MeansStill'. -/
def meansStillUptoCard : Claim7 := { stood := { row := meansStillUptoRow, standIns := [], harness := (true, "387d6f2e8c78d38cd0246f61bd5a36c5584299eec1f6e890e29bb30ac54f18a1"), looks := true }, kinds := [], alts := [], laidByText := true, laidKinds := [.handle], laidTests := true, laidLooks := .later }
def MeansStillUptoCardSaid : Prop := Claim7.holds Tryz.pinned (.plain (OpenSpec.upto meansStillSpec)) meansStillUptoCard

/-- THE SECOND FORM's CARD OF 'fieldfarelaw7.PoolTurn'. -/
def poolTurnUptoCard : Claim7 := { stood := { row := poolTurnUptoRow, standIns := [], harness := (true, "387d6f2e8c78d38cd0246f61bd5a36c5584299eec1f6e890e29bb30ac54f18a1"), looks := true }, kinds := [], alts := [], laidByText := true, laidKinds := [.handle], laidTests := true, laidLooks := .later }
def PoolTurnUptoCardSaid : Prop := Claim7.holds Tryz.pinned (.plain (OpenSpec.upto poolTurnSpec)) poolTurnUptoCard

/-- THE SECOND FORM's CARD OF 'fieldfarelaw7.PoolLeast'. -/
def poolLeastUptoCard : Claim7 := { stood := { row := poolLeastUptoRow, standIns := [], harness := (true, "387d6f2e8c78d38cd0246f61bd5a36c5584299eec1f6e890e29bb30ac54f18a1"), looks := true }, kinds := [], alts := [], laidByText := true, laidKinds := [.handle], laidTests := true, laidLooks := .later }
def PoolLeastUptoCardSaid : Prop := Claim7.holds Tryz.pinned (.plain (OpenSpec.upto poolLeastSpec)) poolLeastUptoCard

/-- THE SECOND FORM's CARD OF 'fieldfarelaw7.MeansNear'. -/
def meansNearUptoCard : Claim7 := { stood := { row := meansNearUptoRow, standIns := [], harness := (true, "387d6f2e8c78d38cd0246f61bd5a36c5584299eec1f6e890e29bb30ac54f18a1"), looks := true }, kinds := [], alts := [], laidByText := true, laidKinds := [.handle], laidTests := true, laidLooks := .later }
def MeansNearUptoCardSaid : Prop := Claim7.holds Tryz.pinned (.plain (OpenSpec.upto meansNearSpec)) meansNearUptoCard

/-- THE SECOND FORM's CARD OF 'fieldfarelaw7.MeansOne'. -/
def meansOneUptoCard : Claim7 := { stood := { row := meansOneUptoRow, standIns := [], harness := (true, "387d6f2e8c78d38cd0246f61bd5a36c5584299eec1f6e890e29bb30ac54f18a1"), looks := true }, kinds := [], alts := [], laidByText := true, laidKinds := [.handle], laidTests := true, laidLooks := .later }
def MeansOneUptoCardSaid : Prop := Claim7.holds Tryz.pinned (.plain (OpenSpec.upto meansOneSpec)) meansOneUptoCard

/-- THE SECOND FORM's CARD OF 'fieldfarelaw7.PoolWhole'. -/
def poolWholeUptoCard : Claim7 := { stood := { row := poolWholeUptoRow, standIns := [], harness := (true, "387d6f2e8c78d38cd0246f61bd5a36c5584299eec1f6e890e29bb30ac54f18a1"), looks := true }, kinds := [], alts := [], laidByText := true, laidKinds := [.handle], laidTests := true, laidLooks := .later }
def PoolWholeUptoCardSaid : Prop := Claim7.holds Tryz.pinned (.plain (OpenSpec.upto poolWholeSpec)) poolWholeUptoCard
end Rows
end Go.Proofs.YtjpjmeidpjjgdaaGreatDoor
