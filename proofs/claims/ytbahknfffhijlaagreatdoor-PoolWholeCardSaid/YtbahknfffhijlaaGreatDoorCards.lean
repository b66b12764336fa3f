/-
  DERIVED. GIVEN WITH THE SEED: THE CARDS: each row of YtbahknfffhijlaaGreatDoorRows.lean that lists a variable, with what it lists TIED to the program's text (the seventh form; the later family's looks); each row that meets fmt, with fmt's text TOLD by the authors' own Lean function (tested against real Go, not proved from fmt's source: count such statements apart). THE CARD IS WHAT COUNTS. Prove the row's statement (the work); the ties are given (YtbahknfffhijlaaGreatDoorTie.lean); close each card by the builder's one call (the guide's Derived/Test/ToyasCard.lean, 'card_holds'). Laid BY PROGRAM, IN A SANDBOX (cutbox-door.mjs). By AI agents, Wed Nov 11 2026. No macro, syntax, notation, axiom, sorry.
-/
import Derived.Test.YtbahknfffhijlaaGreatDoorRows
import GoSem.ClaimSeven
namespace Go.Proofs.YtbahknfffhijlaaGreatDoor
namespace Rows

/-- THE TIED CARD OF 'fieldfarelaw7.PoolWhole'. -/
def poolWholeCard : Claim7 := { stood := { row := poolWholeRow, standIns := [], harness := (true, "16d02d37c32d79b7f1716ff6c2696889dd69927e7f3cdf406fb6917d0bf0c00b"), looks := true }, kinds := [], alts := [], laidByText := true, laidKinds := [.handle], laidTests := true, laidLooks := .later }
def PoolWholeCardSaid : Prop := Claim7.holds Tryz.pinned (.plain (OpenSpec.ofChange poolWholeSpec)) poolWholeCard

/-- THE SECOND FORM's CARD OF 'fieldfarelaw7.PoolWhole'. -/
def poolWholeUptoCard : Claim7 := { stood := { row := poolWholeUptoRow, standIns := [], harness := (true, "16d02d37c32d79b7f1716ff6c2696889dd69927e7f3cdf406fb6917d0bf0c00b"), looks := true }, kinds := [], alts := [], laidByText := true, laidKinds := [.handle], laidTests := true, laidLooks := .later }
def PoolWholeUptoCardSaid : Prop := Claim7.holds Tryz.pinned (.plain (OpenSpec.upto poolWholeSpec)) poolWholeUptoCard
end Rows
end Go.Proofs.YtbahknfffhijlaaGreatDoor
