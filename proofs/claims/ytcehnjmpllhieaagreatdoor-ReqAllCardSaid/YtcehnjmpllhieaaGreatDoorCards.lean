/-
  DERIVED. GIVEN WITH THE SEED: THE CARDS: each row of YtcehnjmpllhieaaGreatDoorRows.lean that lists a variable, with what it lists TIED to the program's text (the seventh form; the later family's looks); each row that meets fmt, with fmt's text TOLD by the authors' own Lean function (tested against real Go, not proved from fmt's source: count such statements apart). THE CARD IS WHAT COUNTS. Prove the row's statement (the work); the ties are given (YtcehnjmpllhieaaGreatDoorTie.lean); close each card by the builder's one call (the guide's Derived/Test/ToyasCard.lean, 'card_holds'). Laid BY PROGRAM, IN A SANDBOX (cutbox-door.mjs). By AI agents, Wed Nov 11 2026. No macro, syntax, notation, axiom, sorry.
-/
import Derived.Test.YtcehnjmpllhieaaGreatDoorRows
import GoSem.ClaimSeven
namespace Go.Proofs.YtcehnjmpllhieaaGreatDoor
namespace Rows

/-- THE TIED CARD OF 'fieldfarelaw23.ReqAll'. -/
def reqAllCard : Claim7 := { stood := { row := reqAllRow, standIns := [], harness := (true, "eebdfc08a2fe7a5251b7309d1136253ce915d4f1f447f9ab483dd6794c554644"), looks := true }, kinds := [], alts := [], laidByText := true, laidKinds := [.data, .handle], laidTests := true, laidLooks := .later }
def ReqAllCardSaid : Prop := Claim7.holds Tryz.pinned (.plain (OpenSpec.ofChange reqAllSpec)) reqAllCard

/-- THE TIED CARD OF 'fieldfarelaw23.ReqUnlike'. -/
def reqUnlikeCard : Claim7 := { stood := { row := reqUnlikeRow, standIns := [], harness := (true, "eebdfc08a2fe7a5251b7309d1136253ce915d4f1f447f9ab483dd6794c554644"), looks := true }, kinds := [], alts := [], laidByText := true, laidKinds := [.data, .handle], laidTests := true, laidLooks := .later }
def ReqUnlikeCardSaid : Prop := Claim7.holds Tryz.pinned (.plain (OpenSpec.ofChange reqUnlikeSpec)) reqUnlikeCard

/-- THE TIED CARD OF 'fieldfarelaw23.ReqTurned'. -/
def reqTurnedCard : Claim7 := { stood := { row := reqTurnedRow, standIns := [], harness := (true, "eebdfc08a2fe7a5251b7309d1136253ce915d4f1f447f9ab483dd6794c554644"), looks := true }, kinds := [], alts := [], laidByText := true, laidKinds := [.data, .handle], laidTests := true, laidLooks := .later }
def ReqTurnedCardSaid : Prop := Claim7.holds Tryz.pinned (.plain (OpenSpec.ofChange reqTurnedSpec)) reqTurnedCard

/-- THE TIED CARD OF 'fieldfarelaw23.CoreNone'. -/
def coreNoneCard : Claim7 := { stood := { row := coreNoneRow, standIns := [], harness := (true, "eebdfc08a2fe7a5251b7309d1136253ce915d4f1f447f9ab483dd6794c554644"), looks := true }, kinds := [], alts := [], laidByText := true, laidKinds := [.data, .handle], laidTests := true, laidLooks := .later }
def CoreNoneCardSaid : Prop := Claim7.holds Tryz.pinned (.plain (OpenSpec.ofChange coreNoneSpec)) coreNoneCard

/-- THE SECOND FORM's CARD OF 'fieldfarelaw23.ReqAll'. -/
def reqAllUptoCard : Claim7 := { stood := { row := reqAllUptoRow, standIns := [], harness := (true, "eebdfc08a2fe7a5251b7309d1136253ce915d4f1f447f9ab483dd6794c554644"), looks := true }, kinds := [], alts := [], laidByText := true, laidKinds := [.data, .handle], laidTests := true, laidLooks := .later }
def ReqAllUptoCardSaid : Prop := Claim7.holds Tryz.pinned (.plain (OpenSpec.upto reqAllSpec)) reqAllUptoCard

/-- THE SECOND FORM's CARD OF 'fieldfarelaw23.ReqUnlike'. -/
def reqUnlikeUptoCard : Claim7 := { stood := { row := reqUnlikeUptoRow, standIns := [], harness := (true, "eebdfc08a2fe7a5251b7309d1136253ce915d4f1f447f9ab483dd6794c554644"), looks := true }, kinds := [], alts := [], laidByText := true, laidKinds := [.data, .handle], laidTests := true, laidLooks := .later }
def ReqUnlikeUptoCardSaid : Prop := Claim7.holds Tryz.pinned (.plain (OpenSpec.upto reqUnlikeSpec)) reqUnlikeUptoCard

/-- THE SECOND FORM's CARD OF 'fieldfarelaw23.ReqTurned'. -/
def reqTurnedUptoCard : Claim7 := { stood := { row := reqTurnedUptoRow, standIns := [], harness := (true, "eebdfc08a2fe7a5251b7309d1136253ce915d4f1f447f9ab483dd6794c554644"), looks := true }, kinds := [], alts := [], laidByText := true, laidKinds := [.data, .handle], laidTests := true, laidLooks := .later }
def ReqTurnedUptoCardSaid : Prop := Claim7.holds Tryz.pinned (.plain (OpenSpec.upto reqTurnedSpec)) reqTurnedUptoCard

/-- THE SECOND FORM's CARD OF 'fieldfarelaw23.CoreNone'. -/
def coreNoneUptoCard : Claim7 := { stood := { row := coreNoneUptoRow, standIns := [], harness := (true, "eebdfc08a2fe7a5251b7309d1136253ce915d4f1f447f9ab483dd6794c554644"), looks := true }, kinds := [], alts := [], laidByText := true, laidKinds := [.data, .handle], laidTests := true, laidLooks := .later }
def CoreNoneUptoCardSaid : Prop := Claim7.holds Tryz.pinned (.plain (OpenSpec.upto coreNoneSpec)) coreNoneUptoCard
end Rows
end Go.Proofs.YtcehnjmpllhieaaGreatDoor
