/-
  DERIVED. GIVEN WITH THE SEED: THE CARDS: each row of YtlbjmgpbgkiejaaGreatDoorRows.lean that lists a variable, with what it lists TIED to the program's text (the seventh form; the later family's looks); each row that meets fmt, with fmt's text TOLD by the authors' own Lean function (tested against real Go, not proved from fmt's source: count such statements apart). THE CARD IS WHAT COUNTS. Prove the row's statement (the work); the ties are given (YtlbjmgpbgkiejaaGreatDoorTie.lean); close each card by the builder's one call (the guide's Derived/Test/ToyasCard.lean, 'card_holds'). Laid BY PROGRAM, IN A SANDBOX (cutbox-door.mjs). By AI agents, Wed Nov 11 2026. No macro, syntax, notation, axiom, sorry.
-/
import Derived.Test.YtlbjmgpbgkiejaaGreatDoorRows
import GoSem.ClaimSeven
namespace Go.Proofs.YtlbjmgpbgkiejaaGreatDoor
namespace Rows

/-- THE TIED CARD OF 'fieldfarelaw23.CoreThrottle'. -/
def coreThrottleCard : Claim7 := { stood := { row := coreThrottleRow, standIns := [], harness := (true, "1b2e86b9f63ae100e0c68b45c5d7c7eb2f1160898a9f863e5d0abc918a2b2fa9"), looks := true }, kinds := [], alts := [], laidByText := true, laidKinds := [.data, .handle], laidTests := true, laidLooks := .later }
def CoreThrottleCardSaid : Prop := Claim7.holds Tryz.pinned (.plain (OpenSpec.ofChange coreThrottleSpec)) coreThrottleCard

/-- THE TIED CARD OF 'fieldfarelaw23.CoreSeq'. -/
def coreSeqCard : Claim7 := { stood := { row := coreSeqRow, standIns := [], harness := (true, "1b2e86b9f63ae100e0c68b45c5d7c7eb2f1160898a9f863e5d0abc918a2b2fa9"), looks := true }, kinds := [], alts := [], laidByText := true, laidKinds := [.data, .handle], laidTests := true, laidLooks := .later }
def CoreSeqCardSaid : Prop := Claim7.holds Tryz.pinned (.plain (OpenSpec.ofChange coreSeqSpec)) coreSeqCard

/-- THE TIED CARD OF 'fieldfarelaw23.CoreOrder'. -/
def coreOrderCard : Claim7 := { stood := { row := coreOrderRow, standIns := [], harness := (true, "1b2e86b9f63ae100e0c68b45c5d7c7eb2f1160898a9f863e5d0abc918a2b2fa9"), looks := true }, kinds := [], alts := [], laidByText := true, laidKinds := [.data, .handle], laidTests := true, laidLooks := .later }
def CoreOrderCardSaid : Prop := Claim7.holds Tryz.pinned (.plain (OpenSpec.ofChange coreOrderSpec)) coreOrderCard

/-- THE TIED CARD OF 'fieldfarelaw23.CoreSweep'. -/
def coreSweepCard : Claim7 := { stood := { row := coreSweepRow, standIns := [], harness := (true, "1b2e86b9f63ae100e0c68b45c5d7c7eb2f1160898a9f863e5d0abc918a2b2fa9"), looks := true }, kinds := [], alts := [], laidByText := true, laidKinds := [.data, .handle], laidTests := true, laidLooks := .later }
def CoreSweepCardSaid : Prop := Claim7.holds Tryz.pinned (.plain (OpenSpec.ofChange coreSweepSpec)) coreSweepCard

/-- THE SECOND FORM's CARD OF 'fieldfarelaw23.CoreThrottle'. -/
def coreThrottleUptoCard : Claim7 := { stood := { row := coreThrottleUptoRow, standIns := [], harness := (true, "1b2e86b9f63ae100e0c68b45c5d7c7eb2f1160898a9f863e5d0abc918a2b2fa9"), looks := true }, kinds := [], alts := [], laidByText := true, laidKinds := [.data, .handle], laidTests := true, laidLooks := .later }
def CoreThrottleUptoCardSaid : Prop := Claim7.holds Tryz.pinned (.plain (OpenSpec.upto coreThrottleSpec)) coreThrottleUptoCard

/-- THE SECOND FORM's CARD OF 'fieldfarelaw23.CoreSeq'. -/
def coreSeqUptoCard : Claim7 := { stood := { row := coreSeqUptoRow, standIns := [], harness := (true, "1b2e86b9f63ae100e0c68b45c5d7c7eb2f1160898a9f863e5d0abc918a2b2fa9"), looks := true }, kinds := [], alts := [], laidByText := true, laidKinds := [.data, .handle], laidTests := true, laidLooks := .later }
def CoreSeqUptoCardSaid : Prop := Claim7.holds Tryz.pinned (.plain (OpenSpec.upto coreSeqSpec)) coreSeqUptoCard

/-- THE SECOND FORM's CARD OF 'fieldfarelaw23.CoreOrder'. -/
def coreOrderUptoCard : Claim7 := { stood := { row := coreOrderUptoRow, standIns := [], harness := (true, "1b2e86b9f63ae100e0c68b45c5d7c7eb2f1160898a9f863e5d0abc918a2b2fa9"), looks := true }, kinds := [], alts := [], laidByText := true, laidKinds := [.data, .handle], laidTests := true, laidLooks := .later }
def CoreOrderUptoCardSaid : Prop := Claim7.holds Tryz.pinned (.plain (OpenSpec.upto coreOrderSpec)) coreOrderUptoCard

/-- THE SECOND FORM's CARD OF 'fieldfarelaw23.CoreSweep'. -/
def coreSweepUptoCard : Claim7 := { stood := { row := coreSweepUptoRow, standIns := [], harness := (true, "1b2e86b9f63ae100e0c68b45c5d7c7eb2f1160898a9f863e5d0abc918a2b2fa9"), looks := true }, kinds := [], alts := [], laidByText := true, laidKinds := [.data, .handle], laidTests := true, laidLooks := .later }
def CoreSweepUptoCardSaid : Prop := Claim7.holds Tryz.pinned (.plain (OpenSpec.upto coreSweepSpec)) coreSweepUptoCard
end Rows
end Go.Proofs.YtlbjmgpbgkiejaaGreatDoor
