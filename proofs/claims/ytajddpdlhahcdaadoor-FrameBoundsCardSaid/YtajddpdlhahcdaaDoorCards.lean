/-
  DERIVED. GIVEN WITH THE SEED: THE CARDS: each row of YtajddpdlhahcdaaDoorRows.lean that lists a variable, with what it lists TIED to the program's text (the seventh form; the later family's looks); each row that meets fmt, with fmt's text TOLD by the authors' own Lean function (tested against real Go, not proved from fmt's source: count such statements apart). THE CARD IS WHAT COUNTS. Prove the row's statement (the work); the ties are given (YtajddpdlhahcdaaDoorTie.lean); close each card by the builder's one call (the guide's Derived/Test/ToyasCard.lean, 'card_holds'). Laid BY PROGRAM, IN A SANDBOX (cutbox-door.mjs). By AI agents, Wed Nov 11 2026. No macro, syntax, notation, axiom, sorry.
-/
import Derived.Test.YtajddpdlhahcdaaDoorRows
import GoSem.ClaimSeven
namespace Go.Proofs.YtajddpdlhahcdaaDoor
namespace Rows

/-- THE TIED CARD OF 'odometerlaw20.FrameEncodes'. -/
def frameEncodesCard : Claim7 := { stood := { row := frameEncodesRow, standIns := [], harness := (true, "e877dddf21287a14cf2e49778da8cfbffba684d8d77e9a96f26533adc1b3da93"), looks := true }, kinds := [], alts := [], laidByText := true, laidKinds := [.handle], laidTests := true, laidLooks := .later }
def FrameEncodesCardSaid : Prop := Claim7.holds Tryd.pinned (.plain (OpenSpec.ofChange frameEncodesSpec)) frameEncodesCard

/-- THE TIED CARD OF 'odometerlaw20.FrameByte'. -/
def frameByteCard : Claim7 := { stood := { row := frameByteRow, standIns := [], harness := (true, "e877dddf21287a14cf2e49778da8cfbffba684d8d77e9a96f26533adc1b3da93"), looks := true }, kinds := [], alts := [], laidByText := true, laidKinds := [.handle], laidTests := true, laidLooks := .later }
def FrameByteCardSaid : Prop := Claim7.holds Tryd.pinned (.plain (OpenSpec.ofChange frameByteSpec)) frameByteCard

/-- THE TIED CARD OF 'odometerlaw20.FrameBounds'. -/
def frameBoundsCard : Claim7 := { stood := { row := frameBoundsRow, standIns := [], harness := (true, "e877dddf21287a14cf2e49778da8cfbffba684d8d77e9a96f26533adc1b3da93"), looks := true }, kinds := [], alts := [], laidByText := true, laidKinds := [.handle], laidTests := true, laidLooks := .later }
def FrameBoundsCardSaid : Prop := Claim7.holds Tryd.pinned (.plain (OpenSpec.ofChange frameBoundsSpec)) frameBoundsCard

/-- THE SECOND FORM's CARD OF 'odometerlaw20.FrameEncodes'. -/
def frameEncodesUptoCard : Claim7 := { stood := { row := frameEncodesUptoRow, standIns := [], harness := (true, "e877dddf21287a14cf2e49778da8cfbffba684d8d77e9a96f26533adc1b3da93"), looks := true }, kinds := [], alts := [], laidByText := true, laidKinds := [.handle], laidTests := true, laidLooks := .later }
def FrameEncodesUptoCardSaid : Prop := Claim7.holds Tryd.pinned (.plain (OpenSpec.upto frameEncodesSpec)) frameEncodesUptoCard

/-- THE SECOND FORM's CARD OF 'odometerlaw20.FrameByte'. -/
def frameByteUptoCard : Claim7 := { stood := { row := frameByteUptoRow, standIns := [], harness := (true, "e877dddf21287a14cf2e49778da8cfbffba684d8d77e9a96f26533adc1b3da93"), looks := true }, kinds := [], alts := [], laidByText := true, laidKinds := [.handle], laidTests := true, laidLooks := .later }
def FrameByteUptoCardSaid : Prop := Claim7.holds Tryd.pinned (.plain (OpenSpec.upto frameByteSpec)) frameByteUptoCard

/-- THE SECOND FORM's CARD OF 'odometerlaw20.FrameBounds'. -/
def frameBoundsUptoCard : Claim7 := { stood := { row := frameBoundsUptoRow, standIns := [], harness := (true, "e877dddf21287a14cf2e49778da8cfbffba684d8d77e9a96f26533adc1b3da93"), looks := true }, kinds := [], alts := [], laidByText := true, laidKinds := [.handle], laidTests := true, laidLooks := .later }
def FrameBoundsUptoCardSaid : Prop := Claim7.holds Tryd.pinned (.plain (OpenSpec.upto frameBoundsSpec)) frameBoundsUptoCard
end Rows
end Go.Proofs.YtajddpdlhahcdaaDoor
