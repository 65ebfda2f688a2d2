/-
  DERIVED. GIVEN WITH THE SEED: THE CARDS: each row of YtocnjejolamdlaaDoorRows.lean that lists a variable, with what it lists TIED to the program's text (the seventh form; the later family's looks); each row that meets fmt, with fmt's text TOLD by the authors' own Lean function (tested against real Go, not proved from fmt's source: count such statements apart). THE CARD IS WHAT COUNTS. Prove the row's statement (the work); the ties are given (YtocnjejolamdlaaDoorTie.lean); close each card by the builder's one call (the guide's Derived/Test/ToyasCard.lean, 'card_holds'). Laid BY PROGRAM, IN A SANDBOX (cutbox-door.mjs). By AI agents, Wed Nov 11 2026. No macro, syntax, notation, axiom, sorry.
-/
import Derived.Test.YtocnjejolamdlaaDoorRows
import GoSem.ClaimSeven
namespace Go.Proofs.YtocnjejolamdlaaDoor
namespace Rows

/-- THE TIED CARD OF 'odometerlaw02.PackBounds'. -/
def packBoundsCard : Claim7 := { stood := { row := packBoundsRow, standIns := [], harness := (true, "646cd970743b85cbfa34cc5cbd99cd2b34d7cebffc1f0ee728b68d71843ad9ec"), looks := true }, kinds := [], alts := [], laidByText := true, laidKinds := [.handle], laidTests := true, laidLooks := .later }
def PackBoundsCardSaid : Prop := Claim7.holds Tryd.pinned (.plain (OpenSpec.ofChange packBoundsSpec)) packBoundsCard

/-- THE TIED CARD OF 'odometerlaw02.PackPuts'. -/
def packPutsCard : Claim7 := { stood := { row := packPutsRow, standIns := [], harness := (true, "646cd970743b85cbfa34cc5cbd99cd2b34d7cebffc1f0ee728b68d71843ad9ec"), looks := true }, kinds := [], alts := [], laidByText := true, laidKinds := [.handle], laidTests := true, laidLooks := .later }
def PackPutsCardSaid : Prop := Claim7.holds Tryd.pinned (.plain (OpenSpec.ofChange packPutsSpec)) packPutsCard

/-- THE SECOND FORM's CARD OF 'odometerlaw02.PackBounds'. -/
def packBoundsUptoCard : Claim7 := { stood := { row := packBoundsUptoRow, standIns := [], harness := (true, "646cd970743b85cbfa34cc5cbd99cd2b34d7cebffc1f0ee728b68d71843ad9ec"), looks := true }, kinds := [], alts := [], laidByText := true, laidKinds := [.handle], laidTests := true, laidLooks := .later }
def PackBoundsUptoCardSaid : Prop := Claim7.holds Tryd.pinned (.plain (OpenSpec.upto packBoundsSpec)) packBoundsUptoCard

/-- THE SECOND FORM's CARD OF 'odometerlaw02.PackPuts'. -/
def packPutsUptoCard : Claim7 := { stood := { row := packPutsUptoRow, standIns := [], harness := (true, "646cd970743b85cbfa34cc5cbd99cd2b34d7cebffc1f0ee728b68d71843ad9ec"), looks := true }, kinds := [], alts := [], laidByText := true, laidKinds := [.handle], laidTests := true, laidLooks := .later }
def PackPutsUptoCardSaid : Prop := Claim7.holds Tryd.pinned (.plain (OpenSpec.upto packPutsSpec)) packPutsUptoCard
end Rows
end Go.Proofs.YtocnjejolamdlaaDoor
