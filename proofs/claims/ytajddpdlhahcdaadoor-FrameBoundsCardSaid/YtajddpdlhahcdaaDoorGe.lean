/- What package errors' own variable holds. -/
import Derived.Test.YtajddpdlhahcdaaDoorKit
namespace Go.Proofs.YtajddpdlhahcdaaDoor
open Go.RowKit K
/-- What package errors' own variable holds. -/
def GErr (w : World) : Prop := w.cell? ⟨0, 0, none⟩ = some (.iface 77 (.agg #[.pointer (some ⟨1, 54, none⟩)]))
theorem GErr.lt {w : World} (h : GErr w) : 0 < w.heap.size := World.block_lt_of_cell? w ⟨0, 0, none⟩ h
theorem GErr.below {w w' : World} {B : Nat} (h : GErr w) (hb : Below B w w') (hB : 0 < B) : GErr w' := (hb.cell (p := ⟨0, 0, none⟩) hB).trans h
end Go.Proofs.YtajddpdlhahcdaaDoor
