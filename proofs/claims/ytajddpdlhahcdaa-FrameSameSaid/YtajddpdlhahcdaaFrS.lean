/- The walks over what compares frames. -/
import Derived.Test.YtajddpdlhahcdaaReg
import Derived.Test.YtajddpdlhahcdaaMap
import Derived.BigQuiet
import Derived.Handy
import Derived.WalkSmall
namespace Go.Proofs.Ytajddpdlhahcdaa
open Go.RowKit K
structure Rec where
  name : ByteArray
  win : Int
  inc : Int
  rate : Int
  over : Bool
def Rec.cells (r : Rec) : Array Value := #[.string r.name, .int .i64 r.win, .int .i64 r.inc, .int .i64 r.rate, .bool r.over]
def recEq (x y : Rec) : Bool := decide (x.name.toList = y.name.toList) && (x.win == y.win && (x.inc == y.inc && (x.rate == y.rate && x.over == y.over)))
set_option maxHeartbeats 1000000 in
theorem sameRec_any (w : World) (x y : Rec) :
    Calls Try.prog 11 #[.agg x.cells, .agg y.cells] w fun e w' => e = .returned (.bool (recEq x y)) ∧ Below w.heap.size w w' := by
  obtain ⟨a, b, c, d, o⟩ := x
  obtain ⟨a2, b2, c2, d2, o2⟩ := y
  simp only [Rec.cells, recEq]
  go_enter Try.func11, Try.ntmps11
  go_wp2

  all_goals (
    go_ret
    refine ⟨?_, ?_⟩
    · simp_all
    · go_grown)
end Go.Proofs.Ytajddpdlhahcdaa
