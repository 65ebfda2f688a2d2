/-
  No cell of these rows narrows 'for every input' (looked for: loops, veiled, ifaces, maps, wideKeys, modest, calm, conditions, laid).
  DERIVED. THE GIVEN ROWS OF THIS SEAT. 5 by the template 'for every input the law returns true; each argument reads behind the call as it read before'; 0 by the template 'total and deterministic' (their statements: YthademifhnkbiaaTotals.lean).
  GIVEN WITH THE SEED: the statements are not yours to turn. If you find one false, say at which input.
  Laid BY PROGRAM, IN A SANDBOX (cutbox-rows.mjs): the forced cells as the released guide's own fill.sh prints them over the translation a355b43d4d053f54… (all of the seat's roots in one cut). By AI agents, Wed Nov 11 2026. No macro, syntax, notation, axiom, sorry.
-/
import Derived.Test.YthademifhnkbiaaChecked
import GoSem.Claim
import GoSem.ClaimJoined
import GoSem.ClaimMapViews
import Derived.JoinedTies
import Derived.KernelRfl
namespace Go.Proofs.Ythademifhnkbiaa
/- THE CELL 'sum', in the pinned program and in every row, IS THE sha256 OF THE DUMP (.gsa) THAT YthademifhnkbiaaProg.lean LOADS. Nothing in Lean hashes anything: it is a label: what it is worth is what the hold of that sum in a sandbox is worth. -/
noncomputable def Try.pinned : Pinned := { name := "ythademifhnkbiaa", sum := "a355b43d4d053f540a54c35b721f000087e7577caa006ff12a03ea0994d07a29", checked := Try.checked }
namespace Rows
def none {H : Type} : Left H := { results := [], args := [] }

/-- 'odometerlaw17.DeltaAdds': WHATEVER THE INPUT: true; the input reads as it did. -/
def deltaAddsSpec : ChangeSpec := { name := "deltaAdds", fn := fun _ => fun
  | [d] => { results := [.lit (.bool true)], args := [d] }
  | _ => none }
def deltaAddsRow : OpenClaim := { program := "ythademifhnkbiaa", sum := "a355b43d4d053f540a54c35b721f000087e7577caa006ff12a03ea0994d07a29", func := "odometer/odometerlaw17.DeltaAdds", spec := "deltaAdds", apart := false }
def DeltaAddsSaid : Prop := deltaAddsRow.holds Try.pinned (OpenSpec.ofChange deltaAddsSpec)

/-- ITS FALSE NEIGHBOUR: 'it returns false'. Refute it at one input. -/
def deltaAddsWrong : ChangeSpec := { name := "deltaAdds", fn := fun _ => fun
  | [d] => { results := [.lit (.bool false)], args := [d] }
  | _ => none }
def DeltaAddsWrongFalsely : Prop := deltaAddsRow.holds Try.pinned (OpenSpec.ofChange deltaAddsWrong)

/-- 'odometerlaw17.DeltaGain': WHATEVER THE INPUT: true; the input reads as it did. -/
def deltaGainSpec : ChangeSpec := { name := "deltaGain", fn := fun _ => fun
  | [d1, d2] => { results := [.lit (.bool true)], args := [d1, d2] }
  | _ => none }
def deltaGainRow : OpenClaim := { program := "ythademifhnkbiaa", sum := "a355b43d4d053f540a54c35b721f000087e7577caa006ff12a03ea0994d07a29", func := "odometer/odometerlaw17.DeltaGain", spec := "deltaGain", apart := false }
def DeltaGainSaid : Prop := deltaGainRow.holds Try.pinned (OpenSpec.ofChange deltaGainSpec)

/-- ITS FALSE NEIGHBOUR: 'it returns false'. Refute it at one input. -/
def deltaGainWrong : ChangeSpec := { name := "deltaGain", fn := fun _ => fun
  | [d1, d2] => { results := [.lit (.bool false)], args := [d1, d2] }
  | _ => none }
def DeltaGainWrongFalsely : Prop := deltaGainRow.holds Try.pinned (OpenSpec.ofChange deltaGainWrong)

/-- 'odometerlaw17.DeltaPlays': WHATEVER THE INPUT: true; the input reads as it did. -/
def deltaPlaysSpec : ChangeSpec := { name := "deltaPlays", fn := fun _ => fun
  | [d1, d2] => { results := [.lit (.bool true)], args := [d1, d2] }
  | _ => none }
def deltaPlaysRow : OpenClaim := { program := "ythademifhnkbiaa", sum := "a355b43d4d053f540a54c35b721f000087e7577caa006ff12a03ea0994d07a29", func := "odometer/odometerlaw17.DeltaPlays", spec := "deltaPlays", apart := false }
def DeltaPlaysSaid : Prop := deltaPlaysRow.holds Try.pinned (OpenSpec.ofChange deltaPlaysSpec)

/-- ITS FALSE NEIGHBOUR: 'it returns false'. Refute it at one input. -/
def deltaPlaysWrong : ChangeSpec := { name := "deltaPlays", fn := fun _ => fun
  | [d1, d2] => { results := [.lit (.bool false)], args := [d1, d2] }
  | _ => none }
def DeltaPlaysWrongFalsely : Prop := deltaPlaysRow.holds Try.pinned (OpenSpec.ofChange deltaPlaysWrong)

/-- 'odometerlaw17.DeltaCopies': WHATEVER THE INPUT: true; the input reads as it did. -/
def deltaCopiesSpec : ChangeSpec := { name := "deltaCopies", fn := fun _ => fun
  | [d1, d2, d3, d4] => { results := [.lit (.bool true)], args := [d1, d2, d3, d4] }
  | _ => none }
def deltaCopiesRow : OpenClaim := { program := "ythademifhnkbiaa", sum := "a355b43d4d053f540a54c35b721f000087e7577caa006ff12a03ea0994d07a29", func := "odometer/odometerlaw17.DeltaCopies", spec := "deltaCopies", unfollowed := true, recurses := true, apart := false }
def DeltaCopiesSaid : Prop := deltaCopiesRow.holds Try.pinned (OpenSpec.ofChange deltaCopiesSpec)

/-- ITS FALSE NEIGHBOUR: 'it returns false'. Refute it at one input. -/
def deltaCopiesWrong : ChangeSpec := { name := "deltaCopies", fn := fun _ => fun
  | [d1, d2, d3, d4] => { results := [.lit (.bool false)], args := [d1, d2, d3, d4] }
  | _ => none }
def DeltaCopiesWrongFalsely : Prop := deltaCopiesRow.holds Try.pinned (OpenSpec.ofChange deltaCopiesWrong)

/-- 'odometerlaw17.DeltaNil': WHATEVER THE INPUT: true; the input reads as it did. -/
def deltaNilSpec : ChangeSpec := { name := "deltaNil", fn := fun _ => fun
  | [] => { results := [.lit (.bool true)], args := [] }
  | _ => none }
def deltaNilRow : OpenClaim := { program := "ythademifhnkbiaa", sum := "a355b43d4d053f540a54c35b721f000087e7577caa006ff12a03ea0994d07a29", func := "odometer/odometerlaw17.DeltaNil", spec := "deltaNil", unfollowed := true, recurses := true, apart := false }
def DeltaNilSaid : Prop := deltaNilRow.holds Try.pinned (OpenSpec.ofChange deltaNilSpec)

/-- ITS FALSE NEIGHBOUR: 'it returns false'. Refute it at one input. -/
def deltaNilWrong : ChangeSpec := { name := "deltaNil", fn := fun _ => fun
  | [] => { results := [.lit (.bool false)], args := [] }
  | _ => none }
def DeltaNilWrongFalsely : Prop := deltaNilRow.holds Try.pinned (OpenSpec.ofChange deltaNilWrong)

/- THE SECOND FORM. 'bulk': how many values and letters a reading holds, each counted each time it is reached (what is shared counts as often as it is met; a slice's spare places count too). A statement '..UptoSaid' is the law's where the arguments, and the package variables that the reading takes, are together of bulk at most 1048576: NARROWER than '..Said'. Prove '..Said' where nothing that the law and all that it calls make is longer than what came in: it says more and counts as full. Else prove '..UptoSaid'. A law counts once. -/
mutual
def uptoBulk {H : Type} : DataW H → Nat
  | .lit (.string bytes) => bytes.length + 1
  | .lit _ => 1
  | .nil => 1
  | .ptr d => uptoBulk d + 1
  | .slice elems spare => uptoBulkAll elems + uptoBulkAll spare + 1
  | .agg parts => uptoBulkAll parts + 1
  | .iface _ d => uptoBulk d + 1
  | .map entries => uptoBulkEntries entries + 1
  | .held _ => 1
def uptoBulkAll {H : Type} : List (DataW H) → Nat
  | [] => 0
  | d :: r => uptoBulk d + uptoBulkAll r
def uptoBulkEntries {H : Type} : List (Lit × DataW H) → Nat
  | [] => 0
  | x :: r => uptoBulkEntry x + uptoBulkEntries r
def uptoBulkEntry {H : Type} : Lit × DataW H → Nat
  | (.string bytes, d) => bytes.length + uptoBulk d + 1
  | (_, d) => uptoBulk d + 1
 end
def uptoSmall : (H : Type) → List (DataW H) → Bool := fun _ ds => decide (uptoBulkAll ds ≤ 1048576)
def OpenSpec.upto (s : _root_.Go.ChangeSpec) : _root_.Go.OpenSpec := { _root_.Go.OpenSpec.ofChange s with cond := some uptoSmall }

/-- 'odometerlaw17.DeltaAdds', WHERE WHAT IT READS IS OF BULK AT MOST 1048576: true; the input reads as it did. -/
def deltaAddsUptoRow : OpenClaim := { program := "ythademifhnkbiaa", sum := "a355b43d4d053f540a54c35b721f000087e7577caa006ff12a03ea0994d07a29", func := "odometer/odometerlaw17.DeltaAdds", spec := "deltaAdds", apart := false, narrowed := true }
def DeltaAddsUptoSaid : Prop := deltaAddsUptoRow.holds Try.pinned (OpenSpec.upto deltaAddsSpec)

/-- 'odometerlaw17.DeltaGain', WHERE WHAT IT READS IS OF BULK AT MOST 1048576: true; the input reads as it did. -/
def deltaGainUptoRow : OpenClaim := { program := "ythademifhnkbiaa", sum := "a355b43d4d053f540a54c35b721f000087e7577caa006ff12a03ea0994d07a29", func := "odometer/odometerlaw17.DeltaGain", spec := "deltaGain", apart := false, narrowed := true }
def DeltaGainUptoSaid : Prop := deltaGainUptoRow.holds Try.pinned (OpenSpec.upto deltaGainSpec)

/-- 'odometerlaw17.DeltaPlays', WHERE WHAT IT READS IS OF BULK AT MOST 1048576: true; the input reads as it did. -/
def deltaPlaysUptoRow : OpenClaim := { program := "ythademifhnkbiaa", sum := "a355b43d4d053f540a54c35b721f000087e7577caa006ff12a03ea0994d07a29", func := "odometer/odometerlaw17.DeltaPlays", spec := "deltaPlays", apart := false, narrowed := true }
def DeltaPlaysUptoSaid : Prop := deltaPlaysUptoRow.holds Try.pinned (OpenSpec.upto deltaPlaysSpec)

/-- 'odometerlaw17.DeltaCopies', WHERE WHAT IT READS IS OF BULK AT MOST 1048576: true; the input reads as it did. -/
def deltaCopiesUptoRow : OpenClaim := { program := "ythademifhnkbiaa", sum := "a355b43d4d053f540a54c35b721f000087e7577caa006ff12a03ea0994d07a29", func := "odometer/odometerlaw17.DeltaCopies", spec := "deltaCopies", unfollowed := true, recurses := true, apart := false, narrowed := true }
def DeltaCopiesUptoSaid : Prop := deltaCopiesUptoRow.holds Try.pinned (OpenSpec.upto deltaCopiesSpec)

/-- 'odometerlaw17.DeltaNil', WHERE WHAT IT READS IS OF BULK AT MOST 1048576: true; the input reads as it did. -/
def deltaNilUptoRow : OpenClaim := { program := "ythademifhnkbiaa", sum := "a355b43d4d053f540a54c35b721f000087e7577caa006ff12a03ea0994d07a29", func := "odometer/odometerlaw17.DeltaNil", spec := "deltaNil", unfollowed := true, recurses := true, apart := false, narrowed := true }
def DeltaNilUptoSaid : Prop := deltaNilUptoRow.holds Try.pinned (OpenSpec.upto deltaNilSpec)

end Rows
end Go.Proofs.Ythademifhnkbiaa
