/- The contract of the reference's (*Store).one. -/
import Derived.Test.YthademifhnkbiaaDpD
import Derived.Test.YthademifhnkbiaaDpF
namespace Go.Proofs.Ythademifhnkbiaa
open Go.RowKit K
section
variable {w : World} {B r : Nat} {most : Int} {L : List SV} {G : Nat → Prop}
/-- THE CONTRACT: one sample put. -/
theorem rone_any (h : RsIs w B r most L G) (hB : B ≤ w.heap.size) (owner : Int) (x : Smp) (hl : L.length ≤ 100000) :
    Calls Try.prog 39 #[.pointer (some ⟨r, 0, none⟩), .int .i64 owner, .agg x.cells] w (ROne w B r most G (oneV most L x) (roneL most owner L x)) := by
  unfold oneV roneL
  cases hf : sfind x.name L with
  | none =>
    simp only
    by_cases hm : most ≤ (L.length : Int)
    · rw [if_pos hm, if_pos hm]
      exact rone_full h owner x hf (by omega) hm
    · rw [if_neg hm, if_neg hm]
      exact rone_new h hB owner x hf hl hm
  | some u =>
    simp only
    by_cases h1 : x.time ≤ u.x.time
    · rw [if_pos h1]
      refine rone_late h owner x u hf (by omega) h1 _ ?_
      by_cases h2 : x.time < u.x.time
      · rw [if_pos h2, if_pos h2]
      · rw [if_neg h2, if_neg h2, if_pos (by omega)]
    · rw [if_neg h1, if_neg (by omega), if_neg (by omega)]
      exact rone_chain h owner x u hf (by omega) (by omega) _ rfl
end
end Go.Proofs.Ythademifhnkbiaa
