/- The walk over the reference's (*Store).one where a series is turned: small laws. -/
import Derived.Test.YthademifhnkbiaaDpC
import Derived.Test.YthademifhnkbiaaApp6
import Derived.Test.YthademifhnkbiaaSm
namespace Go.Proofs.Ythademifhnkbiaa
open Go.RowKit K
theorem set_onf {pre : List SV} {l : List Value} {k : Nat} (hk : k = pre.length) (j : Nat) (x : Value) : (onf pre ++ l).set (k * 7 + j) x = onf pre ++ l.set j x := by
  have e : k * 7 + j = (onf pre).length + j := by rw [onf_length, hk]; omega
  rw [e, List.set_append_right _ _ (by omega)]
  congr 2
  omega
theorem onf_mid (pre post : List SV) (u : SV) : onf (pre ++ u :: post) = onf pre ++ (onc u ++ onf post) := by
  rw [onf_app]
  rfl
def six (w : World) (g k : Nat) (x : Smp) (owner : Int) : World := (((((w.setCell ⟨g, k * 7 + 1, none⟩ (.string x.name)).setCell ⟨g, k * 7 + 1 + 1, none⟩ (.int .i64 x.val)).setCell ⟨g, k * 7 + 1 + 2, none⟩ (.int .i64 x.time)).setCell ⟨g, k * 7 + 1 + 3, none⟩ (.bool x.counts)).setCell ⟨g, k * 7 + 1 + 4, none⟩ (.bool true)).setCell ⟨g, k * 7 + 1 + 5, none⟩ (.int .i64 owner)
/-- The six cells of a series' last sample written. -/
theorem own_last {w : World} {B g cap n k : Nat} {pre post : List SV} {u : SV} (h : w.ownsRow B 95 7 (.slice (some ⟨g, 0, none⟩) n cap) n (onf (pre ++ u :: post))) (hk : k = pre.length) (x : Smp) (hn : u.x.name = x.name) (owner : Int) :
    (six w g k x owner).ownsRow B 95 7 (.slice (some ⟨g, 0, none⟩) n cap) n (onf (pre ++ ⟨x, true, owner⟩ :: post)) := by
  unfold six
  have h6 := own_set (own_set (own_set (own_set (own_set (own_set h (k * 7 + 1) (.string x.name)) (k * 7 + 2) (.int .i64 x.val)) (k * 7 + 3) (.int .i64 x.time)) (k * 7 + 4) (.bool x.counts)) (k * 7 + 5) (.bool true)) (k * 7 + 6) (.int .i64 owner)
  rw [onf_mid, set_onf hk, set_onf hk, set_onf hk, set_onf hk, set_onf hk, set_onf hk] at h6
  rw [onf_mid]
  simp only [onc, List.cons_append, List.nil_append, List.set_cons_succ, List.set_cons_zero, hn] at h6 ⊢
  exact h6
section
variable {w : World} {B r : Nat} {most : Int} {L : List SV} {G : Nat → Prop}
theorem RsIs.shape2 (h : RsIs w B r most L G) (hn : 0 < L.length) : ∃ g c, w.heap[r]? = some (.cells #[.slice (some ⟨g, 0, none⟩) L.length c, .int .i64 most] 54 (0, 0)) ∧ w.ownsRow B 95 7 (.slice (some ⟨g, 0, none⟩) L.length c) L.length (onf L) ∧ L.length ≤ c ∧ G g ∧ g ≠ r ∧ (∃ cur, w.heap[g]? = some (.cells cur 95 (0, 0))) ∧ G r ∧ ∀ k, G k → B ≤ k ∧ k < w.heap.size := by
  obtain ⟨v, h1, h2, h3, h4, h5⟩ := h
  have ho := h2
  rcases h2.2 with ⟨_, e⟩ | ⟨g, c, cur, rfl, hB, hg, hc, hm, _⟩
  · omega
  · exact ⟨g, c, h1, ho, hc, (h3 g rfl).1, (h3 g rfl).2, ⟨cur, hg⟩, h4, h5⟩
end
end Go.Proofs.Ythademifhnkbiaa
