/- Small laws that several texts of this seat lean on. -/
import Derived.Test.YtbkpgpaanhfjfaaApp
namespace Go.Proofs.Ytbkpgpaanhfjfaa
open Go.RowKit K
theorem ret_bool {a b : Bool} (h : a = b) : Ending.returned (.bool a) = .returned (.bool b) := by rw [h]
theorem keepc {w w' : World} {p : Addr} {v : Value} (hb : Below w.heap.size w w') (h : w.cell? p = some v) : w'.cell? p = some v :=
  (hb.cell (World.block_lt_of_cell? _ _ h)).trans h
/-- A row that a call owns, as a slice. -/
theorem own_slice {w : World} {B e n : Nat} {v : Value} {xs : List Value} (h : w.ownsRow B e 1 v n xs) : ∃ a c, v = .slice a n c ∧ n ≤ c ∧ c ≤ 9223372036854775807 ∧ (a = none → c = 0) ∧ Rd w a xs := by
  rcases h.2 with ⟨rfl, rfl⟩ | ⟨g, cap, cur, rfl, _, hg, hn, hm, _⟩
  · refine ⟨none, 0, rfl, Nat.le_refl _, by omega, fun _ => rfl, fun k v hv => ?_⟩
    have : xs = [] := List.eq_nil_of_length_eq_zero (by simpa using h.1)
    subst this
    simp at hv
  · refine ⟨_, cap, rfl, hn, (by unfold maxLen at hm; omega), (fun h => by cases h), fun k v hv => ⟨g, 0, rfl, ?_⟩⟩
    have := h.cells (g := g) rfl k v hv
    simpa [Addr.add_lit] using this
theorem own_base {w : World} {B D e size n : Nat} {v : Value} {xs : List Value} (h : w.ownsRow D e size v n xs) (hB : B ≤ D) : w.ownsRow B e size v n xs := by
  refine ⟨h.1, ?_⟩
  rcases h.2 with h | ⟨g, cap, cur, rfl, hg, rest⟩
  · exact .inl h
  · exact .inr ⟨g, cap, cur, rfl, Nat.le_trans hB hg, rest⟩
theorem info_b1 : (Try.prog.info? 5).map (·.size) = some 1 := by kernel_rfl
theorem wf64 {z : Int} (h : (Lit.int .i64 z).wf = true) : -9223372036854775808 ≤ z ∧ z ≤ 9223372036854775807 := by simpa [Lit.wf, IntKind.min, IntKind.max, IntKind.signed, IntKind.bits] using h
theorem wfu64 {z : Int} (h : (Lit.int .u64 z).wf = true) : 0 ≤ z ∧ z ≤ 18446744073709551615 := by simpa [Lit.wf, IntKind.min, IntKind.max, IntKind.signed, IntKind.bits] using h
end Go.Proofs.Ytbkpgpaanhfjfaa
