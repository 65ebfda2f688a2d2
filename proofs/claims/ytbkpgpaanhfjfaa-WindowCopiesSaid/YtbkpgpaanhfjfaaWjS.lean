/- Chapter 18: when two windows have the same. -/
import Derived.Test.YtbkpgpaanhfjfaaWiY
namespace Go.Proofs.Ytbkpgpaanhfjfaa
open Go.RowKit Go.Sort K
/-- Have both the same? -/
noncomputable def smW (s : Cfg) (L : List WV) (s2 : Cfg) (L2 : List WV) : Bool := eqA (s, L) (s2, L2)
theorem smW_f {s s2 : Cfg} {L L2 : List WV} (h : ¬ s = s2) : smW s L s2 L2 = false := eqA_f (fun e => h (by simp only [Prod.mk.injEq] at e; exact e.1))
theorem smW_t {s : Cfg} {L L2 : List WV} : smW s L s L2 = eqA L L2 := by
  by_cases h : L = L2
  · rw [eqA_t h]
    exact eqA_t (by rw [h])
  · rw [eqA_f h]
    exact eqA_f (fun e => h (by simp only [Prod.mk.injEq] at e; exact e.2))
theorem smW_r {s : Cfg} {L : List WV} : smW s L s L = true := eqA_t rfl
theorem smW_c (s s2 : Cfg) (L L2 : List WV) : smW s L s2 L2 = smW s2 L2 s L := by
  by_cases h : (s, L) = (s2, L2)
  · exact (eqA_t h).trans (eqA_t h.symm).symm
  · exact (eqA_f h).trans (eqA_f (fun e => h e.symm)).symm
end Go.Proofs.Ytbkpgpaanhfjfaa
