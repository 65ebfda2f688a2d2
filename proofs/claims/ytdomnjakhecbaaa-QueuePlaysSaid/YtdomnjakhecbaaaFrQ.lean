/- A frame that came in. -/
import Derived.Test.YtdomnjakhecbaaaFrB
import Derived.Test.YtdomnjakhecbaaaFit
import Derived.WideShapes
namespace Go.Proofs.Ytdomnjakhecbaaa
open Go.RowKit K
theorem list_one {α : Type} {cs : List α} (h : cs.length = 5) : ∃ a b c d e, cs = [a, b, c, d, e] := by
  match cs, h with
  | [a, b, c, d, e], _ => exact ⟨a, b, c, d, e, rfl⟩
theorem c9 : Try.prog.cellsOf 9 = 1 := by kernel_rfl
theorem c2_ : Try.prog.cellsOf 2 = 1 := by kernel_rfl
theorem c4_ : Try.prog.cellsOf 4 = 1 := by kernel_rfl
theorem c22 : Try.prog.cellsOf 26 = 1 := by kernel_rfl
theorem c23 : Try.prog.cellsOf 30 = 1 := by kernel_rfl
theorem c30 : Try.prog.cellsOf 70 = 5 := by kernel_rfl
theorem c25 : Try.prog.cellsOf 38 = 3 := by kernel_rfl
theorem b30 : Try.prog.bytesOf 70 = 48 := by kernel_rfl
theorem fit_rec {w : World} {n : Nat} {cs : List Value} (h : Fit Try.prog w n 70 cs) : ∃ r : Rec, cs = r.cells.toList ∧ RecFit r := by
  obtain ⟨m, hl, hf⟩ := fit_struct h Try.underlying70
  rw [c30] at hl
  obtain ⟨a, b, c, d, e, rfl⟩ := list_one hl
  have h0 := hf 0 _ rfl
  have h1 := hf 1 _ rfl
  have h2 := hf 2 _ rfl
  have h3 := hf 3 _ rfl
  have h4 := hf 4 _ rfl
  simp only [List.getElem_toArray, List.getElem_cons_zero, List.getElem_cons_succ, c9, c2_, c4_, List.drop_zero, List.drop_succ_cons, List.take_succ_cons, List.take_zero] at h0 h1 h2 h3 h4
  obtain ⟨s, e0, w0⟩ := fit_string h0 Try.underlying9
  obtain ⟨z1, e1, w1⟩ := fit_int h1 Try.underlying2
  obtain ⟨z2, e2, w2⟩ := fit_int h2 Try.underlying2
  obtain ⟨z3, e3, w3⟩ := fit_int h3 Try.underlying2
  obtain ⟨b4, e4⟩ := fit_bool h4 Try.underlying4
  simp only [List.cons.injEq, and_true] at e0 e1 e2 e3 e4
  subst e0 e1 e2 e3 e4
  exact ⟨⟨s, z1, z2, z3, b4⟩, rfl, by simp only; omega, wf64 w1, wf64 w2, wf64 w3⟩
theorem fit_recs {w : World} {n : Nat} {cs : List Value} (h : Fit Try.prog w n 30 cs) :
    ∃ (a : Option Addr) (cap : Nat) (xs : List Rec), cs = [.slice a xs.length cap] ∧ xs.length ≤ cap ∧ cap ≤ 9223372036854775807 ∧ (a = none → cap = 0) ∧ xs.length * 48 ≤ 140737488351232 ∧ (∀ r ∈ xs, RecFit r) ∧ Rd w a (rcf xs) := by
  have := fit_slice (fun r : Rec => r.cells.toList) RecFit h Try.underlying30 (fun m x _ hx => fit_rec hx)
  rw [b30] at this
  exact this
set_option maxRecDepth 100000 in
open Go.WideShapes in
theorem open_frame {W : World} {base n : Nat} {v : Value} (ok : Value.okWide Try.prog W .any base 38 v) (h : Fit Try.prog W n 38 v.cells.toList) :
    ∃ q win a c xs, v = frv q win (.slice a (xs : List Rec).length c) ∧ xs.length ≤ 9223372036854775807 ∧ (∀ x ∈ xs, RecFit x) ∧ Rd W a (rcf xs) := by
  obtain ⟨cs, rfl, hsz⟩ := okWide_struct Try.underlying38 ok
  rw [c25] at hsz
  obtain ⟨m, hl, hf⟩ := fit_struct h Try.underlying38
  obtain ⟨l⟩ := cs
  match l, hsz with
  | [a, b, c], _ =>
    have h0 := hf 0 _ rfl
    have h1 := hf 1 _ rfl
    have h2 := hf 2 _ rfl
    simp only [List.getElem_toArray, List.getElem_cons_zero, List.getElem_cons_succ, Value.cells, c22, c2_, c23, List.drop_zero, List.drop_succ_cons, List.take_succ_cons, List.take_zero] at h0 h1 h2
    obtain ⟨q, e0, w0⟩ := fit_int h0 Try.underlying26
    obtain ⟨win, e1, w1⟩ := fit_int h1 Try.underlying2
    obtain ⟨ad, cap, xs, e2, k1, k2, k3, k4, k5, k6⟩ := fit_recs h2
    simp only [List.cons.injEq, and_true] at e0 e1 e2
    subst e0 e1 e2
    exact ⟨q, win, ad, cap, xs, rfl, by omega, k5, k6⟩
set_option maxRecDepth 100000 in
open Go.WideShapes in
/-- Besides: in which range its number and its window lie. -/
theorem open_frame2 {W : World} {base n : Nat} {v : Value} (ok : Value.okWide Try.prog W .any base 38 v) (h : Fit Try.prog W n 38 v.cells.toList) :
    ∃ q win a c xs, v = frv q win (.slice a (xs : List Rec).length c) ∧ xs.length ≤ 9223372036854775807 ∧ (∀ x ∈ xs, RecFit x) ∧ Rd W a (rcf xs) ∧ 0 ≤ q ∧ q ≤ 18446744073709551615 ∧ -9223372036854775808 ≤ win ∧ win ≤ 9223372036854775807 := by
  obtain ⟨cs, rfl, hsz⟩ := okWide_struct Try.underlying38 ok
  rw [c25] at hsz
  obtain ⟨m, hl, hf⟩ := fit_struct h Try.underlying38
  obtain ⟨l⟩ := cs
  match l, hsz with
  | [a, b, c], _ =>
    have h0 := hf 0 _ rfl
    have h1 := hf 1 _ rfl
    have h2 := hf 2 _ rfl
    simp only [List.getElem_toArray, List.getElem_cons_zero, List.getElem_cons_succ, Value.cells, c22, c2_, c23, List.drop_zero, List.drop_succ_cons, List.take_succ_cons, List.take_zero] at h0 h1 h2
    obtain ⟨q, e0, w0⟩ := fit_int h0 Try.underlying26
    obtain ⟨win, e1, w1⟩ := fit_int h1 Try.underlying2
    obtain ⟨ad, cap, xs, e2, k1, k2, k3, k4, k5, k6⟩ := fit_recs h2
    simp only [List.cons.injEq, and_true] at e0 e1 e2
    subst e0 e1 e2
    exact ⟨q, win, ad, cap, xs, rfl, by omega, k5, k6, (wfu64 w0).1, (wfu64 w0).2, (wf64 w1).1, (wf64 w1).2⟩
end Go.Proofs.Ytdomnjakhecbaaa
