/- Chapter 18: begin, and acts in memory. -/
import Derived.Test.YtbkpgpaanhfjfaaWiM
import Derived.Test.YtbkpgpaanhfjfaaFit
import Derived.OwnWalk
namespace Go.Proofs.Ytbkpgpaanhfjfaa
open Go.RowKit Go.Sort K
theorem rnew_any (w : World) (len lat most : Int) : Calls Try.prog 26 #[.int .i64 len, .int .i64 lat, .int .i64 most] w fun e w' => (∃ p, e = .returned (.pointer (some p))) ∧ Below w.heap.size w w' := by
  go_enter Try.func26, Try.ntmps26
  go_wp2
  go_ret
  exact ⟨⟨_, rfl⟩, (Below.refl _ _).alloc (Nat.le_refl _) _⟩
def BegP (w : World) (len lat most : Int) (e : Ending) (w' : World) : Prop := ∃ g F p, e = .returned (.tuple #[.pointer (some ⟨g, 0, none⟩), .pointer (some p), .bool true]) ∧ WinIs w' w.heap.size g (cfg0 len lat most) [] F ∧ Below w.heap.size w w'
set_option maxHeartbeats 1000000 in
theorem begin_any (w : World) (len lat most : Int) (hm : MayW len lat most) : Calls Try.prog 10 #[.int .i64 len, .int .i64 lat, .int .i64 most] w (BegP w len lat most) := by
  go_enter Try.func10, Try.ntmps10
  go_wp2_with fail
  refine (new_any w len lat most hm).mono ?_
  rintro e w1 ⟨g, F, rfl, hw, hb⟩
  have HW := Lib.hid hw
  have HB := Lib.hid hb
  clear hw hb
  go_wp2_with fail
  refine (rnew_any w1 len lat most).mono ?_
  rintro e w2 ⟨⟨p, rfl⟩, hb⟩
  have HF := Lib.hid (show BegP w len lat most (.returned (.tuple #[.pointer (some ⟨g, 0, none⟩), .pointer (some p), .bool true])) w2 from ⟨g, F, p, rfl, HW.out.new hb, HB.out.trans (hb.mono HB.out.size)⟩)
  clear hb
  go_wp2
  refine bodyPost_ret (results_tmp3 rfl _ _ _) rfl ?_
  exact HF.out
structure ActR where
  kind : Int
  n : Int
  nm : List UInt8
  time : Int
  inc : Int
  rst : Bool
def ActR.cells (x : ActR) : List Value := [.int .i64 x.kind, .int .i64 x.n, encStr x.nm, .int .i64 x.time, .int .i64 x.inc, .bool x.rst]
def ActR.Q (x : ActR) : Prop := (-9223372036854775808 ≤ x.n ∧ x.n ≤ 9223372036854775807) ∧ x.nm.length ≤ 140737488351232 ∧ (-9223372036854775808 ≤ x.time ∧ x.time ≤ 9223372036854775807) ∧ (-9223372036854775808 ≤ x.inc ∧ x.inc ≤ 9223372036854775807)
def ActsM (w : World) (l : List ActR) (a : Option Addr) : Prop := (∀ x ∈ l, x.Q) ∧ Rd w a (l.flatMap ActR.cells)
theorem acts_at {w : World} {l : List ActR} {a : Option Addr} (h : ActsM w l a) {k : Nat} (hk : k < l.length) :
    ∃ b off, a = some ⟨b, off, none⟩ ∧ b < w.heap.size ∧ l[k].Q ∧ w.cell? ⟨b, off + k * 6, none⟩ = some (.int .i64 l[k].kind) ∧ w.cell? ⟨b, off + k * 6 + 1, none⟩ = some (.int .i64 l[k].n) ∧ w.cell? ⟨b, off + k * 6 + 2, none⟩ = some (encStr l[k].nm) ∧ w.cell? ⟨b, off + k * 6 + 3, none⟩ = some (.int .i64 l[k].time) ∧ w.cell? ⟨b, off + k * 6 + 4, none⟩ = some (.int .i64 l[k].inc) ∧ w.cell? ⟨b, off + k * 6 + 5, none⟩ = some (.bool l[k].rst) := by
  obtain ⟨hq, hr⟩ := h
  have hy : l[k]? = some l[k] := List.getElem?_eq_getElem hk
  have hg : ∀ j v, j < 6 → l[k].cells[j]? = some v → (l.flatMap ActR.cells)[6 * k + j]? = some v := fun j v hj hv => (flat_get _ 6 (fun _ => rfl) l k j _ hy hj).trans hv
  obtain ⟨b, off, rfl, hb, h0⟩ := hr.at (hg 0 _ (by omega) rfl)
  have ha : ∀ j v, j < 6 → l[k].cells[j]? = some v → w.cell? ⟨b, off + k * 6 + j, none⟩ = some v := fun j v hj hv => by
    obtain ⟨b', off', e, -, h1⟩ := hr.at (hg j v hj hv)
    cases e
    rw [← h1]; congr 2; omega
  exact ⟨b, off, rfl, hb, hq _ (List.getElem_mem hk), by simpa using ha 0 _ (by omega) rfl, ha 1 _ (by omega) rfl, ha 2 _ (by omega) rfl, ha 3 _ (by omega) rfl, ha 4 _ (by omega) rfl, ha 5 _ (by omega) rfl⟩
theorem c9d : Try.prog.cellsOf 9 = 1 := by kernel_rfl
theorem c3d : Try.prog.cellsOf 3 = 1 := by kernel_rfl
theorem c2d : Try.prog.cellsOf 2 = 1 := by kernel_rfl
theorem c4d : Try.prog.cellsOf 4 = 1 := by kernel_rfl
theorem cGain : Try.prog.cellsOf 37 = 4 := by kernel_rfl
theorem cAct : Try.prog.cellsOf 39 = 6 := by kernel_rfl
theorem list6 {α : Type} {cs : List α} (h : cs.length = 6) : ∃ a b c d e f, cs = [a, b, c, d, e, f] := by
  match cs, h with
  | [a, b, c, d, e, f], _ => exact ⟨a, b, c, d, e, f, rfl⟩
theorem i64_wf {z : Int} (h : (Lit.int .i64 z).wf = true) : -9223372036854775808 ≤ z ∧ z ≤ 9223372036854775807 := by
  simpa [Lit.wf, IntKind.min, IntKind.max, IntKind.signed, IntKind.bits] using h
theorem fit_act {w : World} {n : Nat} {cs : List Value} (h : Fit Try.prog w n 39 cs) : ∃ y : ActR, cs = y.cells ∧ y.Q := by
  obtain ⟨m, hl, hf⟩ := fit_struct h Try.underlying39
  rw [cAct] at hl
  obtain ⟨a, b, c, d, e, f, rfl⟩ := list6 hl
  have h0 := hf 0 _ rfl
  have h1 := hf 1 _ rfl
  have h2 := hf 2 _ rfl
  simp only [List.getElem_toArray, List.getElem_cons_zero, List.getElem_cons_succ, c3d, c2d, cGain, List.drop_zero, List.drop_succ_cons, List.take_succ_cons, List.take_zero] at h0 h1 h2
  obtain ⟨z0, e0, -⟩ := fit_int h0 Try.underlying3
  obtain ⟨z1, e1, w1⟩ := fit_int h1 Try.underlying2
  obtain ⟨m2, -, hf2⟩ := fit_struct h2 Try.underlying37
  have k0 := hf2 0 _ rfl
  have k1 := hf2 1 _ rfl
  have k2 := hf2 2 _ rfl
  have k3 := hf2 3 _ rfl
  simp only [List.getElem_toArray, List.getElem_cons_zero, List.getElem_cons_succ, c9d, c2d, c4d, List.drop_zero, List.drop_succ_cons, List.take_succ_cons, List.take_zero] at k0 k1 k2 k3
  obtain ⟨s, e2, w2⟩ := fit_string k0 Try.underlying9
  obtain ⟨z3, e3, w3⟩ := fit_int k1 Try.underlying2
  obtain ⟨z4, e4, w4⟩ := fit_int k2 Try.underlying2
  obtain ⟨b5, e5⟩ := fit_bool k3 Try.underlying4
  simp only [List.cons.injEq, and_true] at e0 e1 e2 e3 e4 e5
  subst e0 e1 e2 e3 e4 e5
  exact ⟨⟨z0, z1, s.data.toList, z3, z4, b5⟩, rfl, i64_wf w1, by show s.data.toList.length ≤ _; rw [Array.length_toList]; exact w2, i64_wf w3, i64_wf w4⟩
set_option maxRecDepth 100000 in
open Go.WideShapes in
theorem open_acts {W : World} {base n : Nat} {v : Value} (ok : Value.okWide Try.prog W .any base 22 v) (h : Fit Try.prog W n 22 v.cells.toList) :
    ∃ a c l, v = .slice a (l : List ActR).length c ∧ ActsM W l a ∧ l.length ≤ 9223372036854775807 := by
  obtain ⟨a0, len, cap, rfl⟩ := okWide_slice Try.underlying22 ok
  obtain ⟨a, c, ys, e, h1, h2, h3, -, h5, h6⟩ := fit_slice ActR.cells ActR.Q h Try.underlying22 (fun m x _ hx => fit_act hx)
  simp only [Value.cells, List.cons.injEq, and_true, Value.slice.injEq] at e
  obtain ⟨rfl, rfl, rfl⟩ := e
  exact ⟨a0, cap, ys, rfl, ⟨h5, h6⟩, by omega⟩
end Go.Proofs.Ytbkpgpaanhfjfaa
