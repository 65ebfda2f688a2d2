/- Acts in memory and as they come in; are there few: the walk. -/
import Derived.Test.YtepdnmpcccgcaaaNtL
import Derived.Test.YtepdnmpcccgcaaaFit
namespace Go.Proofs.Ytepdnmpcccgcaaa
open Go.RowKit K
/-- An act. -/
structure ActR where
  kind : Int
  id : Int
  host : ByteArray
  b : List UInt8
structure ActC where
  x : ActR
  a : Option Addr
  c : Nat
def ActC.cells (y : ActC) : List Value := [.int .i64 y.x.kind, .int .i64 y.x.id, .string y.x.host, .slice y.a y.x.b.length y.c]
def ActOk (x : ActR) : Prop := x.b.length ≤ 140737488355328 ∧ x.host.size ≤ 140737488355328
def ActC.Q (w : World) (y : ActC) : Prop := ActOk y.x ∧ Rd w y.a (bv y.x.b)
def ActsM (w : World) (l : List ActR) (a : Option Addr) : Prop := ∃ ys : List ActC, l = ys.map ActC.x ∧ (∀ y ∈ ys, y.Q w) ∧ Rd w a (ys.flatMap ActC.cells)
theorem acts_cells {w : World} {l : List ActR} {a : Option Addr} (h : ActsM w l a) {k : Nat} {x : ActR} (hk : l[k]? = some x) :
    ∃ b off ra rc, a = some ⟨b, off, none⟩ ∧ w.cell? ⟨b, off + k * 4, none⟩ = some (.int .i64 x.kind) ∧ w.cell? ⟨b, off + k * 4 + 1, none⟩ = some (.int .i64 x.id) ∧ w.cell? ⟨b, off + k * 4 + 2, none⟩ = some (.string x.host) ∧ w.cell? ⟨b, off + k * 4 + 3, none⟩ = some (.slice ra x.b.length rc) ∧ b < w.heap.size ∧ Rd w ra (bv x.b) ∧ ActOk x := by
  obtain ⟨ys, rfl, hq, hr⟩ := h
  obtain ⟨y, hy, rfl⟩ : ∃ y, ys[k]? = some y ∧ y.x = x := by
    rw [List.getElem?_map] at hk
    cases hy : ys[k]? with
    | none => rw [hy] at hk; cases hk
    | some y => rw [hy] at hk; exact ⟨y, rfl, by simpa using hk⟩
  have hg : ∀ j v, j < 4 → y.cells[j]? = some v → (ys.flatMap ActC.cells)[4 * k + j]? = some v := fun j v hj hv => (flat_get _ 4 (fun _ => rfl) ys k j _ hy hj).trans hv
  obtain ⟨b, off, rfl, hb, h0⟩ := hr.at (hg 0 _ (by omega) rfl)
  obtain ⟨b', off', e, -, h1⟩ := hr.at (hg 1 _ (by omega) rfl)
  cases e
  obtain ⟨b', off', e, -, h2⟩ := hr.at (hg 2 _ (by omega) rfl)
  cases e
  obtain ⟨b', off', e, -, h3⟩ := hr.at (hg 3 _ (by omega) rfl)
  cases e
  obtain ⟨g1, g2⟩ := hq y (List.mem_of_getElem? hy)
  refine ⟨b, off, y.a, y.c, rfl, ?_, ?_, ?_, ?_, hb, g2, g1⟩
  · rw [← h0]; congr 2; omega
  · rw [← h1]; congr 2; omega
  · rw [← h2]; congr 2; omega
  · rw [← h3]; congr 2; omega
theorem ActsM.below {w w' : World} {l : List ActR} {a : Option Addr} (h : ActsM w l a) (hb : Below w.heap.size w w') : ActsM w' l a := by
  obtain ⟨ys, h1, h2, h3⟩ := h
  exact ⟨ys, h1, fun y hy => ⟨(h2 y hy).1, (h2 y hy).2.below hb (Nat.le_refl _)⟩, h3.below hb (Nat.le_refl _)⟩
def totA (l : List ActR) : Nat := (l.map fun x => x.b.length + x.host.size).sum
def totB (l : List ActR) : Nat := (l.map fun x => x.b.length).sum
theorem totA_succ {l : List ActR} {k : Nat} {x : ActR} (h : l[k]? = some x) : totA (l.take (k + 1)) = totA (l.take k) + (x.b.length + x.host.size) := by
  obtain ⟨hk, rfl⟩ := List.getElem?_eq_some_iff.1 h
  unfold totA
  rw [List.take_succ_eq_append_getElem hk]
  simp only [List.map_append, List.map_cons, List.map_nil, List.sum_append, List.sum_cons, List.sum_nil, Nat.add_zero]
theorem totB_succ {l : List ActR} {k : Nat} {x : ActR} (h : l[k]? = some x) : totB (l.take (k + 1)) = totB (l.take k) + x.b.length := by
  obtain ⟨hk, rfl⟩ := List.getElem?_eq_some_iff.1 h
  unfold totB
  rw [List.take_succ_eq_append_getElem hk]
  simp only [List.map_append, List.map_cons, List.map_nil, List.sum_append, List.sum_cons, List.sum_nil, Nat.add_zero]
theorem totB_le : ∀ l : List ActR, totB l ≤ totA l
  | [] => Nat.le_refl _
  | x :: t => by
    have := totB_le t
    unfold totA totB at *
    simp only [List.map_cons, List.sum_cons]
    omega
theorem totA_take_le (l : List ActR) (k : Nat) : totA (l.take k) ≤ totA l := by
  unfold totA
  have : l = l.take k ++ l.drop k := (List.take_append_drop k l).symm
  conv => rhs; rw [this]
  simp only [List.map_append, List.sum_append]
  omega
def FewA (w : World) (l : List ActR) (mo : Nat) (e : Ending) (w' : World) : Prop :=
  ∃ b, e = .returned (.bool b) ∧ (∃ n, w' = w.drewN n) ∧ (b = true → l.length ≤ mo ∧ totA l ≤ 3000)
set_option maxHeartbeats 1000000 in
set_option maxRecDepth 100000 in
theorem few04_any (w : World) (a : Option Addr) (c : Nat) (l : List ActR) (mo : Nat) (hmo : mo ≤ 100) (hx : ActsM w l a) (_hl : l.length ≤ 9223372036854775807) :
    Calls Try.prog 15 #[.slice a l.length c, .int .i64 mo] w (FewA w l mo) := by
  have HX := Lib.hid hx
  clear hx
  go_enter Try.func15, Try.ntmps15
  go_wp2
  go_loopw [5, 6] (fun n i wr => ∃ k m : Nat, k ≤ l.length ∧ k ≤ mo + 1 ∧ i = .int .i64 k ∧ n = .int .i64 (totA (l.take k) : Nat) ∧ totA (l.take k) ≤ k * 281474976710656 ∧ wr = w.drewN m) (fun _ i _ => mo + 1 - (intOf i).toNat)
  case atStart => exact ⟨0, 0, Nat.zero_le _, by omega, rfl, rfl, by simp [totA], rfl⟩
  case round =>
    obtain ⟨k, m, hk, hk61, rfl, rfl, ht, rfl⟩ := hrel
    by_cases hc : k < l.length
    · by_cases hc2 : k ≤ mo
      · obtain ⟨x, hkx⟩ : ∃ x, l[k]? = some x := ⟨_, List.getElem?_eq_getElem hc⟩
        obtain ⟨b, off, ra, rc, rfl, -, -, c2, c3, hb, -, hok⟩ := acts_cells HX.out hkx
        have HSUM := Lib.hid (totA_succ hkx)
        obtain ⟨hx1, hx2⟩ := hok
        clear hkx
        generalize totA (l.take k) = tk at ht HSUM
        generalize x.b.length = xl at hx1 c3 HSUM
        generalize hhost : x.host = xh at hx2 c2 HSUM
        clear hhost
        have htk : tk ≤ 28428972647776256 := by omega
        go_wp2_with fail
        go_quiet (fail)
        go_wp2
        go_roundw
        case rel => exact ⟨k + 1, _, by omega, by omega, by go_num, by rw [HSUM.out]; go_num, by rw [HSUM.out]; omega, rfl⟩
        case measure => simp [intOf]; omega
      · have hlm : ¬ l.length ≤ mo := by omega
        go_wp2
        all_goals
          go_ret
          refine ⟨_, rfl, ⟨_, rfl⟩, fun h => ?_⟩
          simp at h
          try omega
    · obtain rfl : k = l.length := by omega
      rw [List.take_length] at ht ⊢
      obtain ⟨tt, htt⟩ : ∃ tt, tt = totA l := ⟨_, rfl⟩
      rw [← htt] at ht ⊢
      have HTT := Lib.hid htt
      clear htt
      by_cases h60 : l.length ≤ mo
      · go_wp2
        all_goals
          go_ret
          refine ⟨_, rfl, ⟨_, rfl⟩, fun h => ⟨h60, ?_⟩⟩
          simp at h
          have := HTT.out
          omega
      · go_wp2
        all_goals
          go_ret
          refine ⟨_, rfl, ⟨_, rfl⟩, fun h => ?_⟩
          simp at h
          try omega
theorem c9d : Try.prog.cellsOf 9 = 1 := by kernel_rfl
theorem c3d : Try.prog.cellsOf 3 = 1 := by kernel_rfl
theorem c5d : Try.prog.cellsOf 5 = 1 := by kernel_rfl
theorem cBys : Try.prog.cellsOf 22 = 1 := by kernel_rfl
theorem cAct : Try.prog.cellsOf 41 = 4 := by kernel_rfl
theorem bU8 : Try.prog.bytesOf 5 = 1 := by kernel_rfl
theorem list4 {α : Type} {cs : List α} (h : cs.length = 4) : ∃ a b c d, cs = [a, b, c, d] := by
  match cs, h with
  | [a, b, c, d], _ => exact ⟨a, b, c, d, rfl⟩
theorem fit_act {w : World} {n : Nat} {cs : List Value} (h : Fit Try.prog w n 41 cs) : ∃ y : ActC, cs = y.cells ∧ y.Q w := by
  obtain ⟨m, hl, hf⟩ := fit_struct h Try.underlying41
  rw [cAct] at hl
  obtain ⟨a, b, c, d, rfl⟩ := list4 hl
  have h0 := hf 0 _ rfl
  have h1 := hf 1 _ rfl
  have h2 := hf 2 _ rfl
  have h3 := hf 3 _ rfl
  simp only [List.getElem_toArray, List.getElem_cons_zero, List.getElem_cons_succ, c9d, c3d, cBys, List.drop_zero, List.drop_succ_cons, List.take_succ_cons, List.take_zero] at h0 h1 h2 h3
  obtain ⟨z0, e0, -⟩ := fit_int h0 Try.underlying3
  obtain ⟨z1, e1, -⟩ := fit_int h1 Try.underlying3
  obtain ⟨s, e2, hs⟩ := fit_string h2 Try.underlying9
  obtain ⟨ad, cap, xs, e3, k1, k2, k3, k4, k5⟩ := fit_bytes h3 Try.underlying22 Try.underlying5 bU8
  simp only [List.cons.injEq, and_true] at e0 e1 e2 e3
  subst e0 e1 e2 e3
  exact ⟨⟨⟨z0, z1, s, xs⟩, ad, cap⟩, rfl, ⟨by show xs.length ≤ _; omega, by show s.size ≤ _; omega⟩, k5⟩
set_option maxRecDepth 100000 in
open Go.WideShapes in
theorem open_acts {W : World} {base n : Nat} {v : Value} (ok : Value.okWide Try.prog W .any base 35 v) (h : Fit Try.prog W n 35 v.cells.toList) :
    ∃ a c l, v = .slice a (l : List ActR).length c ∧ ActsM W l a ∧ l.length ≤ 9223372036854775807 := by
  obtain ⟨a0, len, cap, rfl⟩ := okWide_slice Try.underlying35 ok
  obtain ⟨a, c, ys, e, h1, h2, h3, -, h5, h6⟩ := fit_slice ActC.cells (ActC.Q W) h Try.underlying35 (fun m x _ hx => fit_act hx)
  simp only [Value.cells, List.cons.injEq, and_true, Value.slice.injEq] at e
  obtain ⟨rfl, rfl, rfl⟩ := e
  exact ⟨a0, cap, ys.map ActC.x, by rw [List.length_map], ⟨ys, rfl, h5, h6⟩, by rw [List.length_map]; omega⟩
end Go.Proofs.Ytepdnmpcccgcaaa
