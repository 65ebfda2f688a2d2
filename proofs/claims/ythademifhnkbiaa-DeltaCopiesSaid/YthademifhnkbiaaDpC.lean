/- The walk over the reference's (*Store).one where it turns nothing. -/
import Derived.Test.YthademifhnkbiaaDpB
namespace Go.Proofs.Ythademifhnkbiaa
open Go.RowKit K
section
variable {w : World} {B r : Nat} {most : Int} {L : List SV} {G : Nat → Prop}
def ROne (w : World) (B r : Nat) (most : Int) (G : Nat → Prop) (s : Sn) (L' : List SV) (e : Ending) (w' : World) : Prop := e = .returned (.agg s.cells) ∧ RsTo w B r most L' G w'
theorem ofP_none {x : ByteArray} {i : Int} (h : OfP x L i) (hf : sfind x L = none) : i = -1 := by
  rcases h with ⟨h, _⟩ | ⟨_, _, _, _, _, _, h, _⟩
  · exact h
  · rw [hf] at h; cases h
theorem ofP_some {x : ByteArray} {i : Int} {u : SV} (h : OfP x L i) (hf : sfind x L = some u) : ∃ pre post, L = pre ++ u :: post ∧ i = pre.length ∧ u.x.name = x ∧ ∀ v', sset x v' L = pre ++ v' :: post := by
  rcases h with ⟨_, h⟩ | ⟨pre, v, post, h1, h2, h3, h4, h5⟩
  · rw [hf] at h; cases h
  · rw [hf] at h4
    cases h4
    exact ⟨pre, post, h1, h2, h3, h5⟩
set_option maxHeartbeats 1000000 in
theorem rone_full (h : RsIs w B r most L G) (owner : Int) (x : Smp) (hf : sfind x.name L = none) (hl : L.length ≤ 1000000) (hfull : most ≤ (L.length : Int)) :
    Calls Try.prog 39 #[.pointer (some ⟨r, 0, none⟩), .int .i64 owner, .agg x.cells] w (ROne w B r most G ⟨x, 4, false, 0⟩ L) := by
  have HT := Lib.hid (fun w' => RsTo.same h (w' := w'))
  have hw : RsIs (oneW w x) B r most L G := h.new (((Below.refl _ _).alloc (Nat.le_refl _) _).alloc (by simp) _)
  have hof := rof_any hw x.name hl
  obtain ⟨a, c, hb, -, -, -⟩ := h.shape
  have c0 : w.cell? ⟨r, 0, none⟩ = some (.slice a L.length c) := by rw [cell_of_row _ _ _ _ _ _ hb]; rfl
  have c1 : w.cell? ⟨r, 1, none⟩ = some (.int .i64 most) := by rw [cell_of_row _ _ _ _ _ _ hb]; rfl
  have hr1 : r < w.heap.size := h.lt r h.mem
  have hr2 : r < w.heap.size + 1 := by omega
  have hr3 : r < w.heap.size + 1 + 1 := by omega
  obtain ⟨n, v, t, cc⟩ := x
  unfold oneW at hof
  simp only [Smp.cells] at hof ⊢
  have HOF := Lib.hid hof
  have HFN := Lib.hid hf
  clear h hw hof hb hf
  go_enter Try.func39, Try.ntmps39
  go_wp2_with fail
  refine HOF.out.mono ?_
  rintro e w1 ⟨i, rfl, hi, rfl⟩
  obtain rfl := ofP_none hi HFN.out
  clear hi
  go_wp2
  go_quiet (fail)
  go_wp2
  clear c0 c1
  go_returns
  refine ⟨rfl, HT.out _ ?_⟩
  repeat' (first | (with_reducible refine below_drewN ?_ _) | go_grown)
set_option maxHeartbeats 1000000 in
theorem rone_late (h : RsIs w B r most L G) (owner : Int) (x : Smp) (u : SV) (hf : sfind x.name L = some u) (hl : L.length ≤ 1000000) (hle : x.time ≤ u.x.time) (sn : Sn) (hsn : sn = if x.time < u.x.time then ⟨x, 2, false, 0⟩ else ⟨x, 3, false, 0⟩) :
    Calls Try.prog 39 #[.pointer (some ⟨r, 0, none⟩), .int .i64 owner, .agg x.cells] w (ROne w B r most G sn L) := by
  have HT := Lib.hid (fun w' => RsTo.same h (w' := w'))
  have hw : RsIs (oneW w x) B r most L G := h.new (((Below.refl _ _).alloc (Nat.le_refl _) _).alloc (by simp) _)
  have hof := rof_any hw x.name hl
  obtain ⟨a, c, hb, -, hr, -⟩ := h.shape
  have c0 : w.cell? ⟨r, 0, none⟩ = some (.slice a L.length c) := by rw [cell_of_row _ _ _ _ _ _ hb]; rfl
  have hr1 : r < w.heap.size := h.lt r h.mem
  have hr2 : r < w.heap.size + 1 := by omega
  have hr3 : r < w.heap.size + 1 + 1 := by omega
  obtain ⟨n, v, t, cc⟩ := x
  unfold oneW at hof
  simp only [Smp.cells] at hof hle ⊢
  have HOF := Lib.hid hof
  have HFN := Lib.hid hf
  have HR := Lib.hid hr
  have HSN := Lib.hid hsn
  clear h hw hof hb hf hr hsn
  go_enter Try.func39, Try.ntmps39
  go_wp2_with fail
  refine HOF.out.mono ?_
  rintro e w1 ⟨i, rfl, hi, rfl⟩
  obtain ⟨pre, post, he, rfl, -, -⟩ := ofP_some hi HFN.out
  have hk : pre.length < L.length := by rw [he]; simp
  obtain ⟨b, off, rfl, hbl, hq⟩ := on_cells HR.out hk
  have hu : L[pre.length] = u := by simp [he]
  rw [hu] at hq
  have q1 := hq 1 _ (by omega) rfl
  have q2 := hq 2 _ (by omega) rfl
  have q3 := hq 3 _ (by omega) rfl
  have q4 := hq 4 _ (by omega) rfl
  have q5 := hq 5 _ (by omega) rfl
  have q6 := hq 6 _ (by omega) rfl
  have hb2 : b < w.heap.size + 1 := by omega
  have hb3 : b < w.heap.size + 1 + 1 := by omega
  have hb4 : b < w.heap.size + 1 + 1 + 1 := by omega
  clear hq hu he hi HR HFN HOF
  obtain ⟨⟨n', v', t', c'⟩, live, ow⟩ := u
  simp only [] at hle q1 q2 q3 q4 q5 q6
  generalize pre.length = k at hk q1 q2 q3 q4 q5 q6
  by_cases hlt : t < t'
  · have HS := Lib.hid (show sn = _ from HSN.out.trans (if_pos hlt))
    go_wp2
    clear c0 q1 q2 q3 q4 q5 q6
    go_returns
    refine ⟨by rw [HS.out]; rfl, HT.out _ ?_⟩
    repeat' (first | (with_reducible refine below_drewN ?_ _) | go_grown)
  · have HS := Lib.hid (show sn = _ from HSN.out.trans (if_neg hlt))
    clear HSN
    obtain rfl : t = t' := by omega
    go_wp2
    clear c0 q1 q2 q3 q4 q5 q6
    go_returns
    refine ⟨by rw [HS.out]; rfl, HT.out _ ?_⟩
    repeat' (first | (with_reducible refine below_drewN ?_ _) | go_grown)
end
end Go.Proofs.Ythademifhnkbiaa
