/- The walk over (*store.Store).one where it turns the store. -/
import Derived.Test.YthademifhnkbiaaStO
namespace Go.Proofs.Ythademifhnkbiaa
open Go.RowKit K
section
variable {w : World} {B s : Nat} {most : Int} {l : List SV} {F : List Nat}
theorem set6 (w : World) (b : Nat) (a0 a1 a2 a3 a4 a5 x0 x1 x2 x3 x4 x5 : Value) (t : TypeId) (h : w.heap[b]? = some (.cells #[a0, a1, a2, a3, a4, a5] t (0, 0))) :
    ((((((w.setCell ⟨b, 0, none⟩ x0).setCell ⟨b, 1, none⟩ x1).setCell ⟨b, 2, none⟩ x2).setCell ⟨b, 3, none⟩ x3).setCell ⟨b, 4, none⟩ x4).setCell ⟨b, 5, none⟩ x5).heap[b]? = some (.cells #[x0, x1, x2, x3, x4, x5] t (0, 0)) := by
  rw [heap_setCell_same _ _ _ _ _ _ (heap_setCell_same _ _ _ _ _ _ (heap_setCell_same _ _ _ _ _ _ (heap_setCell_same _ _ _ _ _ _ (heap_setCell_same _ _ _ _ _ _ (heap_setCell_same _ _ _ _ _ _ h)))))]
  rfl
/-- The world at the end of a turn. -/
def endW (w : World) (b k : Nat) (A C Z : Obj) (x0 x1 x2 x3 x4 x5 y0 y1 y2 y3 y4 y5 y6 : Value) : World :=
  ((((((((((((((((w.alloc A).alloc C).drewN k).setCell ⟨b, 0, none⟩ x0).setCell ⟨b, 1, none⟩ x1).setCell ⟨b, 2, none⟩ x2).setCell ⟨b, 3, none⟩ x3).setCell ⟨b, 4, none⟩ x4).setCell ⟨b, 5, none⟩ x5).setCell ⟨w.heap.size + 1, 0, none⟩ y0).setCell ⟨w.heap.size + 1, 1, none⟩ y1).setCell ⟨w.heap.size + 1, 2, none⟩ y2).setCell ⟨w.heap.size + 1, 3, none⟩ y3).setCell ⟨w.heap.size + 1, 4, none⟩ y4).setCell ⟨w.heap.size + 1, 5, none⟩ y5).setCell ⟨w.heap.size + 1, 6, none⟩ y6).alloc Z
theorem endW_only (w : World) (b k : Nat) (A C Z : Obj) (x0 x1 x2 x3 x4 x5 y0 y1 y2 y3 y4 y5 y6 : Value) : Only (· = b) w (endW w b k A C Z x0 x1 x2 x3 x4 x5 y0 y1 y2 y3 y4 y5 y6) := by
  have h0 : Only (· = b) w (((w.alloc A).alloc C).drewN k) := (((Only.refl _ _).alloc _).alloc _).drewN _
  have h1 := (((((h0.setCell ⟨b, 0, none⟩ x0 (fun _ => rfl)).setCell ⟨b, 1, none⟩ x1 (fun _ => rfl)).setCell ⟨b, 2, none⟩ x2 (fun _ => rfl)).setCell ⟨b, 3, none⟩ x3 (fun _ => rfl)).setCell ⟨b, 4, none⟩ x4 (fun _ => rfl)).setCell ⟨b, 5, none⟩ x5 (fun _ => rfl)
  have hn : ∀ i, (⟨w.heap.size + 1, i, none⟩ : Addr).block < w.heap.size → (⟨w.heap.size + 1, i, none⟩ : Addr).block = b := fun i h => absurd h (by show ¬ w.heap.size + 1 < w.heap.size; omega)
  exact (((((((h1.setCell _ y0 (hn 0)).setCell _ y1 (hn 1)).setCell _ y2 (hn 2)).setCell _ y3 (hn 3)).setCell _ y4 (hn 4)).setCell _ y5 (hn 5)).setCell _ y6 (hn 6)).alloc Z
theorem endW_at (w : World) (b k : Nat) (A C Z : Obj) (a0 a1 a2 a3 a4 a5 x0 x1 x2 x3 x4 x5 y0 y1 y2 y3 y4 y5 y6 : Value) (t : TypeId) (hb : b < w.heap.size) (h : w.heap[b]? = some (.cells #[a0, a1, a2, a3, a4, a5] t (0, 0))) :
    (endW w b k A C Z x0 x1 x2 x3 x4 x5 y0 y1 y2 y3 y4 y5 y6).heap[b]? = some (.cells #[x0, x1, x2, x3, x4, x5] t (0, 0)) := by
  unfold endW
  have h0 : (((w.alloc A).alloc C).drewN k).heap[b]? = some (.cells #[a0, a1, a2, a3, a4, a5] t (0, 0)) := by
    rw [World.heap_drewN, Below.heap_alloc _ _ b (by simp; omega), Below.heap_alloc _ _ b hb, h]
  have h1 := set6 _ b a0 a1 a2 a3 a4 a5 x0 x1 x2 x3 x4 x5 t h0
  have hne : ∀ i, b ≠ (⟨w.heap.size + 1, i, none⟩ : Addr).block := fun i => by show b ≠ w.heap.size + 1; omega
  rw [Below.heap_alloc _ _ b (by simp; omega), Below.heap_setCell _ _ _ b (hne 6), Below.heap_setCell _ _ _ b (hne 5), Below.heap_setCell _ _ _ b (hne 4), Below.heap_setCell _ _ _ b (hne 3), Below.heap_setCell _ _ _ b (hne 2), Below.heap_setCell _ _ _ b (hne 1), Below.heap_setCell _ _ _ b (hne 0)]
  exact h1
set_option maxHeartbeats 4000000 in
theorem one_chain (h : StIs w B s most l F) (_hB : B ≤ w.heap.size) (owner : Int) (x : Smp) (u : SV) (hf : sfind x.name l = some u) (hgt : u.x.time < x.time) (r : Sn) (hr : r = if u.live = true then ⟨x, 1, true, u.x.val⟩ else ⟨x, 1, false, 0⟩) :
    Calls Try.prog 35 #[.pointer (some ⟨s, 0, none⟩), .int .i64 owner, .agg x.cells] w (OnePost w B s F most r (sset x.name ⟨x, true, owner⟩ l)) := by
  obtain ⟨M, es, h1, rfl, rfl⟩ := h
  obtain ⟨n, v, t, c⟩ := x
  obtain ⟨⟨n', v', t', c'⟩, live, ow⟩ := u
  obtain ⟨b, hf1, hf2⟩ := efind_some hf
  obtain ⟨pre, post, he, hn, hset⟩ := efind_split hf1
  have hw : StAt (oneW w ⟨n, v, t, c⟩) B s M most es := h1.below (D := w.heap.size) (((Below.refl _ _).alloc (Nat.le_refl _) _).alloc (by simp) _) (Nat.le_refl _)
  have hc := h1.2.2.1 (⟨⟨n', v', t', c'⟩, live, ow⟩, b) (by simp [he])
  have hblt : b < w.heap.size := h1.lt b (by rw [he]; simp [sfoot])
  have hcc : ∀ i, w.cell? ⟨b, i, none⟩ = (SV.cells ⟨⟨n', v', t', c'⟩, live, ow⟩)[i]? := fun i => cell_of_row _ _ _ _ _ _ hc
  have hfr : ∀ i, w.frozen? ⟨b, i, none⟩ = false := fun i => frozen_of_row _ _ _ _ _ hc
  have hfin : ∀ w', Only (· = b) w w' → w'.heap[b]? = some (.cells (SV.cells ⟨⟨n, v, t, c⟩, true, owner⟩) 88 (0, 0)) → StTo w B s (sfoot s M es) most (sset n ⟨⟨n, v, t, c⟩, true, owner⟩ (es.map (·.1))) w' := by
    intro w' ho hb
    rw [hset]
    subst he
    refine ⟨sfoot s M (pre ++ (⟨⟨n, v, t, c⟩, true, owner⟩, b) :: post), ⟨M, _, h1.turned ho hn.symm hb, by simp, rfl⟩, ho.mono (fun k _ e => by rw [e]; simp [sfoot]), ?_⟩
    intro k hk
    left
    simpa [sfoot] using hk
  simp only [] at hn
  have c0 := hcc 0
  have c1 := hcc 1
  have c2 := hcc 2
  have c3 := hcc 3
  have c4 := hcc 4
  have c5 := hcc 5
  unfold oneW at hw
  simp only [SV.cells, Smp.cells] at hw hfr c0 c1 c2 c3 c4 c5 hgt ⊢
  have hl := lk _ hw.2.1 n
  rw [hf2] at hl
  have cm := h1.c1
  have hslt : s < w.heap.size := h1.lt s (by simp [sfoot])
  have hslt1 : s < w.heap.size + 1 := by omega
  have hne : (t == t') = false := by rw [beq_eq_false_iff_ne]; omega
  have e2 : b < w.heap.size + 1 := by omega
  have e3 : b < w.heap.size + 1 + 1 := by omega
  have HF := Lib.hid hfin
  simp only [SV.cells] at hc
  have HC := Lib.hid hc
  clear h1 hw hf hf1 hf2 hc he hcc hfin hset hn
  cases live with
  | false =>
    go_enter Try.func35, Try.ntmps35
    go_wp2
    go_quiet (fail)
    go_wp2
    go_quiet (fail)
    go_wp2
    go_quiet (fail)
    go_wp2
    go_quiet (fail)
    go_wp2
    go_returns
    subst hr
    have E1 := endW_only w b
    have E2 := fun k A C Z => endW_at w b k A C Z (.string n') (.int .i64 v') (.int .i64 t') (.bool c') (.bool false) (.int .i64 ow)
    refine ⟨rfl, HF.out _ ?_ ?_⟩
    · skip
      clear E2 HC c0 c1 c2 c3 c4 c5 hl cm hfr HF
      have := fun k A C Z x0 x1 x2 x3 x4 x5 y0 y1 y2 y3 y4 y5 y6 => E1 k A C Z x0 x1 x2 x3 x4 x5 y0 y1 y2 y3 y4 y5 y6
      unfold endW at this
      with_reducible exact this _ _ _ _ _ _ _ _ _ _ _ _ _ _ _ _ _
    · clear E1
      have HE := fun k A C Z x0 x1 x2 x3 x4 x5 y0 y1 y2 y3 y4 y5 y6 => E2 k A C Z x0 x1 x2 x3 x4 x5 y0 y1 y2 y3 y4 y5 y6 _ hblt HC.out
      clear E2 HC c0 c1 c2 c3 c4 c5 hl cm hfr HF
      unfold endW at HE
      refine (HE _ _ _ _ _ _ _ _ _ _ _ _ _ _ _ _ _).trans ?_
      rfl
  | true =>
    go_enter Try.func35, Try.ntmps35
    go_wp2
    go_quiet (fail)
    go_wp2
    go_quiet (fail)
    go_wp2
    go_quiet (fail)
    go_wp2
    go_quiet (fail)
    go_wp2
    go_region
    all_goals (try go_wp2)
    go_returns
    subst hr
    have E1 := endW_only w b
    have E2 := fun k A C Z => endW_at w b k A C Z (.string n') (.int .i64 v') (.int .i64 t') (.bool c') (.bool true) (.int .i64 ow)
    refine ⟨rfl, HF.out _ ?_ ?_⟩
    · refine Only.drew ?_
      clear E2 HC c0 c1 c2 c3 c4 c5 hl cm hfr HF
      have := fun k A C Z x0 x1 x2 x3 x4 x5 y0 y1 y2 y3 y4 y5 y6 => E1 k A C Z x0 x1 x2 x3 x4 x5 y0 y1 y2 y3 y4 y5 y6
      unfold endW at this
      with_reducible exact this _ _ _ _ _ _ _ _ _ _ _ _ _ _ _ _ _
    · clear E1
      have HE := fun k A C Z x0 x1 x2 x3 x4 x5 y0 y1 y2 y3 y4 y5 y6 => E2 k A C Z x0 x1 x2 x3 x4 x5 y0 y1 y2 y3 y4 y5 y6 _ hblt HC.out
      clear E2 HC c0 c1 c2 c3 c4 c5 hl cm hfr HF
      unfold endW at HE
      have hd : ∀ W : World, W.drew.heap = W.heap := fun _ => rfl
      rw [hd]
      refine (HE _ _ _ _ _ _ _ _ _ _ _ _ _ _ _ _ _).trans ?_
      rfl
end
end Go.Proofs.Ythademifhnkbiaa
