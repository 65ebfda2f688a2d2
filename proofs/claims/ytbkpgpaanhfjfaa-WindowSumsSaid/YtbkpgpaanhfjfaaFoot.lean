/- What a call may turn: nothing of what was there but the blocks of a footprint. -/
import Derived.Test.YtbkpgpaanhfjfaaApp
import Derived.Deep.Draws
namespace Go.Proofs.Ytbkpgpaanhfjfaa.K
open Go.RowKit
/-- w' is w with new blocks, and with turns of blocks in F alone. -/
structure Only (F : Nat → Prop) (w w' : World) : Prop where
  os : w'.os = w.os
  tape : w'.tape = w.tape
  output : w'.output = w.output
  size : w.heap.size ≤ w'.heap.size
  block : ∀ k, k < w.heap.size → ¬ F k → w'.heap[k]? = w.heap[k]?
variable {F G : Nat → Prop} {w w1 w2 : World}
theorem Only.refl (F : Nat → Prop) (w : World) : Only F w w := ⟨rfl, rfl, rfl, Nat.le_refl _, fun _ _ _ => rfl⟩
theorem Only.mono (h : Only F w w1) (hF : ∀ k, k < w.heap.size → F k → G k) : Only G w w1 := ⟨h.os, h.tape, h.output, h.size, fun k hk hn => h.block k hk (fun hf => hn (hF k hk hf))⟩
theorem Only.trans (h : Only F w w1) (k : Only G w1 w2) (hG : ∀ k, k < w.heap.size → G k → F k) : Only F w w2 :=
  ⟨k.os.trans h.os, k.tape.trans h.tape, k.output.trans h.output, Nat.le_trans h.size k.size, fun i hi hn => (k.block i (Nat.lt_of_lt_of_le hi h.size) (fun hg => hn (hG i hi hg))).trans (h.block i hi hn)⟩
theorem Only.trans' (h : Only F w w1) (k : Only F w1 w2) : Only F w w2 := h.trans k (fun _ _ h => h)
theorem Only.of_below {B : Nat} (h : Below B w w1) (hB : ∀ k, k < w.heap.size → B ≤ k → F k) : Only F w w1 :=
  ⟨h.os, h.tape, h.output, h.size, fun k hk hn => h.block k (Nat.lt_of_not_le fun hle => hn (hB k hk hle))⟩
theorem Only.of_new (h : Below w.heap.size w w1) : Only F w w1 := Only.of_below h (fun k hk hle => absurd hk (by omega))
theorem Only.below {B : Nat} (h : Only F w w1) (hB : B ≤ w.heap.size) (hF : ∀ k, F k → B ≤ k) : Below B w w1 :=
  ⟨h.os, h.tape, h.output, h.size, fun k hk => h.block k (Nat.lt_of_lt_of_le hk hB) (fun hf => absurd (hF k hf) (by omega))⟩
theorem Only.alloc (h : Only F w w1) (o : Obj) : Only F w (w1.alloc o) := h.trans (Only.of_new (F := F) ((Below.refl _ _).alloc (Nat.le_refl _) o)) (fun _ _ h => h)
theorem Only.drew (h : Only F w w1) : Only F w w1.drew := ⟨h.os, h.tape, h.output, h.size, h.block⟩
theorem Only.drewN (h : Only F w w1) (n : Nat) : Only F w (w1.drewN n) := ⟨h.os, h.tape, h.output, h.size, h.block⟩
theorem Only.setCell (h : Only F w w1) (p : Addr) (u : Value) (hp : p.block < w.heap.size → F p.block) : Only F w (w1.setCell p u) :=
  h.trans (G := fun k => k = p.block) ⟨rfl, rfl, rfl, by simp, fun k _ hn => Below.heap_setCell w1 p u k hn⟩ (fun k hk e => by subst e; exact hp hk)
theorem Only.setBlock (h : Only F w w1) (b : Nat) (o : Obj) (hp : b < w.heap.size → F b) : Only F w (ChangeMaps.setBlock w1 b o) :=
  h.trans (G := fun k => k = b) ⟨rfl, rfl, rfl, by simp [ChangeMaps.setBlock], fun k _ hn => by
    show (w1.heap.setIfInBounds b o)[k]? = _
    rw [Array.getElem?_setIfInBounds, if_neg (fun e => hn e.symm)]⟩ (fun k hk e => by subst e; exact hp hk)
theorem Only.grown {row : Option Nat} (h : Only F w w1) (hg : w1.grownBy w2 row) (hr : ∀ k, row = some k → k < w.heap.size → F k) : Only F w w2 :=
  h.trans (G := fun k => row = some k) ⟨hg.os, hg.tape, hg.output, hg.size, fun k hk hn => hg.block k hk (fun e => hn e.symm)⟩ (fun k hk e => hr k e hk)
theorem Only.cell (h : Only F w w1) {p : Addr} {v : Value} (hc : w.cell? p = some v) (hn : ¬ F p.block) : w1.cell? p = some v :=
  (World.cell?_of_block (h.block p.block (World.block_lt_of_cell? w p hc) hn)).trans hc
theorem Only.heap (h : Only F w w1) {k : Nat} {o : Obj} (hk : w.heap[k]? = some o) (hn : ¬ F k) : w1.heap[k]? = some o :=
  (h.block k (Array.getElem?_eq_some_iff.1 hk).1 hn).trans hk
theorem Only.rd (h : Only F w w1) {a : Option Addr} {vs : List Value} (hr : Rd w a vs) (hn : ∀ ad, a = some ad → ¬ F ad.block) : Rd w1 a vs := by
  intro k v hv
  obtain ⟨b, off, rfl, hc⟩ := hr k v hv
  exact ⟨b, off, rfl, h.cell hc (hn ⟨b, off, none⟩ rfl)⟩
theorem Only.own {B e size n : Nat} {v : Value} {xs : List Value} (h : Only F w w1) (ho : w.ownsRow B e size v n xs) (hn : ∀ k, v.ownBlock = some k → ¬ F k) : w1.ownsRow B e size v n xs := by
  refine ⟨ho.1, ?_⟩
  rcases ho.2 with h2 | ⟨g, cap, cur, rfl, hb, hg, rest⟩
  · exact .inl h2
  · exact .inr ⟨g, cap, cur, rfl, hb, h.heap hg (hn g rfl), rest⟩
end Go.Proofs.Ytbkpgpaanhfjfaa.K
