/- Do both nets look the same: the walk. -/
import Derived.Test.YtepdnmpcccgcaaaNtO
namespace Go.Proofs.Ytepdnmpcccgcaaa
open Go.RowKit K Go.Shelf
attribute [local go_sem] Oper.semAt_some
theorem rnd_inv {W7 : World} {kb : Nat} (hkb : kb < W7.heap.size) (o : Obj) : RndInv W7.heap.size (fun W => Only (· = kb) W7 W ∧ W.heap[kb]? = some o) :=
  ⟨fun W W' h hb => ⟨h.1.trans (G := fun _ => False) (Only.of_new hb) (fun _ _ h => h.elim), (hb.block _ (Array.getElem?_eq_some_iff.1 h.2).1).trans h.2⟩,
   fun W l o o' h hl h1 h2 => ⟨h.1.trans (G := fun k => k = l) ⟨rfl, rfl, rfl, by simp, fun k hk hn => World.putObj_heap_other hn⟩ (fun k hk e => by omega), (World.putObj_heap_other (by omega)).trans h.2⟩⟩
theorem wp_rangeFunc_pairs_b {g : Operand} {p1 p2 : Tmp} {assign body : Code} {id : Nat} {Q : Exit → Act → World → Prop} {a : Act} {w : World} {Bh Mh : Nat} {kvs : List (Int × Value)} {L : List (Int × ByteArray)}
    (hg : a.eval g = .func (.func 48) #[] #[.pointer (some ⟨Bh, 0, none⟩)])
    (hB : w.heap[Bh]? = some (.cells #[.map (some Mh)] 75 (0, 0))) (hM : MapAt iEnc w Mh kvs) (hp : kvs.Perm (L.map idv)) (hs : (L.map (·.1)).Pairwise (· < ·)) (hwf : ∀ p ∈ L, (Lit.int .i64 p.1).wf = true) (hlen : L.length ≤ 1000000)
    (I : Nat → World → Prop) (C : Nat → Prop) (hI : ∀ k, RndInv w.heap.size (I k)) (h0 : I 0 w) (a₁ : Int → ByteArray → Act)
    (hassign : ∀ (l : Nat) (x : Int) (y : ByteArray) (W : World) (K : Act → World → Prop), K (a₁ x y) W → assign.wpIn (Fence.wide.inRound l) 7 Try.prog (Exit.then K (fun _ _ _ => False)) { tmps := (a.tmps.setIfInBounds p1 (.int .i64 x)).setIfInBounds p2 (.string y), defers := [] } W)
    (hbody : ∀ (l k : Nat) (x : Int) (y : ByteArray) (W : World), L[k]? = some (x, y) → w.heap.size ≤ l → I k W → body.wpIn (Fence.wide.inRound l) 7 Try.prog (prPost w.heap.size Bh Mh I (fun c W => c = .exit id ∧ ∃ k, C k ∧ I k W) (k + 1) W) (a₁ x y) W)
    (hdone : ∀ (D k : Nat) (W : World), w.heap.size ≤ D → I k W → (k = L.length ∨ C k) → W.heap[D]? = some (.deferred (some [])) → Q .normal { a with defers := { target := .collected D, args := #[] } :: a.defers } W) :
    (Code.rangeFunc g #[p1, p2] assign body).wp Try.prog (Exit.inBlock id Q) a w := by
  refine wp_rangeFunc_pairs hg hB hM hp hs hwf hlen I (fun c W => c = .exit id ∧ ∃ k, C k ∧ I k W) hI (fun c => ⟨fun W W' h hb => ?_, fun W l o o' h hl h1 h2 => ?_⟩) h0 a₁ hassign hbody (fun D W hD h hK => hdone D _ W hD h (.inl rfl) hK) (fun D c W hD h hK => ?_)
  · obtain ⟨e, k, hc, hi⟩ := h
    exact ⟨e, k, hc, (hI k).new _ _ hi hb⟩
  · obtain ⟨e, k, hc, hi⟩ := h
    exact ⟨e, k, hc, (hI k).put _ _ _ _ hi hl h1 h2⟩
  · obtain ⟨rfl, k, hc, hi⟩ := h
    refine wp_exit ?_
    show (if id = id then _ else _)
    rw [if_pos rfl]
    exact hdone D k W hD hi (.inr hc) hK
end Go.Proofs.Ytepdnmpcccgcaaa
