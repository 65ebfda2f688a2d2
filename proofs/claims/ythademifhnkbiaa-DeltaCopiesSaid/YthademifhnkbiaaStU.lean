/- What a scrape does to a store, in plain. -/
import Derived.Test.YthademifhnkbiaaStQ
import Derived.Test.YthademifhnkbiaaApp3
namespace Go.Proofs.Ythademifhnkbiaa
open Go.RowKit K
def smf (xs : List Smp) : List Value := xs.flatMap fun x => x.cells.toList
def snf (l : List Sn) : List Value := l.flatMap fun s => s.cells.toList
theorem smf_get {xs : List Smp} {i j : Nat} (h : i < xs.length) (hj : j < 4) : (smf xs)[4 * i + j]? = xs[i].cells.toList[j]? := flat_get _ 4 (fun _ => rfl) xs i j _ (by simp [h]) hj
theorem snf_get {l : List Sn} {i j : Nat} (h : i < l.length) (hj : j < 7) : (snf l)[7 * i + j]? = l[i].cells.toList[j]? := flat_get _ 7 (fun _ => rfl) l i j _ (by simp [h]) hj
theorem snf_length (l : List Sn) : (snf l).length = 7 * l.length := flat_length _ 7 (fun _ => rfl) l
def putS (most owner : Int) : List SV → List Smp → List Sn
  | _, [] => []
  | l, x :: r => oneV most l x :: putS most owner (oneL most owner l x) r
def putL (most owner : Int) (l : List SV) (xs : List Smp) : List SV := xs.foldl (oneL most owner) l
theorem putS_add (most owner : Int) (x : Smp) : ∀ (xs : List Smp) (l : List SV), putS most owner l (xs ++ [x]) = putS most owner l xs ++ [oneV most (putL most owner l xs) x]
  | [], _ => rfl
  | y :: r, l => by
    simp only [List.cons_append, putS, putL, List.foldl_cons]
    rw [putS_add most owner x r]
    rfl
theorem putL_add (most owner : Int) (x : Smp) (xs : List Smp) (l : List SV) : putL most owner l (xs ++ [x]) = oneL most owner (putL most owner l xs) x := by simp [putL]
theorem putS_length (most owner : Int) : ∀ (xs : List Smp) (l : List SV), (putS most owner l xs).length = xs.length
  | [], _ => rfl
  | y :: r, l => by simp [putS, putS_length most owner r]
theorem take_succ {α : Type} (xs : List α) (k : Nat) (h : k < xs.length) : xs.take (k + 1) = xs.take k ++ [xs[k]] := by simp
theorem info_seen : (Try.prog.info? 68).map (fun i => (i.zero, i.size, i.bytes)) = some (some (.agg #[.string ⟨#[]⟩, .int .i64 0, .int .i64 0, .bool false, .int .i64 0, .bool false, .int .i64 0]), 7, 64) := by kernel_rfl
theorem info_parts {P : Program} {e : TypeId} {z : Value} {n m : Nat} (h : (P.info? e).map (fun i => (i.zero, i.size, i.bytes)) = some (some z, n, m)) : ∃ i, P.info? e = some i ∧ i.zero = some z ∧ i.size = n ∧ i.bytes = m := by
  cases hq : P.info? e with
  | none => simp [hq] at h
  | some i => simp [hq] at h; exact ⟨i, rfl, h.1, h.2.1, h.2.2⟩
/-- The first loop of Put. -/
def PutF (w : World) (B s : Nat) (most owner : Int) (l : List SV) (F : List Nat) (xs : List Smp) (k : Nat) (v : Value) (F' : List Nat) (wr : World) : Prop :=
  wr.ownsRow (w.heap.size + 1) 68 7 v k (snf (putS most owner l (xs.take k))) ∧ StIs wr B s most (putL most owner l (xs.take k)) F' ∧ Only (· ∈ F) w wr ∧ (∀ b ∈ F', b ∈ F ∨ w.heap.size + 1 ≤ b) ∧ (∀ b ∈ F, b < w.heap.size) ∧ MapAt sEnc wr w.heap.size [] ∧ ∀ b, v.ownBlock = some b → b ∉ F'
def PutI (w : World) (B s : Nat) (most owner : Int) (l : List SV) (F : List Nat) (xs : List Smp) (k : Nat) (v : Value) (wr : World) : Prop := ∃ F', PutF w B s most owner l F xs k v F' wr
theorem smp_cells {w : World} {a : Option Addr} {xs : List Smp} (hr : Rd w a (smf xs)) {k : Nat} (h : k < xs.length) : ∃ b off, a = some ⟨b, off, none⟩ ∧ b < w.heap.size ∧ w.cell? ⟨b, off + k * 4, none⟩ = some (.string xs[k].name) ∧ w.cell? ⟨b, off + k * 4 + 1, none⟩ = some (.int .i64 xs[k].val) ∧
    w.cell? ⟨b, off + k * 4 + 2, none⟩ = some (.int .i64 xs[k].time) ∧ w.cell? ⟨b, off + k * 4 + 3, none⟩ = some (.bool xs[k].counts) := by
  obtain ⟨b, off, rfl, hb, q0⟩ := hr.at (smf_get (j := 0) h (by omega))
  have q : ∀ j v, j < 4 → xs[k].cells.toList[j]? = some v → w.cell? ⟨b, off + k * 4 + j, none⟩ = some v := fun j v hj hv => by
    obtain ⟨b', off', he, hc⟩ := hr _ _ ((smf_get h hj).trans hv)
    cases he
    rw [← hc]
    congr 2
    omega
  exact ⟨b, off, rfl, hb, by simpa using q 0 _ (by omega) rfl, q 1 _ (by omega) rfl, q 2 _ (by omega) rfl, q 3 _ (by omega) rfl⟩
section
variable {w w' : World} {B s : Nat} {most owner : Int} {l : List SV} {F : List Nat} {xs : List Smp}
theorem StIs.lt (h : StIs w B s most l F) : ∀ k ∈ F, k < w.heap.size := by
  obtain ⟨M, es, h1, rfl, rfl⟩ := h
  exact h1.lt
theorem StIs.only {G : Nat → Prop} (h : StIs w B s most l F) (ho : Only G w w') (hn : ∀ k ∈ F, ¬ G k) : StIs w' B s most l F := by
  obtain ⟨M, es, h1, rfl, rfl⟩ := h
  exact ⟨M, es, h1.only ho hn, rfl, rfl⟩
theorem StIs.alloc (h : StIs w B s most l F) (o : Obj) : StIs (w.alloc o) B s most l F := h.only (G := fun _ => False) ((Only.refl _ _).alloc o) (fun _ _ h => h)
theorem PutI.step {k : Nat} {v v' : Value} {wr w5 : World} {Z Y : Obj} {F' : List Nat} (h : PutF w B s most owner l F xs k v F' wr) (hk : k < xs.length)
    (hone : StTo (wr.alloc Z) B s F' most (oneL most owner (putL most owner l (xs.take k)) xs[k]) w5)
    (hown : w'.ownsRow (w.heap.size + 1) 68 7 v' (k + 1) (snf (putS most owner l (xs.take k)) ++ (oneV most (putL most owner l (xs.take k)) xs[k]).cells.toList)) (hgr : (w5.alloc Y).grownBy w' v.ownBlock) (hv : v'.ownBlock = v.ownBlock ∨ v'.ownBlock = some (w5.alloc Y).heap.size) :
    PutI w B s most owner l F xs (k + 1) v' w' := by
  obtain ⟨h1, h2, h3, h4, h7, h5, h6⟩ := h
  obtain ⟨F'', g1, g2, g3⟩ := hone
  have ho3 : Only (· ∈ F') wr (w5.alloc Y) := (((Only.refl (· ∈ F') wr).alloc Z).trans' g2).alloc Y
  have hsz : wr.heap.size + 1 ≤ w5.heap.size := by have := g2.size; rw [World.size_alloc] at this; exact this
  have hD : w.heap.size < wr.heap.size := h5.lt
  have hvlt : ∀ b, v.ownBlock = some b → w.heap.size + 1 ≤ b ∧ b < wr.heap.size := h1.lt
  have hnF : ∀ b, v.ownBlock = some b → b ∉ F'' := fun b hb hm => by
    rcases g3 b hm with h | h
    · exact h6 b hb h
    · rw [World.size_alloc] at h; have := (hvlt b hb).2; omega
  have hDF : w.heap.size ∉ F' := fun hm => by
    rcases h4 _ hm with h | h
    · have := h7 _ h; omega
    · omega
  refine ⟨F'', ?_, ?_, ?_, ?_, h7, ?_, ?_⟩
  · rw [take_succ xs k hk, putS_add]
    simp only [snf, List.flatMap_append, List.flatMap_cons, List.flatMap_nil, List.append_nil]
    exact hown
  · rw [take_succ xs k hk, putL_add]
    exact (g1.alloc Y).only (G := fun b => v.ownBlock = some b) ((Only.refl _ _).grown hgr (fun b hb _ => hb)) (fun b hb hv => hnF b hv hb)
  · refine (h3.trans ho3 (fun b hb hm => (h4 b hm).resolve_right (by omega))).grown hgr (fun b hb hlt => ?_)
    have := (hvlt b hb).1; omega
  · intro b hb
    rcases g3 b hb with h | h
    · exact h4 b h
    · rw [World.size_alloc] at h; right; omega
  · refine (h5.only ho3 hDF).only ((Only.refl (fun b => v.ownBlock = some b) _).grown hgr (fun b hb _ => hb)) (fun hb => ?_)
    have := (hvlt _ hb).1; omega
  · intro b hb hm
    rcases hv with hv | hv
    · exact hnF b (hv ▸ hb) hm
    · rw [hv] at hb
      cases hb
      have := g1.lt _ hm
      rw [World.size_alloc] at this
      omega
end
end Go.Proofs.Ythademifhnkbiaa
