/- A slice onto which may be appended without a turn of old memory: it owns its row, or it has no room left. What an append makes of it. -/
import Derived.Test.YtbkpgpaanhfjfaaKit
namespace Go.Proofs.Ytbkpgpaanhfjfaa.K
open Go.RowKit
def App (w : World) (B : Nat) (e : TypeId) (size : Nat) (v : Value) (n : Nat) (xs : List Value) : Prop :=
  w.ownsRow B e size v n xs ∨ (xs.length = n * size ∧ ∃ ad, v = .slice (some ad) n n ∧ ∀ j u, xs[j]? = some u → w.cell? (ad.add j) = some u)
theorem App.below {w w' : World} {B D e size n : Nat} {v : Value} {xs : List Value} (h : App w B e size v n xs) (hb : Below D w w') (hD : w.heap.size ≤ D) : App w' B e size v n xs := by
  rcases h with ⟨hl, h⟩ | ⟨hl, ad, rfl, h⟩
  · refine .inl ⟨hl, ?_⟩
    rcases h with h | ⟨g, cap, cur, rfl, h1, h2, h3⟩
    · exact .inl h
    · exact .inr ⟨g, cap, cur, rfl, h1, (hb.block g (Nat.lt_of_lt_of_le (Array.getElem?_eq_some_iff.1 h2).1 hD)).trans h2, h3⟩
  · refine .inr ⟨hl, ad, rfl, fun j u hu => ?_⟩
    have hc := h j u hu
    exact (hb.cell (p := ad.add j) (Nat.lt_of_lt_of_le (World.block_lt_of_cell? w _ hc) hD)).trans hc
theorem App.alloc {w : World} {B e size n : Nat} {v : Value} {xs : List Value} (h : App w B e size v n xs) (o : Obj) : App (w.alloc o) B e size v n xs :=
  h.below ((Below.refl w.heap.size w).alloc (Nat.le_refl _) o) (Nat.le_refl _)
theorem App.cells {w : World} {B e n : Nat} {v : Value} {xs : List Value} (h : App w B e 1 v n xs) : ∃ a c, v = .slice a n c ∧ n ≤ c ∧ Rd w a xs := by
  rcases h with h | ⟨hl, ad, rfl, h⟩
  · rcases h.2 with ⟨rfl, rfl⟩ | ⟨g, cap, cur, rfl, _, hg, hn, _⟩
    · refine ⟨none, 0, rfl, Nat.le_refl _, fun k v hv => ?_⟩
      have : xs = [] := List.eq_nil_of_length_eq_zero (by simpa using h.1)
      subst this
      simp at hv
    · refine ⟨_, cap, rfl, hn, fun k v hv => ⟨g, 0, rfl, ?_⟩⟩
      have := h.cells (g := g) rfl k v hv
      simpa [Addr.add_lit] using this
  · refine ⟨some ad, n, rfl, Nat.le_refl _, fun k v hv => ?_⟩
    have hc := h k v hv
    have hs : ad.spot = none := by
      have h0 : 0 < xs.length := by
        rw [List.getElem?_eq_some_iff] at hv
        obtain ⟨h, _⟩ := hv
        omega
      have := h 0 xs[0] (by simp [h0])
      simpa [Addr.add] using World.cell?_spot this
    obtain ⟨b, off, sp⟩ := ad
    simp only at hs
    subst hs
    exact ⟨b, off, rfl, by simpa [Addr.add_lit] using hc⟩
section
variable {P : Program} (w : World)
theorem run_append_app (B : Nat) (t ty e : TypeId) (i : TypeInfo) (z : Value) (size bytes : Nat) (ht : P.underlying t = some (.slice e)) (hi : P.info? e = some i) (hz : i.zero = some z)
    (hsize : i.size = size) (hby : i.bytes = bytes) (hzs : z.cells.size = size) (hsz : 0 < size)
    (v : Value) (n : Nat) (xs : List Value) (hown : App w B e size v n xs)
    (a : Addr) (m c : Nat) (news : List Value) (hl : news.length = m * size) (hnews : ∀ j u, news[j]? = some u → w.cell? (a.add j) = some u) (h1 : ∀ u ∈ news, u.oneCell' = true) (hm : 0 < m)
    (h63 : n + m ≤ maxLen) (hbytes : (n + m) * bytes ≤ 140737488355328) (hbase : B ≤ w.heap.size) :
    ∃ v' w', (Builtin.append_ #[t, t] ty #[v, .slice (some a) m c]).run P w = .ok v' w' ∧ w'.ownsRow B e size v' (n + m) (xs ++ news) ∧ Below B w w' := by
  rcases hown with hown | ⟨hlo, ad, rfl, holds⟩
  · obtain ⟨v', w', hr, h2, h3, _⟩ := run_append_own (P := P) w B t ty e i z size bytes ht hi hz hsize hby hzs hsz v n xs hown a m c news hl hnews h1 h63 hbytes hbase
    exact ⟨v', w', hr, h2, (Below.refl B w).grown h3 hbase (fun k hk => (hown.lt k hk).1)⟩
  · obtain ⟨v', w', hr, h2, h3⟩ := run_append_arg_grows (P := P) w t ty e i z size bytes ht hi hz hsize hby hzs hsz ad n n xs hlo holds a m c news hl hnews (by omega) h63 hbytes
    refine ⟨v', w', hr, ⟨h2.1, ?_⟩, (Below.refl B w).grown h3 hbase (by simp)⟩
    rcases h2.2 with h | ⟨g, cap, cur, rfl, hg, rest⟩
    · exact .inl h
    · exact .inr ⟨g, cap, cur, rfl, Nat.le_trans hbase hg, rest⟩
theorem step_append_app {ops : Array Oper} {rest : List Oper} {o : Oper} {a : Act} {Q : Exit → Act → World → Prop} (hgd : o.guard = none) (s x : Operand) (t : TypeId)
    (ho : o.op = .call { callee := .builtin .append, args := #[s, x], argTypes := #[t, t] })
    (B : Nat) (e : TypeId) (i : TypeInfo) (z : Value) (size bytes : Nat) (ht : P.underlying t = some (.slice e)) (hi : P.info? e = some i) (hz : i.zero = some z)
    (hsize : i.size = size) (hby : i.bytes = bytes) (hzs : z.cells.size = size) (hsz : 0 < size)
    (v : Value) (n : Nat) (xs : List Value) (hs : a.eval s = v) (hown : App w B e size v n xs)
    (ad : Addr) (m c : Nat) (news : List Value) (hx : a.eval x = .slice (some ad) m c) (hl : news.length = m * size) (hnews : ∀ j u, news[j]? = some u → w.cell? (ad.add j) = some u) (h1 : ∀ u ∈ news, u.oneCell' = true) (hm : 0 < m)
    (h63 : n + m ≤ maxLen) (hbytes : (n + m) * bytes ≤ 140737488355328) (hbase : B ≤ w.heap.size)
    (h : ∀ v' w', w'.ownsRow B e size v' (n + m) (xs ++ news) → Below B w w' → wpList P ops Q rest (a.put o.dst v') w') : wpList P ops Q (o :: rest) a w := by
  obtain ⟨v', w', hr, h2, h3⟩ := run_append_app (P := P) w B t o.type e i z size bytes ht hi hz hsize hby hzs hsz v n xs hown ad m c news hl hnews h1 hm h63 hbytes hbase
  refine step_val hgd v' w' ?_ (h v' w' h2 h3)
  unfold execOp
  simp only [ho, resolve, invoke, builtin, Sem.run_bind, Sem.run_pure, Result.andThen_ok, List.map_toArray, List.map_cons, List.map_nil, hs, hx, hr]
end
/-- One cell, in a block of its own. -/
theorem one_new (w : World) (v : Value) (t : TypeId) : ∀ j u, [v][j]? = some u → (w.alloc (.cells #[v] t)).cell? ((⟨w.heap.size, 0, none⟩ : Addr).add j) = some u := by
  intro j u hj
  match j, hj with
  | 0, hj => simp at hj; subst hj; simp [Addr.add]
end Go.Proofs.Ytbkpgpaanhfjfaa.K
