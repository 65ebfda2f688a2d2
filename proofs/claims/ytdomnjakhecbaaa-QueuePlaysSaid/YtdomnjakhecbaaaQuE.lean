/- The program's queue in memory: its block, its row of frames, its frames' records; and an append of a frame onto it. -/
import Derived.Test.YtdomnjakhecbaaaQuA
import Derived.Deep.RegionHeld3
namespace Go.Proofs.Ytdomnjakhecbaaa
open Go.RowKit K
/-- A frame. -/
structure Frm where
  seq : Int
  win : Int
  recs : List Rec
/-- These three cells are a frame, whose records lie in blocks of N. -/
def FrV (w : World) (N : Nat → Prop) (f : Frm) (cs : List Value) : Prop :=
  ∃ a c, cs = [.int .u64 f.seq, .int .i64 f.win, .slice a f.recs.length c] ∧ (f.recs.length ≤ c ∧ c ≤ 9223372036854775807 ∧ (a = none → c = 0)) ∧ Rd w a (rcf f.recs) ∧ ∀ ad, a = some ad → N ad.block
def Frs (w : World) (N : Nat → Prop) : List Frm → List Value → Prop
  | [], xs => xs = []
  | f :: fs, xs => ∃ cs rest, xs = cs ++ rest ∧ FrV w N f cs ∧ Frs w N fs rest
section
variable {w w' : World} {N N' F : Nat → Prop}
theorem FrV.only {f : Frm} {cs : List Value} (h : FrV w N f cs) (ho : Only F w w') (hd : ∀ k, N k → ¬ F k) (hN : ∀ k, N k → N' k) : FrV w' N' f cs := by
  obtain ⟨a, c, h1, h2, h3, h4⟩ := h
  exact ⟨a, c, h1, h2, ho.rd h3 (fun ad e => hd _ (h4 ad e)), fun ad e => hN _ (h4 ad e)⟩
theorem Frs.only (ho : Only F w w') (hd : ∀ k, N k → ¬ F k) (hN : ∀ k, N k → N' k) : ∀ {fs : List Frm} {xs : List Value}, Frs w N fs xs → Frs w' N' fs xs
  | [], _, h => h
  | _ :: _, _, ⟨cs, rest, h1, h2, h3⟩ => ⟨cs, rest, h1, h2.only ho hd hN, Frs.only ho hd hN h3⟩
theorem FrV.length {f : Frm} {cs : List Value} (h : FrV w N f cs) : cs.length = 3 := by
  obtain ⟨a, c, rfl, _⟩ := h
  rfl
theorem Frs.length : ∀ {fs : List Frm} {xs : List Value}, Frs w N fs xs → xs.length = fs.length * 3
  | [], _, h => by
    have h : _ = [] := h
    rw [h]; rfl
  | _ :: _, _, ⟨cs, rest, h1, h2, h3⟩ => by
    have := Frs.length h3
    have := h2.length
    rw [h1, List.length_append, List.length_cons]
    omega
theorem Frs.add {f : Frm} {cs : List Value} (hf : FrV w N f cs) : ∀ {fs : List Frm} {xs : List Value}, Frs w N fs xs → Frs w N (fs ++ [f]) (xs ++ cs)
  | [], xs, h => by
    have h : xs = [] := h
    subst h
    exact ⟨cs, [], by simp, hf, rfl⟩
  | _ :: _, _, ⟨cs', rest, h1, h2, h3⟩ => ⟨cs', rest ++ cs, by rw [h1, List.append_assoc], h2, Frs.add hf h3⟩
theorem Frs.one : ∀ {fs : List Frm} {xs : List Value}, Frs w N fs xs → ∀ {u : Value}, u ∈ xs → u.oneCell' = true
  | [], xs, h, u, hu => by
    have h : xs = [] := h
    subst h
    cases hu
  | _ :: _, _, ⟨cs', rest, h1, ⟨a, c, h2, _⟩, h3⟩, u, hu => by
    subst h1 h2
    rcases List.mem_append.1 hu with hu | hu
    · simp only [List.mem_cons, List.not_mem_nil, or_false] at hu
      rcases hu with rfl | rfl | rfl <;> rfl
    · exact Frs.one h3 hu
/-- The k-th frame. -/
theorem Frs.at : ∀ {fs : List Frm} {xs : List Value}, Frs w N fs xs → ∀ (k : Nat) (hk : k < fs.length), ∃ cs, FrV w N fs[k] cs ∧ ∀ j, j < 3 → xs[3 * k + j]? = cs[j]?
  | [], _, _, k, hk => absurd hk (by simp)
  | f :: fs, _, ⟨cs, rest, h1, h2, h3⟩, 0, _ => ⟨cs, h2, fun j hj => by rw [h1, List.getElem?_append_left (by rw [h2.length]; omega)]; simp⟩
  | f :: fs, _, ⟨cs, rest, h1, h2, h3⟩, k + 1, hk => by
    obtain ⟨cs', h4, h5⟩ := Frs.at h3 k (by simpa using hk)
    refine ⟨cs', h4, fun j hj => ?_⟩
    rw [h1, List.getElem?_append_right (by rw [h2.length]; omega), h2.length, ← h5 j hj]
    congr 1
    omega
end
theorem add_block (ad : Addr) (j : Nat) : (ad.add j).block = ad.block := by
  unfold Addr.add
  split <;> rfl
/-- The queue's row: its own, or full and never written any more. -/
def RowQ (w : World) (g : Nat) (v : Value) (n : Nat) (xs : List Value) (N M : Nat → Prop) : Prop :=
  (w.ownsRow (g + 1) 38 3 v n xs ∧ ∀ b, v.ownBlock = some b → M b ∧ ¬ N b) ∨
  (xs.length = n * 3 ∧ ∃ ad, v = .slice (some ad) n n ∧ (∀ j u, xs[j]? = some u → w.cell? (ad.add j) = some u) ∧ N ad.block)
/-- A queue at g: what it tells, its frames, the blocks that it lies in. -/
def QSt (w : World) (g : Nat) (s : QR) (fs : List Frm) (M : Nat → Prop) : Prop :=
  ∃ v xs N, QBox w g v s ∧ RowQ w g v fs.length xs N M ∧ Frs w N fs xs ∧ M g ∧ ¬ N g ∧ (∀ k, N k → M k) ∧ ∀ k, M k → k < w.heap.size
def QTo (w : World) (M : Nat → Prop) (g : Nat) (s : QR) (fs : List Frm) (w' : World) : Prop := ∃ M', QSt w' g s fs M' ∧ Only M w w' ∧ ∀ k, M' k → M k ∨ w.heap.size ≤ k
theorem RowQ.only {w w' : World} {g : Nat} {v : Value} {n : Nat} {xs : List Value} {N M F : Nat → Prop} (h : RowQ w g v n xs N M) (ho : Only F w w') (hd : ∀ k, M k → ¬ F k) (hN : ∀ k, N k → M k) : RowQ w' g v n xs N M := by
  rcases h with ⟨h, hb⟩ | ⟨hl, ad, rfl, h, hn⟩
  · exact .inl ⟨ho.own h (fun k hk => hd k (hb k hk).1), hb⟩
  · exact .inr ⟨hl, ad, rfl, fun j u hu => ho.cell (h j u hu) (by rw [add_block]; exact hd _ (hN _ hn)), hn⟩
theorem QSt.only {w w' : World} {g : Nat} {s : QR} {fs : List Frm} {M F : Nat → Prop} (h : QSt w g s fs M) (ho : Only F w w') (hd : ∀ k, M k → ¬ F k) : QSt w' g s fs M := by
  obtain ⟨v, xs, N, h1, h2, h3, h4, h5, h6, h7⟩ := h
  exact ⟨v, xs, N, ho.heap h1 (hd g h4), h2.only ho hd h6, Frs.only ho (fun k hk => hd k (h6 k hk)) (fun _ h => h) h3, h4, h5, h6, fun k hk => Nat.lt_of_lt_of_le (h7 k hk) ho.size⟩
theorem QSt.new {w w' : World} {g : Nat} {s : QR} {fs : List Frm} {M : Nat → Prop} (h : QSt w g s fs M) (hb : Below w.heap.size w w') : QSt w' g s fs M :=
  h.only (F := fun k => w.heap.size ≤ k) (Only.of_below hb (fun _ _ h => h)) (fun k hk hle => by
    obtain ⟨_, _, _, _, _, _, _, _, _, h7⟩ := h
    have := h7 k hk
    omega)
theorem QSt.lt {w : World} {g : Nat} {s : QR} {fs : List Frm} {M : Nat → Prop} (h : QSt w g s fs M) : ∀ k, M k → k < w.heap.size := by
  obtain ⟨_, _, _, _, _, _, _, _, _, h7⟩ := h
  exact h7
theorem QTo.same {w w' : World} {g : Nat} {s : QR} {fs : List Frm} {M : Nat → Prop} (h : QSt w g s fs M) (hb : Below w.heap.size w w') : QTo w M g s fs w' :=
  ⟨M, h.new hb, Only.of_new hb, fun _ hk => .inl hk⟩
theorem RowQ.turn {w w' : World} {g : Nat} {v : Value} {n : Nat} {xs : List Value} {N M : Nat → Prop} (h : RowQ w g v n xs N M) (hN : ¬ N g) (ho : Only (· = g) w w') : RowQ w' g v n xs N M := by
  rcases h with ⟨h, hb⟩ | ⟨hl, ad, rfl, h, hn⟩
  · exact .inl ⟨ho.own h (fun k hk e => by have h1 := (h.lt k hk).1; have e : k = g := e; omega), hb⟩
  · exact .inr ⟨hl, ad, rfl, fun j u hu => ho.cell (h j u hu) (by rw [add_block]; intro e; exact hN (by rw [← e]; exact hn)), hn⟩
/-- The queue's own block turned. -/
theorem QSt.turn {w w' : World} {g : Nat} {s s' : QR} {fs : List Frm} {M : Nat → Prop} (h : QSt w g s fs M) (hbox : ∀ v, QBox w g v s → QBox w' g v s') (ho : Only (· = g) w w') : QSt w' g s' fs M := by
  obtain ⟨v, xs, N, h1, h2, h3, h4, h5, h6, h7⟩ := h
  exact ⟨v, xs, N, hbox v h1, h2.turn h5 ho, Frs.only ho (fun k hk e => h5 (by rw [← e]; exact hk)) (fun _ h => h) h3, h4, h5, h6, fun k hk => Nat.lt_of_lt_of_le (h7 k hk) ho.size⟩
theorem QTo.turn {w w1 w' : World} {g : Nat} {s s' : QR} {fs : List Frm} {M : Nat → Prop} (h : QSt w g s fs M) (hb : Below w.heap.size w w1) (hbox : ∀ v, QBox w1 g v s → QBox w' g v s') (ho : Only (· = g) w1 w') : QTo w M g s' fs w' :=
  ⟨M, (h.new hb).turn hbox ho, (Only.of_new hb).trans ho (fun k _ e => by
    obtain ⟨_, _, _, _, _, _, h4, _⟩ := h
    have e : k = g := e
    rw [e]; exact h4), fun _ hk => .inl hk⟩
/-- The row as a slice. -/
theorem RowQ.slice {w : World} {g : Nat} {v : Value} {n : Nat} {xs : List Value} {N M : Nat → Prop} (h : RowQ w g v n xs N M) : ∃ a c, v = .slice a n c := by
  rcases h with ⟨h, _⟩ | ⟨hl, ad, rfl, h, hn⟩
  · rcases h.2 with ⟨rfl, rfl⟩ | ⟨b, cap, cur, rfl, _⟩
    · exact ⟨_, _, rfl⟩
    · exact ⟨_, _, rfl⟩
  · exact ⟨_, _, rfl⟩
/-- An append of a frame. -/
theorem run_append_q {P : Program} (w : World) (g : Nat) (t ty : TypeId) (i : TypeInfo) (z : Value) (bytes : Nat) (ht : P.underlying t = some (.slice 38)) (hi : P.info? 38 = some i) (hz : i.zero = some z)
    (hsize : i.size = 3) (hby : i.bytes = bytes) (hzs : z.cells.size = 3) (v : Value) (n : Nat) (xs : List Value) (N M : Nat → Prop) (hrow : RowQ w g v n xs N M)
    (ad : Addr) (c : Nat) (news : List Value) (hl : news.length = 1 * 3) (hnews : ∀ j u, news[j]? = some u → w.cell? (ad.add j) = some u) (h1 : ∀ u ∈ news, u.oneCell' = true)
    (h63 : n + 1 ≤ maxLen) (hbytes : (n + 1) * bytes ≤ 140737488355328) (hbase : g + 1 ≤ w.heap.size) :
    ∃ v' w', (Builtin.append_ #[t, t] ty #[v, .slice (some ad) 1 c]).run P w = .ok v' w' ∧ w'.ownsRow (g + 1) 38 3 v' (n + 1) (xs ++ news) ∧ Only (fun k => M k ∧ ¬ N k ∧ k ≠ g) w w' ∧ ∀ b, v'.ownBlock = some b → (M b ∧ ¬ N b) ∨ w.heap.size ≤ b := by
  rcases hrow with ⟨hown, hb⟩ | ⟨hlo, ad0, rfl, holds, hn⟩
  · obtain ⟨v', w', hr, h2, h3, _, h5⟩ := run_append_own_at (P := P) w (g + 1) t ty 38 i z 3 bytes ht hi hz hsize hby hzs (by decide) v n xs hown ad 1 c news hl hnews h1 h63 hbytes hbase
    refine ⟨v', w', hr, h2, (Only.refl _ w).grown h3 (fun k hk _ => ⟨(hb k hk).1, (hb k hk).2, by have := (hown.lt k hk).1; omega⟩), fun b e => ?_⟩
    rcases h5 with h5 | h5
    · rw [h5] at e
      exact .inl (hb b e)
    · rw [h5] at e
      cases e
      exact .inr (Nat.le_refl _)
  · obtain ⟨v', w', hr, h2, h3⟩ := run_append_arg_grows (P := P) w t ty 38 i z 3 bytes ht hi hz hsize hby hzs (by decide) ad0 n n xs hlo holds ad 1 c news hl hnews (by omega) h63 hbytes
    refine ⟨v', w', hr, ⟨h2.1, ?_⟩, (Only.refl _ w).grown h3 (by simp), fun b e => .inr (h2.lt b e).1⟩
    rcases h2.2 with h | ⟨b, cap, cur, rfl, hg, rest⟩
    · exact .inl h
    · exact .inr ⟨b, cap, cur, rfl, Nat.le_trans hbase hg, rest⟩
theorem step_append_q {P : Program} (w : World) {ops : Array Oper} {rest : List Oper} {o : Oper} {a : Act} {Q : Exit → Act → World → Prop} (hgd : o.guard = none) (s x : Operand) (t : TypeId)
    (ho : o.op = .call { callee := .builtin .append, args := #[s, x], argTypes := #[t, t] })
    (g : Nat) (i : TypeInfo) (z : Value) (bytes : Nat) (ht : P.underlying t = some (.slice 38)) (hi : P.info? 38 = some i) (hz : i.zero = some z)
    (hsize : i.size = 3) (hby : i.bytes = bytes) (hzs : z.cells.size = 3) (v : Value) (n : Nat) (xs : List Value) (N M : Nat → Prop) (hs : a.eval s = v) (hrow : RowQ w g v n xs N M)
    (ad : Addr) (c : Nat) (news : List Value) (hx : a.eval x = .slice (some ad) 1 c) (hl : news.length = 1 * 3) (hnews : ∀ j u, news[j]? = some u → w.cell? (ad.add j) = some u) (h1 : ∀ u ∈ news, u.oneCell' = true)
    (h63 : n + 1 ≤ maxLen) (hbytes : (n + 1) * bytes ≤ 140737488355328) (hbase : g + 1 ≤ w.heap.size)
    (h : ∀ v' w', w'.ownsRow (g + 1) 38 3 v' (n + 1) (xs ++ news) → Only (fun k => M k ∧ ¬ N k ∧ k ≠ g) w w' → (∀ b, v'.ownBlock = some b → (M b ∧ ¬ N b) ∨ w.heap.size ≤ b) → wpList P ops Q rest (a.put o.dst v') w') : wpList P ops Q (o :: rest) a w := by
  obtain ⟨v', w', hrun, h2, h3, h4⟩ := run_append_q (P := P) w g t o.type i z bytes ht hi hz hsize hby hzs v n xs N M hrow ad c news hl hnews h1 h63 hbytes hbase
  refine step_val hgd v' w' ?_ (h v' w' h2 h3 h4)
  unfold execOp
  simp only [ho, resolve, invoke, builtin, Sem.run_bind, Sem.run_pure, Result.andThen_ok, List.map_toArray, List.map_cons, List.map_nil, hs, hx, hrun]
namespace K
section
variable {P : Program} {ops : Array Oper} {o : Oper} {a : Act} {w : World} {K : Act → World → Prop} {Q : Exit → Act → World → Prop} {E : Prop}
theorem rstep_append_q (hw : Region.wanted o (yielded ops a.tmps) = true) (s x : Operand) (t : TypeId)
    (ho : o.op = .call { callee := .builtin .append, args := #[s, x], argTypes := #[t, t] })
    (g : Nat) (i : TypeInfo) (z : Value) (bytes : Nat) (ht : P.underlying t = some (.slice 38)) (hi : P.info? 38 = some i) (hz : i.zero = some z)
    (hsize : i.size = 3) (hby : i.bytes = bytes) (hzs : z.cells.size = 3) (v : Value) (n : Nat) (xs : List Value) (N M : Nat → Prop) (hs : a.eval s = v) (hrow : RowQ w g v n xs N M)
    (ad : Addr) (c : Nat) (news : List Value) (hx : a.eval x = .slice (some ad) 1 c) (hl : news.length = 1 * 3) (hnews : ∀ j u, news[j]? = some u → w.cell? (ad.add j) = some u) (h1 : ∀ u ∈ news, u.oneCell' = true)
    (h63 : n + 1 ≤ maxLen) (hbytes : (n + 1) * bytes ≤ 140737488355328) (hbase : g + 1 ≤ w.heap.size)
    (h : ∀ v' w', w'.ownsRow (g + 1) 38 3 v' (n + 1) (xs ++ news) → Only (fun k => M k ∧ ¬ N k ∧ k ≠ g) w w' → (∀ b, v'.ownBlock = some b → (M b ∧ ¬ N b) ∨ w.heap.size ≤ b) → K (a.put o.dst v') w') : if Region.wanted o (yielded ops a.tmps) = true then Oper.wp P o a w K Q else E := by
  obtain ⟨v', w', hrun, h2, h3, h4⟩ := run_append_q (P := P) w g t o.type i z bytes ht hi hz hsize hby hzs v n xs N M hrow ad c news hl hnews h1 h63 hbytes hbase
  rw [if_pos hw]
  unfold Oper.wp
  have hr : (execOp a.eval o).run P w = .ok (.value v') w' := by
    unfold execOp
    simp only [ho, resolve, invoke, builtin, Sem.run_bind, Sem.run_pure, Result.andThen_ok, List.map_toArray, List.map_cons, List.map_nil, hs, hx, hrun]
  rw [hr]
  exact h v' w' h2 h3 h4
end
end K
/-- Behind a Put of a frame that may be: the row is longer by it, its records lie in new memory. -/
theorem qput_fin {w w2 w4 w5 w6 : World} {g : Nat} {s' : QR} {fs : List Frm} {M N : Nat → Prop} {vs : List Value} {v' : Value} {f : Frm} {a2 : Option Addr} {c2 : Nat}
    (hfr : Frs w N fs vs) (hMg : M g) (hNg : ¬ N g) (hNM : ∀ k, N k → M k) (hMl : ∀ k, M k → k < w.heap.size) (hbx : Below w.heap.size w w2)
    (hcc : f.recs.length ≤ c2 ∧ c2 ≤ 9223372036854775807 ∧ (a2 = none → c2 = 0)) (hr2 : Rd w2 a2 (rcf f.recs)) (hn1 : ∃ b, a2 = some ⟨b, 0, none⟩ ∧ w.heap.size ≤ b) (hne : f.recs ≠ [])
    (ho24 : Only (· = g) w2 w4) (ho45 : Only (fun k => M k ∧ ¬ N k ∧ k ≠ g) w4 w5) (hown : w5.ownsRow (g + 1) 38 3 v' (fs.length + 1) (vs ++ [.int .u64 f.seq, .int .i64 f.win, .slice a2 f.recs.length c2])) (hob : ∀ b, v'.ownBlock = some b → (M b ∧ ¬ N b) ∨ w4.heap.size ≤ b)
    (ho56 : Only (· = g) w5 w6) (hbox : QBox w6 g v' s') : QTo w M g s' (fs ++ [f]) w6 := by
  obtain ⟨r, rfl, hr0⟩ := hn1
  have hrl : r < w2.heap.size := by
    obtain ⟨x, t, hx⟩ : ∃ x t, f.recs = x :: t := by
      cases h : f.recs with
      | nil => exact absurd h hne
      | cons x t => exact ⟨x, t, rfl⟩
    obtain ⟨b, off, e, hlt, _⟩ := hr2.at (k := 0) (v := .string x.name) (by rw [hx]; simp [rcf, Rec.cells])
    cases e
    exact hlt
  have hg : g < w.heap.size := hMl g hMg
  have ho26 : Only (fun k => k = g ∨ (M k ∧ ¬ N k)) w2 w6 :=
    ((ho24.mono (G := fun k => k = g ∨ (M k ∧ ¬ N k)) (fun _ _ h => .inl h)).trans ho45 (fun _ _ h => .inr ⟨h.1, h.2.1⟩)).trans ho56 (fun _ _ h => .inl h)
  have hall : Only (fun k => k = g ∨ (M k ∧ ¬ N k)) w w6 := (Only.of_new hbx).trans ho26 (fun _ _ h => h)
  have hsz6 := ho56.size
  have hsz5 := ho45.size
  have hsz4 := ho24.size
  have hsz2 := hbx.size
  refine ⟨fun k => M k ∨ (w.heap.size ≤ k ∧ k < w6.heap.size), ⟨v', _, fun k => N k ∨ k = r, hbox, .inl ⟨?_, ?_⟩, Frs.add (f := f) (cs := [.int .u64 f.seq, .int .i64 f.win, .slice (some ⟨r, 0, none⟩) f.recs.length c2]) ?_ (Frs.only hall ?_ (fun _ h => .inl h) hfr), .inl hMg, ?_, ?_, ?_⟩, hall.mono ?_, ?_⟩
  · rw [List.length_append]
    exact ho56.own hown (fun k hk e => by have h1 := (hown.lt k hk).1; have e : k = g := e; omega)
  · intro b e
    have hlt := (hown.lt b e).2
    rcases hob b e with ⟨h1, h2⟩ | h1
    · exact ⟨.inl h1, fun h => by rcases h with h | h; exact h2 h; have := hMl b h1; omega⟩
    · exact ⟨.inr ⟨by omega, by omega⟩, fun h => by rcases h with h | h; (have := hMl b (hNM b h); omega); omega⟩
  · refine ⟨some ⟨r, 0, none⟩, c2, rfl, hcc, ho26.rd hr2 (fun ad e h => ?_), fun ad e => by cases e; exact .inr rfl⟩
    cases e
    rcases h with h | h
    · have h : r = g := h
      omega
    · have := hMl r h.1
      omega
  · intro k hk h
    rcases h with h | h
    · exact hNg (by rw [← h]; exact hk)
    · exact h.2 hk
  · intro h
    rcases h with h | h
    · exact hNg h
    · omega
  · intro k h
    rcases h with h | h
    · exact .inl (hNM k h)
    · exact .inr ⟨by omega, by omega⟩
  · intro k h
    rcases h with h | h
    · have := hMl k h
      omega
    · exact h.2
  · intro k _ h
    rcases h with h | h
    · have h : k = g := h
      rw [h]; exact hMg
    · exact h.1
  · intro k h
    rcases h with h | h
    · exact .inl h
    · exact .inr h.1
end Go.Proofs.Ytdomnjakhecbaaa
