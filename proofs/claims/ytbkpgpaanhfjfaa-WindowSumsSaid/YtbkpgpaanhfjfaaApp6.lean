/- Appends of elements of any size onto an owned row; a part of a row; a cell of an owned row written. -/
import Derived.Test.YtbkpgpaanhfjfaaApp2
import Derived.Test.YtbkpgpaanhfjfaaFoot
namespace Go.Proofs.Ytbkpgpaanhfjfaa.K
open Go.RowKit
section
variable {P : Program}
theorem run_append_any (w : World) (B : Nat) (t ty e : TypeId) (i : TypeInfo) (z : Value) (size bytes : Nat) (ht : P.underlying t = some (.slice e)) (hi : P.info? e = some i) (hz : i.zero = some z)
    (hsize : i.size = size) (hby : i.bytes = bytes) (hzs : z.cells.size = size) (hsz : 0 < size) (v : Value) (n : Nat) (xs : List Value) (hown : w.ownsRow B e size v n xs)
    (a : Option Addr) (m c : Nat) (ys : List Value) (hl : ys.length = m * size) (hr : Rd w a ys) (h1 : ∀ u ∈ ys, u.oneCell' = true) (h63 : n + m ≤ maxLen) (hbytes : (n + m) * bytes ≤ 140737488355328) (hbase : B ≤ w.heap.size) :
    ∃ v' w', (Builtin.append_ #[t, t] ty #[v, .slice a m c]).run P w = .ok v' w' ∧ w'.ownsRow B e size v' (n + m) (xs ++ ys) ∧ w.grownBy w' v.ownBlock ∧ (v'.ownBlock = v.ownBlock ∨ v'.ownBlock = some w.heap.size) := by
  by_cases hm : m = 0
  · subst hm
    obtain rfl : ys = [] := List.eq_nil_of_length_eq_zero (by simpa using hl)
    obtain ⟨base, n', cap, hv, hn⟩ : ∃ base n' cap, v = .slice base n' cap ∧ n' ≤ cap := by
      rcases hown.2 with ⟨rfl, _⟩ | ⟨g, cap, cur, rfl, _, _, hn, _⟩
      · exact ⟨_, _, _, rfl, Nat.le_refl _⟩
      · exact ⟨_, _, _, rfl, hn⟩
    refine ⟨v, w, ?_, by simpa using hown, ⟨rfl, rfl, rfl, Nat.le_refl _, fun _ _ _ => rfl⟩, .inl rfl⟩
    subst hv
    exact run_append_zero w t ty e i ht hi base n' cap hn a c
  · have hp : 0 < ys.length := by rw [hl]; exact Nat.mul_pos (by omega) hsz
    obtain ⟨b, off, rfl, _⟩ := hr 0 ys[0] (List.getElem?_eq_getElem hp)
    obtain ⟨v', w', h2, h3, h4, -, h6⟩ := run_append_own_at (P := P) w B t ty e i z size bytes ht hi hz hsize hby hzs hsz v n xs hown ⟨b, off, none⟩ m c ys hl (fun j u hu => by
      obtain ⟨b', off', he, hc⟩ := hr j u hu
      cases he
      rw [Addr.add_lit]
      exact hc) h1 h63 hbytes hbase
    exact ⟨v', w', h2, h3, h4, h6⟩
/-- What an append leaves. -/
def AppTo (w : World) (B : Nat) (e : TypeId) (size : Nat) (v : Value) (n : Nat) (xs : List Value) (v' : Value) (w' : World) : Prop :=
  w'.ownsRow B e size v' n xs ∧ w.grownBy w' v.ownBlock ∧ (v'.ownBlock = v.ownBlock ∨ v'.ownBlock = some w.heap.size)
theorem rstep_append_any {ops : Array Oper} {o : Oper} {a : Act} {w : World} {K : Act → World → Prop} {Q : Exit → Act → World → Prop} {E : Prop} (hw : Region.wanted o (yielded ops a.tmps) = true) (s x : Operand) (t : TypeId)
    (ho : o.op = .call { callee := .builtin .append, args := #[s, x], argTypes := #[t, t] }) (B : Nat) (e : TypeId) (i : TypeInfo) (z : Value) (size bytes : Nat) (ht : P.underlying t = some (.slice e)) (hi : P.info? e = some i) (hz : i.zero = some z)
    (hsize : i.size = size) (hby : i.bytes = bytes) (hzs : z.cells.size = size) (hsz : 0 < size) (v : Value) (n : Nat) (xs : List Value) (hs : a.eval s = v) (hown : w.ownsRow B e size v n xs)
    (ad : Option Addr) (m c : Nat) (ys : List Value) (hx : a.eval x = .slice ad m c) (hl : ys.length = m * size) (hr : Rd w ad ys) (h1 : ∀ u ∈ ys, u.oneCell' = true) (h63 : n + m ≤ maxLen) (hbytes : (n + m) * bytes ≤ 140737488355328) (hbase : B ≤ w.heap.size)
    (h : ∀ v' w', AppTo w B e size v (n + m) (xs ++ ys) v' w' → K (a.put o.dst v') w') : if Region.wanted o (yielded ops a.tmps) = true then Oper.wp P o a w K Q else E := by
  obtain ⟨v', w', hrun, h2, h3, h4⟩ := run_append_any (P := P) w B t o.type e i z size bytes ht hi hz hsize hby hzs hsz v n xs hown ad m c ys hl hr h1 h63 hbytes hbase
  rw [if_pos hw]
  unfold Oper.wp
  have hr' : (execOp a.eval o).run P w = .ok (.value v') w' := by
    unfold execOp
    simp only [ho, resolve, invoke, builtin, Sem.run_bind, Sem.run_pure, Result.andThen_ok, List.map_toArray, List.map_cons, List.map_nil, hs, hx, hrun]
  rw [hr']
  exact h v' w' ⟨h2, h3, h4⟩
theorem step_append_any {ops : Array Oper} {rest : List Oper} {o : Oper} {a : Act} {w : World} {Q : Exit → Act → World → Prop} (hgd : o.guard = none ∨ Region.wanted o (yielded ops a.tmps) = true) (s x : Operand) (t : TypeId)
    (ho : o.op = .call { callee := .builtin .append, args := #[s, x], argTypes := #[t, t] }) (B : Nat) (e : TypeId) (i : TypeInfo) (z : Value) (size bytes : Nat) (ht : P.underlying t = some (.slice e)) (hi : P.info? e = some i) (hz : i.zero = some z)
    (hsize : i.size = size) (hby : i.bytes = bytes) (hzs : z.cells.size = size) (hsz : 0 < size) (v : Value) (n : Nat) (xs : List Value) (hs : a.eval s = v) (hown : w.ownsRow B e size v n xs)
    (ad : Option Addr) (m c : Nat) (ys : List Value) (hx : a.eval x = .slice ad m c) (hl : ys.length = m * size) (hr : Rd w ad ys) (h1 : ∀ u ∈ ys, u.oneCell' = true) (h63 : n + m ≤ maxLen) (hbytes : (n + m) * bytes ≤ 140737488355328) (hbase : B ≤ w.heap.size)
    (h : ∀ v' w', AppTo w B e size v (n + m) (xs ++ ys) v' w' → wpList P ops Q rest (a.put o.dst v') w') : wpList P ops Q (o :: rest) a w := by
  obtain ⟨v', w', hrun, h2, h3, h4⟩ := run_append_any (P := P) w B t o.type e i z size bytes ht hi hz hsize hby hzs hsz v n xs hown ad m c ys hl hr h1 h63 hbytes hbase
  refine step_want hgd v' w' ?_ (h v' w' ⟨h2, h3, h4⟩)
  unfold execOp
  simp only [ho, resolve, invoke, builtin, Sem.run_bind, Sem.run_pure, Result.andThen_ok, List.map_toArray, List.map_cons, List.map_nil, hs, hx, hrun]
/-- A part of a row. -/
def cutB (ad : Option Addr) (c l size : Nat) : Option Addr := if c = l then ad else ad.map (·.add (l * size))
theorem Rd.cutB {w : World} {ad : Option Addr} {vs : List Value} (h : Rd w ad vs) (c l m size : Nat) (hc : vs.length ≤ c * size) : Rd w (K.cutB ad c l size) ((vs.take m).drop (l * size)) := by
  intro k v hv
  rw [List.getElem?_drop, List.getElem?_take] at hv
  split at hv
  · obtain ⟨b, off, rfl, hcl⟩ := h _ v hv
    have hlt := (List.getElem?_eq_some_iff.1 hv).1
    have hne : c ≠ l := fun e => by subst e; omega
    refine ⟨b, off + l * size, ?_, ?_⟩
    · simp only [K.cutB, hne, if_false, Option.map_some, Addr.add_lit]
    · rw [Nat.add_assoc]; exact hcl
  · cases hv
theorem exec_cut {w : World} {o : Oper} {a : Act} (t e : TypeId) (y : Operand) (lo hi : Option Operand) (ho : o.op = .slice t y lo hi none) (ht : P.underlying t = some (.slice e)) (size : Nat) (hsz : (P.info? e).map (·.size) = some size)
    (ad : Option Addr) (n c : Nat) (hy : a.eval y = .slice ad n c) (l h : Nat) (hlo : (lo = none ∧ l = 0) ∨ ∃ p, lo = some p ∧ a.eval p = .int .i64 l) (hhi : (hi = none ∧ h = n) ∨ ∃ p, hi = some p ∧ a.eval p = .int .i64 h) (hlh : l ≤ h) (hhc : h ≤ c) :
    (execOp a.eval o).run P w = .ok (.value (.slice (cutB ad c l size) (h - l) (c - l))) w := by
  cases hq : P.info? e with
  | none => simp [hq] at hsz
  | some i =>
    have hs : i.size = size := by simpa [hq] using hsz
    unfold execOp
    rcases hlo with ⟨rfl, rfl⟩ | ⟨p, rfl, hp⟩ <;> rcases hhi with ⟨rfl, rfl⟩ | ⟨q, rfl, hq2⟩
    · simp [ho, hy, Instr.sliceAt, Instr.slice, run_underlying ht, Instr.sliceBounds, sizeOf, typeInfo, hq, cutB]
    · simp [ho, hy, hq2, Instr.sliceAt, Instr.slice, run_underlying ht, Instr.sliceBounds, Instr.sliceBound, asIntOf, hhc, sizeOf, typeInfo, hq, cutB]
    · simp [ho, hy, hp, Instr.sliceAt, Instr.slice, run_underlying ht, Instr.sliceBounds, Instr.sliceBound, asIntOf, hlh, sizeOf, typeInfo, hq, hs, cutB]
    · simp [ho, hy, hp, hq2, Instr.sliceAt, Instr.slice, run_underlying ht, Instr.sliceBounds, Instr.sliceBound, asIntOf, hhc, hlh, sizeOf, typeInfo, hq, hs, cutB]
end
theorem keeph {A B : World} {k : Nat} {o : Obj} (hb : Below A.heap.size A B) (h : A.heap[k]? = some o) : B.heap[k]? = some o := (hb.block _ (Array.getElem?_eq_some_iff.1 h).1).trans h
theorem drew_below (W : World) : Below W.heap.size W W.drew := ⟨rfl, rfl, rfl, Nat.le_refl _, fun _ _ => rfl⟩
theorem own_set {w : World} {B e size n g cap : Nat} {xs : List Value} (h : w.ownsRow B e size (.slice (some ⟨g, 0, none⟩) n cap) n xs) (i : Nat) (x : Value) : (w.setCell ⟨g, i, none⟩ x).ownsRow B e size (.slice (some ⟨g, 0, none⟩) n cap) n (xs.set i x) := by
  refine ⟨by rw [List.length_set]; exact h.1, ?_⟩
  rcases h.2 with ⟨e, _⟩ | ⟨g', cap', cur, e, hB, hg, h1, h2, h3, h4⟩
  · cases e
  · cases e
    refine .inr ⟨g, cap, cur.setIfInBounds i x, rfl, hB, heap_setCell_same _ _ _ _ _ _ hg, h1, h2, by simpa using h3, ?_⟩
    rw [Array.toList_setIfInBounds, List.take_set, h4]
end Go.Proofs.Ytbkpgpaanhfjfaa.K
