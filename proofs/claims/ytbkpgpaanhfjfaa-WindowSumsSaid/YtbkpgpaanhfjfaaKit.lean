/- Small laws on operations and on memory that the walks of this seat lean on: a value or a store at an operation whose run is known, a whole row loaded and stored. -/
import Derived.Test.YtbkpgpaanhfjfaaRows
import Derived.WalkKit
import Derived.WalkLawsBesides
import Derived.WalkSpells
import Derived.Deep.LoopGhost
import Derived.Lib.Hide
namespace Go.Proofs.Ytbkpgpaanhfjfaa.K
open Go.RowKit
section
variable {P : Program} {w : World} {ops : Array Oper} {rest : List Oper} {o : Oper} {a : Act} {Q : Exit → Act → World → Prop}

/-- An operation that yields a value. -/
theorem step_val (hg : o.guard = none) (v : Value) (w' : World) (hr : (execOp a.eval o).run P w = .ok (.value v) w') (h : wpList P ops Q rest (a.put o.dst v) w') :
    wpList P ops Q (o :: rest) a w :=
  wpList_plain hg fun K hK => by
    unfold Oper.wp
    rw [hr]
    exact hK _ _ h
/-- An operation that yields nothing. -/
theorem step_skip (hg : o.guard = none) (w' : World) (hr : (execOp a.eval o).run P w = .ok .skip w') (h : wpList P ops Q rest (a.put o.dst undef) w') :
    wpList P ops Q (o :: rest) a w :=
  wpList_plain hg fun K hK => by
    unfold Oper.wp
    rw [hr]
    exact hK _ _ h
/-- A whole row stored into a block of that many cells. -/
theorem step_store_row (hg : o.guard = none) (ty : TypeId) (x y : Operand) (ho : o.op = .store ty x y) (g : Nat) (hx : a.eval x = .pointer (some ⟨g, 0, none⟩)) (cs : Array Value) (hy : a.eval y = .agg cs)
    (cur : Array Value) (t : TypeId) (hb : w.heap[g]? = some (.cells cur t (0, 0))) (hcs : cur.size = cs.size) (hi : (P.info? ty).map (·.size) = some cs.size) (h1 : ∀ v ∈ cs.toList, v.oneCell' = true)
    (h : wpList P ops Q rest (a.put o.dst undef) (w.setRow g cs)) : wpList P ops Q (o :: rest) a w := by
  refine step_skip hg (w.setRow g cs) ?_ h
  have hst := run_storeCells_at P g 0 t cs.toList 0 cur w hb (by simp; omega) h1
  have e : (cur.toList.take (0 + 0) ++ cs.toList ++ cur.toList.drop (0 + 0 + cs.toList.length)).toArray = cs := by
    have hd : cur.toList.drop (0 + 0 + cs.toList.length) = [] := List.drop_eq_nil_of_le (by simp; omega)
    rw [hd]; simp
  rw [e] at hst
  cases hq : P.info? ty with
  | none => simp [hq] at hi
  | some i =>
    have hs : i.size = cs.size := by simpa [hq] using hi
    unfold execOp
    simp only [ho, hx, hy, Instr.storeAt, Instr.sureAddr, storeVar, Sem.run_bind, Sem.run_pure, Result.andThen_ok, sizeOf, typeInfo, Value.cells]
    simp [hq, hs, hst]
end
/-- A row behind an address: its cells read as these values. (An empty one asks nothing of the address.) -/
def Rd (w : World) (a : Option Addr) (vs : List Value) : Prop := ∀ k v, vs[k]? = some v → ∃ b off, a = some ⟨b, off, none⟩ ∧ w.cell? ⟨b, off + k, none⟩ = some v
theorem Rd.below {w w' : World} {B : Nat} {a : Option Addr} {vs : List Value} (h : Rd w a vs) (hb : Below B w w') (hB : w.heap.size ≤ B) : Rd w' a vs := by
  intro k v hv
  obtain ⟨b, off, ha, hc⟩ := h k v hv
  exact ⟨b, off, ha, (hb.cell (p := ⟨b, off + k, none⟩) (Nat.lt_of_lt_of_le (World.block_lt_of_cell? w _ hc) hB)).trans hc⟩
theorem Rd.at {w : World} {a : Option Addr} {vs : List Value} (h : Rd w a vs) {k : Nat} {v : Value} (hv : vs[k]? = some v) : ∃ b off, a = some ⟨b, off, none⟩ ∧ b < w.heap.size ∧ w.cell? ⟨b, off + k, none⟩ = some v := by
  obtain ⟨b, off, ha, hc⟩ := h k v hv
  exact ⟨b, off, ha, World.block_lt_of_cell? w _ hc, hc⟩
theorem Rd.new (w : World) (C : Array Value) (t : TypeId) (fr : Nat × Nat) (vs : List Value) (h : ∀ (k : Nat) (v : Value), vs[k]? = some v → C[k]? = some v) : Rd (w.alloc (.cells C t fr)) (some ⟨w.heap.size, 0, none⟩) vs := by
  intro k v hv
  refine ⟨w.heap.size, 0, rfl, ?_⟩
  rw [Nat.zero_add, cell_of_row _ _ _ _ _ _ (heap_alloc_new w _)]
  exact h k v hv
theorem Rd.nil (w : World) (a : Option Addr) : Rd w a [] := fun k v h => by simp at h
theorem u8_of {n : Nat} (h : n < 256) : (UInt8.ofNat n).toNat = n := by simp; omega
/-- Bytes as cells. -/
def bv (l : List UInt8) : List Value := l.map fun x => .int .u8 (x.toNat : Int)
theorem bv_get {l : List UInt8} {k : Nat} (h : k < l.length) : (bv l)[k]? = some (.int .u8 (l[k].toNat : Int)) := by simp [bv, h]
theorem bv_length (l : List UInt8) : (bv l).length = l.length := by simp [bv]
theorem bv_one (l : List UInt8) : ∀ v ∈ bv l, v.oneCell' = true := by
  intro v hv
  simp [bv] at hv
  obtain ⟨x, _, rfl⟩ := hv
  rfl
theorem push_modify {α : Type} (x : Array α) (o : α) (f : α → α) : (x.push o).modify x.size f = x.push (f o) := by
  apply Array.ext_getElem?
  intro i
  rw [Array.getElem?_modify, Array.getElem?_push, Array.getElem?_push]
  by_cases h : i = x.size
  · subst h; simp
  · simp [h, Ne.symm h]
theorem alloc_setRow (w : World) (c cs : Array Value) (t : TypeId) (fr : Nat × Nat) : (w.alloc (.cells c t fr)).setRow w.heap.size cs = w.alloc (.cells cs t fr) := by
  unfold World.setRow
  show ({ w with heap := (w.heap.push (.cells c t fr)).modify w.heap.size _ } : World) = { w with heap := w.heap.push (.cells cs t fr) }
  rw [push_modify]
theorem run_bytes_string {P : Program} (w : World) (src dst e : TypeId) (hs : P.underlying src = some (.slice e)) (he : P.underlying e = some (.int .u8)) (hd : P.underlying dst = some .string) (a : Option Addr) (c : Nat) (l : List UInt8) (hr : Rd w a (bv l)) :
    (convert src dst (.slice a l.length c)).run P w = .ok (.string ⟨l.toArray⟩) w := by
  cases a with
  | none =>
    have : l = [] := by
      cases l with
      | nil => rfl
      | cons x l => obtain ⟨b, off, h, _⟩ := hr 0 (.int .u8 x.toNat) (by simp [bv]); cases h
    subst this
    exact run_convert_bytes_nil w src e hs he 0 c dst hd
  | some ad =>
    by_cases h0 : l.length = 0
    · have : l = [] := List.eq_nil_of_length_eq_zero h0
      subst this
      rw [run_convert_bytes_string w src dst e _ _ c hs he hd]
      simp [Conv.bytesToString, loadCells, loadCellsFrom]
      rfl
    · obtain ⟨b, off, h, _⟩ := hr 0 _ (bv_get (by omega))
      cases h
      have := run_convert_bytes_arg (P := P) w src e hs he b off l.length c (l.map fun x => (x.toNat : Int)) (by simp) (fun i hi => by
        obtain ⟨b', off', h', hc⟩ := hr i _ (bv_get hi)
        cases h'
        rw [hc]
        simp [hi]) dst hd
      rw [this]
      congr 2
      simp [strOfNums]
      congr 1
      apply List.ext_getElem
      · simp
      · intro i h1 h2; simp
/-- Bytes that came in. -/
theorem bytes_of_ints (w : World) (x : Addr) (len : Nat) (zs : List Int) (hlen : len ≤ zs.length) (hcell : ∀ i, i < zs.length → w.cell? (x.add i) = some (.int .u8 (zs.getD i 0))) (hwf : ∀ n ∈ zs, (Lit.int .u8 n).wf = true) :
    ∃ l : List UInt8, l.length = len ∧ Rd w (some x) (bv l) := by
  refine ⟨(zs.take len).map fun z => UInt8.ofNat z.toNat, by simp; omega, ?_⟩
  intro k v hv
  have hk : k < len := by
    have := (List.getElem?_eq_some_iff.1 hv).1
    simp [bv] at this
    omega
  have hsp : x.spot = none := by simpa [Addr.add] using World.cell?_spot (hcell 0 (by omega))
  obtain ⟨b, off, sp⟩ := x
  simp only at hsp
  subst hsp
  refine ⟨b, off, rfl, ?_⟩
  have hc := hcell k (by omega)
  rw [Addr.add_lit] at hc
  rw [hc, ← hv]
  have hk2 : k < zs.length := by omega
  have hw := hwf zs[k] (List.getElem_mem hk2)
  have hr : 0 ≤ zs[k] ∧ zs[k] ≤ 255 := by simpa [Lit.wf, IntKind.min, IntKind.max, IntKind.signed, IntKind.bits] using hw
  simp only [bv, List.map_map, List.getElem?_map, List.getElem?_take, if_pos hk, List.getElem?_eq_getElem hk2, Option.map_some, Function.comp]
  rw [u8_of (by omega)]
  simp [hk2]
  omega
/-- []byte to string, at the operation. -/
theorem step_bytes_string {P : Program} (w : World) {ops : Array Oper} {rest : List Oper} {o : Oper} {a : Act} {Q : Exit → Act → World → Prop} (hgd : o.guard = none ∨ Region.wanted o (yielded ops a.tmps) = true) (src dst e : TypeId) (x : Operand) (ho : o.op = .convert src dst x)
    (hs : P.underlying src = some (.slice e)) (he : P.underlying e = some (.int .u8)) (hd : P.underlying dst = some .string) (ad : Option Addr) (n c : Nat) (l : List UInt8) (hx : a.eval x = .slice ad n c) (hn : n = l.length) (hr : Rd w ad (bv l)) (s : ByteArray) (hsv : s = ⟨l.toArray⟩)
    (h : wpList P ops Q rest (a.put o.dst (.string s)) w) : wpList P ops Q (o :: rest) a w := by
  subst hn hsv
  refine wpList_step fun K hK => ?_
  have hw : Region.wanted o (yielded ops a.tmps) = true := by
    rcases hgd with hgd | hgd
    · simp [Region.wanted, hgd]
    · exact hgd
  rw [if_pos hw]
  unfold Oper.wp execOp
  simp only [ho, hx, Sem.run_bind, run_bytes_string w src dst e hs he hd ad c l hr, Result.andThen_ok, Sem.run_pure]
  exact hK _ _ h
/-- Whole numbers that came in. -/
theorem rd_of_ints (w : World) (x : Addr) (len : Nat) (zs : List Int) (hlen : len ≤ zs.length) (q : IntKind) (hcell : ∀ i, i < zs.length → w.cell? (x.add i) = some (.int q (zs.getD i 0))) :
    Rd w (some x) ((zs.take len).map fun z => Value.int q z) := by
  intro k v hv
  have hk : k < len := by
    have := (List.getElem?_eq_some_iff.1 hv).1
    simp at this
    omega
  have hsp : x.spot = none := by simpa [Addr.add] using World.cell?_spot (hcell 0 (by omega))
  obtain ⟨b, off, sp⟩ := x
  simp only at hsp
  subst hsp
  refine ⟨b, off, rfl, ?_⟩
  have hc := hcell k (by omega)
  rw [Addr.add_lit] at hc
  have hk2 : k < zs.length := by omega
  rw [hc, ← hv]
  simp [hk, hk2]
/-- A part of a row. -/
def cutA (ad : Option Addr) (c l : Nat) : Option Addr := if c = l then ad else ad.map (·.add l)
theorem Rd.cut {w : World} {ad : Option Addr} {vs : List Value} (h : Rd w ad vs) (c l m : Nat) (hc : vs.length ≤ c) : Rd w (cutA ad c l) ((vs.take m).drop l) := by
  intro k v hv
  rw [List.getElem?_drop, List.getElem?_take] at hv
  split at hv
  · obtain ⟨b, off, rfl, hcl⟩ := h _ v hv
    have hlt := (List.getElem?_eq_some_iff.1 hv).1
    have hne : c ≠ l := by omega
    refine ⟨b, off + l, ?_, ?_⟩
    · simp only [cutA, hne, if_false, Option.map_some, Addr.add_lit]
    · rw [Nat.add_assoc]; exact hcl
  · cases hv
section
variable {P : Program} {w : World} {ops : Array Oper} {rest : List Oper} {o : Oper} {a : Act} {Q : Exit → Act → World → Prop}
theorem step_want (hgd : o.guard = none ∨ Region.wanted o (yielded ops a.tmps) = true) (v : Value) (w' : World) (hr : (execOp a.eval o).run P w = .ok (.value v) w') (h : wpList P ops Q rest (a.put o.dst v) w') :
    wpList P ops Q (o :: rest) a w := by
  refine wpList_step fun K hK => ?_
  have hw : Region.wanted o (yielded ops a.tmps) = true := by
    rcases hgd with hgd | hgd
    · simp [Region.wanted, hgd]
    · exact hgd
  rw [if_pos hw]
  unfold Oper.wp
  rw [hr]
  exact hK _ _ h
theorem step_concat (hgd : o.guard = none) (t u : TypeId) (x y : Operand) (ho : o.op = .binOp .add t x y u) (p q v : ByteArray) (hx : a.eval x = .string p) (hy : a.eval y = .string q) (hv : p ++ q = v) (hsz : p.size + q.size ≤ 9223372036854775807)
    (hK : wpList P ops Q rest (a.put o.dst (.string v)) w) : wpList P ops Q (o :: rest) a w := by
  subst hv
  refine step_val hgd _ w ?_ hK
  unfold execOp
  simp [ho, hx, hy, eqGuard, binOp, Op.stringOp]
  omega
theorem step_max (hgd : o.guard = none) (ts : Array TypeId) (x y : Operand) (ho : o.op = .call { callee := .builtin .max, args := #[x, y], argTypes := ts }) (p q : Int) (hx : a.eval x = .int .i64 p) (hy : a.eval y = .int .i64 q) (v : Int) (hv : max p q = v)
    (hK : wpList P ops Q rest (a.put o.dst (.int .i64 v)) w) : wpList P ops Q (o :: rest) a w := by
  refine step_val hgd _ w ?_ hK
  unfold execOp
  have e : (if q > p then q else p) = v := by rw [← hv]; split <;> omega
  simp [ho, resolve, invoke, builtin, hx, hy, Builtin.max_, Builtin.max2, e]
theorem step_min (hgd : o.guard = none) (ts : Array TypeId) (x y : Operand) (ho : o.op = .call { callee := .builtin .min, args := #[x, y], argTypes := ts }) (p q : Int) (hx : a.eval x = .int .i64 p) (hy : a.eval y = .int .i64 q) (v : Int) (hv : min p q = v)
    (hK : wpList P ops Q rest (a.put o.dst (.int .i64 v)) w) : wpList P ops Q (o :: rest) a w := by
  refine step_val hgd _ w ?_ hK
  unfold execOp
  have e : (if q < p then q else p) = v := by rw [← hv]; split <;> omega
  simp [ho, resolve, invoke, builtin, hx, hy, Builtin.min_, Builtin.min2, e]
theorem step_cut (hgd : o.guard = none ∨ Region.wanted o (yielded ops a.tmps) = true) (t e : TypeId) (y lo hi : Operand) (ho : o.op = .slice t y (some lo) (some hi) none) (ht : P.underlying t = some (.slice e)) (hsz : (P.info? e).map (·.size) = some 1)
    (ad : Option Addr) (n c : Nat) (hy : a.eval y = .slice ad n c) (x z : Int) (hlo : a.eval lo = .int .i64 x) (hhi : a.eval hi = .int .i64 z) (l h : Nat) (hx : x = l) (hz : z = h) (hlh : l ≤ h) (hhc : h ≤ c)
    (hK : wpList P ops Q rest (a.put o.dst (.slice (cutA ad c l) (h - l) (c - l))) w) : wpList P ops Q (o :: rest) a w := by
  subst hx hz
  refine step_want hgd _ w ?_ hK
  cases hq : P.info? e with
  | none => simp [hq] at hsz
  | some i =>
    have hs : i.size = 1 := by simpa [hq] using hsz
    unfold execOp
    simp [ho, hy, hlo, hhi, Instr.sliceAt, Instr.slice, run_underlying ht, Instr.sliceBounds, Instr.sliceBound, asIntOf, hhc, hlh, sizeOf, typeInfo, hq, hs, cutA]
theorem step_cut0 (hgd : o.guard = none ∨ Region.wanted o (yielded ops a.tmps) = true) (t e : TypeId) (y hi : Operand) (ho : o.op = .slice t y none (some hi) none) (ht : P.underlying t = some (.slice e)) (hsz : (P.info? e).map (·.size) = some 1)
    (ad : Option Addr) (n c : Nat) (hy : a.eval y = .slice ad n c) (z : Int) (hhi : a.eval hi = .int .i64 z) (h : Nat) (hz : z = h) (hhc : h ≤ c)
    (hK : wpList P ops Q rest (a.put o.dst (.slice (cutA ad c 0) h c)) w) : wpList P ops Q (o :: rest) a w := by
  subst hz
  refine step_want hgd _ w ?_ hK
  cases hq : P.info? e with
  | none => simp [hq] at hsz
  | some i =>
    have hs : i.size = 1 := by simpa [hq] using hsz
    unfold execOp
    simp [ho, hy, hhi, Instr.sliceAt, Instr.slice, run_underlying ht, Instr.sliceBounds, Instr.sliceBound, asIntOf, hhc, sizeOf, typeInfo, hq, cutA]
end
end Go.Proofs.Ytbkpgpaanhfjfaa.K
