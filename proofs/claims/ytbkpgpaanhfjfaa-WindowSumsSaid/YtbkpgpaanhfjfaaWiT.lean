/- Chapter 18, the reference: Add: the walk. -/
import Derived.Test.YtbkpgpaanhfjfaaWiS
import Derived.Deep.CutRange
namespace Go.Proofs.Ytbkpgpaanhfjfaa
open Go.RowKit Go.Sort K
/-- The reference's windows within Add. -/
def RaS (w : World) (B r : Nat) (G : Nat → Prop) (O : Obj) (s' : Cfg) (L' : List WV) (W : World) : Prop := ∃ P, RwIs W B r s' L' P ∧ (∀ k, P k → G k ∨ w.heap.size + 1 ≤ k) ∧ Only (· = r) w W ∧ W.heap[w.heap.size]? = some O
section
variable {w W V : World} {B r : Nat} {s s' : Cfg} {L L' : List WV} {G : Nat → Prop} {O : Obj}
theorem RaS.to (h : RaS w B r G O s L W) : RwTo w B r G s L W := by
  obtain ⟨P, h1, h2, h3, -⟩ := h
  exact ⟨P, h1, h3, fun k hk => (h2 k hk).imp (fun h => h) (fun h => by omega)⟩
theorem RaS.new (h : RaS w B r G O s L W) (hb : Below W.heap.size W V) : RaS w B r G O s L V := by
  obtain ⟨P, h1, h2, h3, h4⟩ := h
  exact ⟨P, h1.new hb, h2, h3.trans (G := fun _ => False) (Only.of_new hb) (fun _ _ h => h.elim), keeph' hb h4⟩
theorem RaS.set (h : RaS w B r G O s L W) (hr : r < w.heap.size) (j : Nat) (v : Value) (hv : ∀ p, (s.row p).setIfInBounds j v = s'.row p) : RaS w B r G O s' L (W.setCell ⟨r, j, none⟩ v) := by
  obtain ⟨P, h1, h2, h3, h4⟩ := h
  obtain ⟨k1, k2⟩ := h1.set1 j v hv
  exact ⟨P, k1, h2, h3.trans k2 (fun _ _ h => h), k2.heap h4 (fun e => by have e : w.heap.size = r := e; omega)⟩
theorem RaS.start {nm : List UInt8} {time inc : Int} {rst : Bool} (h : RwIs w B r s L G) : RaS w B r G (gainO nm time inc rst) s L (w.alloc (gainO nm time inc rst)) := by
  have hb : Below w.heap.size w (w.alloc (gainO nm time inc rst)) := (Below.refl _ _).alloc (Nat.le_refl _) _
  exact ⟨G, h.new hb, fun _ h => .inl h, Only.of_new hb, heap_alloc_new w _⟩
theorem RaS.cell (h : RaS w B r G O s L W) : ∃ a c, W.heap[r]? = some (.cells (s.row (.slice a L.length c)) 73 (0, 0)) := by
  obtain ⟨P, ⟨a, c, h1, -⟩, -⟩ := h
  exact ⟨a, c, h1⟩
end
theorem if_pos_eq {p : Prop} [Decidable p] {α : Type} {a b : α} (h : p = True) : (if p then a else b) = a := if_pos (of_eq_true h)
theorem if_neg_eq {p : Prop} [Decidable p] {α : Type} {a b : α} (h : p = False) : (if p then a else b) = b := if_neg (of_eq_false h)
def RaddP (w : World) (B r : Nat) (G : Nat → Prop) (R : Bool × List WV × Cfg × List WV) (e : Ending) (w' : World) : Prop :=
  ∃ a c, e = .returned (.tuple #[.bool R.1, .slice a R.2.1.length c]) ∧ WinsM (fun k => G k ∨ w.heap.size ≤ k) w' R.2.1 a ∧ RwTo w B r G R.2.2.1 R.2.2.2 w'
def FL (s : Cfg) (f : WV) : Cfg := { s with floor := max s.floor f.num }
theorem RcP.up {w4 W w' : World} {l : List Cr} {e : Ending} (hb : Below w4.heap.size w4 W) (h : RcP W l e w') : RcP w4 l e w' := by
  obtain ⟨a, c, h1, h2, h3, h4⟩ := h
  exact ⟨a, c, h1, h2, fun ad e => ⟨Nat.le_trans hb.size (h3 ad e).1, (h3 ad e).2⟩, hb.trans (h4.mono hb.size)⟩
theorem flat_take {α : Type} (f : α → List Value) (n : Nat) (hn : ∀ x, (f x).length = n) : ∀ (l : List α) (k : Nat), (l.flatMap f).take (n * k) = (l.take k).flatMap f
  | [], k => by simp
  | y :: r, 0 => by simp
  | y :: r, k + 1 => by
    rw [List.flatMap_cons, List.take_succ_cons, List.flatMap_cons, List.take_append, hn, ← flat_take f n hn r k, List.take_of_length_le (by rw [hn, Nat.mul_add]; omega), Nat.mul_add, Nat.mul_one, Nat.add_sub_cancel]
theorem flat_drop {α : Type} (f : α → List Value) (n : Nat) (hn : ∀ x, (f x).length = n) : ∀ (l : List α) (k : Nat), (l.flatMap f).drop (n * k) = (l.drop k).flatMap f
  | [], k => by simp
  | y :: r, 0 => by simp
  | y :: r, k + 1 => by
    rw [List.flatMap_cons, List.drop_succ_cons, List.drop_append, hn, ← flat_drop f n hn r k, List.drop_of_length_le (by rw [hn, Nat.mul_add]; omega), Nat.mul_add, Nat.mul_one, Nat.add_sub_cancel, List.nil_append]
theorem addW_late {s : Cfg} {L : List WV} {nm : List UInt8} {time inc n : Int} (hn : time.tdiv s.len = n) (h : time < 0 ∨ 1125899906842624 < time ∨ inc < 0 ∨ n ≤ s.floor) : addW s L nm time inc = (true, [], { s with late := s.late + 1 }, L) := by
  subst hn
  unfold addW
  rw [if_pos h]
theorem addW_noroom {s : Cfg} {L : List WV} {nm : List UInt8} {time inc n : Int} (hn : time.tdiv s.len = n) (h : ¬ (time < 0 ∨ 1125899906842624 < time ∨ inc < 0 ∨ n ≤ s.floor)) (hi : ¬ n ∈ L.map (·.num)) (hf : (L.length : Int) = s.most) (h0 : atW n L = 0) : addW s L nm time inc = (true, [], { s with late := s.late + 1 }, L) := by
  subst hn
  unfold addW
  rw [if_neg h, if_neg (fun h9 => h9.elim hi (fun h8 => by omega))]
  cases L with
  | nil => rfl
  | cons f t =>
    simp only
    rw [atW_cons] at h0
    have h1 : ¬ f.num < time.tdiv s.len := fun h9 => by rw [if_pos h9] at h0; omega
    have h2 : ¬ time.tdiv s.len = f.num := fun h9 => hi (by rw [h9]; simp)
    rw [if_pos (by omega)]
theorem addW_full {s : Cfg} {L : List WV} {nm : List UInt8} {time inc n : Int} (hs : WS L) (hn : time.tdiv s.len = n) (h : ¬ (time < 0 ∨ 1125899906842624 < time ∨ inc < 0 ∨ n ≤ s.floor)) (hi : ¬ n ∈ L.map (·.num)) (hf : (L.length : Int) = s.most) (h0 : atW n L ≠ 0) :
    ∃ f t, L = f :: t ∧ atW n L = atW n t + 1 ∧ addW s L nm time inc = (false, [f], { s with floor := max s.floor f.num, cred := s.cred + 1 }, t.take (atW n t) ++ ⟨n, crPut nm inc []⟩ :: t.drop (atW n t)) := by
  subst hn
  cases L with
  | nil => exact absurd rfl h0
  | cons f t =>
    have h1 : f.num < time.tdiv s.len := Classical.byContradiction fun h9 => h0 (by rw [atW_cons, if_neg h9])
    have h2 : ¬ time.tdiv s.len ∈ t.map (·.num) := fun h9 => hi (by rw [List.map_cons]; exact List.mem_cons_of_mem _ h9)
    have hs2 : WS t := by
      unfold WS at hs ⊢
      rw [List.map_cons, List.pairwise_cons] at hs
      exact hs.2
    refine ⟨f, t, rfl, by rw [atW_cons, if_pos h1], ?_⟩
    unfold addW
    rw [if_neg h, if_neg (fun h9 => h9.elim hi (fun h8 => by omega))]
    simp only
    rw [if_neg (by omega)]
    unfold wvPut
    rw [wvSet_at _ _ hs2, if_neg h2, wvCr_no h2]
theorem addW_in {s : Cfg} {L : List WV} {nm : List UInt8} {time inc n : Int} (hs : WS L) (hn : time.tdiv s.len = n) (h : ¬ (time < 0 ∨ 1125899906842624 < time ∨ inc < 0 ∨ n ≤ s.floor)) (hi : n ∈ L.map (·.num)) :
    ∃ h : atW n L < L.length, addW s L nm time inc = (false, [], { s with cred := s.cred + 1 }, L.take (atW n L) ++ ⟨n, crPut nm inc L[atW n L].cr⟩ :: L.drop (atW n L + 1)) := by
  subst hn
  obtain ⟨k1, k2, k3⟩ := wvCr_at hs hi
  refine ⟨k1, ?_⟩
  unfold addW
  rw [if_neg h, if_pos (.inl hi)]
  unfold wvPut
  rw [wvSet_at _ _ hs, if_pos hi, k3]
theorem addW_more {s : Cfg} {L : List WV} {nm : List UInt8} {time inc n : Int} (hs : WS L) (hn : time.tdiv s.len = n) (h : ¬ (time < 0 ∨ 1125899906842624 < time ∨ inc < 0 ∨ n ≤ s.floor)) (hi : ¬ n ∈ L.map (·.num)) (hf : (L.length : Int) < s.most) :
    addW s L nm time inc = (false, [], { s with cred := s.cred + 1 }, L.take (atW n L) ++ ⟨n, crPut nm inc []⟩ :: L.drop (atW n L)) := by
  subst hn
  unfold addW
  rw [if_neg h, if_pos (.inr hf)]
  unfold wvPut
  rw [wvSet_at _ _ hs, if_neg hi, wvCr_no hi]
theorem RaddP.late {w W : World} {B r : Nat} {s : Cfg} {L : List WV} {G : Nat → Prop} {O : Obj} (h : RaS w B r G O s L W) (hr : r < w.heap.size) : RaddP w B r G (true, [], { s with late := s.late + 1 }, L) (.returned (.tuple #[.bool true, .slice none 0 0])) (W.setCell ⟨r, 7, none⟩ (.int .i64 (s.late + 1))) :=
  ⟨none, 0, rfl, WinsM.nil _ _, (h.set (s' := { s with late := s.late + 1 }) hr 7 _ (fun _ => rfl)).to⟩
/-- The new list is put. -/
theorem ra_end {w V W : World} {B r : Nat} {s : Cfg} {L : List WV} {G P : Nat → Prop} {ys : List WC} {sl : Value} (h : RwIs V B r s L P) (hP : ∀ k, P k → G k ∨ w.heap.size + 1 ≤ k) (ho : Only (· = r) w V) (hb : Below V.heap.size V W) (hy : BlP (fun k => P k ∨ V.heap.size ≤ k) V.heap.size W ys sl) :
    ∃ va vc, sl = .slice va ys.length vc ∧ RwTo w B r G s (ys.map (·.x)) (W.setCell ⟨r, 3, none⟩ (.slice va ys.length vc)) ∧ Only (· = r) V (W.setCell ⟨r, 3, none⟩ (.slice va ys.length vc)) := by
  obtain ⟨va, vc, rfl, hvc, hwm⟩ := hy.win
  obtain ⟨a0, c0, hrow, -⟩ := id h
  obtain ⟨k1, k2⟩ := h.put (s' := s) (L' := ys.map (·.x)) (Only.of_new hb) (keeph' hb hrow) (a := va) (c := vc) (by rw [List.length_map]; exact hvc) hwm (fun k hk => ⟨hk.1.elim (fun h => h) .inr, hk.2⟩)
  rw [List.length_map] at k1 k2
  refine ⟨va, vc, rfl, ⟨_, k1, ho.trans k2 (fun _ _ h => h), fun k hk => ?_⟩, k2⟩
  have hv := ho.size
  rcases hk.1 with (h9 | h9) | h9
  · exact (hP k h9).imp (fun h => h) (fun h => by omega)
  · exact .inr (by omega)
  · exact .inr (by omega)
theorem RaS.parts {w W : World} {B r : Nat} {s : Cfg} {L : List WV} {G : Nat → Prop} {O : Obj} (h : RaS w B r G O s L W) :
    ∃ (P : Nat → Prop) (a : Option Addr) (c : Nat) (ys : List WC), RwIs W B r s L P ∧ (∀ k, P k → G k ∨ w.heap.size + 1 ≤ k) ∧ Only (· = r) w W ∧ W.heap[w.heap.size]? = some O ∧ W.heap[r]? = some (.cells (s.row (.slice a L.length c)) 73 (0, 0)) ∧ L.length ≤ c ∧ L = ys.map (·.x) ∧ (∀ y ∈ ys, WCok P W y ∧ ∀ ad, y.a = some ad → ad.block < W.heap.size) ∧ Rd W a (wcf ys) := by
  obtain ⟨P, h1, h2, h3, h4⟩ := h
  obtain ⟨a, c, k1, k2, ⟨ys, j1, j2, j3, j4⟩, k4, k5⟩ := id h1
  exact ⟨P, a, c, ys, h1, h2, h3, h4, k1, k2.1, j1, fun y hy => ⟨j2 y hy, fun ad e => (k5 _ ((j2 y hy).2 ad e)).2.1⟩, j3⟩
theorem wcf_take (ys : List WC) (k : Nat) : (wcf ys).take (k * 2) = wcf (ys.take k) := by
  rw [Nat.mul_comm]
  exact flat_take _ 2 (fun _ => rfl) ys k
theorem wcf_drop (ys : List WC) (k : Nat) : (wcf ys).drop (k * 2) = wcf (ys.drop k) := by
  rw [Nat.mul_comm]
  exact flat_drop _ 2 (fun _ => rfl) ys k
set_option maxHeartbeats 4000000 in
set_option maxRecDepth 100000 in
theorem radd_any {w : World} {B r : Nat} {s : Cfg} {L : List WV} {G : Nat → Prop} (h : RwIs w B r s L G) (hs : WS L) (hcs : ∀ v ∈ L, CS v.cr) (hb : WBd L) (hc : SOk s) (hlm : (L.length : Int) ≤ s.most) (nm : List UInt8) (time inc : Int) (rst : Bool) (htm : -9223372036854775808 ≤ time ∧ time ≤ 9223372036854775807) (hinc : inc ≤ 9223372036854775807) :
    Calls Try.prog 34 #[.pointer (some ⟨r, 0, none⟩), .agg #[encStr nm, .int .i64 time, .int .i64 inc, .bool rst]] w (RaddP w B r G (addW s L nm time inc)) := by
  have HH := Lib.hid h
  have HS := Lib.hid hs
  have HCS := Lib.hid hcs
  have HB := Lib.hid hb
  have HC := Lib.hid hc
  have HLM := Lib.hid hlm
  have hrl : r < w.heap.size := h.rlt
  have hlen := hc.len
  have hll : L.length ≤ 1000 := hb.len
  obtain ⟨i0, hi0, hz0, hz1, hz2⟩ := info_parts info_wv
  clear h hs hcs hb hc hlm
  go_enter Try.func34, Try.ntmps34
  go_wp2_with fail
  obtain ⟨W1, hW1⟩ : ∃ V, V = w.alloc (.cells #[encStr nm, .int .i64 time, .int .i64 inc, .bool rst] 37) := ⟨_, rfl⟩
  have hR := RaS.start (nm := nm) (time := time) (inc := inc) (rst := rst) HH.out
  rw [show w.alloc (gainO nm time inc rst) = W1 from hW1.symm] at hR
  rw [← hW1]
  clear hW1
  obtain ⟨a, c, hrow⟩ := hR.cell
  have hgb : W1.heap[w.heap.size]? = some (gainO nm time inc rst) := by obtain ⟨_, -, -, -, h9⟩ := hR; exact h9
  have g1 : W1.cell? ⟨w.heap.size, 1, none⟩ = some (.int .i64 time) := by rw [cell_of_row _ _ _ _ _ _ hgb]; rfl
  have g2 : W1.cell? ⟨w.heap.size, 2, none⟩ = some (.int .i64 inc) := by rw [cell_of_row _ _ _ _ _ _ hgb]; rfl
  have c0 : W1.cell? ⟨r, 0, none⟩ = some (.int .i64 s.len) := by rw [cell_of_row _ _ _ _ _ _ hrow]; rfl
  have HR1 := Lib.hid hR
  have HROW1 := Lib.hid hrow
  have HGB1 := Lib.hid hgb
  clear hR hrow hgb
  generalize hsl : s.len = ln at c0 hlen
  have hz : (ln == 0) = false := by rw [beq_eq_false_iff_ne]; omega
  have hz2' : ln ≠ 0 := by omega
  have HSL := Lib.hid hsl
  clear hsl
  go_quiet (fail)
  generalize hq : time.tdiv ln = n
  have HN := Lib.hid (show time.tdiv s.len = n by rw [HSL.out]; exact hq)
  obtain ⟨W2, hW2⟩ : ∃ V, V = W1.drewN nq := ⟨_, rfl⟩
  have hb12 : Below W1.heap.size W1 W2 := by rw [hW2]; exact below_drewN' (Below.refl _ _) _
  rw [← hW2]
  have HR2 := Lib.hid (HR1.out.new hb12)
  have HROW2 := Lib.hid (keeph' hb12 HROW1.out)
  have HGB2 := Lib.hid (keeph' hb12 HGB1.out)
  have hrl2 : r < W2.heap.size := (Array.getElem?_eq_some_iff.1 HROW2.out).1
  have hwl2 : w.heap.size < W2.heap.size := (Array.getElem?_eq_some_iff.1 HGB2.out).1
  clear hW2 hb12 hq hz hz2' g1 g2 c0 HR1 HROW1 HGB1 hlen nq
  obtain ⟨lt, hlt⟩ : ∃ b, b = decide (time < 0 ∨ 1125899906842624 < time ∨ inc < 0 ∨ n ≤ s.floor) := ⟨_, rfl⟩
  have HLT := Lib.hid hlt
  clear hlt
  go_upto_region 2 with fail
  go_cut [7] from 21 to 41 (fun v wx => v = .bool lt ∧ wx = W2)
  case first =>
    have g1 : W2.cell? ⟨w.heap.size, 1, none⟩ = some (.int .i64 time) := by rw [cell_of_row _ _ _ _ _ _ HGB2.out]; rfl
    have g2 : W2.cell? ⟨w.heap.size, 2, none⟩ = some (.int .i64 inc) := by rw [cell_of_row _ _ _ _ _ _ HGB2.out]; rfl
    have c4 : W2.cell? ⟨r, 4, none⟩ = some (.int .i64 s.floor) := by rw [cell_of_row _ _ _ _ _ _ HROW2.out]; rfl
    by_cases a1 : time < 0
    · go_wp2_with fail
      go_meet
      case rel => exact ⟨by rw [HLT.out, decide_eq_true (.inl a1)], rfl⟩
    by_cases a2 : 1125899906842624 < time
    · go_wp2_with fail
      go_meet
      case rel => exact ⟨by rw [HLT.out, decide_eq_true (.inr (.inl a2))], rfl⟩
    by_cases a3 : inc < 0
    · go_wp2_with fail
      go_meet
      case rel => exact ⟨by rw [HLT.out, decide_eq_true (.inr (.inr (.inl a3)))], rfl⟩
    by_cases a4 : n ≤ s.floor
    · go_wp2_with fail
      go_meet
      case rel => exact ⟨by rw [HLT.out, decide_eq_true (.inr (.inr (.inr a4)))], rfl⟩
    · go_wp2_with fail
      go_meet
      case rel => exact ⟨by rw [HLT.out, decide_eq_false (by omega)], rfl⟩
  case rest =>
    obtain ⟨rfl, rfl⟩ := hcut
    have hst : ∃ P, RwIs wc B r s L P := by obtain ⟨P, h9, -⟩ := HR2.out; exact ⟨P, h9⟩
    obtain ⟨P2, hP2⟩ := hst
    have HP2 := Lib.hid hP2
    have c3 : wc.cell? ⟨r, 3, none⟩ = some (.slice a L.length c) := by rw [cell_of_row _ _ _ _ _ _ HROW2.out]; rfl
    have HWM := Lib.hid (show WinsM P2 wc L a from by
      obtain ⟨a9, c9, h1, -, h3, -⟩ := HP2.out
      have h9 := c3
      rw [cell_of_row _ _ _ _ _ _ h1] at h9
      have h8 : some (Value.slice a9 L.length c9) = some (Value.slice a L.length c) := h9
      cases h8
      exact h3)
    clear hP2
    go_wp2_with fail
    go_loopw [8, 9, 10] (fun bv av iv wr => ∃ k : Nat, iv = .int .i64 k ∧ k ≤ L.length ∧ bv = .bool (decide (n ∈ (L.take k).map (·.num))) ∧ av = .int .i64 (min k (atW n L) : Nat) ∧ wr = wc) (fun _ _ iv _ => L.length - (intOf iv).toNat)
    case atStart => exact ⟨0, rfl, Nat.zero_le _, by simp, by simp, rfl⟩
    case round =>
      obtain ⟨k, rfl, hk, rfl, rfl, rfl⟩ := hrel
      by_cases hc : k < L.length
      · obtain ⟨b, off, ra, rc, rfl, hb, -, d0, -, -, -⟩ := wins_at HWM.out hc
        have hat := atW_iff (n := n) HS.out hc
        have hnx : (L.take (k + 1)).map (·.num) = (L.take k).map (·.num) ++ [L[k].num] := by rw [List.take_add_one, List.getElem?_eq_getElem hc, List.map_append]; rfl
        generalize L[k].num = vn at d0 hat hnx
        obtain ⟨bs, hbs⟩ : ∃ x, x = decide (n ∈ (L.take k).map (·.num)) := ⟨_, rfl⟩
        obtain ⟨m, hm⟩ : ∃ x, x = min k (atW n L) := ⟨_, rfl⟩
        have HNX := Lib.hid (show decide (n ∈ (L.take (k + 1)).map (·.num)) = (bs || (vn == n)) by
          rw [hnx, hbs, Bool.eq_iff_iff, decide_eq_true_iff, Bool.or_eq_true, decide_eq_true_iff, beq_iff_eq, List.mem_append, List.mem_singleton]
          exact ⟨fun h => h.imp (fun h => h) Eq.symm, fun h => h.imp (fun h => h) Eq.symm⟩)
        have HAT := Lib.hid (show min (k + 1) (atW n L) = if vn < n then k + 1 else m by
          by_cases h9 : vn < n
          · rw [if_pos h9]
            have := hat.1 h9
            omega
          · rw [if_neg h9]
            have : ¬ k < atW n L := fun h => h9 (hat.2 h)
            omega)
        rw [← hbs, ← hm]
        clear hbs hm hat hnx
        cases bs
        · rcases Int.lt_trichotomy vn n with h9 | h9 | h9
          · have hbq : (vn == n) = false := by rw [beq_eq_false_iff_ne]; omega
            have hbq2 : (vn = n) = False := by rw [eq_iff_iff, iff_false]; omega
            have hl9 : (vn < n) = True := by rw [eq_iff_iff, iff_true]; exact h9
            have HREL := Lib.hid (show decide (n ∈ (L.take (k + 1)).map (·.num)) = false ∧ min (k + 1) (atW n L) = k + 1 by
              rw [HNX.out, HAT.out]
              exact ⟨by rw [hbq]; rfl, by rw [if_pos_eq hl9]⟩)
            clear h9
            go_wp2
            go_roundw
            case rel => exact ⟨k + 1, by go_num, by omega, by rw [HREL.out.1], by rw [HREL.out.2]; simp, trivial⟩
            case measure => simp [intOf]; omega
          · have hbq : (vn == n) = true := by rw [beq_iff_eq]; exact h9
            have hbq2 : (vn = n) = True := by rw [eq_iff_iff, iff_true]; exact h9
            have hl9 : (vn < n) = False := by rw [eq_iff_iff, iff_false]; omega
            have HREL := Lib.hid (show decide (n ∈ (L.take (k + 1)).map (·.num)) = true ∧ min (k + 1) (atW n L) = m by
              rw [HNX.out, HAT.out]
              exact ⟨by rw [hbq]; rfl, by rw [if_neg_eq hl9]⟩)
            clear h9
            go_wp2
            go_roundw
            case rel => exact ⟨k + 1, by go_num, by omega, by rw [HREL.out.1], by rw [HREL.out.2], trivial⟩
            case measure => simp [intOf]; omega
          · have hbq : (vn == n) = false := by rw [beq_eq_false_iff_ne]; omega
            have hbq2 : (vn = n) = False := by rw [eq_iff_iff, iff_false]; omega
            have hl9 : (vn < n) = False := by rw [eq_iff_iff, iff_false]; omega
            have HREL := Lib.hid (show decide (n ∈ (L.take (k + 1)).map (·.num)) = false ∧ min (k + 1) (atW n L) = m by
              rw [HNX.out, HAT.out]
              exact ⟨by rw [hbq]; rfl, by rw [if_neg_eq hl9]⟩)
            clear h9
            go_wp2
            go_roundw
            case rel => exact ⟨k + 1, by go_num, by omega, by rw [HREL.out.1], by rw [HREL.out.2], trivial⟩
            case measure => simp [intOf]; omega
        · rcases Int.lt_trichotomy vn n with h9 | h9 | h9
          · have hbq : (vn == n) = false := by rw [beq_eq_false_iff_ne]; omega
            have hbq2 : (vn = n) = False := by rw [eq_iff_iff, iff_false]; omega
            have hl9 : (vn < n) = True := by rw [eq_iff_iff, iff_true]; exact h9
            have HREL := Lib.hid (show decide (n ∈ (L.take (k + 1)).map (·.num)) = true ∧ min (k + 1) (atW n L) = k + 1 by
              rw [HNX.out, HAT.out]
              exact ⟨by rw [hbq]; rfl, by rw [if_pos_eq hl9]⟩)
            clear h9
            go_wp2
            go_roundw
            case rel => exact ⟨k + 1, by go_num, by omega, by rw [HREL.out.1], by rw [HREL.out.2]; simp, trivial⟩
            case measure => simp [intOf]; omega
          · have hbq : (vn == n) = true := by rw [beq_iff_eq]; exact h9
            have hbq2 : (vn = n) = True := by rw [eq_iff_iff, iff_true]; exact h9
            have hl9 : (vn < n) = False := by rw [eq_iff_iff, iff_false]; omega
            have HREL := Lib.hid (show decide (n ∈ (L.take (k + 1)).map (·.num)) = true ∧ min (k + 1) (atW n L) = m by
              rw [HNX.out, HAT.out]
              exact ⟨by rw [hbq]; rfl, by rw [if_neg_eq hl9]⟩)
            clear h9
            go_wp2
            go_roundw
            case rel => exact ⟨k + 1, by go_num, by omega, by rw [HREL.out.1], by rw [HREL.out.2], trivial⟩
            case measure => simp [intOf]; omega
          · have hbq : (vn == n) = false := by rw [beq_eq_false_iff_ne]; omega
            have hbq2 : (vn = n) = False := by rw [eq_iff_iff, iff_false]; omega
            have hl9 : (vn < n) = False := by rw [eq_iff_iff, iff_false]; omega
            have HREL := Lib.hid (show decide (n ∈ (L.take (k + 1)).map (·.num)) = true ∧ min (k + 1) (atW n L) = m by
              rw [HNX.out, HAT.out]
              exact ⟨by rw [hbq]; rfl, by rw [if_neg_eq hl9]⟩)
            clear h9
            go_wp2
            go_roundw
            case rel => exact ⟨k + 1, by go_num, by omega, by rw [HREL.out.1], by rw [HREL.out.2], trivial⟩
            case measure => simp [intOf]; omega
      · obtain rfl : k = L.length := by omega
        rw [List.take_length, show min L.length (atW n L) = atW n L by have := atW_le n L; omega]
        obtain ⟨wz, hwz⟩ : ∃ wz, wz = wr := ⟨_, rfl⟩
        subst hwz
        obtain ⟨isb, hisb⟩ : ∃ x, x = decide (n ∈ L.map (·.num)) := ⟨_, rfl⟩
        obtain ⟨mo, hmo⟩ : ∃ x, x = s.most := ⟨_, rfl⟩
        rw [← hisb]
        have c2 : wz.cell? ⟨r, 2, none⟩ = some (.int .i64 mo) := by rw [hmo, cell_of_row _ _ _ _ _ _ HROW2.out]; rfl
        have HMO := Lib.hid hmo
        have HISB := Lib.hid hisb
        have hatl : atW n L ≤ L.length := atW_le n L
        clear hmo hisb hc hk
        go_upto_region 11 with fail
        go_cut [11] from 76 to 89 (fun v wx => v = .bool (!isb && decide ((L.length : Int) = mo)) ∧ ∃ m, wx = wz.drewN m)
        case first =>
          cases isb
          · by_cases hlm : (L.length : Int) = mo
            · have hb1 : ((L.length : Int) == mo) = true := by rw [beq_iff_eq]; exact hlm
              have hd1 : decide ((L.length : Int) = mo) = true := decide_eq_true hlm
              clear hlm
              go_quiet (fail)
              go_wp2_with fail
              go_meet
              case rel => exact ⟨by rw [hd1]; rfl, _, rfl⟩
            · have hb1 : ((L.length : Int) == mo) = false := by rw [beq_eq_false_iff_ne]; exact hlm
              have hb2 : ((L.length : Int) = mo) = False := by rw [eq_iff_iff, iff_false]; exact hlm
              have hd1 : decide ((L.length : Int) = mo) = false := decide_eq_false hlm
              clear hlm
              go_quiet (fail)
              go_wp2_with fail
              go_meet
              case rel => exact ⟨by rw [hd1]; rfl, _, rfl⟩
          · go_quiet (fail)
            go_wp2_with fail
            go_meet
            case rel => exact ⟨rfl, _, rfl⟩
        case rest =>
          obtain ⟨rfl, m2, rfl⟩ := hcut
          obtain ⟨W3, hW3⟩ : ∃ V, V = wz.drewN m2 := ⟨_, rfl⟩
          have hb23 : Below wz.heap.size wz W3 := by rw [hW3]; exact below_drewN' (Below.refl _ _) _
          rw [← hW3]
          have HR3 := Lib.hid (HR2.out.new hb23)
          clear hW3 hb23 c2 c3 hrl2 hwl2 HROW2 HGB2 HP2 HWM HR2
          cases lt
          rotate_left 1
          · have HADD := Lib.hid (addW_late (nm := nm) (L := L) HN.out (of_decide_eq_true HLT.out.symm))
            obtain ⟨la, hla⟩ : ∃ x, x = s.late := ⟨_, rfl⟩
            have hlb := HC.out.late
            rw [← hla] at hlb
            obtain ⟨_, a3, c3, _, -, -, -, -, hrow3, -⟩ := HR3.out.parts
            have c7 : W3.cell? ⟨r, 7, none⟩ = some (.int .i64 la) := by rw [hla, cell_of_row _ _ _ _ _ _ hrow3]; rfl
            have z7 : W3.frozen? ⟨r, 7, none⟩ = false := frozen_of_row W3 _ _ _ _ hrow3
            have HF := Lib.hid (show RaddP w B r G (true, [], { s with late := s.late + 1 }, L) (.returned (.tuple #[.bool true, .slice none 0 0])) (W3.setCell ⟨r, 7, none⟩ (.int .i64 (la + 1))) from by rw [hla]; exact RaddP.late HR3.out hrl)
            clear hla hrow3
            go_wp2
            go_ret2
            rw [HADD.out]
            exact HF.out
          have HNL := Lib.hid (of_decide_eq_false HLT.out.symm)
          obtain ⟨ka, hka⟩ : ∃ x, x = atW n L := ⟨_, rfl⟩
          rw [← hka] at hatl ⊢
          have HKA := Lib.hid hka
          clear hka
          cases isb
          · have HNI := Lib.hid (of_decide_eq_false HISB.out.symm)
            by_cases hlm : (L.length : Int) = mo
            · have hlm2 : decide ((L.length : Int) = mo) = true := decide_eq_true hlm
              rw [hlm2]
              clear hlm2
              have HLE := Lib.hid (show (L.length : Int) = s.most by rw [← HMO.out]; exact hlm)
              clear hlm
              rcases Nat.eq_zero_or_pos ka with h0 | h0
              · subst h0
                have HADD := Lib.hid (addW_noroom (nm := nm) HN.out HNL.out HNI.out HLE.out HKA.out.symm)
                obtain ⟨la, hla⟩ : ∃ x, x = s.late := ⟨_, rfl⟩
                have hlb := HC.out.late
                rw [← hla] at hlb
                obtain ⟨_, a3, c3, _, -, -, -, -, hrow3, -⟩ := HR3.out.parts
                have c7 : W3.cell? ⟨r, 7, none⟩ = some (.int .i64 la) := by rw [hla, cell_of_row _ _ _ _ _ _ hrow3]; rfl
                have z7 : W3.frozen? ⟨r, 7, none⟩ = false := frozen_of_row W3 _ _ _ _ hrow3
                have HF := Lib.hid (show RaddP w B r G (true, [], { s with late := s.late + 1 }, L) (.returned (.tuple #[.bool true, .slice none 0 0])) (W3.setCell ⟨r, 7, none⟩ (.int .i64 (la + 1))) from by rw [hla]; exact RaddP.late HR3.out hrl)
                clear hla hrow3
                go_wp2
                go_ret2
                rw [HADD.out]
                exact HF.out
              · obtain ⟨f, t, hft, hat, hadd⟩ := addW_full (nm := nm) HS.out HN.out HNL.out HNI.out HLE.out (by rw [← HKA.out]; omega)
                subst hft
                obtain ⟨kb, hkb⟩ : ∃ x, x = atW n t := ⟨_, rfl⟩
                rw [← HKA.out, ← hkb] at hat
                rw [← hkb] at hadd
                subst hat
                have HADD := Lib.hid (show addW s (f :: t) nm time inc = (false, [f], { FL s f with cred := (FL s f).cred + 1 }, t.take kb ++ ⟨n, crPut nm inc []⟩ :: t.drop kb) from hadd)
                have htl : t.length ≤ 1000 := by simpa using Nat.le_of_succ_le hll
                have hkl : kb ≤ t.length := by simpa using hatl
                have HKB := Lib.hid hkb
                clear hadd hkb h0 hatl
                have hfr := HR3.out
                obtain ⟨P3, hI3, hP3, hO3, hG3⟩ := hfr
                have HFI := Lib.hid (rfirst_any hI3 htl)
                have HP3 := Lib.hid hP3
                have HO3 := Lib.hid hO3
                have HG3 := Lib.hid hG3
                have HFG := Lib.hid hI3.glt
                have hw3 : w.heap.size < W3.heap.size := (Array.getElem?_eq_some_iff.1 hG3).1
                have hkq : ((kb : Int) + 1 == 0) = false := by rw [beq_eq_false_iff_ne]; omega
                have hkq2 : ((kb : Int) + 1 = 0) = False := by rw [eq_iff_iff, iff_false]; omega
                clear hI3 hP3 hO3 hG3
                go_wp2_with fail
                refine HFI.out.mono ?_
                rintro e w8 ⟨fa, fc, rfl, hfrd, hfab, hfto⟩
                obtain ⟨P8, h8, o8, p8⟩ := hfto
                have HR8 := Lib.hid (show RaS w B r G (gainO nm time inc rst) (FL s f) t w8 from ⟨P8, h8, fun k hk => (p8 k hk).elim (HP3.out k) (fun h => .inr (by omega)), HO3.out.trans o8 (fun _ _ h => h), o8.heap HG3.out (fun e => by have e : w.heap.size = r := e; omega)⟩)
                have HW8 := Lib.hid (show w.heap.size ≤ w8.heap.size from Nat.le_trans (Nat.le_of_lt hw3) o8.size)
                have HQ9 := Lib.hid (show ∀ V, V = w8.alloc (.cells #[.int .i64 f.num, .slice fa f.cr.length fc] 32) → Rd V (some ⟨w8.heap.size, 0, none⟩) (WC.cells ⟨f, fa, fc⟩) ∧ w8.heap.size ≤ V.heap.size ∧ Below w8.heap.size w8 V ∧ WcB (fun k => G k ∨ w.heap.size ≤ k) V (.slice none 0 0) ⟨f, fa, fc⟩ from fun V hV => by
                  have hbV : Below w8.heap.size w8 V := by rw [hV]; exact (Below.refl _ _).alloc (Nat.le_refl _) _
                  refine ⟨by rw [hV]; exact Rd.new w8 _ _ _ _ (fun j u hu => by simpa [WC.cells] using hu), hbV.size, hbV, hfrd.below hbV (Nat.le_refl _), fun ad e => ⟨(HP3.out _ (hfab ad e)).imp (fun h => h) (fun h => by omega), ?_, by intro h; cases h⟩⟩
                  have h9 := Nat.lt_of_lt_of_le ((HFG.out _ (hfab ad e))) o8.size
                  exact Nat.lt_of_lt_of_le h9 hbV.size)
                clear h8 o8 p8 hfrd hfab hw3
                go_wp2_with (first
                  | (with_reducible refine step_append_any (.inl rfl) _ _ 29 rfl w8.heap.size 32 i0 _ 2 32 Try.underlying29 hi0 hz0 hz1 hz2 rfl (by decide) (.slice none 0 0) 0 [] rfl (World.ownsRow_nil _ _ _ _) (some ⟨w8.heap.size, 0, none⟩) 1 1 (WC.cells ⟨f, fa, fc⟩) rfl rfl (HQ9.out _ rfl).1 (wc_one _) (by unfold maxLen; omega) (by omega) (HQ9.out _ rfl).2.1 ?_)
                  | fail)
                intro cl w10 happ9
                obtain ⟨V9, hV9⟩ : ∃ V, V = w8.alloc (.cells #[.int .i64 f.num, .slice fa f.cr.length fc] 32) := ⟨_, rfl⟩
                obtain ⟨-, -, hq3, hq4⟩ := HQ9.out V9 hV9
                rw [← hV9] at happ9
                have hbl9 := (BlP.nil (fun k => G k ∨ w.heap.size ≤ k) w8.heap.size V9).app (zs := [⟨f, fa, fc⟩]) (n := 0 + 1) (fun z hz => by
                  simp only [List.mem_singleton] at hz
                  subst hz
                  exact hq4) (by simpa [wcf] using happ9) rfl
                have hb10 : Below w8.heap.size w8 w10 := hq3.grown happ9.2.1 hq3.size (fun q hq => by cases hq)
                obtain ⟨ca, cc, hsv, -, hcw⟩ := hbl9.win
                have hsv : cl = .slice ca 1 cc := hsv
                subst hsv
                have HCLO := Lib.hid (show WinsM (fun k => G k ∨ w.heap.size ≤ k) w10 [f] ca from hcw.mono (fun k hk => hk.1.elim (fun h => h) (fun h => .inr (by have := HW8.out; omega))))
                have HR10 := Lib.hid (HR8.out.new hb10)
                have hcd : 0 ≤ (FL s f).cred ∧ (FL s f).cred ≤ 1000000 := HC.out.cred
                have HCRD := Lib.hid (show ∀ W, Calls Try.prog 45 #[.slice none 0 0, .agg #[encStr nm, .int .i64 time, .int .i64 inc, .bool rst]] W (RcP W (crPut nm inc [])) from fun W => rcredit_any (cr := []) (Rd.nil W none) (by simp [CS]) (by simp) (by simp) nm time inc rst ⟨by have := HNL.out; omega, hinc⟩)
                clear hV9 hq3 hq4 happ9 hbl9 hb10 hcw HQ9 hkq hkq2
                obtain ⟨cd, hcd0⟩ : ∃ x, x = (FL s f).cred := ⟨_, rfl⟩
                rw [← hcd0] at hcd
                obtain ⟨V1, hV1⟩ : ∃ V, V = w10.setCell ⟨r, 6, none⟩ (.int .i64 (cd + 1)) := ⟨_, rfl⟩
                have hR1 := HR10.out.set (s' := { (FL s f) with cred := (FL s f).cred + 1 }) hrl 6 (.int .i64 (cd + 1)) (fun _ => by rw [hcd0]; rfl)
                rw [← hV1] at hR1
                obtain ⟨_, a0, c0, _, -, -, -, -, hrow0, -⟩ := HR10.out.parts
                have c6 : w10.cell? ⟨r, 6, none⟩ = some (.int .i64 cd) := by rw [hcd0, cell_of_row _ _ _ _ _ _ hrow0]; rfl
                have z6 : w10.frozen? ⟨r, 6, none⟩ = false := frozen_of_row w10 _ _ _ _ hrow0
                obtain ⟨Px, ax, cx, ys, hI, hPx, hox, hgx, hrx, hcx, hyl, hyo, hyr⟩ := hR1.parts
                have c3 : w10.cell? ⟨r, 3, none⟩ = some (.slice ax t.length cx) := by
                  have h2 : V1.cell? ⟨r, 3, none⟩ = some (.slice ax t.length cx) := by rw [cell_of_row _ _ _ _ _ _ hrx]; rfl
                  have h3 : w10.cell? ⟨r, 3, none⟩ = some (.slice a0 t.length c0) := by rw [cell_of_row _ _ _ _ _ _ hrow0]; rfl
                  have h4 : V1.cell? ⟨r, 3, none⟩ = some (.slice a0 t.length c0) := by
                    rw [hV1, cell_of_row _ _ _ _ _ _ (heap_setCell_same _ _ _ _ _ _ hrow0)]
                    rfl
                  rw [h4] at h2
                  rw [h3]
                  exact h2
                have hV1r : r < w10.heap.size := (Array.getElem?_eq_some_iff.1 hrow0).1
                have hyn : ys.length = t.length := by rw [hyl, List.length_map]
                have HQ := Lib.hid (show ∀ V, V = w10.setCell ⟨r, 6, none⟩ (.int .i64 (cd + 1)) → Rd V (cutB ax cx 0 2) (wcf (ys.take kb)) ∧ V1.heap.size ≤ V.heap.size from fun V hV => by
                  rw [hV, ← hV1]
                  have h9 := hyr.cutB cx 0 (kb * 2) 2 (by rw [wcf_length]; omega)
                  rw [wcf_take] at h9
                  exact ⟨h9, Nat.le_refl _⟩)
                have HLN := Lib.hid (show (wcf (ys.take kb)).length = (kb - 0) * 2 by rw [wcf_length, List.length_take]; omega)
                have HCD := Lib.hid hcd0
                have HV1 := Lib.hid hV1
                have HI := Lib.hid hI
                have HPX := Lib.hid hPx
                have HOX := Lib.hid hox
                have HGX := Lib.hid hgx
                have HRX1 := Lib.hid hrx
                have HYL := Lib.hid hyl
                have HYO := Lib.hid hyo
                have HYR := Lib.hid hyr
                have HYN := Lib.hid hyn
                clear hcd0 hV1 hR1 hI hPx hox hgx hrx hyl hyo hyr hrow0 hyn
                go_wp2_with (first
                  | (with_reducible refine step_want (.inl rfl) _ _ (exec_cut 29 32 _ none (some _) rfl Try.underlying29 2 (by kernel_rfl) ax t.length cx rfl 0 kb (.inl ⟨rfl, rfl⟩) (.inr ⟨_, rfl, rfl⟩) (by omega) (by omega)) ?_)
                  | (with_reducible refine step_append_any (.inl rfl) _ _ 29 rfl V1.heap.size 32 i0 _ 2 32 Try.underlying29 hi0 hz0 hz1 hz2 rfl (by decide) (.slice none 0 0) 0 [] rfl (World.ownsRow_nil _ _ _ _) (cutB ax cx 0 2) (kb - 0) (cx - 0) (wcf (ys.take kb)) rfl HLN.out (HQ.out _ rfl).1 (wcf_one _) (by unfold maxLen; omega) (by omega) (HQ.out _ rfl).2 ?_)
                  | fail)
                intro l1 w4 happ1
                rw [← HV1.out] at happ1
                have hz4 : ∀ z ∈ ys, WcB (fun k => Px k ∨ V1.heap.size ≤ k) V1 (.slice none 0 0) z := fun z hz => ⟨(HYO.out z hz).1.1, fun ad e => ⟨.inl ((HYO.out z hz).1.2 ad e), (HYO.out z hz).2 ad e, by intro h; cases h⟩⟩
                have hbl1 := (BlP.nil (fun k => Px k ∨ V1.heap.size ≤ k) V1.heap.size V1).app (zs := ys.take kb) (fun z hz => hz4 z (List.mem_of_mem_take hz)) happ1 (by rw [List.length_take, HYN.out]; simp; omega)
                rw [List.nil_append] at hbl1
                have hb4 : Below V1.heap.size V1 w4 := (Below.refl _ _).grown happ1.2.1 (Nat.le_refl _) (fun q hq => by cases hq)
                have HB4 := Lib.hid hb4
                have hg4 := keeph' hb4 HGX.out
                have hr4 := keeph' hb4 HRX1.out
                obtain ⟨la, lc, hsv, -, -, -, -⟩ := own_slice3 hbl1.1
                have g0 : w4.cell? ⟨w.heap.size, 0, none⟩ = some (encStr nm) := by rw [cell_of_row _ _ _ _ _ _ hg4]; rfl
                have g1 : w4.cell? ⟨w.heap.size, 1, none⟩ = some (.int .i64 time) := by rw [cell_of_row _ _ _ _ _ _ hg4]; rfl
                have g2 : w4.cell? ⟨w.heap.size, 2, none⟩ = some (.int .i64 inc) := by rw [cell_of_row _ _ _ _ _ _ hg4]; rfl
                have g3 : w4.cell? ⟨w.heap.size, 3, none⟩ = some (.bool rst) := by rw [cell_of_row _ _ _ _ _ _ hg4]; rfl
                have d3 : w4.cell? ⟨r, 3, none⟩ = some (.slice ax t.length cx) := by rw [cell_of_row _ _ _ _ _ _ hr4]; rfl
                have hrl4 : r < w4.heap.size := (Array.getElem?_eq_some_iff.1 hr4).1
                have hgl4 : w.heap.size < w4.heap.size := (Array.getElem?_eq_some_iff.1 hg4).1
                have hlk : (ys.take kb).length = kb := by rw [List.length_take, HYN.out]; omega
                rw [hlk] at hsv
                subst hsv
                have HBL1 := Lib.hid hbl1
                have HLK := Lib.hid hlk
                clear happ1 hz4 hb4 hg4 hr4 hbl1 HQ HLN c6 z6 c3 hlk
                go_wp2_with fail
                refine (HCRD.out w4).mono ?_
                rintro e w5 ⟨a2, c2, rfl, hrd2, hab2, hb5⟩
                obtain ⟨crx, hcrx⟩ : ∃ x, x = (crPut nm inc []) := ⟨_, rfl⟩
                rw [← hcrx] at hrd2 ⊢
                have HCRX := Lib.hid hcrx
                have hb15 : Below V1.heap.size V1 w5 := HB4.out.trans (hb5.mono HB4.out.size)
                have HQ2 := Lib.hid (show ∀ V, V = w5.alloc (.cells #[.int .i64 n, .slice a2 crx.length c2] 32) → V.ownsRow V1.heap.size 32 2 (.slice la kb lc) kb (wcf (ys.take kb)) ∧ Rd V (some ⟨w5.heap.size, 0, none⟩) (WC.cells ⟨⟨n, crx⟩, a2, c2⟩) ∧ V1.heap.size ≤ V.heap.size ∧ BlP (fun k => Px k ∨ V1.heap.size ≤ k) V1.heap.size V (ys.take kb) (.slice la kb lc) ∧ WcB (fun k => Px k ∨ V1.heap.size ≤ k) V (.slice la kb lc) ⟨⟨n, crx⟩, a2, c2⟩ ∧ Below V1.heap.size V1 V from fun V hV => by
                  have hbV : Below w5.heap.size w5 V := by rw [hV]; exact (Below.refl _ _).alloc (Nat.le_refl _) _
                  have hb4V : Below w4.heap.size w4 V := hb5.trans (hbV.mono hb5.size)
                  have h1 := HBL1.out.below hb4V
                  have h2 := h1.1
                  rw [HLK.out] at h2
                  refine ⟨h2, by rw [hV]; exact Rd.new w5 _ _ _ _ (fun j u hu => by simpa [WC.cells] using hu), Nat.le_trans hb15.size hbV.size, h1, ⟨hrd2.below hbV (Nat.le_refl _), fun ad e => ?_⟩, hb15.trans (hbV.mono hb15.size)⟩
                  have h9 := hab2 ad e
                  refine ⟨.inr (Nat.le_trans HB4.out.size h9.1), Nat.lt_of_lt_of_le h9.2 hbV.size, fun hq => ?_⟩
                  have h8 := (HBL1.out.1.lt _ hq).2
                  omega)
                clear hrd2 hab2 hcrx hb15 g0 g1 g2 g3
                go_wp2_with (first
                  | (with_reducible refine step_append_any (.inl rfl) _ _ 29 rfl V1.heap.size 32 i0 _ 2 32 Try.underlying29 hi0 hz0 hz1 hz2 rfl (by decide) (.slice la kb lc) kb (wcf (ys.take kb)) rfl (HQ2.out _ rfl).1 (some ⟨w5.heap.size, 0, none⟩) 1 1 (WC.cells ⟨⟨n, crx⟩, a2, c2⟩) rfl rfl (HQ2.out _ rfl).2.1 (wc_one _) (by unfold maxLen; omega) (by omega) (HQ2.out _ rfl).2.2.1 ?_)
                  | fail)
                intro l2 w6 happ2
                obtain ⟨V2, hV2⟩ : ∃ V, V = w5.alloc (.cells #[.int .i64 n, .slice a2 crx.length c2] 32) := ⟨_, rfl⟩
                obtain ⟨-, -, -, hq4, hq5, hq6⟩ := HQ2.out V2 hV2
                rw [← hV2] at happ2
                have hbl2 := hq4.app (zs := [⟨⟨n, crx⟩, a2, c2⟩]) (fun z hz => by
                  simp only [List.mem_singleton] at hz
                  subst hz
                  exact hq5) (n := kb + 1) (by simpa [wcf] using happ2) (by rw [HLK.out]; rfl)
                have hb6 : Below V1.heap.size V1 w6 := hq6.grown happ2.2.1 hq6.size (fun q hq => (HBL1.out.1.lt q hq).1)
                obtain ⟨ma, mc, hsv, -, -, -, -⟩ := own_slice3 hbl2.1
                have hln2 : (ys.take kb ++ [WC.mk ⟨n, crx⟩ a2 c2]).length = kb + 1 := by rw [List.length_append, HLK.out]; rfl
                rw [hln2] at hsv
                subst hsv
                have hr6 := keeph' hb6 HRX1.out
                have e3 : w6.cell? ⟨r, 3, none⟩ = some (.slice ax t.length cx) := by rw [cell_of_row _ _ _ _ _ _ hr6]; rfl
                have hrl6 : r < w6.heap.size := (Array.getElem?_eq_some_iff.1 hr6).1
                have HBL2 := Lib.hid hbl2
                have HB6 := Lib.hid hb6
                have HLN2 := Lib.hid hln2
                have HO2 := Lib.hid (show w6.ownsRow V1.heap.size 32 2 (.slice ma (kb + 1) mc) (kb + 1) (wcf (ys.take kb ++ [WC.mk ⟨n, crx⟩ a2 c2])) by
                  have h9 := hbl2.1
                  rw [hln2] at h9
                  exact h9)
                have HQ3 := Lib.hid (show Rd w6 (cutB ax cx kb 2) (wcf (ys.drop kb)) ∧ (wcf (ys.drop kb)).length = (t.length - kb) * 2 ∧ V1.heap.size ≤ w6.heap.size from by
                  have h9 := (HYR.out.below hb6 (Nat.le_refl _)).cutB cx kb (2 * t.length) 2 (by rw [wcf_length, HYN.out]; omega)
                  rw [List.take_of_length_le (by rw [wcf_length, HYN.out]; exact Nat.le_refl _), wcf_drop] at h9
                  exact ⟨h9, by rw [wcf_length, List.length_drop, HYN.out]; omega, hb6.size⟩)
                clear hV2 hq4 hq5 hq6 happ2 hbl2 hb6 hln2 hr6 HQ2 d3 hrl4 hgl4
                go_wp2_with (first
                  | (with_reducible refine step_want (.inl rfl) _ _ (exec_cut 29 32 _ (some _) none rfl Try.underlying29 2 (by kernel_rfl) ax t.length cx rfl kb t.length (.inr ⟨_, rfl, rfl⟩) (.inl ⟨rfl, rfl⟩) (by omega) (by omega)) ?_)
                  | (with_reducible refine step_append_any (.inl rfl) _ _ 29 rfl V1.heap.size 32 i0 _ 2 32 Try.underlying29 hi0 hz0 hz1 hz2 rfl (by decide) (.slice ma (kb + 1) mc) (kb + 1) (wcf (ys.take kb ++ [WC.mk ⟨n, crx⟩ a2 c2])) rfl HO2.out (cutB ax cx kb 2) (t.length - kb) (cx - kb) (wcf (ys.drop kb)) rfl HQ3.out.2.1 HQ3.out.1 (wcf_one _) (by unfold maxLen; omega) (by omega) HQ3.out.2.2 ?_)
                  | fail)
                intro l3 w7 happ3
                have hbl3 := HBL2.out.app (zs := ys.drop kb) (fun z hz => ⟨(HYO.out z (List.mem_of_mem_drop hz)).1.1.below HB6.out (Nat.le_refl _), fun ad e => ⟨.inl ((HYO.out z (List.mem_of_mem_drop hz)).1.2 ad e), Nat.lt_of_lt_of_le ((HYO.out z (List.mem_of_mem_drop hz)).2 ad e) HB6.out.size, fun hq => by
                  have h9 := (HO2.out.lt _ hq).1
                  have h8 := (HYO.out z (List.mem_of_mem_drop hz)).2 ad e
                  omega⟩⟩) happ3 (by rw [HLN2.out, List.length_drop, HYN.out])
                have hb7 : Below V1.heap.size V1 w7 := HB6.out.grown happ3.2.1 HB6.out.size (fun q hq => (HO2.out.lt q hq).1)
                obtain ⟨va, vc, hsv, hto, hon⟩ := ra_end HI.out HPX.out HOX.out hb7 hbl3
                generalize (ys.take kb ++ [WC.mk ⟨n, crx⟩ a2 c2] ++ ys.drop kb).length = N at hsv hto hon
                subst hsv
                have hr7 := keeph' hb7 HRX1.out
                have y3 : w7.cell? ⟨r, 3, none⟩ = some (.slice ax t.length cx) := by rw [cell_of_row _ _ _ _ _ _ hr7]; rfl
                have zz3 : w7.frozen? ⟨r, 3, none⟩ = false := frozen_of_row w7 _ _ _ _ hr7
                have hrl7 : r < w7.heap.size := (Array.getElem?_eq_some_iff.1 hr7).1
                have HF := Lib.hid (show RaddP w B r G (false, [f], { (FL s f) with cred := (FL s f).cred + 1 }, t.take kb ++ ⟨n, (crPut nm inc [])⟩ :: t.drop kb) (.returned (.tuple #[.bool false, .slice ca (List.length [f]) cc])) (w7.setCell ⟨r, 3, none⟩ (.slice va N vc)) from by
                  have hos : Only (· = r) w10 V1 := by rw [HV1.out]; exact (Only.refl (· = r) w10).setCell ⟨r, 6, none⟩ _ (fun _ => rfl)
                  have e9 : (ys.take kb ++ [WC.mk ⟨n, crx⟩ a2 c2] ++ ys.drop kb).map (·.x) = t.take kb ++ ⟨n, (crPut nm inc [])⟩ :: t.drop kb := by
                    have t1 : t.take kb = (ys.take kb).map (·.x) := by rw [HYL.out, List.map_take]
                    have t2 : t.drop kb = (ys.drop kb).map (·.x) := by rw [HYL.out, List.map_drop]
                    rw [t1, t2, ← HCRX.out]
                    simp
                  rw [e9] at hto
                  refine ⟨ca, cc, rfl, HCLO.out.only (hos.trans hon (fun _ _ h => h)) (fun k hk e => ?_), hto⟩
                  have e : k = r := e
                  rcases hk with h9 | h9
                  · obtain ⟨_, _, -, -, -, -, h5⟩ := HH.out
                    exact (h5 k h9).2.2 e
                  · omega)
                clear happ3 hbl3 hb7 hto hon hr7 HQ3
                go_wp2
                go_ret2
                rw [HADD.out]
                exact HF.out
            · have hlm2 : decide ((L.length : Int) = mo) = false := decide_eq_false hlm
              rw [hlm2]
              clear hlm2
              have hadd := addW_more (nm := nm) HS.out HN.out HNL.out HNI.out (show (L.length : Int) < s.most by have := HLM.out; have := HMO.out; omega)
              rw [← HKA.out] at hadd
              have HADD := Lib.hid hadd
              clear hadd hlm
              have hcd := HC.out.cred
              have HCLO := Lib.hid (show WinsM (fun k => G k ∨ w.heap.size ≤ k) W3 [] none from WinsM.nil _ _)
              have HCRD := Lib.hid (show ∀ W, Calls Try.prog 45 #[.slice none 0 0, .agg #[encStr nm, .int .i64 time, .int .i64 inc, .bool rst]] W (RcP W (crPut nm inc [])) from fun W => rcredit_any (cr := []) (Rd.nil W none) (by simp [CS]) (by simp) (by simp) nm time inc rst ⟨by have := HNL.out; omega, hinc⟩)
              obtain ⟨cd, hcd0⟩ : ∃ x, x = s.cred := ⟨_, rfl⟩
              rw [← hcd0] at hcd
              obtain ⟨V1, hV1⟩ : ∃ V, V = W3.setCell ⟨r, 6, none⟩ (.int .i64 (cd + 1)) := ⟨_, rfl⟩
              have hR1 := HR3.out.set (s' := { s with cred := s.cred + 1 }) hrl 6 (.int .i64 (cd + 1)) (fun _ => by rw [hcd0]; rfl)
              rw [← hV1] at hR1
              obtain ⟨_, a0, c0, _, -, -, -, -, hrow0, -⟩ := HR3.out.parts
              have c6 : W3.cell? ⟨r, 6, none⟩ = some (.int .i64 cd) := by rw [hcd0, cell_of_row _ _ _ _ _ _ hrow0]; rfl
              have z6 : W3.frozen? ⟨r, 6, none⟩ = false := frozen_of_row W3 _ _ _ _ hrow0
              obtain ⟨Px, ax, cx, ys, hI, hPx, hox, hgx, hrx, hcx, hyl, hyo, hyr⟩ := hR1.parts
              have c3 : W3.cell? ⟨r, 3, none⟩ = some (.slice ax L.length cx) := by
                have h2 : V1.cell? ⟨r, 3, none⟩ = some (.slice ax L.length cx) := by rw [cell_of_row _ _ _ _ _ _ hrx]; rfl
                have h3 : W3.cell? ⟨r, 3, none⟩ = some (.slice a0 L.length c0) := by rw [cell_of_row _ _ _ _ _ _ hrow0]; rfl
                have h4 : V1.cell? ⟨r, 3, none⟩ = some (.slice a0 L.length c0) := by
                  rw [hV1, cell_of_row _ _ _ _ _ _ (heap_setCell_same _ _ _ _ _ _ hrow0)]
                  rfl
                rw [h4] at h2
                rw [h3]
                exact h2
              have hV1r : r < W3.heap.size := (Array.getElem?_eq_some_iff.1 hrow0).1
              have hyn : ys.length = L.length := by rw [hyl, List.length_map]
              have HQ := Lib.hid (show ∀ V, V = W3.setCell ⟨r, 6, none⟩ (.int .i64 (cd + 1)) → Rd V (cutB ax cx 0 2) (wcf (ys.take ka)) ∧ V1.heap.size ≤ V.heap.size from fun V hV => by
                rw [hV, ← hV1]
                have h9 := hyr.cutB cx 0 (ka * 2) 2 (by rw [wcf_length]; omega)
                rw [wcf_take] at h9
                exact ⟨h9, Nat.le_refl _⟩)
              have HLN := Lib.hid (show (wcf (ys.take ka)).length = (ka - 0) * 2 by rw [wcf_length, List.length_take]; omega)
              have HCD := Lib.hid hcd0
              have HV1 := Lib.hid hV1
              have HI := Lib.hid hI
              have HPX := Lib.hid hPx
              have HOX := Lib.hid hox
              have HGX := Lib.hid hgx
              have HRX1 := Lib.hid hrx
              have HYL := Lib.hid hyl
              have HYO := Lib.hid hyo
              have HYR := Lib.hid hyr
              have HYN := Lib.hid hyn
              clear hcd0 hV1 hR1 hI hPx hox hgx hrx hyl hyo hyr hrow0 hyn
              go_wp2_with (first
                | (with_reducible refine step_want (.inl rfl) _ _ (exec_cut 29 32 _ none (some _) rfl Try.underlying29 2 (by kernel_rfl) ax L.length cx rfl 0 ka (.inl ⟨rfl, rfl⟩) (.inr ⟨_, rfl, rfl⟩) (by omega) (by omega)) ?_)
                | (with_reducible refine step_append_any (.inl rfl) _ _ 29 rfl V1.heap.size 32 i0 _ 2 32 Try.underlying29 hi0 hz0 hz1 hz2 rfl (by decide) (.slice none 0 0) 0 [] rfl (World.ownsRow_nil _ _ _ _) (cutB ax cx 0 2) (ka - 0) (cx - 0) (wcf (ys.take ka)) rfl HLN.out (HQ.out _ rfl).1 (wcf_one _) (by unfold maxLen; omega) (by omega) (HQ.out _ rfl).2 ?_)
                | fail)
              intro l1 w4 happ1
              rw [← HV1.out] at happ1
              have hz4 : ∀ z ∈ ys, WcB (fun k => Px k ∨ V1.heap.size ≤ k) V1 (.slice none 0 0) z := fun z hz => ⟨(HYO.out z hz).1.1, fun ad e => ⟨.inl ((HYO.out z hz).1.2 ad e), (HYO.out z hz).2 ad e, by intro h; cases h⟩⟩
              have hbl1 := (BlP.nil (fun k => Px k ∨ V1.heap.size ≤ k) V1.heap.size V1).app (zs := ys.take ka) (fun z hz => hz4 z (List.mem_of_mem_take hz)) happ1 (by rw [List.length_take, HYN.out]; simp; omega)
              rw [List.nil_append] at hbl1
              have hb4 : Below V1.heap.size V1 w4 := (Below.refl _ _).grown happ1.2.1 (Nat.le_refl _) (fun q hq => by cases hq)
              have HB4 := Lib.hid hb4
              have hg4 := keeph' hb4 HGX.out
              have hr4 := keeph' hb4 HRX1.out
              obtain ⟨la, lc, hsv, -, -, -, -⟩ := own_slice3 hbl1.1
              have g0 : w4.cell? ⟨w.heap.size, 0, none⟩ = some (encStr nm) := by rw [cell_of_row _ _ _ _ _ _ hg4]; rfl
              have g1 : w4.cell? ⟨w.heap.size, 1, none⟩ = some (.int .i64 time) := by rw [cell_of_row _ _ _ _ _ _ hg4]; rfl
              have g2 : w4.cell? ⟨w.heap.size, 2, none⟩ = some (.int .i64 inc) := by rw [cell_of_row _ _ _ _ _ _ hg4]; rfl
              have g3 : w4.cell? ⟨w.heap.size, 3, none⟩ = some (.bool rst) := by rw [cell_of_row _ _ _ _ _ _ hg4]; rfl
              have d3 : w4.cell? ⟨r, 3, none⟩ = some (.slice ax L.length cx) := by rw [cell_of_row _ _ _ _ _ _ hr4]; rfl
              have hrl4 : r < w4.heap.size := (Array.getElem?_eq_some_iff.1 hr4).1
              have hgl4 : w.heap.size < w4.heap.size := (Array.getElem?_eq_some_iff.1 hg4).1
              have hlk : (ys.take ka).length = ka := by rw [List.length_take, HYN.out]; omega
              rw [hlk] at hsv
              subst hsv
              have HBL1 := Lib.hid hbl1
              have HLK := Lib.hid hlk
              clear happ1 hz4 hb4 hg4 hr4 hbl1 HQ HLN c6 z6 c3 hlk
              go_wp2_with fail
              refine (HCRD.out w4).mono ?_
              rintro e w5 ⟨a2, c2, rfl, hrd2, hab2, hb5⟩
              obtain ⟨crx, hcrx⟩ : ∃ x, x = (crPut nm inc []) := ⟨_, rfl⟩
              rw [← hcrx] at hrd2 ⊢
              have HCRX := Lib.hid hcrx
              have hb15 : Below V1.heap.size V1 w5 := HB4.out.trans (hb5.mono HB4.out.size)
              have HQ2 := Lib.hid (show ∀ V, V = w5.alloc (.cells #[.int .i64 n, .slice a2 crx.length c2] 32) → V.ownsRow V1.heap.size 32 2 (.slice la ka lc) ka (wcf (ys.take ka)) ∧ Rd V (some ⟨w5.heap.size, 0, none⟩) (WC.cells ⟨⟨n, crx⟩, a2, c2⟩) ∧ V1.heap.size ≤ V.heap.size ∧ BlP (fun k => Px k ∨ V1.heap.size ≤ k) V1.heap.size V (ys.take ka) (.slice la ka lc) ∧ WcB (fun k => Px k ∨ V1.heap.size ≤ k) V (.slice la ka lc) ⟨⟨n, crx⟩, a2, c2⟩ ∧ Below V1.heap.size V1 V from fun V hV => by
                have hbV : Below w5.heap.size w5 V := by rw [hV]; exact (Below.refl _ _).alloc (Nat.le_refl _) _
                have hb4V : Below w4.heap.size w4 V := hb5.trans (hbV.mono hb5.size)
                have h1 := HBL1.out.below hb4V
                have h2 := h1.1
                rw [HLK.out] at h2
                refine ⟨h2, by rw [hV]; exact Rd.new w5 _ _ _ _ (fun j u hu => by simpa [WC.cells] using hu), Nat.le_trans hb15.size hbV.size, h1, ⟨hrd2.below hbV (Nat.le_refl _), fun ad e => ?_⟩, hb15.trans (hbV.mono hb15.size)⟩
                have h9 := hab2 ad e
                refine ⟨.inr (Nat.le_trans HB4.out.size h9.1), Nat.lt_of_lt_of_le h9.2 hbV.size, fun hq => ?_⟩
                have h8 := (HBL1.out.1.lt _ hq).2
                omega)
              clear hrd2 hab2 hcrx hb15 g0 g1 g2 g3
              go_wp2_with (first
                | (with_reducible refine step_append_any (.inl rfl) _ _ 29 rfl V1.heap.size 32 i0 _ 2 32 Try.underlying29 hi0 hz0 hz1 hz2 rfl (by decide) (.slice la ka lc) ka (wcf (ys.take ka)) rfl (HQ2.out _ rfl).1 (some ⟨w5.heap.size, 0, none⟩) 1 1 (WC.cells ⟨⟨n, crx⟩, a2, c2⟩) rfl rfl (HQ2.out _ rfl).2.1 (wc_one _) (by unfold maxLen; omega) (by omega) (HQ2.out _ rfl).2.2.1 ?_)
                | fail)
              intro l2 w6 happ2
              obtain ⟨V2, hV2⟩ : ∃ V, V = w5.alloc (.cells #[.int .i64 n, .slice a2 crx.length c2] 32) := ⟨_, rfl⟩
              obtain ⟨-, -, -, hq4, hq5, hq6⟩ := HQ2.out V2 hV2
              rw [← hV2] at happ2
              have hbl2 := hq4.app (zs := [⟨⟨n, crx⟩, a2, c2⟩]) (fun z hz => by
                simp only [List.mem_singleton] at hz
                subst hz
                exact hq5) (n := ka + 1) (by simpa [wcf] using happ2) (by rw [HLK.out]; rfl)
              have hb6 : Below V1.heap.size V1 w6 := hq6.grown happ2.2.1 hq6.size (fun q hq => (HBL1.out.1.lt q hq).1)
              obtain ⟨ma, mc, hsv, -, -, -, -⟩ := own_slice3 hbl2.1
              have hln2 : (ys.take ka ++ [WC.mk ⟨n, crx⟩ a2 c2]).length = ka + 1 := by rw [List.length_append, HLK.out]; rfl
              rw [hln2] at hsv
              subst hsv
              have hr6 := keeph' hb6 HRX1.out
              have e3 : w6.cell? ⟨r, 3, none⟩ = some (.slice ax L.length cx) := by rw [cell_of_row _ _ _ _ _ _ hr6]; rfl
              have hrl6 : r < w6.heap.size := (Array.getElem?_eq_some_iff.1 hr6).1
              have HBL2 := Lib.hid hbl2
              have HB6 := Lib.hid hb6
              have HLN2 := Lib.hid hln2
              have HO2 := Lib.hid (show w6.ownsRow V1.heap.size 32 2 (.slice ma (ka + 1) mc) (ka + 1) (wcf (ys.take ka ++ [WC.mk ⟨n, crx⟩ a2 c2])) by
                have h9 := hbl2.1
                rw [hln2] at h9
                exact h9)
              have HQ3 := Lib.hid (show Rd w6 (cutB ax cx ka 2) (wcf (ys.drop ka)) ∧ (wcf (ys.drop ka)).length = (L.length - ka) * 2 ∧ V1.heap.size ≤ w6.heap.size from by
                have h9 := (HYR.out.below hb6 (Nat.le_refl _)).cutB cx ka (2 * L.length) 2 (by rw [wcf_length, HYN.out]; omega)
                rw [List.take_of_length_le (by rw [wcf_length, HYN.out]; exact Nat.le_refl _), wcf_drop] at h9
                exact ⟨h9, by rw [wcf_length, List.length_drop, HYN.out]; omega, hb6.size⟩)
              clear hV2 hq4 hq5 hq6 happ2 hbl2 hb6 hln2 hr6 HQ2 d3 hrl4 hgl4
              go_wp2_with (first
                | (with_reducible refine step_want (.inl rfl) _ _ (exec_cut 29 32 _ (some _) none rfl Try.underlying29 2 (by kernel_rfl) ax L.length cx rfl ka L.length (.inr ⟨_, rfl, rfl⟩) (.inl ⟨rfl, rfl⟩) (by omega) (by omega)) ?_)
                | (with_reducible refine step_append_any (.inl rfl) _ _ 29 rfl V1.heap.size 32 i0 _ 2 32 Try.underlying29 hi0 hz0 hz1 hz2 rfl (by decide) (.slice ma (ka + 1) mc) (ka + 1) (wcf (ys.take ka ++ [WC.mk ⟨n, crx⟩ a2 c2])) rfl HO2.out (cutB ax cx ka 2) (L.length - ka) (cx - ka) (wcf (ys.drop ka)) rfl HQ3.out.2.1 HQ3.out.1 (wcf_one _) (by unfold maxLen; omega) (by omega) HQ3.out.2.2 ?_)
                | fail)
              intro l3 w7 happ3
              have hbl3 := HBL2.out.app (zs := ys.drop ka) (fun z hz => ⟨(HYO.out z (List.mem_of_mem_drop hz)).1.1.below HB6.out (Nat.le_refl _), fun ad e => ⟨.inl ((HYO.out z (List.mem_of_mem_drop hz)).1.2 ad e), Nat.lt_of_lt_of_le ((HYO.out z (List.mem_of_mem_drop hz)).2 ad e) HB6.out.size, fun hq => by
                have h9 := (HO2.out.lt _ hq).1
                have h8 := (HYO.out z (List.mem_of_mem_drop hz)).2 ad e
                omega⟩⟩) happ3 (by rw [HLN2.out, List.length_drop, HYN.out])
              have hb7 : Below V1.heap.size V1 w7 := HB6.out.grown happ3.2.1 HB6.out.size (fun q hq => (HO2.out.lt q hq).1)
              obtain ⟨va, vc, hsv, hto, hon⟩ := ra_end HI.out HPX.out HOX.out hb7 hbl3
              generalize (ys.take ka ++ [WC.mk ⟨n, crx⟩ a2 c2] ++ ys.drop ka).length = N at hsv hto hon
              subst hsv
              have hr7 := keeph' hb7 HRX1.out
              have y3 : w7.cell? ⟨r, 3, none⟩ = some (.slice ax L.length cx) := by rw [cell_of_row _ _ _ _ _ _ hr7]; rfl
              have zz3 : w7.frozen? ⟨r, 3, none⟩ = false := frozen_of_row w7 _ _ _ _ hr7
              have hrl7 : r < w7.heap.size := (Array.getElem?_eq_some_iff.1 hr7).1
              have HF := Lib.hid (show RaddP w B r G (false, [], { s with cred := s.cred + 1 }, L.take ka ++ ⟨n, (crPut nm inc [])⟩ :: L.drop ka) (.returned (.tuple #[.bool false, .slice none (List.length []) 0])) (w7.setCell ⟨r, 3, none⟩ (.slice va N vc)) from by
                have hos : Only (· = r) W3 V1 := by rw [HV1.out]; exact (Only.refl (· = r) W3).setCell ⟨r, 6, none⟩ _ (fun _ => rfl)
                have e9 : (ys.take ka ++ [WC.mk ⟨n, crx⟩ a2 c2] ++ ys.drop ka).map (·.x) = L.take ka ++ ⟨n, (crPut nm inc [])⟩ :: L.drop ka := by
                  have t1 : L.take ka = (ys.take ka).map (·.x) := by rw [HYL.out, List.map_take]
                  have t2 : L.drop ka = (ys.drop ka).map (·.x) := by rw [HYL.out, List.map_drop]
                  rw [t1, t2, ← HCRX.out]
                  simp
                rw [e9] at hto
                refine ⟨none, 0, rfl, HCLO.out.only (hos.trans hon (fun _ _ h => h)) (fun k hk e => ?_), hto⟩
                have e : k = r := e
                rcases hk with h9 | h9
                · obtain ⟨_, _, -, -, -, -, h5⟩ := HH.out
                  exact (h5 k h9).2.2 e
                · omega)
              clear happ3 hbl3 hb7 hto hon hr7 HQ3
              go_wp2
              go_ret2
              rw [HADD.out]
              exact HF.out
          · have HIN := Lib.hid (of_decide_eq_true HISB.out.symm)
            obtain ⟨hin, hadd⟩ := addW_in (nm := nm) HS.out HN.out HNL.out HIN.out
            have hin' : ka < L.length := by rw [HKA.out]; exact hin
            have hadd2 : addW s L nm time inc = (false, [], { s with cred := s.cred + 1 }, L.take ka ++ ⟨n, crPut nm inc L[ka].cr⟩ :: L.drop (ka + 1)) := by
              rw [hadd]
              simp only [HKA.out]
            have HADD := Lib.hid hadd2
            clear hadd hadd2 hin
            have hcd := HC.out.cred
            have HCLO := Lib.hid (show WinsM (fun k => G k ∨ w.heap.size ≤ k) W3 [] none from WinsM.nil _ _)
            have HCAST := Lib.hid (show Value.int .i64 ((ka : Int) + 1) = .int .i64 ((ka + 1 : Nat) : Int) from by simp)
            obtain ⟨cd, hcd0⟩ : ∃ x, x = s.cred := ⟨_, rfl⟩
            rw [← hcd0] at hcd
            obtain ⟨V1, hV1⟩ : ∃ V, V = W3.setCell ⟨r, 6, none⟩ (.int .i64 (cd + 1)) := ⟨_, rfl⟩
            have hR1 := HR3.out.set (s' := { s with cred := s.cred + 1 }) hrl 6 (.int .i64 (cd + 1)) (fun _ => by rw [hcd0]; rfl)
            rw [← hV1] at hR1
            obtain ⟨_, a0, c0, _, -, -, -, -, hrow0, -⟩ := HR3.out.parts
            have c6 : W3.cell? ⟨r, 6, none⟩ = some (.int .i64 cd) := by rw [hcd0, cell_of_row _ _ _ _ _ _ hrow0]; rfl
            have z6 : W3.frozen? ⟨r, 6, none⟩ = false := frozen_of_row W3 _ _ _ _ hrow0
            obtain ⟨Px, ax, cx, ys, hI, hPx, hox, hgx, hrx, hcx, hyl, hyo, hyr⟩ := hR1.parts
            have c3 : W3.cell? ⟨r, 3, none⟩ = some (.slice ax L.length cx) := by
              have h2 : V1.cell? ⟨r, 3, none⟩ = some (.slice ax L.length cx) := by rw [cell_of_row _ _ _ _ _ _ hrx]; rfl
              have h3 : W3.cell? ⟨r, 3, none⟩ = some (.slice a0 L.length c0) := by rw [cell_of_row _ _ _ _ _ _ hrow0]; rfl
              have h4 : V1.cell? ⟨r, 3, none⟩ = some (.slice a0 L.length c0) := by
                rw [hV1, cell_of_row _ _ _ _ _ _ (heap_setCell_same _ _ _ _ _ _ hrow0)]
                rfl
              rw [h4] at h2
              rw [h3]
              exact h2
            have hV1r : r < W3.heap.size := (Array.getElem?_eq_some_iff.1 hrow0).1
            have hyn : ys.length = L.length := by rw [hyl, List.length_map]
            have HQ := Lib.hid (show ∀ V, V = W3.setCell ⟨r, 6, none⟩ (.int .i64 (cd + 1)) → Rd V (cutB ax cx 0 2) (wcf (ys.take ka)) ∧ V1.heap.size ≤ V.heap.size from fun V hV => by
              rw [hV, ← hV1]
              have h9 := hyr.cutB cx 0 (ka * 2) 2 (by rw [wcf_length]; omega)
              rw [wcf_take] at h9
              exact ⟨h9, Nat.le_refl _⟩)
            have HLN := Lib.hid (show (wcf (ys.take ka)).length = (ka - 0) * 2 by rw [wcf_length, List.length_take]; omega)
            have HCD := Lib.hid hcd0
            have HV1 := Lib.hid hV1
            have HI := Lib.hid hI
            have HPX := Lib.hid hPx
            have HOX := Lib.hid hox
            have HGX := Lib.hid hgx
            have HRX1 := Lib.hid hrx
            have HYL := Lib.hid hyl
            have HYO := Lib.hid hyo
            have HYR := Lib.hid hyr
            have HYN := Lib.hid hyn
            clear hcd0 hV1 hR1 hI hPx hox hgx hrx hyl hyo hyr hrow0 hyn
            go_wp2_with (first
              | (with_reducible refine step_want (.inl rfl) _ _ (exec_cut 29 32 _ none (some _) rfl Try.underlying29 2 (by kernel_rfl) ax L.length cx rfl 0 ka (.inl ⟨rfl, rfl⟩) (.inr ⟨_, rfl, rfl⟩) (by omega) (by omega)) ?_)
              | (with_reducible refine step_append_any (.inl rfl) _ _ 29 rfl V1.heap.size 32 i0 _ 2 32 Try.underlying29 hi0 hz0 hz1 hz2 rfl (by decide) (.slice none 0 0) 0 [] rfl (World.ownsRow_nil _ _ _ _) (cutB ax cx 0 2) (ka - 0) (cx - 0) (wcf (ys.take ka)) rfl HLN.out (HQ.out _ rfl).1 (wcf_one _) (by unfold maxLen; omega) (by omega) (HQ.out _ rfl).2 ?_)
              | fail)
            intro l1 w4 happ1
            rw [← HV1.out] at happ1
            have hz4 : ∀ z ∈ ys, WcB (fun k => Px k ∨ V1.heap.size ≤ k) V1 (.slice none 0 0) z := fun z hz => ⟨(HYO.out z hz).1.1, fun ad e => ⟨.inl ((HYO.out z hz).1.2 ad e), (HYO.out z hz).2 ad e, by intro h; cases h⟩⟩
            have hbl1 := (BlP.nil (fun k => Px k ∨ V1.heap.size ≤ k) V1.heap.size V1).app (zs := ys.take ka) (fun z hz => hz4 z (List.mem_of_mem_take hz)) happ1 (by rw [List.length_take, HYN.out]; simp; omega)
            rw [List.nil_append] at hbl1
            have hb4 : Below V1.heap.size V1 w4 := (Below.refl _ _).grown happ1.2.1 (Nat.le_refl _) (fun q hq => by cases hq)
            have HB4 := Lib.hid hb4
            have hg4 := keeph' hb4 HGX.out
            have hr4 := keeph' hb4 HRX1.out
            obtain ⟨la, lc, hsv, -, -, -, -⟩ := own_slice3 hbl1.1
            have g0 : w4.cell? ⟨w.heap.size, 0, none⟩ = some (encStr nm) := by rw [cell_of_row _ _ _ _ _ _ hg4]; rfl
            have g1 : w4.cell? ⟨w.heap.size, 1, none⟩ = some (.int .i64 time) := by rw [cell_of_row _ _ _ _ _ _ hg4]; rfl
            have g2 : w4.cell? ⟨w.heap.size, 2, none⟩ = some (.int .i64 inc) := by rw [cell_of_row _ _ _ _ _ _ hg4]; rfl
            have g3 : w4.cell? ⟨w.heap.size, 3, none⟩ = some (.bool rst) := by rw [cell_of_row _ _ _ _ _ _ hg4]; rfl
            have d3 : w4.cell? ⟨r, 3, none⟩ = some (.slice ax L.length cx) := by rw [cell_of_row _ _ _ _ _ _ hr4]; rfl
            have hrl4 : r < w4.heap.size := (Array.getElem?_eq_some_iff.1 hr4).1
            have hgl4 : w.heap.size < w4.heap.size := (Array.getElem?_eq_some_iff.1 hg4).1
            have hlk : (ys.take ka).length = ka := by rw [List.length_take, HYN.out]; omega
            rw [hlk] at hsv
            subst hsv
            have HBL1 := Lib.hid hbl1
            have HLK := Lib.hid hlk
            clear happ1 hz4 hb4 hg4 hr4 hbl1 HQ HLN c6 z6 c3 hlk
            obtain ⟨b9, o9, ra, rc, hax, hb9, -, -, hc9, hr9, -⟩ := wins_at (P := fun _ => True) (show WinsM (fun _ => True) V1 L ax from ⟨ys, HYL.out, fun y hy => ⟨(HYO.out y hy).1.1, fun _ _ => trivial⟩, HYR.out, fun _ _ => trivial⟩) hin'
            have hlv : L[ka] ∈ L := List.getElem_mem hin'
            have HCRD := Lib.hid (show ∀ W, W = w4.drew → Calls Try.prog 45 #[.slice ra L[ka].cr.length rc, .agg #[encStr nm, .int .i64 time, .int .i64 inc, .bool rst]] W (RcP w4 (crPut nm inc L[ka].cr)) from fun W hW => by
              have hbW : Below w4.heap.size w4 W := by rw [hW]; exact drew_below _
              exact (rcredit_any (hr9.below (HB4.out.trans (hbW.mono HB4.out.size)) (Nat.le_refl _)) (HCS.out _ hlv) (HB.out.crs _ hlv).1 (HB.out.crs _ hlv).2 nm time inc rst ⟨by have := HNL.out; omega, hinc⟩).mono (fun e w' h => h.up hbW))
            have D3 := Lib.hid (show V1.cell? ⟨r, 3, none⟩ = some (.slice (some ⟨b9, o9, none⟩) L.length cx) by rw [← hax, cell_of_row _ _ _ _ _ _ HRX1.out]; rfl)
            have F1 := Lib.hid hc9
            have G0 := Lib.hid (show V1.cell? ⟨w.heap.size, 0, none⟩ = some (encStr nm) by rw [cell_of_row _ _ _ _ _ _ HGX.out]; rfl)
            have G1 := Lib.hid (show V1.cell? ⟨w.heap.size, 1, none⟩ = some (.int .i64 time) by rw [cell_of_row _ _ _ _ _ _ HGX.out]; rfl)
            have G2 := Lib.hid (show V1.cell? ⟨w.heap.size, 2, none⟩ = some (.int .i64 inc) by rw [cell_of_row _ _ _ _ _ _ HGX.out]; rfl)
            have G3 := Lib.hid (show V1.cell? ⟨w.heap.size, 3, none⟩ = some (.bool rst) by rw [cell_of_row _ _ _ _ _ _ HGX.out]; rfl)
            clear g0 g1 g2 g3 d3 hax hb9 hc9 hr9 hlv
            go_wp2_with fail
            refine wp_region_noPanic ?_
            refine wp_region_held_drew (S := (fun w' => Below V1.heap.size V1 w')) (by kernel_rfl) ?_ (fun hHeld => ?_)
            · exact HB4.out.trans ((drew_below _).mono HB4.out.size)
            refine wpAnyH_take (i := 0) (oi := _) (v := ?_) rfl (by kernel_rfl) (by kernel_rfl) (by kernel_rfl) (fun _ _ _ h => h) (Or.inl ⟨by rfl, ?_⟩) (by assumption) ?_
            rotate_left 1
            · (intro w hSw; (try dsimp only at hSw); go_simp; (try with_reducible rfl))
            try simp only [Act.put, List.getElem_toArray, List.getElem_cons_succ, List.getElem_cons_zero, List.setIfInBounds_toArray, List.set_cons_zero, List.set_cons_succ]
            refine wpAnyH_take (i := 1) (oi := _) (v := ?_) rfl (by kernel_rfl) (by kernel_rfl) (by kernel_rfl) (fun _ _ _ h => h) (Or.inl ⟨by rfl, ?_⟩) (by assumption) ?_
            rotate_left 1
            · (intro w hSw; (try dsimp only at hSw); go_simp; (try with_reducible rfl))
            try simp only [Act.put, List.getElem_toArray, List.getElem_cons_succ, List.getElem_cons_zero, List.setIfInBounds_toArray, List.set_cons_zero, List.set_cons_succ]
            refine wpAnyH_take (i := 2) (oi := _) (v := ?_) rfl (by kernel_rfl) (by kernel_rfl) (by kernel_rfl) (fun _ _ _ h => h) (Or.inl ⟨by rfl, ?_⟩) (by assumption) ?_
            rotate_left 1
            · (intro w hSw; (try dsimp only at hSw); go_simp; (try with_reducible rfl))
            try simp only [Act.put, List.getElem_toArray, List.getElem_cons_succ, List.getElem_cons_zero, List.setIfInBounds_toArray, List.set_cons_zero, List.set_cons_succ]
            refine wpAnyH_take (i := 3) (oi := _) (v := ?_) rfl (by kernel_rfl) (by kernel_rfl) (by kernel_rfl) (fun _ _ _ h => h) (Or.inl ⟨by rfl, ?_⟩) (by assumption) ?_
            rotate_left 1
            · (intro w hSw; (try dsimp only at hSw); go_simp; (try with_reducible rfl))
            try simp only [Act.put, List.getElem_toArray, List.getElem_cons_succ, List.getElem_cons_zero, List.setIfInBounds_toArray, List.set_cons_zero, List.set_cons_succ]
            refine wpAnyH_take (i := 4) (oi := _) (v := ?_) rfl (by kernel_rfl) (by kernel_rfl) (by kernel_rfl) (fun _ _ _ h => h) (Or.inl ⟨by rfl, ?_⟩) (by assumption) ?_
            rotate_left 1
            · (intro w hSw; (try dsimp only at hSw); go_simp; (try with_reducible rfl))
            try simp only [Act.put, List.getElem_toArray, List.getElem_cons_succ, List.getElem_cons_zero, List.setIfInBounds_toArray, List.set_cons_zero, List.set_cons_succ]
            refine wpAnyH_take (i := 5) (oi := _) (v := ?_) rfl (by kernel_rfl) (by kernel_rfl) (by kernel_rfl) (fun _ _ _ h => h) (Or.inl ⟨by rfl, ?_⟩) (by assumption) ?_
            rotate_left 1
            · (intro w hSw; (try dsimp only at hSw); (have q := keepc hSw D3.out; go_simp); (try with_reducible rfl))
            try simp only [Act.put, List.getElem_toArray, List.getElem_cons_succ, List.getElem_cons_zero, List.setIfInBounds_toArray, List.set_cons_zero, List.set_cons_succ]
            refine wpAnyH_take (i := 6) (oi := _) (v := ?_) rfl (by kernel_rfl) (by kernel_rfl) (by kernel_rfl) (fun _ _ _ h => h) (Or.inl ⟨by rfl, ?_⟩) (by assumption) ?_
            rotate_left 1
            · (intro w hSw; (try dsimp only at hSw); go_simp; (try with_reducible rfl))
            try simp only [Act.put, List.getElem_toArray, List.getElem_cons_succ, List.getElem_cons_zero, List.setIfInBounds_toArray, List.set_cons_zero, List.set_cons_succ]
            refine wpAnyH_take (i := 7) (oi := _) (v := ?_) rfl (by kernel_rfl) (by kernel_rfl) (by kernel_rfl) (fun _ _ _ h => h) (Or.inl ⟨by rfl, ?_⟩) (by assumption) ?_
            rotate_left 1
            · (intro w hSw; (try dsimp only at hSw); go_simp; (try with_reducible rfl))
            try simp only [Act.put, List.getElem_toArray, List.getElem_cons_succ, List.getElem_cons_zero, List.setIfInBounds_toArray, List.set_cons_zero, List.set_cons_succ]
            refine wpAnyH_take (i := 8) (oi := _) (v := ?_) rfl (by kernel_rfl) (by kernel_rfl) (by kernel_rfl) (fun _ _ _ h => h) (Or.inl ⟨by rfl, ?_⟩) (by assumption) ?_
            rotate_left 1
            · (intro w hSw; (try dsimp only at hSw); go_simp; (try with_reducible rfl))
            try simp only [Act.put, List.getElem_toArray, List.getElem_cons_succ, List.getElem_cons_zero, List.setIfInBounds_toArray, List.set_cons_zero, List.set_cons_succ]
            refine wpAnyH_take (i := 9) (oi := _) (v := ?_) rfl (by kernel_rfl) (by kernel_rfl) (by kernel_rfl) (fun _ _ _ h => h) (Or.inl ⟨by rfl, ?_⟩) (by assumption) ?_
            rotate_left 1
            · (intro w hSw; (try dsimp only at hSw); (have q := keepc hSw F1.out; go_simp); (try with_reducible rfl))
            try simp only [Act.put, List.getElem_toArray, List.getElem_cons_succ, List.getElem_cons_zero, List.setIfInBounds_toArray, List.set_cons_zero, List.set_cons_succ]
            refine wpAnyH_take (i := 10) (oi := _) (v := ?_) rfl (by kernel_rfl) (by kernel_rfl) (by kernel_rfl) (fun _ _ _ h => h) (Or.inl ⟨by rfl, ?_⟩) (by assumption) ?_
            rotate_left 1
            · (intro w hSw; (try dsimp only at hSw); (have q0 := keepc hSw G0.out; have q1 := keepc hSw G1.out; have q2 := keepc hSw G2.out; have q3 := keepc hSw G3.out; go_simp); (try with_reducible rfl))
            try simp only [Act.put, List.getElem_toArray, List.getElem_cons_succ, List.getElem_cons_zero, List.setIfInBounds_toArray, List.set_cons_zero, List.set_cons_succ]
            refine wpAnyH_ready (rs := [11]) (by kernel_rfl) (by simp) ?_
            refine AllReadyH.cons (o := _) rfl (fun K hK => ?_) AllReadyH.nil
            go_simp
            refine (HCRD.out _ rfl).mono ?_
            rintro e w5 ⟨a2, c2, rfl, hrd2, hab2, hb5⟩
            obtain ⟨crx, hcrx⟩ : ∃ x, x = (crPut nm inc L[ka].cr) := ⟨_, rfl⟩
            rw [← hcrx] at hrd2 ⊢
            have HCRX := Lib.hid hcrx
            have hb15 : Below V1.heap.size V1 w5 := HB4.out.trans (hb5.mono HB4.out.size)
            have HQ2 := Lib.hid (show ∀ V, V = w5.alloc (.cells #[.int .i64 n, .slice a2 crx.length c2] 32) → V.ownsRow V1.heap.size 32 2 (.slice la ka lc) ka (wcf (ys.take ka)) ∧ Rd V (some ⟨w5.heap.size, 0, none⟩) (WC.cells ⟨⟨n, crx⟩, a2, c2⟩) ∧ V1.heap.size ≤ V.heap.size ∧ BlP (fun k => Px k ∨ V1.heap.size ≤ k) V1.heap.size V (ys.take ka) (.slice la ka lc) ∧ WcB (fun k => Px k ∨ V1.heap.size ≤ k) V (.slice la ka lc) ⟨⟨n, crx⟩, a2, c2⟩ ∧ Below V1.heap.size V1 V from fun V hV => by
              have hbV : Below w5.heap.size w5 V := by rw [hV]; exact (Below.refl _ _).alloc (Nat.le_refl _) _
              have hb4V : Below w4.heap.size w4 V := hb5.trans (hbV.mono hb5.size)
              have h1 := HBL1.out.below hb4V
              have h2 := h1.1
              rw [HLK.out] at h2
              refine ⟨h2, by rw [hV]; exact Rd.new w5 _ _ _ _ (fun j u hu => by simpa [WC.cells] using hu), Nat.le_trans hb15.size hbV.size, h1, ⟨hrd2.below hbV (Nat.le_refl _), fun ad e => ?_⟩, hb15.trans (hbV.mono hb15.size)⟩
              have h9 := hab2 ad e
              refine ⟨.inr (Nat.le_trans HB4.out.size h9.1), Nat.lt_of_lt_of_le h9.2 hbV.size, fun hq => ?_⟩
              have h8 := (HBL1.out.1.lt _ hq).2
              omega)
            have HB15 := Lib.hid hb15
            clear hrd2 hab2 hcrx hb15
            go_wp2_with fail
            refine hK.out _ _ ?_ (fun hHeld11 => ?_)
            · exact HB15.out
            clear hK K
            try simp only [Act.put, List.getElem_toArray, List.getElem_cons_succ, List.getElem_cons_zero, List.setIfInBounds_toArray, List.set_cons_zero, List.set_cons_succ]
            refine wpAnyH_take (i := 12) (oi := _) (v := ?_) rfl (by kernel_rfl) (by kernel_rfl) (by kernel_rfl) (fun _ _ _ h => h) (Or.inl ⟨by rfl, ?_⟩) (by assumption) ?_
            rotate_left 1
            · (intro w hSw; (try dsimp only at hSw); go_simp; (try with_reducible rfl))
            try simp only [Act.put, List.getElem_toArray, List.getElem_cons_succ, List.getElem_cons_zero, List.setIfInBounds_toArray, List.set_cons_zero, List.set_cons_succ]
            refine wpAnyH_ready (rs := [13]) (by kernel_rfl) (by simp) ?_
            refine AllReadyH.cons (o := _) rfl (fun K hK => ?_) AllReadyH.nil
            go_simp
            refine hK.out _ _ ?_ (fun hHeld13 => ?_)
            · exact (HQ2.out _ rfl).2.2.2.2.2
            clear hK K
            try simp only [Act.put, List.getElem_toArray, List.getElem_cons_succ, List.getElem_cons_zero, List.setIfInBounds_toArray, List.set_cons_zero, List.set_cons_succ]
            refine wpAnyH_ready (rs := [14]) (by kernel_rfl) (by simp) ?_
            refine AllReadyH.cons (o := _) rfl (fun K hK => ?_) AllReadyH.nil
            refine rstep_append_any (by kernel_rfl) _ _ 29 rfl V1.heap.size 32 i0 _ 2 32 Try.underlying29 hi0 hz0 hz1 hz2 rfl (by decide) (.slice la ka lc) ka (wcf (ys.take ka)) rfl (HQ2.out _ rfl).1 (some ⟨w5.heap.size, 0, none⟩) 1 1 (WC.cells ⟨⟨n, crx⟩, a2, c2⟩) rfl rfl (HQ2.out _ rfl).2.1 (wc_one _) (by unfold maxLen; omega) (by omega) (HQ2.out _ rfl).2.2.1 ?_
            intro l2 w6 happ2
            refine hK.out _ _ ?_ (fun hHeld14 => ?_)
            · exact (HQ2.out _ rfl).2.2.2.2.2.grown happ2.2.1 (HQ2.out _ rfl).2.2.2.2.2.size (fun q hq => (HBL1.out.1.lt q hq).1)
            clear hK K
            try simp only [Act.put, List.getElem_toArray, List.getElem_cons_succ, List.getElem_cons_zero, List.setIfInBounds_toArray, List.set_cons_zero, List.set_cons_succ]
            refine wpAnyH_take (i := 15) (oi := _) (v := ?_) rfl (by kernel_rfl) (by kernel_rfl) (by kernel_rfl) (fun _ _ _ h => h) (Or.inl ⟨by rfl, ?_⟩) (by assumption) ?_
            rotate_left 1
            · (intro w hSw; (try dsimp only at hSw); go_simp; (try with_reducible rfl))
            try simp only [Act.put, List.getElem_toArray, List.getElem_cons_succ, List.getElem_cons_zero, List.setIfInBounds_toArray, List.set_cons_zero, List.set_cons_succ]
            refine wpAnyH_done (by kernel_rfl) ?_ _
            refine NoPanic.normal ?_
            obtain ⟨V2, hV2⟩ : ∃ V, V = w5.alloc (.cells #[.int .i64 n, .slice a2 crx.length c2] 32) := ⟨_, rfl⟩
            obtain ⟨-, -, -, hq4, hq5, hq6⟩ := HQ2.out V2 hV2
            rw [← hV2] at happ2
            have hbl2 := hq4.app (zs := [⟨⟨n, crx⟩, a2, c2⟩]) (fun z hz => by
              simp only [List.mem_singleton] at hz
              subst hz
              exact hq5) (n := ka + 1) (by simpa [wcf] using happ2) (by rw [HLK.out]; rfl)
            have hb6 : Below V1.heap.size V1 w6 := hq6.grown happ2.2.1 hq6.size (fun q hq => (HBL1.out.1.lt q hq).1)
            obtain ⟨ma, mc, hsv, -, -, -, -⟩ := own_slice3 hbl2.1
            have hln2 : (ys.take ka ++ [WC.mk ⟨n, crx⟩ a2 c2]).length = ka + 1 := by rw [List.length_append, HLK.out]; rfl
            rw [hln2] at hsv
            subst hsv
            have hr6 := keeph' hb6 HRX1.out
            have e3 : w6.cell? ⟨r, 3, none⟩ = some (.slice ax L.length cx) := by rw [cell_of_row _ _ _ _ _ _ hr6]; rfl
            have hrl6 : r < w6.heap.size := (Array.getElem?_eq_some_iff.1 hr6).1
            have HBL2 := Lib.hid hbl2
            have HB6 := Lib.hid hb6
            have HLN2 := Lib.hid hln2
            have HO2 := Lib.hid (show w6.ownsRow V1.heap.size 32 2 (.slice ma (ka + 1) mc) (ka + 1) (wcf (ys.take ka ++ [WC.mk ⟨n, crx⟩ a2 c2])) by
              have h9 := hbl2.1
              rw [hln2] at h9
              exact h9)
            have HQ3 := Lib.hid (show Rd w6 (cutB ax cx (ka + 1) 2) (wcf (ys.drop (ka + 1))) ∧ (wcf (ys.drop (ka + 1))).length = (L.length - (ka + 1)) * 2 ∧ V1.heap.size ≤ w6.heap.size from by
              have h9 := (HYR.out.below hb6 (Nat.le_refl _)).cutB cx (ka + 1) (2 * L.length) 2 (by rw [wcf_length, HYN.out]; omega)
              rw [List.take_of_length_le (by rw [wcf_length, HYN.out]; exact Nat.le_refl _), wcf_drop] at h9
              exact ⟨h9, by rw [wcf_length, List.length_drop, HYN.out]; omega, hb6.size⟩)
            clear hV2 hq4 hq5 hq6 happ2 hbl2 hb6 hln2 hr6 HQ2 hrl4 hgl4
            go_wp2_with (first
              | (with_reducible refine step_want (.inl rfl) _ _ (exec_cut 29 32 _ (some _) none rfl Try.underlying29 2 (by kernel_rfl) ax L.length cx rfl (ka + 1) L.length (.inr ⟨_, rfl, (Eq.trans (b := Value.int .i64 ((ka : Int) + 1)) rfl HCAST.out)⟩) (.inl ⟨rfl, rfl⟩) (by omega) (by omega)) ?_)
              | (with_reducible refine step_append_any (.inl rfl) _ _ 29 rfl V1.heap.size 32 i0 _ 2 32 Try.underlying29 hi0 hz0 hz1 hz2 rfl (by decide) (.slice ma (ka + 1) mc) (ka + 1) (wcf (ys.take ka ++ [WC.mk ⟨n, crx⟩ a2 c2])) rfl HO2.out (cutB ax cx (ka + 1) 2) (L.length - (ka + 1)) (cx - (ka + 1)) (wcf (ys.drop (ka + 1))) rfl HQ3.out.2.1 HQ3.out.1 (wcf_one _) (by unfold maxLen; omega) (by omega) HQ3.out.2.2 ?_)
              | fail)
            intro l3 w7 happ3
            have hbl3 := HBL2.out.app (zs := ys.drop (ka + 1)) (fun z hz => ⟨(HYO.out z (List.mem_of_mem_drop hz)).1.1.below HB6.out (Nat.le_refl _), fun ad e => ⟨.inl ((HYO.out z (List.mem_of_mem_drop hz)).1.2 ad e), Nat.lt_of_lt_of_le ((HYO.out z (List.mem_of_mem_drop hz)).2 ad e) HB6.out.size, fun hq => by
              have h9 := (HO2.out.lt _ hq).1
              have h8 := (HYO.out z (List.mem_of_mem_drop hz)).2 ad e
              omega⟩⟩) happ3 (by rw [HLN2.out, List.length_drop, HYN.out])
            have hb7 : Below V1.heap.size V1 w7 := HB6.out.grown happ3.2.1 HB6.out.size (fun q hq => (HO2.out.lt q hq).1)
            obtain ⟨va, vc, hsv, hto, hon⟩ := ra_end HI.out HPX.out HOX.out hb7 hbl3
            generalize (ys.take ka ++ [WC.mk ⟨n, crx⟩ a2 c2] ++ ys.drop (ka + 1)).length = N at hsv hto hon
            subst hsv
            have hr7 := keeph' hb7 HRX1.out
            have y3 : w7.cell? ⟨r, 3, none⟩ = some (.slice ax L.length cx) := by rw [cell_of_row _ _ _ _ _ _ hr7]; rfl
            have zz3 : w7.frozen? ⟨r, 3, none⟩ = false := frozen_of_row w7 _ _ _ _ hr7
            have hrl7 : r < w7.heap.size := (Array.getElem?_eq_some_iff.1 hr7).1
            have HF := Lib.hid (show RaddP w B r G (false, [], { s with cred := s.cred + 1 }, L.take ka ++ ⟨n, (crPut nm inc L[ka].cr)⟩ :: L.drop (ka + 1)) (.returned (.tuple #[.bool false, .slice none (List.length []) 0])) (w7.setCell ⟨r, 3, none⟩ (.slice va N vc)) from by
              have hos : Only (· = r) W3 V1 := by rw [HV1.out]; exact (Only.refl (· = r) W3).setCell ⟨r, 6, none⟩ _ (fun _ => rfl)
              have e9 : (ys.take ka ++ [WC.mk ⟨n, crx⟩ a2 c2] ++ ys.drop (ka + 1)).map (·.x) = L.take ka ++ ⟨n, (crPut nm inc L[ka].cr)⟩ :: L.drop (ka + 1) := by
                have t1 : L.take ka = (ys.take ka).map (·.x) := by rw [HYL.out, List.map_take]
                have t2 : L.drop (ka + 1) = (ys.drop (ka + 1)).map (·.x) := by rw [HYL.out, List.map_drop]
                rw [t1, t2, ← HCRX.out]
                simp
              rw [e9] at hto
              refine ⟨none, 0, rfl, HCLO.out.only (hos.trans hon (fun _ _ h => h)) (fun k hk e => ?_), hto⟩
              have e : k = r := e
              rcases hk with h9 | h9
              · obtain ⟨_, _, -, -, -, -, h5⟩ := HH.out
                exact (h5 k h9).2.2 e
              · omega)
            clear happ3 hbl3 hb7 hto hon hr7 HQ3
            go_wp2
            go_ret2
            rw [HADD.out]
            exact HF.out
end Go.Proofs.Ytbkpgpaanhfjfaa
