/- The walk over the reference's Put. -/
import Derived.Test.YtdomnjakhecbaaaQuN
import Derived.Test.YtdomnjakhecbaaaQuF
import Derived.Test.YtdomnjakhecbaaaFrR
import Derived.Deep.RegionHeld3
import Derived.Deep.DeepCutAuto
import Derived.Deep.QuietTactic
import Derived.BigQuiet
namespace Go.Proofs.Ytdomnjakhecbaaa
open Go.RowKit K
namespace K
section
variable {P : Program} {ops : Array Oper} {o : Oper} {a : Act} {w : World} {K : Act → World → Prop} {Q : Exit → Act → World → Prop} {E : Prop}
theorem rstep_store_rowq (hw : Region.wanted o (yielded ops a.tmps) = true) (ty : TypeId) (x y : Operand) (ho : o.op = .store ty x y) (g : Nat) (hx : a.eval x = .pointer (some ⟨g, 0, none⟩)) (cs : Array Value) (hy : a.eval y = .agg cs)
    (cur : Array Value) (t : TypeId) (hb : w.heap[g]? = some (.cells cur t (0, 0))) (hcs : cur.size = cs.size) (hi : (P.info? ty).map (·.size) = some cs.size) (h1 : ∀ v ∈ cs.toList, v.oneCell' = true)
    (h : K (a.put o.dst undef) (w.setRow g cs)) : if Region.wanted o (yielded ops a.tmps) = true then Oper.wp P o a w K Q else E := by
  rw [if_pos hw]
  have hst := run_storeCells_at P g 0 t cs.toList 0 cur w hb (by simp; omega) h1
  have e : (cur.toList.take (0 + 0) ++ cs.toList ++ cur.toList.drop (0 + 0 + cs.toList.length)).toArray = cs := by
    have hd : cur.toList.drop (0 + 0 + cs.toList.length) = [] := List.drop_eq_nil_of_le (by simp; omega)
    rw [hd]; simp
  rw [e] at hst
  unfold Oper.wp
  have hr : (execOp a.eval o).run P w = .ok .skip (w.setRow g cs) := by
    cases hq : P.info? ty with
    | none => simp [hq] at hi
    | some i =>
      have hs : i.size = cs.size := by simpa [hq] using hi
      unfold execOp
      simp only [ho, hx, hy, Instr.storeAt, Instr.sureAddr, storeVar, Sem.run_bind, Sem.run_pure, Result.andThen_ok, sizeOf, typeInfo, Value.cells]
      simp [hq, hs, hst]
  rw [hr]
  exact h
end
end K
/-- A row of records in new memory, as an append onto nil leaves it. -/
def NewRecs (w : World) (xs : List Rec) (v : Value) (w' : World) : Prop :=
  ∃ a c, v = .slice a xs.length c ∧ Rd w' a (rcf xs) ∧ Below w.heap.size w w' ∧ (xs.length ≤ c ∧ c ≤ 9223372036854775807 ∧ (a = none → c = 0)) ∧ (xs ≠ [] → ∃ b, a = some ⟨b, 0, none⟩ ∧ w.heap.size ≤ b)
theorem run_append_recs (w : World) (ty : TypeId) (a : Option Addr) (c : Nat) (xs : List Rec) (hl : xs.length ≤ 1000000) (hr : Rd w a (rcf xs)) :
    ∃ v' w', (Builtin.append_ #[30, 30] ty #[.slice none 0 0, .slice a xs.length c]).run Try.prog w = .ok v' w' ∧ NewRecs w xs v' w' := by
  obtain ⟨ri, hri, hrz, hrs, hrb⟩ := recq_parts
  cases xs with
  | nil => exact ⟨_, _, run_append_zero w 30 ty 70 ri Try.underlying30 hri none 0 0 (Nat.le_refl _) a c, none, 0, rfl, Rd.nil _ _, Below.refl _ _, ⟨by simp, by omega, fun _ => rfl⟩, by simp⟩
  | cons x r =>
    obtain ⟨b, off, rfl, hb, hcell⟩ := hr.at (k := 0) (v := .string x.name) (by simp [rcf, Rec.cells])
    obtain ⟨v', w', hrun, h2, h3, _⟩ := run_append_own_at (P := Try.prog) w w.heap.size 30 ty 70 ri zrecQ 5 48 Try.underlying30 hri hrz hrs hrb rfl (by decide) (.slice none 0 0) 0 [] (World.ownsRow_nil _ _ _ _) ⟨b, off, none⟩ (x :: r).length c (rcf (x :: r)) (by rw [rcf_length, Nat.mul_comm]) (rd_cells hr) (rcf_one _) (by unfold maxLen; omega) (by omega) (Nat.le_refl _)
    rw [Nat.zero_add, List.length_cons] at h2
    obtain ⟨b2, c2, rfl, hb2, hr2, hc3, hc4⟩ := own_rowq h2
    exact ⟨_, w', hrun, some ⟨b2, 0, none⟩, c2, rfl, by simpa using hr2, (Below.refl _ w).grown h3 (Nat.le_refl _) (fun k e => by cases e), ⟨hc3, hc4, fun h => by cases h⟩, fun _ => ⟨b2, rfl, hb2⟩⟩
theorem step_append_recs (w : World) {ops : Array Oper} {rest : List Oper} {o : Oper} {a : Act} {Q : Exit → Act → World → Prop} (hgd : o.guard = none) (s x : Operand)
    (ho : o.op = .call { callee := .builtin .append, args := #[s, x], argTypes := #[30, 30] }) (hs : a.eval s = .slice none 0 0) (ad : Option Addr) (c n : Nat) (xs : List Rec) (hx : a.eval x = .slice ad n c) (hn : n = xs.length) (hl : xs.length ≤ 1000000) (hr : Rd w ad (rcf xs))
    (h : ∀ v' w', NewRecs w xs v' w' → wpList Try.prog ops Q rest (a.put o.dst v') w') : wpList Try.prog ops Q (o :: rest) a w := by
  subst hn
  obtain ⟨v', w', hrun, h2⟩ := run_append_recs w o.type ad c xs hl hr
  refine step_val hgd v' w' ?_ (h v' w' h2)
  unfold execOp
  simp only [ho, resolve, invoke, builtin, Sem.run_bind, Sem.run_pure, Result.andThen_ok, List.map_toArray, List.map_cons, List.map_nil, hs, hx, hrun]
theorem rstep_append_recs {ops : Array Oper} {o : Oper} {a : Act} {w : World} {K : Act → World → Prop} {Q : Exit → Act → World → Prop} {E : Prop} (hw : Region.wanted o (yielded ops a.tmps) = true) (s x : Operand)
    (ho : o.op = .call { callee := .builtin .append, args := #[s, x], argTypes := #[30, 30] }) (hs : a.eval s = .slice none 0 0) (ad : Option Addr) (c n : Nat) (xs : List Rec) (hx : a.eval x = .slice ad n c) (hn : n = xs.length) (hl : xs.length ≤ 1000000) (hr : Rd w ad (rcf xs))
    (h : ∀ v' w', NewRecs w xs v' w' → K (a.put o.dst v') w') : if Region.wanted o (yielded ops a.tmps) = true then Oper.wp Try.prog o a w K Q else E := by
  subst hn
  obtain ⟨v', w', hrun, h2⟩ := run_append_recs w o.type ad c xs hl hr
  rw [if_pos hw]
  unfold Oper.wp
  have hr' : (execOp a.eval o).run Try.prog w = .ok (.value v') w' := by
    unfold execOp
    simp only [ho, resolve, invoke, builtin, Sem.run_bind, Sem.run_pure, Result.andThen_ok, List.map_toArray, List.map_cons, List.map_nil, hs, hx, hrun]
  rw [hr']
  exact h v' w' h2
theorem stq_keep {w W : World} {g X : Nat} {v : Value} {cs : Array Value} (hc : W.cell? ⟨g, 0, none⟩ = some v) (hb : Below w.heap.size w W) (hX : w.heap.size ≤ X) (hg : g < w.heap.size) : (W.setRow X cs).cell? ⟨g, 0, none⟩ = some v ∧ Below w.heap.size w (W.setRow X cs) := by
  have ho : Only (· = X) W (W.setRow X cs) := ⟨rfl, rfl, rfl, by simp, fun k _ hn => setRow_other W X k cs hn⟩
  exact ⟨ho.cell hc (fun e => by have e : g = X := e; omega), hb.trans (ho.below hb.size (fun k e => by have e : k = X := e; omega))⟩
theorem run_append_frs (w : World) (ty : TypeId) (a : Option Addr) (c n : Nat) (vs : List Value) (hn : n ≤ 1000000) (hl : vs.length = n * 3) (h1 : ∀ u ∈ vs, u.oneCell' = true) (hr : Rd w a vs) :
    ∃ v' w', (Builtin.append_ #[59, 59] ty #[.slice none 0 0, .slice a n c]).run Try.prog w = .ok v' w' ∧ w'.ownsRow w.heap.size 38 3 v' n vs ∧ Below w.heap.size w w' := by
  obtain ⟨fi, hfi, hfz, hfs, hfb⟩ := frq_parts
  cases n with
  | zero =>
    have h0 : vs = [] := List.eq_nil_of_length_eq_zero (by omega)
    subst h0
    exact ⟨_, _, run_append_zero w 59 ty 38 fi Try.underlying59 hfi none 0 0 (Nat.le_refl _) a c, World.ownsRow_nil _ _ _ _, Below.refl _ _⟩
  | succ n =>
    obtain ⟨b, off, rfl, hb, hcell⟩ := hr.at (k := 0) (v := vs[0]'(by omega)) (by simp)
    obtain ⟨v', w', hrun, h2, h3, _⟩ := run_append_own_at (P := Try.prog) w w.heap.size 59 ty 38 fi zfrQ 3 40 Try.underlying59 hfi hfz hfs hfb rfl (by decide) (.slice none 0 0) 0 [] (World.ownsRow_nil _ _ _ _) ⟨b, off, none⟩ (n + 1) c vs hl (rd_cells hr) h1 (by unfold maxLen; omega) (by omega) (Nat.le_refl _)
    rw [Nat.zero_add, List.nil_append] at h2
    exact ⟨v', w', hrun, h2, (Below.refl _ w).grown h3 (Nat.le_refl _) (fun k e => by cases e)⟩
theorem rstep_append_frs {ops : Array Oper} {o : Oper} {a : Act} {w : World} {K : Act → World → Prop} {Q : Exit → Act → World → Prop} {E : Prop} (hw : Region.wanted o (yielded ops a.tmps) = true) (s x : Operand)
    (ho : o.op = .call { callee := .builtin .append, args := #[s, x], argTypes := #[59, 59] }) (hs : a.eval s = .slice none 0 0) (ad : Option Addr) (c n : Nat) (vs : List Value) (hx : a.eval x = .slice ad n c) (hn : n ≤ 1000000) (hl : vs.length = n * 3) (h1 : ∀ u ∈ vs, u.oneCell' = true) (hr : Rd w ad vs)
    (h : ∀ v' w', w'.ownsRow w.heap.size 38 3 v' n vs → Below w.heap.size w w' → K (a.put o.dst v') w') : if Region.wanted o (yielded ops a.tmps) = true then Oper.wp Try.prog o a w K Q else E := by
  obtain ⟨v', w', hrun, h2, h3⟩ := run_append_frs w o.type ad c n vs hn hl h1 hr
  rw [if_pos hw]
  unfold Oper.wp
  have hr' : (execOp a.eval o).run Try.prog w = .ok (.value v') w' := by
    unfold execOp
    simp only [ho, resolve, invoke, builtin, Sem.run_bind, Sem.run_pure, Result.andThen_ok, List.map_toArray, List.map_cons, List.map_nil, hs, hx, hrun]
  rw [hr']
  exact h v' w' h2 h3
theorem own_rowq3 {w : World} {B e n : Nat} {v : Value} {xs : List Value} (h : w.ownsRow B e 3 v (n + 1) xs) : ∃ b c, v = .slice (some ⟨b, 0, none⟩) (n + 1) c ∧ B ≤ b ∧ Rd w (some ⟨b, 0, none⟩) xs ∧ n + 1 ≤ c ∧ c ≤ 9223372036854775807 := by
  rcases h.2 with ⟨rfl, h0⟩ | ⟨g, cap, cur, rfl, hB, hg, hn, hm, _⟩
  · cases h0
  · refine ⟨g, cap, rfl, hB, fun k v hv => ⟨g, 0, rfl, ?_⟩, hn, (by unfold maxLen at hm; omega)⟩
    have := h.cells (g := g) rfl k v hv
    simpa [Addr.add_lit] using this
theorem rowq_own {w : World} {g D n : Nat} {v : Value} {xs : List Value} (h : w.ownsRow D 38 3 v n xs) (hg : g + 1 ≤ D) : RowQ w g v n xs (fun _ => False) (fun k => D ≤ k) := by
  refine .inl ⟨⟨h.1, ?_⟩, fun b e => ⟨(h.lt b e).1, fun h => h⟩⟩
  rcases h.2 with h2 | ⟨b, cap, cur, rfl, hb, rest⟩
  · exact .inl h2
  · exact .inr ⟨b, cap, cur, rfl, Nat.le_trans hg hb, rest⟩
/-- Behind a Put of a frame that may be. -/
theorem rput_fin {w w2 w8 w9 : World} {g : Nat} {s : RQ} {L : List Frm} {M : Nat → Prop} {vs : List Value} {v' : Value} {f : Frm} {r : Nat} {c2 : Nat} {qa : Option Addr} {qc : Nat} {N : Nat → Prop}
    (hbox : RQBox w g (.slice qa L.length qc) s) (hfr : Frs w N L vs) (hMg : M g) (hNg : ¬ N g) (hNM : ∀ k, N k → M k) (hMl : ∀ k, M k → k < w.heap.size) (hbx : Below w.heap.size w w2)
    (hcc : f.recs.length ≤ c2 ∧ c2 ≤ 9223372036854775807 ∧ ((some ⟨r, 0, none⟩ : Option Addr) = none → c2 = 0)) (hr2 : Rd w2 (some ⟨r, 0, none⟩) (rcf f.recs)) (hr0 : w.heap.size ≤ r) (hrl : r < w2.heap.size)
    (h28 : Below w2.heap.size w2 w8) (hown : w8.ownsRow (g + 1) 38 3 v' (L.length + 1) (vs ++ [.int .u64 f.seq, .int .i64 f.win, .slice (some ⟨r, 0, none⟩) f.recs.length c2])) (hob : ∀ b, v'.ownBlock = some b → w2.heap.size ≤ b)
    (h9 : w9 = w8.setCell ⟨g, 0, none⟩ v') : RTo w M g s (L ++ [f]) w9 := by
  obtain ⟨b, c, rfl, hb, hrd, hnc, hcm⟩ := own_rowq3 hown
  have hb2 := hob b rfl
  have hbl := (hown.lt b rfl).2
  have hg : g < w.heap.size := hMl g hMg
  have hs2 := hbx.size
  have hs8 := h28.size
  have ho89 : Only (· = g) w8 w9 := by rw [h9]; exact (Only.refl (· = g) w8).setCell _ _ (fun _ => rfl)
  have hs9 := ho89.size
  have hall : Only (· = g) w w9 := ((Only.of_new hbx).trans (Only.of_below (F := fun k => w2.heap.size ≤ k) h28 (fun _ _ h => h)) (fun k hk h => by have h : w2.heap.size ≤ k := h; omega)).trans ho89 (fun _ _ h => h)
  have ho29 : Only (· = g) w2 w9 := (Only.of_new h28).trans ho89 (fun _ _ h => h)
  refine ⟨fun k => M k ∨ (w.heap.size ≤ k ∧ k < w9.heap.size), ⟨some ⟨b, 0, none⟩, c, _, fun k => N k ∨ k = r ∨ k = b, ?_, ⟨by simp only [List.length_append, List.length_cons, List.length_nil]; omega, hcm, fun h => by cases h⟩, ho89.rd hrd ?_, ?_, Frs.add (f := f) (cs := [.int .u64 f.seq, .int .i64 f.win, .slice (some ⟨r, 0, none⟩) f.recs.length c2]) ?_ (Frs.only hall ?_ (fun _ h => .inl h) hfr), .inl hMg, ?_, ?_, ?_⟩, hall.mono ?_, ?_⟩
  · have h0 : w8.heap[g]? = some (.cells #[.slice qa L.length qc, .int .i64 s.gone, .int .i64 s.most, .int .i64 s.base, .int .i64 s.longest, .int .i64 s.drop, .bool s.at_, .bool s.timed, .int .i64 s.when_, .int .i64 s.tries] 79 (0, 0)) := (h28.block g (by omega)).trans ((hbx.block g hg).trans hbox)
    unfold RQBox
    rw [h9, heap_setCell_same _ _ _ _ _ _ h0]
    rw [List.length_append]
    rfl
  · intro ad e h
    cases e
    have h : b = g := h
    omega
  · intro ad e
    cases e
    exact .inr (.inr rfl)
  · refine ⟨some ⟨r, 0, none⟩, c2, rfl, hcc, ho29.rd hr2 (fun ad e h => ?_), fun ad e => by cases e; exact .inr (.inl rfl)⟩
    cases e
    have h : r = g := h
    omega
  · intro k hk h
    have h : k = g := h
    exact hNg (by rw [← h]; exact hk)
  · intro h
    rcases h with h | h | h
    · exact hNg h
    · omega
    · omega
  · intro k h
    rcases h with h | h | h
    · exact .inl (hNM k h)
    · exact .inr ⟨by omega, by omega⟩
    · exact .inr ⟨by omega, by omega⟩
  · intro k h
    rcases h with h | h
    · have := hMl k h
      have := hall.size
      omega
    · exact h.2
  · intro k _ h
    have h : k = g := h
    rw [h]
    exact hMg
  · intro k h
    rcases h with h | h
    · exact .inl h
    · exact .inr h.1
/-- Behind the first statement: the frame in a block of its own, its records in new memory. -/
def CutQ (w : World) (nl : Nat) (win : Int) (xs : List Rec) (s8 : Value) (wx : World) : Prop :=
  ∃ X a2 c2, s8 = .pointer (some ⟨X, 0, none⟩) ∧ FBq X ((nl : Int) + 1) win (.slice a2 xs.length c2) wx ∧ w.heap.size ≤ X ∧ Rd wx a2 (rcf xs) ∧ Below w.heap.size w wx ∧ (xs.length ≤ c2 ∧ c2 ≤ 9223372036854775807 ∧ (a2 = none → c2 = 0)) ∧ (xs ≠ [] → ∃ b, a2 = some ⟨b, 0, none⟩ ∧ w.heap.size ≤ b ∧ b ≠ X)
theorem rd_ne {w : World} {b : Nat} {xs : List Rec} (hr : Rd w (some ⟨b, 0, none⟩) (rcf xs)) (hx : xs ≠ []) : b < w.heap.size := by
  obtain ⟨x, t, rfl⟩ : ∃ x t, xs = x :: t := by
    cases xs with
    | nil => exact absurd rfl hx
    | cons x t => exact ⟨x, t, rfl⟩
  obtain ⟨b', off, e, hlt, _⟩ := hr.at (k := 0) (v := .string x.name) (by simp [rcf, Rec.cells])
  cases e
  exact hlt
theorem rput_store {w W : World} {nl : Nat} {win : Int} {xs : List Rec} {X : Nat} {a2 : Option Addr} {c2 : Nat} (hX0 : W.heap[X]? = some (.cells #[.int .u64 0, .int .i64 0, .slice none 0 0] 38 (0, 0))) (hX : w.heap.size ≤ X) (hr : Rd W a2 (rcf xs)) (hb : Below w.heap.size w W) (hcc : xs.length ≤ c2 ∧ c2 ≤ 9223372036854775807 ∧ (a2 = none → c2 = 0)) (hn : xs ≠ [] → ∃ b, a2 = some ⟨b, 0, none⟩ ∧ w.heap.size ≤ b ∧ b ≠ X) :
    CutQ w nl win xs (.pointer (some ⟨X, 0, none⟩)) (W.setRow X #[.int .u64 ((nl : Int) + 1), .int .i64 win, .slice a2 xs.length c2]) := by
  have ho : Only (· = X) W (W.setRow X #[.int .u64 ((nl : Int) + 1), .int .i64 win, .slice a2 xs.length c2]) := ⟨rfl, rfl, rfl, by simp, fun k _ hn => setRow_other W X k _ hn⟩
  refine ⟨X, a2, c2, rfl, setRow_heap _ _ _ _ _ _ hX0, hX, ?_, hb.trans (ho.below hb.size (fun k e => by have e : k = X := e; omega)), hcc, hn⟩
  intro k v hv
  obtain ⟨b, off, e, hc⟩ := hr k v hv
  subst e
  refine ⟨b, off, rfl, ho.cell hc (fun e => ?_)⟩
  have hx : xs ≠ [] := fun h => by rw [h] at hv; simp [rcf] at hv
  obtain ⟨b', e', _, h3⟩ := hn hx
  cases e'
  exact h3 e
def rputR (s : RQ) (L : List Frm) (win : Int) (xs : List Rec) : (Int × Int) × RQ × List Frm :=
  if mayB ((L.length : Int) + 1) win xs = false then ((0, 2), s, L) else if s.most ≤ (L.length : Int) - s.gone then ((0, 6), { s with drop := s.drop + 1 }, L) else (((L.length : Int) + 1, 0), s, L ++ [⟨(L.length : Int) + 1, win, xs⟩])
def RPutP (w : World) (g : Nat) (M : Nat → Prop) (r : (Int × Int) × RQ × List Frm) (e : Ending) (w' : World) : Prop :=
  e = .returned (.tuple #[.int .u64 r.1.1, .int .i64 r.1.2]) ∧ RTo w M g r.2.1 r.2.2 w'
section
variable {w : World} {g : Nat} {s : RQ} {L : List Frm} {M : Nat → Prop}
set_option maxHeartbeats 1000000 in
set_option maxRecDepth 100000 in
theorem rput (h : RSt w g s L M) (win : Int) (a : Option Addr) (c : Nat) (xs : List Rec) (hc : xs.length ≤ c) (_hc2 : c ≤ 9223372036854775807) (hl : xs.length ≤ 1000000) (_ha : a = none → c = 0) (hr : Rd w a (rcf xs)) (hs : ∀ x ∈ xs, x.name.size ≤ 140737488355328)
    (hg : 0 ≤ s.gone ∧ s.gone ≤ L.length) (hd : 0 ≤ s.drop ∧ s.drop ≤ 1000000) (hf : L.length ≤ 1000000) :
    Calls Try.prog 23 #[.pointer (some ⟨g, 0, none⟩), .int .i64 win, .slice a xs.length c] w (RPutP w g M (rputR s L win xs)) := by
  have H := Lib.hid h
  obtain ⟨qa, qc, vs, N, hbox, hcc, hrx, hrN, hfr, hMg, hNg, hNM, hMl⟩ := h
  obtain ⟨nl, hnl⟩ : ∃ nl, nl = L.length := ⟨_, rfl⟩
  have c0 : w.cell? ⟨g, 0, none⟩ = some (.slice qa nl qc) := by rw [hnl]; exact hbox.c0
  have c0d : w.drew.cell? ⟨g, 0, none⟩ = some (.slice qa nl qc) := c0
  have hnl2 : nl ≤ 1000000 := by omega
  have HNL := Lib.hid hnl
  have HR := Lib.hid (fun W (h : Below w.heap.size w W) => hr.below h (Nat.le_refl _))
  have HBOX := Lib.hid hbox
  have HS := Lib.hid hs
  have hgw : g < w.heap.size := hMl g hMg
  have hwrap : IntKind.i64.wrap ((nl : Int) + 1) = (nl : Int) + 1 := by rw [IntKind.wrap_i64]; omega
  have hwrap2 : IntKind.u64.wrap ((nl : Int) + 1) = (nl : Int) + 1 := by rw [IntKind.wrap_u64]; omega
  have HFR := Lib.hid hfr
  have HNM := Lib.hid hNM
  have HML := Lib.hid hMl
  have HVL := Lib.hid (show vs.length = nl * 3 by rw [hnl]; exact hfr.length)
  have HV1 := Lib.hid (show ∀ u ∈ vs, u.oneCell' = true from fun u hu => hfr.one hu)
  have HRX := Lib.hid (fun W (h : Below w.heap.size w W) => hrx.below h (Nat.le_refl _))
  clear hnl hr hbox hs hfr hNM hMl hrN hrx
  go_enter Try.func23, Try.ntmps23
  go_upto_region 1 with fail
  go_cut [8] from 9 to 19 (fun s8 wx => CutQ w nl win xs s8 wx)
  case first =>
    refine wp_region_noPanic ?_
    refine wp_region_held_drew (S := (fun w' => w'.cell? ⟨g, 0, none⟩ = some (.slice qa nl qc) ∧ Below w.heap.size w w')) (by kernel_rfl) ?_ (fun hHeld => ?_)
    · exact ⟨c0, (Below.refl _ w).drew⟩
    refine wpAnyH_take (i := 0) (oi := _) (v := ?_) rfl (by kernel_rfl) (by kernel_rfl) (by kernel_rfl) (fun _ _ _ h => h) (Or.inl ⟨by rfl, ?_⟩) (by assumption) ?_
    rotate_left 1
    · (intro w hSw; (try dsimp only at hSw); (have q0 := hSw.1; go_simp); (try with_reducible rfl))
    try simp only [Act.put, List.getElem_toArray, List.getElem_cons_zero, List.setIfInBounds_toArray, List.set_cons_zero, List.set_cons_succ]
    refine wpAnyH_take (i := 1) (oi := _) (v := ?_) rfl (by kernel_rfl) (by kernel_rfl) (by kernel_rfl) (fun _ _ _ h => h) (Or.inl ⟨by rfl, ?_⟩) (by assumption) ?_
    rotate_left 1
    · (intro w hSw; (try dsimp only at hSw); (have q0 := hSw.1; go_simp); (try with_reducible rfl))
    try simp only [Act.put, List.getElem_toArray, List.getElem_cons_succ, List.getElem_cons_zero, List.setIfInBounds_toArray, List.set_cons_zero, List.set_cons_succ]
    refine wpAnyH_take (i := 2) (oi := _) (v := ?_) rfl (by kernel_rfl) (by kernel_rfl) (by kernel_rfl) (fun _ _ _ h => h) (Or.inl ⟨by rfl, ?_⟩) (by assumption) ?_
    rotate_left 1
    · (intro w hSw; (try dsimp only at hSw); (have q0 := hSw.1; go_simp); (try with_reducible rfl))
    try simp only [Act.put, List.getElem_toArray, List.getElem_cons_succ, List.getElem_cons_zero, List.setIfInBounds_toArray, List.set_cons_zero, List.set_cons_succ]
    refine wpAnyH_take (i := 3) (oi := _) (v := ?_) rfl (by kernel_rfl) (by kernel_rfl) (by kernel_rfl) (fun _ _ _ h => h) (Or.inl ⟨by rfl, ?_⟩) (by assumption) ?_
    rotate_left 1
    · (intro w hSw; (try dsimp only at hSw); (have q0 := hSw.1; go_simp); (try with_reducible rfl))
    try simp only [Act.put, List.getElem_toArray, List.getElem_cons_succ, List.getElem_cons_zero, List.setIfInBounds_toArray, List.set_cons_zero, List.set_cons_succ]
    refine wpAnyH_take (i := 4) (oi := _) (v := ?_) rfl (by kernel_rfl) (by kernel_rfl) (by kernel_rfl) (fun _ _ _ h => h) (Or.inl ⟨by rfl, ?_⟩) (by assumption) ?_
    rotate_left 1
    · (intro w hSw; (try dsimp only at hSw); (have q0 := hSw.1; go_simp); (try with_reducible rfl))
    try simp only [Act.put, List.getElem_toArray, List.getElem_cons_succ, List.getElem_cons_zero, List.setIfInBounds_toArray, List.set_cons_zero, List.set_cons_succ]
    refine wpAnyH_take (i := 5) (oi := _) (v := ?_) rfl (by kernel_rfl) (by kernel_rfl) (by kernel_rfl) (fun _ _ _ h => h) (Or.inl ⟨by rfl, ?_⟩) (by assumption) ?_
    rotate_left 1
    · (intro w hSw; (try dsimp only at hSw); (have q0 := hSw.1; go_simp); (try with_reducible rfl))
    try simp only [Act.put, List.getElem_toArray, List.getElem_cons_succ, List.getElem_cons_zero, List.setIfInBounds_toArray, List.set_cons_zero, List.set_cons_succ]
    refine wpAnyH_take (i := 6) (oi := _) (v := ?_) rfl (by kernel_rfl) (by kernel_rfl) (by kernel_rfl) (fun _ _ _ h => h) (Or.inl ⟨by rfl, ?_⟩) (by assumption) ?_
    rotate_left 1
    · (intro w hSw; (try dsimp only at hSw); (have q0 := hSw.1; go_simp); (try with_reducible rfl))
    try simp only [Act.put, List.getElem_toArray, List.getElem_cons_succ, List.getElem_cons_zero, List.setIfInBounds_toArray, List.set_cons_zero, List.set_cons_succ]
    refine wpAnyH_take (i := 7) (oi := _) (v := ?_) rfl (by kernel_rfl) (by kernel_rfl) (by kernel_rfl) (fun _ _ _ h => h) (Or.inl ⟨by rfl, ?_⟩) (by assumption) ?_
    rotate_left 1
    · (intro w hSw; (try dsimp only at hSw); (have q0 := hSw.1; go_simp); (try with_reducible rfl))
    try simp only [Act.put, List.getElem_toArray, List.getElem_cons_succ, List.getElem_cons_zero, List.setIfInBounds_toArray, List.set_cons_zero, List.set_cons_succ]
    refine wpAnyH_take (i := 8) (oi := _) (v := ?_) rfl (by kernel_rfl) (by kernel_rfl) (by kernel_rfl) (fun _ _ _ h => h) (Or.inl ⟨by rfl, ?_⟩) (by assumption) ?_
    rotate_left 1
    · (intro w hSw; (try dsimp only at hSw); (have q0 := hSw.1; go_simp); (try with_reducible rfl))
    try simp only [Act.put, List.getElem_toArray, List.getElem_cons_succ, List.getElem_cons_zero, List.setIfInBounds_toArray, List.set_cons_zero, List.set_cons_succ]
    refine wpAnyH_ready (rs := [9, 11]) (by kernel_rfl) (by simp) ?_
    refine AllReadyH.cons (o := _) rfl (fun K hK => ?_) (AllReadyH.cons (o := _) rfl (fun K hK => ?_) AllReadyH.nil)
    · refine rstep_append_recs (by kernel_rfl) _ _ rfl rfl a c xs.length xs rfl rfl hl (HR.out _ hHeld.2) ?_
      rintro v2 w2 ⟨a2, c2, rfl, hr2, hb2, hcc2, hn2⟩
      have hh9 := hHeld.2.trans (hb2.mono hHeld.2.size)
      have k9 := keepc hb2 hHeld.1
      refine hK.out _ _ ?_ (fun hHeld9 => ?_)
      · exact ⟨k9, hh9⟩
      clear hK K
      try simp only [Act.put, List.getElem_toArray, List.getElem_cons_succ, List.getElem_cons_zero, List.setIfInBounds_toArray, List.set_cons_zero, List.set_cons_succ]
      refine wpAnyH_take (i := 10) (oi := _) (v := ?_) rfl (by kernel_rfl) (by kernel_rfl) (by kernel_rfl) (fun _ _ _ h => h) (Or.inl ⟨by rfl, ?_⟩) (by assumption) ?_
      rotate_left 1
      · (intro w hSw; (try dsimp only at hSw); (have q0 := hSw.1; go_simp); (try with_reducible rfl))
      try simp only [Act.put, List.getElem_toArray, List.getElem_cons_succ, List.getElem_cons_zero, List.setIfInBounds_toArray, List.set_cons_zero, List.set_cons_succ]
      refine wpAnyH_ready (rs := [11]) (by kernel_rfl) (by simp) ?_
      refine AllReadyH.cons (o := _) rfl (fun K hK => ?_) AllReadyH.nil
      go_simp
      refine hK.out _ _ ?_ (fun hHeld11 => ?_)
      · exact ⟨keepc ((Below.refl _ w2).alloc (Nat.le_refl _) _) k9, hh9.alloc hh9.size _⟩
      clear hK K
      try simp only [Act.put, List.getElem_toArray, List.getElem_cons_succ, List.getElem_cons_zero, List.setIfInBounds_toArray, List.set_cons_zero, List.set_cons_succ]
      refine wpAnyH_ready (rs := [12]) (by kernel_rfl) (by simp) ?_
      refine AllReadyH.cons (o := _) rfl (fun K hK => ?_) AllReadyH.nil
      refine rstep_store_rowq (by kernel_rfl) 38 _ _ rfl w2.heap.size rfl #[.int .u64 ((nl : Int) + 1), .int .i64 win, .slice a2 xs.length c2] rfl #[.int .u64 0, .int .i64 0, .slice none 0 0] 38 (heap_alloc_new w2 _) rfl (by kernel_rfl) (frq_one _ _ _ _ _) ?_
      refine hK.out _ _ ?_ (fun hHeld12 => ?_)
      · exact stq_keep (keepc ((Below.refl _ w2).alloc (Nat.le_refl _) _) k9) (hh9.alloc hh9.size _) (by have := hh9.size; simp; omega) hgw
      clear hK K
      try simp only [Act.put, List.getElem_toArray, List.getElem_cons_succ, List.getElem_cons_zero]
      refine wpAnyH_done (by kernel_rfl) ?_ _
      refine NoPanic.normal ?_
      go_wp2_with fail
      go_meet
      case rel => exact rput_store (heap_alloc_new w2 _) (show w.heap.size ≤ w2.heap.size from hh9.size) (hr2.below ((Below.refl _ w2).alloc (Nat.le_refl _) _) (Nat.le_refl _)) (hh9.alloc hh9.size _) hcc2 (fun hx => by obtain ⟨b, e, hb⟩ := hn2 hx; subst e; exact ⟨b, rfl, hb, by have := rd_ne hr2 hx; omega⟩)
    · go_simp
      have hh11 := hHeld.2.alloc hHeld.2.size (.cells #[.int .u64 0, .int .i64 0, .slice none 0 0] 38)
      have k11 := keepc ((Below.refl _ _).alloc (Nat.le_refl _) (.cells #[.int .u64 0, .int .i64 0, .slice none 0 0] 38)) hHeld.1
      refine hK.out _ _ ?_ (fun hHeld11 => ?_)
      · exact ⟨k11, hh11⟩
      clear hK K
      try simp only [Act.put, List.getElem_toArray, List.getElem_cons_succ, List.getElem_cons_zero, List.setIfInBounds_toArray, List.set_cons_zero, List.set_cons_succ]
      refine wpAnyH_ready (rs := [9]) (by kernel_rfl) (by simp) ?_
      refine AllReadyH.cons (o := _) rfl (fun K hK => ?_) AllReadyH.nil
      refine rstep_append_recs (by kernel_rfl) _ _ rfl rfl a c xs.length xs rfl rfl hl (HR.out _ hh11) ?_
      rintro v2 w2 ⟨a2, c2, rfl, hr2, hb2, hcc2, hn2⟩
      have hh9 := hh11.trans (hb2.mono hh11.size)
      have k9 := keepc hb2 k11
      refine hK.out _ _ ?_ (fun hHeld9 => ?_)
      · exact ⟨k9, hh9⟩
      clear hK K
      try simp only [Act.put, List.getElem_toArray, List.getElem_cons_succ, List.getElem_cons_zero, List.setIfInBounds_toArray, List.set_cons_zero, List.set_cons_succ]
      refine wpAnyH_take (i := 10) (oi := _) (v := ?_) rfl (by kernel_rfl) (by kernel_rfl) (by kernel_rfl) (fun _ _ _ h => h) (Or.inl ⟨by rfl, ?_⟩) (by assumption) ?_
      rotate_left 1
      · (intro w hSw; (try dsimp only at hSw); (have q0 := hSw.1; go_simp); (try with_reducible rfl))
      try simp only [Act.put, List.getElem_toArray, List.getElem_cons_succ, List.getElem_cons_zero, List.setIfInBounds_toArray, List.set_cons_zero, List.set_cons_succ]
      refine wpAnyH_ready (rs := [12]) (by kernel_rfl) (by simp) ?_
      refine AllReadyH.cons (o := _) rfl (fun K hK => ?_) AllReadyH.nil
      refine rstep_store_rowq (by kernel_rfl) 38 _ _ rfl w.heap.size rfl #[.int .u64 ((nl : Int) + 1), .int .i64 win, .slice a2 xs.length c2] rfl #[.int .u64 0, .int .i64 0, .slice none 0 0] 38 ((hb2.block w.heap.size (by simp)).trans (heap_alloc_new w.drew _)) rfl (by kernel_rfl) (frq_one _ _ _ _ _) ?_
      refine hK.out _ _ ?_ (fun hHeld12 => ?_)
      · exact stq_keep k9 hh9 (Nat.le_refl _) hgw
      clear hK K
      try simp only [Act.put, List.getElem_toArray, List.getElem_cons_succ, List.getElem_cons_zero]
      refine wpAnyH_done (by kernel_rfl) ?_ _
      refine NoPanic.normal ?_
      go_wp2_with fail
      go_meet
      case rel => exact rput_store ((hb2.block w.heap.size (by simp)).trans (heap_alloc_new w.drew _)) (Nat.le_refl _) hr2 hh9 hcc2 (fun hx => by obtain ⟨b, e, hb⟩ := hn2 hx; subst e; have hb : w.heap.size + 1 ≤ b := (by simpa using hb); exact ⟨b, rfl, by omega, by omega⟩)
  case rest =>
    obtain ⟨X, a2, c2, rfl, hX, hX2, hrd2, hb2, hcc2, hn2⟩ := hcut
    have HX := Lib.hid hX
    have HRD2 := Lib.hid hrd2
    have HB2 := Lib.hid hb2
    have HCC2 := Lib.hid hcc2
    have HN2 := Lib.hid hn2
    have x0 := hX.c0
    have x1 := hX.c1
    have x2 := hX.c2
    have HMC := Lib.hid (rmay_any wc ((nl : Int) + 1) win a2 c2 xs (by omega) HS.out hrd2 (by omega))
    unfold frv at HMC
    clear hX hrd2 hb2 hcc2 hn2 hwrap hwrap2 c0d c0
    go_wp2_with fail
    refine HMC.out.mono ?_
    rintro e w2 ⟨rfl, hb3⟩
    have HB3 := Lib.hid (HB2.out.trans (hb3.mono HB2.out.size))
    have HX3 := Lib.hid (show FBq X ((nl : Int) + 1) win (.slice a2 xs.length c2) w2 from (hb3.block X (Array.getElem?_eq_some_iff.1 HX.out).1).trans HX.out)
    have HRD3 := Lib.hid (HRD2.out.below hb3 (Nat.le_refl _))
    have H3 := Lib.hid (H.out.new HB3.out)
    have HX0 := Lib.hid (Array.getElem?_eq_some_iff.1 HX.out).1
    have HRN3 := Lib.hid (show xs ≠ [] → ∃ b, a2 = some ⟨b, 0, none⟩ ∧ w.heap.size ≤ b ∧ b ≠ X ∧ b < wc.heap.size from fun hx => by
      obtain ⟨b, e, h1, h2⟩ := HN2.out hx
      subst e
      exact ⟨b, rfl, h1, h2, rd_ne HRD2.out hx⟩)
    clear hb3 HMC HRD2 HX HN2 HB2 x0 x1 x2
    cases hm : mayB ((nl : Int) + 1) win xs with
    | false =>
      have HRR := Lib.hid (show rputR s L win xs = ((0, 2), s, L) by unfold rputR; rw [← HNL.out, if_pos hm])
      clear hm
      go_wp2
      go_ret2
      rw [HRR.out]
      exact ⟨rfl, M, H3.out, Only.of_new HB3.out, fun _ h => .inl h⟩
    | true =>
      have HW := Lib.hid (rwaiting_any H3.out hg hf)
      rw [← HNL.out] at HW
      have HWQ := Lib.hid (fun n => (show Calls Try.prog 40 #[.pointer (some ⟨g, 0, none⟩)] (w2.drewN n) fun e w' => e = .returned (.int .i64 ((nl : Int) - s.gone)) ∧ ∃ m, w' = (w2.drewN n).drewN m by rw [HNL.out]; exact rwaiting_any (H3.out.drewN n) hg hf))
      have hbox3 := (HB3.out.block g hgw).trans HBOX.out
      have y2 : w2.cell? ⟨g, 2, none⟩ = some (.int .i64 s.most) := RQBox.c2 hbox3
      have y5 : w2.cell? ⟨g, 5, none⟩ = some (.int .i64 s.drop) := RQBox.c5 hbox3
      have y0 : w2.cell? ⟨g, 0, none⟩ = some (.slice qa nl qc) := by rw [HNL.out]; exact RQBox.c0 hbox3
      have z5 := RQBox.fz hbox3 5
      have HBOX3 := Lib.hid hbox3
      clear hbox3
      by_cases hfull : s.most ≤ (nl : Int) - s.gone
      · have HRR := Lib.hid (show rputR s L win xs = ((0, 6), { s with drop := s.drop + 1 }, L) by unfold rputR; rw [← HNL.out, if_neg (by simp [hm]), if_pos hfull])
        clear hm
        go_wp2_with fail
        go_quiet ((go_at_call 40; exact Calls.quiet_of (HWQ.out _)))
        go_wp2
        go_ret2
        rw [HRR.out]
        have ho : Only (fun k => k = g) w2 ((w2.drewN nq).setCell ⟨g, 5, none⟩ (.int .i64 (s.drop + 1))) := ((Only.refl (fun k => k = g) w2).drewN nq).setCell _ _ (fun _ => rfl)
        refine ⟨rfl, M, H3.out.turn (fun v hv => ?_) ho, (Only.of_new HB3.out).trans (H3.out.only_g ho) (fun _ _ h => h), fun _ h => .inl h⟩
        unfold RQBox at hv ⊢
        rw [heap_setCell_same (w2.drewN nq) _ _ _ _ _ hv]
        rfl
      · have HRR := Lib.hid (show rputR s L win xs = (((nl : Int) + 1, 0), s, L ++ [⟨(nl : Int) + 1, win, xs⟩]) by unfold rputR; rw [← HNL.out, if_neg (by simp [hm]), if_neg hfull])
        have HXN := Lib.hid (show xs ≠ [] from fun e => by subst e; simp [mayB] at hm)
        clear hm
        go_wp2_with fail
        go_quiet ((go_at_call 40; exact Calls.quiet_of (HWQ.out _)))
        obtain ⟨wq, hwq⟩ : ∃ wq, wq = w2.drewN nq := ⟨_, rfl⟩
        go_wp2_with fail
        rw [← hwq]
        have hbq : Below w2.heap.size w2 wq.drew := by rw [hwq]; exact ⟨rfl, rfl, rfl, Nat.le_refl _, fun _ _ => rfl⟩
        have y0q : wq.cell? ⟨g, 0, none⟩ = some (.slice qa nl qc) := by rw [hwq]; exact y0
        have y0d : wq.drew.cell? ⟨g, 0, none⟩ = some (.slice qa nl qc) := y0q
        have hXd : FBq X ((nl : Int) + 1) win (.slice a2 xs.length c2) wq.drew := by rw [hwq]; exact HX3.out
        have hg2 : g < w2.heap.size := by have := HB3.out.size; omega
        have hX2l : X < w2.heap.size := (Array.getElem?_eq_some_iff.1 HX3.out).1
        have HBQ := Lib.hid hbq
        have HXD := Lib.hid hXd
        have HRXQ := Lib.hid (fun W (h : Below w2.heap.size w2 W) => HRX.out W (HB3.out.trans (h.mono HB3.out.size)))
        have HKX := Lib.hid (fun W (h : Below w2.heap.size w2 W) => (show FBq X ((nl : Int) + 1) win (.slice a2 xs.length c2) W from (h.block X hX2l).trans HX3.out))
        have HKG := Lib.hid (fun W (h : Below w2.heap.size w2 W) => (h.cell (p := ⟨g, 0, none⟩) hg2).trans y0)
        have HZG := Lib.hid (fun W (h : Below w2.heap.size w2 W) => (show W.frozen? ⟨g, 0, none⟩ = false from (h.frozen (p := ⟨g, 0, none⟩) hg2).trans (RQBox.fz HBOX3.out 0)))
        have HXG := Lib.hid (show ¬ X = g from by omega)
        clear hwq hbq hXd y2 y5 y0 z5 HWQ HW
        refine wp_region_noPanic ?_
        refine wp_region_held_drew (S := (FBq X ((nl : Int) + 1) win (.slice a2 xs.length c2))) (by kernel_rfl) ?_ (fun hHeld => ?_)
        · exact HXD.out
        refine wpAnyH_take (i := 0) (oi := _) (v := ?_) rfl (by kernel_rfl) (by kernel_rfl) (by kernel_rfl) (fun _ _ _ h => h) (Or.inl ⟨by rfl, ?_⟩) (by assumption) ?_
        rotate_left 1
        · (intro w hSw; (try dsimp only at hSw); go_simp; (try with_reducible rfl))
        try simp only [Act.put, List.getElem_toArray, List.getElem_cons_zero, List.setIfInBounds_toArray, List.set_cons_zero, List.set_cons_succ]
        refine wpAnyH_take (i := 1) (oi := _) (v := ?_) rfl (by kernel_rfl) (by kernel_rfl) (by kernel_rfl) (fun _ _ _ h => h) (Or.inl ⟨by rfl, ?_⟩) (by assumption) ?_
        rotate_left 1
        · (intro w hSw; (try dsimp only at hSw); go_simp; (try with_reducible rfl))
        try simp only [Act.put, List.getElem_toArray, List.getElem_cons_succ, List.getElem_cons_zero, List.setIfInBounds_toArray, List.set_cons_zero, List.set_cons_succ]
        refine wpAnyH_take (i := 2) (oi := _) (v := ?_) rfl (by kernel_rfl) (by kernel_rfl) (by kernel_rfl) (fun _ _ _ h => h) (Or.inl ⟨by rfl, ?_⟩) (by assumption) ?_
        rotate_left 1
        · (intro w hSw; (try dsimp only at hSw); go_simp; (try with_reducible rfl))
        try simp only [Act.put, List.getElem_toArray, List.getElem_cons_succ, List.getElem_cons_zero, List.setIfInBounds_toArray, List.set_cons_zero, List.set_cons_succ]
        refine wpAnyH_take (i := 3) (oi := _) (v := ?_) rfl (by kernel_rfl) (by kernel_rfl) (by kernel_rfl) (fun _ _ _ h => h) (Or.inl ⟨by rfl, ?_⟩) (by assumption) ?_
        rotate_left 1
        · (intro w hSw; (try dsimp only at hSw); go_simp; (try with_reducible rfl))
        try simp only [Act.put, List.getElem_toArray, List.getElem_cons_succ, List.getElem_cons_zero, List.setIfInBounds_toArray, List.set_cons_zero, List.set_cons_succ]
        refine wpAnyH_take (i := 6) (oi := _) (v := ?_) rfl (by kernel_rfl) (by kernel_rfl) (by kernel_rfl) (fun _ _ _ h => h) (Or.inl ⟨by rfl, ?_⟩) (by assumption) ?_
        rotate_left 1
        · (intro w hSw; (try dsimp only at hSw); (have q0 := hSw.c0; have q1 := hSw.c1; have q2 := hSw.c2; go_simp); (try with_reducible rfl))
        try simp only [Act.put, List.getElem_toArray, List.getElem_cons_succ, List.getElem_cons_zero, List.setIfInBounds_toArray, List.set_cons_zero, List.set_cons_succ]
        refine wpAnyH_ready (rs := [4, 7]) (by kernel_rfl) (by simp) ?_
        refine AllReadyH.cons (o := _) rfl (fun K hK => ?_) (AllReadyH.cons (o := _) rfl (fun K hK => ?_) AllReadyH.nil)
        · go_simp
          refine hK.out _ _ ?_ (fun hHeld4 => ?_)
          · exact HXD.out
          clear hK K
          try simp only [Act.put, List.getElem_toArray, List.getElem_cons_succ, List.getElem_cons_zero, List.setIfInBounds_toArray, List.set_cons_zero, List.set_cons_succ]
          refine wpAnyH_ready (rs := [5, 7]) (by kernel_rfl) (by simp) ?_
          refine AllReadyH.cons (o := _) rfl (fun K hK => ?_) (AllReadyH.cons (o := _) rfl (fun K hK => ?_) AllReadyH.nil)
          · refine rstep_append_frs (by kernel_rfl) _ _ rfl rfl qa qc nl vs rfl hnl2 HVL.out HV1.out (HRXQ.out _ HBQ.out) ?_
            intro v5 w5 hown5 hb5
            have h5 := HBQ.out.trans (hb5.mono HBQ.out.size)
            have hown5' := own_base hown5 (show w2.heap.size ≤ _ from HBQ.out.size)
            have k5 := HKX.out _ h5
            refine hK.out _ _ ?_ (fun hHeld5 => ?_)
            · exact k5
            clear hK K
            try simp only [Act.put, List.getElem_toArray, List.getElem_cons_succ, List.getElem_cons_zero, List.setIfInBounds_toArray, List.set_cons_zero, List.set_cons_succ]
            refine wpAnyH_ready (rs := [7]) (by kernel_rfl) (by simp) ?_
            refine AllReadyH.cons (o := _) rfl (fun K hK => ?_) AllReadyH.nil
            go_simp
            refine hK.out _ _ ?_ (fun hHeld7 => ?_)
            · exact HKX.out _ (h5.alloc h5.size _)
            clear hK K
            try simp only [Act.put, List.getElem_toArray, List.getElem_cons_succ, List.getElem_cons_zero, List.setIfInBounds_toArray, List.set_cons_zero, List.set_cons_succ]
            have h7 := h5.alloc h5.size (.cells #[.int .u64 ((nl : Int) + 1), .int .i64 win, .slice a2 xs.length c2] 38)
            refine wpAnyH_ready (rs := [8]) (by kernel_rfl) (by simp) ?_
            refine AllReadyH.cons (o := _) rfl (fun K hK => ?_) AllReadyH.nil
            obtain ⟨fi, hfi, hfz, hfs, hfbb⟩ := frq_parts
            refine rstep_append_q (by kernel_rfl) _ _ 59 rfl g fi zfrQ 40 Try.underlying59 hfi hfz hfs hfbb rfl v5 nl vs (fun _ => False) (fun k => w2.heap.size ≤ k) rfl (rowq_own ((Only.of_new (F := fun _ => False) ((Below.refl _ w5).alloc (Nat.le_refl _) _)).own hown5' (fun _ _ h => h)) (by omega)) ⟨w5.heap.size, 0, none⟩ 1 [.int .u64 ((nl : Int) + 1), .int .i64 win, .slice a2 xs.length c2] rfl rfl (row_new w5 _ _ _) (frq_one _ _ _ _ _) ?_ ?_ ?_ ?_
            · unfold maxLen; omega
            · omega
            · have := h7.size; omega
            intro v8 w8 hown8 ho8 hob8
            have h8 := h7.trans (ho8.below h7.size (fun k h => h.1))
            have k8 := HKX.out _ h8
            refine hK.out _ _ ?_ (fun hHeld8 => ?_)
            · exact k8
            clear hK K
            try simp only [Act.put, List.getElem_toArray, List.getElem_cons_succ, List.getElem_cons_zero, List.setIfInBounds_toArray, List.set_cons_zero, List.set_cons_succ]
            refine wpAnyH_ready (rs := [9]) (by kernel_rfl) (by simp) ?_
            refine AllReadyH.cons (o := _) rfl (fun K hK => ?_) AllReadyH.nil
            go_simp
            refine hK.out _ _ ?_ (fun hHeld9 => ?_)
            · exact k8
            clear hK K
            try simp only [Act.put, List.getElem_toArray, List.getElem_cons_succ, List.getElem_cons_zero, List.setIfInBounds_toArray, List.set_cons_zero, List.set_cons_succ]
            refine wpAnyH_ready (rs := [10]) (by kernel_rfl) (by simp) ?_
            refine AllReadyH.cons (o := _) rfl (fun K hK => ?_) AllReadyH.nil
            go_simp
            refine hK.out _ _ ?_ (fun hHeld10 => ?_)
            · exact k8
            clear hK K
            try simp only [Act.put, List.getElem_toArray, List.getElem_cons_succ, List.getElem_cons_zero, List.setIfInBounds_toArray, List.set_cons_zero, List.set_cons_succ]
            refine wpAnyH_ready (rs := [11]) (by kernel_rfl) (by simp) ?_
            refine AllReadyH.cons (o := _) rfl (fun K hK => ?_) AllReadyH.nil
            have e0 := HKG.out _ h8
            have z0 := HZG.out _ h8
            obtain ⟨b8, c8, rfl, hb8, hr8, hc81, hc82⟩ := own_rowq3 hown8
            go_simp
            clear e0 z0
            refine hK.out _ _ ?_ (fun hHeld11 => ?_)
            · exact ((Only.refl (fun k => k = g) w8).setCell ⟨g, 0, none⟩ _ (fun _ => rfl)).heap k8 (fun e => HXG.out e)
            clear hK K
            try simp only [Act.put, List.getElem_toArray, List.getElem_cons_succ, List.getElem_cons_zero, List.setIfInBounds_toArray, List.set_cons_zero, List.set_cons_succ]
            refine wpAnyH_done (by kernel_rfl) ?_ _
            refine NoPanic.normal ?_
            have e5 := FBq.c0 k8
            have hXg := HXG.out
            go_wp2
            go_ret2
            rw [HRR.out]
            obtain ⟨rb, rfl, hrb1, hrb2, hrb3⟩ := HRN3.out HXN.out
            refine ⟨rfl, rput_fin (f := ⟨(nl : Int) + 1, win, xs⟩) HBOX.out HFR.out hMg hNg HNM.out HML.out HB3.out HCC2.out HRD3.out hrb1 (rd_ne HRD3.out HXN.out) h8 (by rw [← HNL.out]; exact hown8) (fun b e => ?_) ?_⟩
            · exact (hob8 b e).elim (fun h => h.1) (fun h => by have := h7.size; omega)
            · rfl
          · go_simp
            refine hK.out _ _ ?_ (fun hHeld7 => ?_)
            · exact HKX.out _ (HBQ.out.alloc HBQ.out.size _)
            clear hK K
            try simp only [Act.put, List.getElem_toArray, List.getElem_cons_succ, List.getElem_cons_zero, List.setIfInBounds_toArray, List.set_cons_zero, List.set_cons_succ]
            have h7 := HBQ.out.alloc HBQ.out.size (.cells #[.int .u64 ((nl : Int) + 1), .int .i64 win, .slice a2 xs.length c2] 38)
            have hrow7 := row_new wq.drew #[.int .u64 ((nl : Int) + 1), .int .i64 win, .slice a2 xs.length c2] 38 (0, 0)
            refine wpAnyH_ready (rs := [5]) (by kernel_rfl) (by simp) ?_
            refine AllReadyH.cons (o := _) rfl (fun K hK => ?_) AllReadyH.nil
            refine rstep_append_frs (by kernel_rfl) _ _ rfl rfl qa qc nl vs rfl hnl2 HVL.out HV1.out (HRXQ.out _ h7) ?_
            intro v5 w5 hown5 hb5
            have h5 := h7.trans (hb5.mono h7.size)
            have hown5' := own_base hown5 (show w2.heap.size ≤ _ from h7.size)
            have k5 := HKX.out _ h5
            have hrow5 : ∀ j u, [Value.int .u64 ((nl : Int) + 1), .int .i64 win, .slice a2 xs.length c2][j]? = some u → w5.cell? ((⟨wq.heap.size, 0, none⟩ : Addr).add j) = some u := fun j u hu => keepc hb5 (hrow7 j u hu)
            refine hK.out _ _ ?_ (fun hHeld5 => ?_)
            · exact k5
            clear hK K
            try simp only [Act.put, List.getElem_toArray, List.getElem_cons_succ, List.getElem_cons_zero, List.setIfInBounds_toArray, List.set_cons_zero, List.set_cons_succ]
            refine wpAnyH_ready (rs := [8]) (by kernel_rfl) (by simp) ?_
            refine AllReadyH.cons (o := _) rfl (fun K hK => ?_) AllReadyH.nil
            obtain ⟨fi, hfi, hfz, hfs, hfbb⟩ := frq_parts
            refine rstep_append_q (by kernel_rfl) _ _ 59 rfl g fi zfrQ 40 Try.underlying59 hfi hfz hfs hfbb rfl v5 nl vs (fun _ => False) (fun k => w2.heap.size ≤ k) rfl (rowq_own hown5' (by omega)) ⟨wq.heap.size, 0, none⟩ 1 [.int .u64 ((nl : Int) + 1), .int .i64 win, .slice a2 xs.length c2] rfl rfl hrow5 (frq_one _ _ _ _ _) ?_ ?_ ?_ ?_
            · unfold maxLen; omega
            · omega
            · have := h5.size; omega
            intro v8 w8 hown8 ho8 hob8
            have h8 := h5.trans (ho8.below h5.size (fun k h => h.1))
            have k8 := HKX.out _ h8
            refine hK.out _ _ ?_ (fun hHeld8 => ?_)
            · exact k8
            clear hK K
            try simp only [Act.put, List.getElem_toArray, List.getElem_cons_succ, List.getElem_cons_zero, List.setIfInBounds_toArray, List.set_cons_zero, List.set_cons_succ]
            refine wpAnyH_ready (rs := [9]) (by kernel_rfl) (by simp) ?_
            refine AllReadyH.cons (o := _) rfl (fun K hK => ?_) AllReadyH.nil
            go_simp
            refine hK.out _ _ ?_ (fun hHeld9 => ?_)
            · exact k8
            clear hK K
            try simp only [Act.put, List.getElem_toArray, List.getElem_cons_succ, List.getElem_cons_zero, List.setIfInBounds_toArray, List.set_cons_zero, List.set_cons_succ]
            refine wpAnyH_ready (rs := [10]) (by kernel_rfl) (by simp) ?_
            refine AllReadyH.cons (o := _) rfl (fun K hK => ?_) AllReadyH.nil
            go_simp
            refine hK.out _ _ ?_ (fun hHeld10 => ?_)
            · exact k8
            clear hK K
            try simp only [Act.put, List.getElem_toArray, List.getElem_cons_succ, List.getElem_cons_zero, List.setIfInBounds_toArray, List.set_cons_zero, List.set_cons_succ]
            refine wpAnyH_ready (rs := [11]) (by kernel_rfl) (by simp) ?_
            refine AllReadyH.cons (o := _) rfl (fun K hK => ?_) AllReadyH.nil
            have e0 := HKG.out _ h8
            have z0 := HZG.out _ h8
            obtain ⟨b8, c8, rfl, hb8, hr8, hc81, hc82⟩ := own_rowq3 hown8
            go_simp
            clear e0 z0
            refine hK.out _ _ ?_ (fun hHeld11 => ?_)
            · exact ((Only.refl (fun k => k = g) w8).setCell ⟨g, 0, none⟩ _ (fun _ => rfl)).heap k8 (fun e => HXG.out e)
            clear hK K
            try simp only [Act.put, List.getElem_toArray, List.getElem_cons_succ, List.getElem_cons_zero, List.setIfInBounds_toArray, List.set_cons_zero, List.set_cons_succ]
            refine wpAnyH_done (by kernel_rfl) ?_ _
            refine NoPanic.normal ?_
            have e5 := FBq.c0 k8
            have hXg := HXG.out
            go_wp2
            go_ret2
            rw [HRR.out]
            obtain ⟨rb, rfl, hrb1, hrb2, hrb3⟩ := HRN3.out HXN.out
            refine ⟨rfl, rput_fin (f := ⟨(nl : Int) + 1, win, xs⟩) HBOX.out HFR.out hMg hNg HNM.out HML.out HB3.out HCC2.out HRD3.out hrb1 (rd_ne HRD3.out HXN.out) h8 (by rw [← HNL.out]; exact hown8) (fun b e => ?_) ?_⟩
            · exact (hob8 b e).elim (fun h => h.1) (fun h => by have := h5.size; omega)
            · rfl
        · go_simp
          refine hK.out _ _ ?_ (fun hHeld7 => ?_)
          · exact HKX.out _ (HBQ.out.alloc HBQ.out.size _)
          clear hK K
          try simp only [Act.put, List.getElem_toArray, List.getElem_cons_succ, List.getElem_cons_zero, List.setIfInBounds_toArray, List.set_cons_zero, List.set_cons_succ]
          have h7 := HBQ.out.alloc HBQ.out.size (.cells #[.int .u64 ((nl : Int) + 1), .int .i64 win, .slice a2 xs.length c2] 38)
          have hrow7 := row_new wq.drew #[.int .u64 ((nl : Int) + 1), .int .i64 win, .slice a2 xs.length c2] 38 (0, 0)
          refine wpAnyH_ready (rs := [4]) (by kernel_rfl) (by simp) ?_
          refine AllReadyH.cons (o := _) rfl (fun K hK => ?_) AllReadyH.nil
          have k0c : ((wq.alloc (.cells #[.int .u64 ((nl : Int) + 1), .int .i64 win, .slice a2 xs.length c2] 38)).drew).cell? ⟨g, 0, none⟩ = some (.slice qa nl qc) := HKG.out _ h7
          go_simp
          refine hK.out _ _ ?_ (fun hHeld4 => ?_)
          · exact HKX.out _ h7
          clear hK K
          try simp only [Act.put, List.getElem_toArray, List.getElem_cons_succ, List.getElem_cons_zero, List.setIfInBounds_toArray, List.set_cons_zero, List.set_cons_succ]
          refine wpAnyH_ready (rs := [5]) (by kernel_rfl) (by simp) ?_
          refine AllReadyH.cons (o := _) rfl (fun K hK => ?_) AllReadyH.nil
          refine rstep_append_frs (by kernel_rfl) _ _ rfl rfl qa qc nl vs rfl hnl2 HVL.out HV1.out (HRXQ.out _ h7) ?_
          intro v5 w5 hown5 hb5
          have h5 := h7.trans (hb5.mono h7.size)
          have hown5' := own_base hown5 (show w2.heap.size ≤ _ from h7.size)
          have k5 := HKX.out _ h5
          have hrow5 : ∀ j u, [Value.int .u64 ((nl : Int) + 1), .int .i64 win, .slice a2 xs.length c2][j]? = some u → w5.cell? ((⟨wq.heap.size, 0, none⟩ : Addr).add j) = some u := fun j u hu => keepc hb5 (hrow7 j u hu)
          refine hK.out _ _ ?_ (fun hHeld5 => ?_)
          · exact k5
          clear hK K
          try simp only [Act.put, List.getElem_toArray, List.getElem_cons_succ, List.getElem_cons_zero, List.setIfInBounds_toArray, List.set_cons_zero, List.set_cons_succ]
          refine wpAnyH_ready (rs := [8]) (by kernel_rfl) (by simp) ?_
          refine AllReadyH.cons (o := _) rfl (fun K hK => ?_) AllReadyH.nil
          obtain ⟨fi, hfi, hfz, hfs, hfbb⟩ := frq_parts
          refine rstep_append_q (by kernel_rfl) _ _ 59 rfl g fi zfrQ 40 Try.underlying59 hfi hfz hfs hfbb rfl v5 nl vs (fun _ => False) (fun k => w2.heap.size ≤ k) rfl (rowq_own hown5' (by omega)) ⟨wq.heap.size, 0, none⟩ 1 [.int .u64 ((nl : Int) + 1), .int .i64 win, .slice a2 xs.length c2] rfl rfl hrow5 (frq_one _ _ _ _ _) ?_ ?_ ?_ ?_
          · unfold maxLen; omega
          · omega
          · have := h5.size; omega
          intro v8 w8 hown8 ho8 hob8
          have h8 := h5.trans (ho8.below h5.size (fun k h => h.1))
          have k8 := HKX.out _ h8
          refine hK.out _ _ ?_ (fun hHeld8 => ?_)
          · exact k8
          clear hK K
          try simp only [Act.put, List.getElem_toArray, List.getElem_cons_succ, List.getElem_cons_zero, List.setIfInBounds_toArray, List.set_cons_zero, List.set_cons_succ]
          refine wpAnyH_ready (rs := [9]) (by kernel_rfl) (by simp) ?_
          refine AllReadyH.cons (o := _) rfl (fun K hK => ?_) AllReadyH.nil
          go_simp
          refine hK.out _ _ ?_ (fun hHeld9 => ?_)
          · exact k8
          clear hK K
          try simp only [Act.put, List.getElem_toArray, List.getElem_cons_succ, List.getElem_cons_zero, List.setIfInBounds_toArray, List.set_cons_zero, List.set_cons_succ]
          refine wpAnyH_ready (rs := [10]) (by kernel_rfl) (by simp) ?_
          refine AllReadyH.cons (o := _) rfl (fun K hK => ?_) AllReadyH.nil
          go_simp
          refine hK.out _ _ ?_ (fun hHeld10 => ?_)
          · exact k8
          clear hK K
          try simp only [Act.put, List.getElem_toArray, List.getElem_cons_succ, List.getElem_cons_zero, List.setIfInBounds_toArray, List.set_cons_zero, List.set_cons_succ]
          refine wpAnyH_ready (rs := [11]) (by kernel_rfl) (by simp) ?_
          refine AllReadyH.cons (o := _) rfl (fun K hK => ?_) AllReadyH.nil
          have e0 := HKG.out _ h8
          have z0 := HZG.out _ h8
          obtain ⟨b8, c8, rfl, hb8, hr8, hc81, hc82⟩ := own_rowq3 hown8
          go_simp
          clear e0 z0
          refine hK.out _ _ ?_ (fun hHeld11 => ?_)
          · exact ((Only.refl (fun k => k = g) w8).setCell ⟨g, 0, none⟩ _ (fun _ => rfl)).heap k8 (fun e => HXG.out e)
          clear hK K
          try simp only [Act.put, List.getElem_toArray, List.getElem_cons_succ, List.getElem_cons_zero, List.setIfInBounds_toArray, List.set_cons_zero, List.set_cons_succ]
          refine wpAnyH_done (by kernel_rfl) ?_ _
          refine NoPanic.normal ?_
          have e5 := FBq.c0 k8
          have hXg := HXG.out
          go_wp2
          go_ret2
          rw [HRR.out]
          obtain ⟨rb, rfl, hrb1, hrb2, hrb3⟩ := HRN3.out HXN.out
          refine ⟨rfl, rput_fin (f := ⟨(nl : Int) + 1, win, xs⟩) HBOX.out HFR.out hMg hNg HNM.out HML.out HB3.out HCC2.out HRD3.out hrb1 (rd_ne HRD3.out HXN.out) h8 (by rw [← HNL.out]; exact hown8) (fun b e => ?_) ?_⟩
          · exact (hob8 b e).elim (fun h => h.1) (fun h => by have := h5.size; omega)
          · rfl
end
end Go.Proofs.Ytdomnjakhecbaaa
