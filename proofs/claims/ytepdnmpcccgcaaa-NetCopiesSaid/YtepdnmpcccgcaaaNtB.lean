/- 'All': what it hands back, and how that gives the connections. -/
import Derived.Test.YtepdnmpcccgcaaaNtA
import Derived.Test.YtepdnmpcccgcaaaSm
import Derived.RangeFuncNested
import Derived.RangeFuncBound
import Derived.RangeFuncCalls
import Derived.RangeFuncLeaves
import Derived.RangeFuncWrites
import Derived.Shelf.Abstract
import Derived.OwnWalkIn
import Derived.TacticsInMore
import Derived.LoopNIn
import Derived.LoopIn
namespace Go.Proofs.Ytepdnmpcccgcaaa
open Go.RowKit Go.Shelf K
attribute [local go_sem] Oper.semAt_some
section
variable {α : Type} [DecidableEq α] {enc : α → Value} {F : Fence} {nF : Nat} {P : Program} {k e : TypeId} {w : World} {m : Nat} {kvs : List (α × Value)} {ops : Array Oper} {rest : List Oper} {o : Oper} {a : Act} {Q : Exit → Act → World → Prop}
/-- A look-up, in a fence. -/
theorem in_lookup (K : KeyEnc P k enc) (hg : o.guard = none) (t : TypeId) (y z : Operand) (ok : Bool) (ho : o.op = .lookup t y z ok) (ht : P.underlying t = some (.map k e)) (hy : a.eval y = .map (some m)) (h : MapAt enc w m kvs) (x : α) (hz : a.eval z = enc x)
    (zero : Value) (hzero : (zeroValue e).run P w = .ok zero w)
    (hK : wpListIn F nF P ops Q rest (a.put o.dst (if ok then .tuple #[(mget x kvs).getD zero, .bool (mget x kvs).isSome] else (mget x kvs).getD zero)) w) : wpListIn F nF P ops Q (o :: rest) a w := by
  refine wpListIn_plain hg fun K' hK' => ?_
  have hrun := run_lookup K h ht zero hzero x ok
  unfold Oper.wpIn
  refine ⟨by simp [Oper.about, ho], ?_⟩
  rw [Oper.semAt_plain F _ _ (by rw [ho]; intro c hc'; cases hc')]
  simp only [execOp, ho, hy, hz, Sem.run_bind, hrun, Result.andThen_ok, Sem.run_pure]
  exact hK' _ _ hK
/-- A store into a map, in a fence. -/
theorem in_update (K : KeyEnc P k enc) (hg : o.guard = none) (t : TypeId) (y z u : Operand) (ho : o.op = .mapUpdate t y z u) (ht : P.underlying t = some (.map k e)) (hy : a.eval y = .map (some m)) (h : MapAt enc w m kvs) (x : α) (hz : a.eval z = enc x)
    (v : Value) (hv : a.eval u = v)
    (hK : ∀ w', MapAt enc w' m (mput x v kvs) → Only (· = m) w w' → w'.heap.size = w.heap.size → wpListIn F nF P ops Q rest (a.put o.dst undef) w') : wpListIn F nF P ops Q (o :: rest) a w := by
  refine wpListIn_plain hg fun K' hK' => ?_
  obtain ⟨ob, hr, hm⟩ := run_update K h ht x v
  unfold Oper.wpIn
  refine ⟨by simp [Oper.about, ho], ?_⟩
  rw [Oper.semAt_plain F _ _ (by rw [ho]; intro c hc'; cases hc')]
  simp only [execOp, ho, hy, hz, hv, Sem.run_bind, hr, Result.andThen_ok, Sem.run_pure]
  exact hK' _ _ (hK _ hm ((Only.refl _ _).setBlock m ob (fun _ => rfl)) (by simp [ChangeMaps.setBlock]))
omit [DecidableEq α] in
theorem mget_of_mem [DecidableEq α] {x : α} {v : Value} : ∀ {kvs : List (α × Value)}, (kvs.map (·.1)).Nodup → (x, v) ∈ kvs → mget x kvs = some v
  | (y, u) :: r, hn, h => by
    simp only [List.map_cons, List.nodup_cons] at hn
    rcases List.mem_cons.1 h with h | h
    · cases h
      simp [mget]
    · have : x ≠ y := fun e => hn.1 (by rw [← e]; exact List.mem_map.2 ⟨(x, v), h, rfl⟩)
      unfold mget
      rw [if_neg this]
      exact mget_of_mem hn.2 h
end
theorem own_cells {w : World} {B e size n : Nat} {v : Value} {xs : List Value} (h : w.ownsRow B e size v n xs) : ∃ a c, v = .slice a n c ∧ n ≤ c ∧ Rd w a xs ∧ ∀ ad, a = some ad → v.ownBlock = some ad.block := by
  rcases h.2 with ⟨rfl, rfl⟩ | ⟨g, cap, cur, rfl, _, hg, hn, _⟩
  · refine ⟨none, 0, rfl, Nat.le_refl _, fun k v hv => ?_, fun ad h => by cases h⟩
    have : xs = [] := List.eq_nil_of_length_eq_zero (by simpa using h.1)
    subst this
    simp at hv
  · refine ⟨_, cap, rfl, hn, fun k v hv => ⟨g, 0, rfl, ?_⟩, fun ad h => by cases h; rfl⟩
    have := h.cells (g := g) rfl k v hv
    simpa [Addr.add_lit] using this
/-- What a round keeps: the two blocks of the hosts, and the cells that came since. -/
structure KeptIt (n₁ Bh Mh : Nat) (A B : World) : Prop where
  size : A.heap.size ≤ B.heap.size
  same : ∀ (k : Nat) (o : Obj), (k = Bh ∨ k = Mh ∨ (n₁ ≤ k ∧ o.isCells = true)) → A.heap[k]? = some o → B.heap[k]? = some o
theorem KeptIt.trans {n₁ Bh Mh : Nat} {A B C : World} (h : KeptIt n₁ Bh Mh A B) (k : KeptIt n₁ Bh Mh B C) : KeptIt n₁ Bh Mh A C :=
  ⟨Nat.le_trans h.size k.size, fun i o hi ho => k.same i o hi (h.same i o hi ho)⟩
theorem KeptIt.putObj {n₁ Bh Mh : Nat} (hB : Bh < n₁) (hM : Mh < n₁) (W : World) (l : Nat) (o o' : Obj) (hl : n₁ ≤ l) (h : W.heap[l]? = some o) (hc : o.isCells = false) (_ : o.isWalk = false) : KeptIt n₁ Bh Mh W (W.putObj l o') := by
  refine ⟨by simp [World.putObj], fun k u hk hu => ?_⟩
  by_cases e : k = l
  · subst e
    rcases hk with rfl | rfl | ⟨-, hk⟩
    · omega
    · omega
    · rw [h] at hu; cases hu; rw [hc] at hk; cases hk
  · exact (World.putObj_heap_other e).trans hu
/-- What stands of the hosts and of the sorted numbers, round by round. -/
def ItFx (n₁ Bh Mh : Nat) (kvs : List (Int × Value)) (v : Value) (ids : List Int) (W : World) : Prop :=
  W.heap[Bh]? = some (.cells #[.map (some Mh)] 75 (0, 0)) ∧ MapAt iEnc W Mh kvs ∧ W.ownsRow n₁ 3 1 v ids.length (ids.map encZ)
theorem ItFx.kept {n₁ Bh Mh : Nat} {kvs : List (Int × Value)} {v : Value} {ids : List Int} {A B : World} (h : ItFx n₁ Bh Mh kvs v ids A) (k : KeptIt n₁ Bh Mh A B) : ItFx n₁ Bh Mh kvs v ids B := by
  obtain ⟨h1, ⟨es, clock, hb, rest⟩, h3⟩ := h
  refine ⟨k.same _ _ (.inl rfl) h1, ⟨es, clock, k.same _ _ (.inr (.inl rfl)) hb, rest⟩, h3.1, ?_⟩
  rcases h3.2 with h2 | ⟨g, cap, cur, rfl, hg, hc, rest⟩
  · exact .inl h2
  · exact .inr ⟨g, cap, cur, rfl, hg, k.same _ _ (.inr (.inr ⟨hg, rfl⟩)) hc, rest⟩
theorem grown_of_below {w w' : World} (h : Below w.heap.size w w') : w.grownBy w' none := ⟨h.os, h.tape, h.output, h.size, fun k hk _ => h.block k hk⟩
def idv (p : Int × ByteArray) : Int × Value := (p.1, .agg #[.string p.2])
theorem zeroHost (w : World) : (zeroValue 76).run Try.prog w = .ok (.agg #[.string ⟨#[]⟩]) w := by kernel_rfl
theorem fieldHost (s : ByteArray) (w : World) : Sem.run Try.prog (Instr.field 76 (.agg #[.string s]) 0) w = .ok (.string s) w := by kernel_rfl
theorem sort_ids {kvs : List (Int × Value)} {L : List (Int × ByteArray)} (hp : kvs.Perm (L.map idv)) (hs : (L.map (·.1)).Pairwise (· < ·)) : (kvs.map (·.1)).mergeSort leI = L.map (·.1) := by
  have h1 : (kvs.map (·.1)).Perm (L.map (·.1)) := by
    have := hp.map (·.1)
    simpa [List.map_map, Function.comp_def, idv] using this
  rw [mergeSort_of_perm_i h1]
  exact List.mergeSort_of_pairwise (hs.imp fun h => by simp only [leI, decide_eq_true_eq]; omega)
set_option maxRecDepth 100000 in
set_option maxHeartbeats 1000000 in
theorem all1_pairs (n : Nat) (hn : 7 ≤ n) {w : World} {Bh Mh : Nat} {kvs : List (Int × Value)} {L : List (Int × ByteArray)} (hB : w.heap[Bh]? = some (.cells #[.map (some Mh)] 75 (0, 0))) (hM : MapAt iEnc w Mh kvs) (hp : kvs.Perm (L.map idv)) (hs : (L.map (·.1)).Pairwise (· < ·)) (hwf : ∀ p ∈ L, (Lit.int .i64 p.1).wf = true) (hlen : L.length ≤ 1000000)
    (l : Nat) (J : Nat → World → Prop) (Jx : World → Prop) (W : World) (hW : Below w.heap.size w W) (hJ : ∀ k W W', J k W → Below W.heap.size W W' → J k W')
    (hY : ∀ k (x : Int × ByteArray) W1, L[k]? = some x → J k W1 → YieldAt Fence.wide (n - 1) Try.prog l #[.int .i64 x.1, .string x.2] W1 fun e W' => (e = .returned (.bool true) ∧ J (k + 1) W' ∧ KeptIt w.heap.size Bh Mh W1 W') ∨ (e = .returned (.bool false) ∧ Jx W'))
    (h0 : J 0 W) : CallsIn Fence.wide n Try.prog 48 (#[.func (.yield l) #[] #[]] ++ #[.pointer (some ⟨Bh, 0, none⟩)]) W fun e W' => (∃ v, e = .returned v) ∧ (J L.length W' ∨ Jx W') := by
  have hnd : (kvs.map (·.1)).Nodup := by
    have h1 : (kvs.map (·.1)).Perm (L.map (·.1)) := by
      have := hp.map (·.1)
      simpa [List.map_map, Function.comp_def, idv] using this
    exact h1.symm.nodup_iff.1 (hs.imp fun h => by omega)
  have hBlt : Bh < w.heap.size := (Array.getElem?_eq_some_iff.1 hB).1
  have hBW : W.heap[Bh]? = some (.cells #[.map (some Mh)] 75 (0, 0)) := (hW.block Bh hBlt).trans hB
  have hMW : MapAt iEnc W Mh kvs := hM.only (F := fun _ => False) (Only.of_new hW) (fun h => h)
  have cB : W.cell? ⟨Bh, 0, none⟩ = some (.map (some Mh)) := by rw [cell_of_row _ _ _ _ _ _ hBW]; rfl
  have hkl : kvs.length = L.length := by rw [hp.length_eq, List.length_map]
  have hkw : ∀ p ∈ kvs, (Lit.int .i64 p.1).wf = true := fun p hpm => by
    obtain ⟨q, hq, e⟩ := List.mem_map.1 (hp.mem_iff.1 hpm)
    rw [← e]
    exact hwf q hq
  have cS := sorted_c (n - 1) (by omega) (W := W.alloc (.cells #[.map (some Mh)] 75)) (B0 := W.heap.size) (hMW.only (F := fun _ => False) ((Only.refl _ _).alloc _) (fun h => h)) hnd hkw (by omega) (by rw [cell_of_row _ _ _ _ _ _ (heap_alloc_new W _)]; rfl)
  rw [sort_ids hp hs, hkl] at cS
  have hfK : Fence.wide.fn 50 := trivial
  have hfS : Fence.wide.fn 49 := trivial
  have hn1 : 1 ≤ n := by omega
  refine callsIn_of_wp Try.func48 rfl trivial ?_ rfl
  simp only [Try.ntmps48, List.size_toArray, List.length_cons, List.length_nil, Nat.reduceAdd, Nat.reduceSub, Array.replicate_succ, Array.replicate_zero, List.push_toArray, List.append_toArray, List.nil_append, List.cons_append]
  gi_wp2_with (first
    | (gi_at_call 50; refine (keys_c _ _ _).mono ?_; rintro e w' ⟨rfl, rfl⟩)
    | (gi_at_call 49; refine cS.mono ?_; rintro e w2 ⟨v, rfl, hrow, hb2⟩; obtain ⟨ra, rc, rfl, -, hrd, -⟩ := own_cells hrow))
  have hb02 : Below W.heap.size W w2 := ((Below.refl _ W).alloc (Nat.le_refl _) _).trans (hb2.mono (by simp))
  have hJ2 : J 0 w2 := hJ 0 W w2 h0 hb02
  have hF2 : ItFx w.heap.size Bh Mh kvs (.slice ra L.length rc) (L.map (·.1)) w2 := by
    refine ⟨(hb02.block Bh (by have := hW.size; omega)).trans hBW, hMW.only (F := fun _ => False) (Only.of_new hb02) (fun h => h), ?_⟩
    rw [List.length_map]
    exact own_base hrow (by have := hW.size; simp; omega)
  clear cS hrow hrd hb02 hfK hfS
  gi_loopw [9] (fun i wr => ∃ k : Nat, i = .int .i64 k ∧ k ≤ L.length ∧ J k wr ∧ ItFx w.heap.size Bh Mh kvs (.slice ra L.length rc) (L.map (·.1)) wr) (fun i _ => L.length - (intOf i).toNat)
  case atStart => exact ⟨0, rfl, Nat.zero_le _, hJ2, hF2⟩
  case round =>
    obtain ⟨k, rfl, hk, hJk, hF⟩ := hrel
    by_cases hc : k < L.length
    · obtain ⟨x, hx⟩ : ∃ x, x = L[k] := ⟨_, rfl⟩
      obtain ⟨h1, h2, h3⟩ := hF
      obtain ⟨ra', rc', e, -, hrd, -⟩ := own_cells h3
      simp only [Value.slice.injEq] at e
      obtain ⟨rfl, -, rfl⟩ := e
      obtain ⟨b, off, rfl, hbl, hcell⟩ := hrd.at (k := k) (v := .int .i64 x.1) (by rw [hx, List.getElem?_map, List.getElem?_map, List.getElem?_eq_getElem hc]; rfl)
      have cBr : wr.cell? ⟨Bh, 0, none⟩ = some (.map (some Mh)) := by rw [cell_of_row _ _ _ _ _ _ h1]; rfl
      have hmg : mget x.1 kvs = some (.agg #[.string x.2]) := mget_of_mem hnd (hp.mem_iff.2 (List.mem_map.2 ⟨x, by rw [hx]; exact List.getElem_mem hc, rfl⟩))
      obtain ⟨fn, tmps, assign, body, hy, hR⟩ := hY k x wr (by rw [hx]; exact List.getElem?_eq_getElem hc) hJk
      have HR := Lib.hid hR
      have HF := Lib.hid (show ItFx w.heap.size Bh Mh kvs (.slice (some ⟨b, off, none⟩) L.length rc) (L.map (·.1)) wr from ⟨h1, h2, h3⟩)
      have HX := Lib.hid hx
      have HJ := Lib.hid hJk
      have HMG := Lib.hid hmg
      have H2 := Lib.hid h2
      obtain ⟨xi, xh⟩ := x
      simp only at hcell hmg hy
      clear hR h1 h2 h3 hrd hmg hx hJk hF2 hJ2 h0 hJ hY
      have hfh := fieldHost xh
      gi_wp2_with (gi_at_lookup; refine in_lookup iKey rfl _ _ _ false rfl Try.underlying75 rfl H2.out xi rfl _ (zeroHost _) ?_; rw [HMG.out])
      refine HR.out.mono ?_
      rintro e W3 (⟨rfl, hJ3, hk3⟩ | ⟨rfl, hJx3⟩)
      · have HF3 := HF.out.kept hk3
        gi_wp2
        go_roundw
        case rel => exact ⟨k + 1, by go_num, by omega, hJ3, HF3⟩
        case measure => simp [intOf]; omega
      · gi_wp2
        refine bodyPost_ret (results_none rfl _ _ _) rfl ?_
        exact ⟨⟨_, rfl⟩, .inr hJx3⟩
    · obtain rfl : k = L.length := by omega
      gi_wp2
      go_end0
      exact ⟨⟨_, rfl⟩, .inl hJk⟩
end Go.Proofs.Ytepdnmpcccgcaaa
