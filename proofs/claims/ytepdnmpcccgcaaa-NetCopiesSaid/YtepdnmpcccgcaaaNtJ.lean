/- The law's 'do': the walk. -/
import Derived.Test.YtepdnmpcccgcaaaNtI
import Derived.Deep.CutRange
namespace Go.Proofs.Ytepdnmpcccgcaaa
open Go.RowKit K
/-- A row of bytes, whichever they are. -/
def RowB (W : World) (g m : Nat) : Prop := (∀ j, j < m → ∃ x : Int, W.cell? ⟨g, j, none⟩ = some (.int .u8 x)) ∧ ∀ j, W.frozen? ⟨g, j, none⟩ = false
theorem RowB.of_own {W : World} {B m : Nat} {v : Value} {l : List UInt8} (h : W.ownsRow B 5 1 v m (bv l)) (hm : 0 < m) : ∃ g c, v = .slice (some ⟨g, 0, none⟩) m c ∧ RowB W g m ∧ B ≤ g ∧ g < W.heap.size ∧ v.ownBlock = some g := by
  have h0 := h
  rcases h.2 with ⟨-, e⟩ | ⟨g, cap, cur, rfl, hB, hg, hn, rest⟩
  · omega
  · obtain ⟨a, c, e, -, hr, -⟩ := own_cells h0
    cases e
    refine ⟨g, cap, rfl, ⟨fun j hj => ?_, fun j => frozen_of_row _ _ _ _ _ hg⟩, hB, (Array.getElem?_eq_some_iff.1 hg).1, rfl⟩
    have hl : j < l.length := by have := h0.1; unfold bv at this; rw [List.length_map] at this; omega
    obtain ⟨b', off', e, hc⟩ := hr j (.int .u8 (l[j]'hl).toNat) (by simp [bv, hl])
    cases e
    exact ⟨_, by rw [Nat.zero_add] at hc; exact hc⟩
theorem RowB.set {W : World} {g m : Nat} (h : RowB W g m) (i : Nat) (y : Int) : RowB (W.setCell ⟨g, i, none⟩ (.int .u8 y)) g m := by
  refine ⟨fun j hj => ?_, fun j => by rw [World.frozen?_setCell]; exact h.2 j⟩
  obtain ⟨x, hx⟩ := h.1 j hj
  by_cases e : j = i
  · subst e
    exact ⟨y, World.cell?_setCell_same' _ _ _ (by rw [hx]; rfl)⟩
  · exact ⟨x, (World.cell?_setCell_other _ _ _ _ (fun h => e (by injection h with _ h2 _; exact h2.symm))).trans hx⟩
theorem RowB.only {W W' : World} {g m : Nat} {P : Nat → Prop} (h : RowB W g m) (ho : Only P W W') (hg : g < W.heap.size) (hn : ¬ P g) : RowB W' g m :=
  ⟨fun j hj => (h.1 j hj).imp fun _ hx => ho.cell hx hn, fun j => (World.frozen?_of_block (ho.block g hg hn)).trans (h.2 j)⟩
section
variable {w0 w w1 w2 w' : World} {n r : Nat} {most d d' : Int} {L L' : List RC} {F : List Nat} {G : Nat → Prop}
theorem NwTo.start (hb : Below w.heap.size w w1) (h : NwTo w0 n r most d' L' F G w1 w2) : NwTo w0 n r most d' L' F G w w2 := by
  obtain ⟨F', G', h1, h2, h3⟩ := h
  exact ⟨F', G', h1, (Only.of_new (F := nfoot F G) hb).trans h2 (fun _ _ h => h), fun k hk => (h3 k hk).imp id (fun h => Nat.le_trans hb.size h)⟩
/-- What an act leaves. -/
def DoR (w0 : World) (n r : Nat) (most : Int) (F : List Nat) (G : Nat → Prop) (m N : Nat) (w w' : World) : Prop := ∃ d' L', NInv most d' L' m N ∧ NwTo w0 n r most d' L' F G w w'
theorem DoR.start {m N : Nat} (hb : Below w.heap.size w w1) (h : DoR w0 n r most F G m N w1 w2) : DoR w0 n r most F G m N w w2 := by
  obtain ⟨d', L', h1, h2⟩ := h
  exact ⟨d', L', h1, h2.start hb⟩
theorem DoR.after {m N : Nat} (h : DoR w0 n r most F G m N w w1) (hb : Below w1.heap.size w1 w2) : DoR w0 n r most F G m N w w2 := by
  obtain ⟨d', L', h1, h2⟩ := h
  exact ⟨d', L', h1, h2.after hb⟩
/-- A row of the base's own that neither net holds is turned. -/
theorem DoR.row {m N g : Nat} (h : DoR w0 n r most F G m N w w1) (ho : Only (· = g) w1 w2) (hg : w0.heap.size ≤ g) (hg2 : g < w.heap.size) (hn : ¬ nfoot F G g) (_hb : w.heap.size ≤ w1.heap.size) : ∃ d' L', NInv most d' L' m N ∧ ∃ F' G', NwF w0 n r most d' L' F' G' w2 ∧ Only (fun k => nfoot F G k ∨ k = g) w w2 ∧ ∀ k, nfoot F' G' k → nfoot F G k ∨ w.heap.size ≤ k := by
  obtain ⟨d', L', h1, F', G', h2, h3, h4⟩ := h
  refine ⟨d', L', h1, F', G', h2.only ho (fun k hk e => ?_) (h2.2.2.2.trans (ho.below h2.2.2.2.size (fun k e => by rw [e]; exact hg))), (h3.mono (fun k _ h => .inl h)).trans ho (fun k _ e => .inr e), h4⟩
  subst e
  rcases h4 k hk with h | h
  · exact hn h
  · omega
def TailI (oa : Option Addr) (len B1 S2 : Nat) (wx wr : World) : Prop := (len = 0 ∧ wr = wx) ∨ ∃ g, oa = some ⟨g, 0, none⟩ ∧ RowB wr g len ∧ Only (· = g) wx wr ∧ B1 ≤ g ∧ g < S2
theorem tail_start {m N len B1 S2 : Nat} {oa : Option Addr} (h : NwF w0 n r most d L F G w) (hw : w.heap.size ≤ B1) (hs : w1.heap.size = S2) (ht : TailI oa len B1 S2 w1 w1) (hd : DoR w0 n r most F G m N w1 w2) : TailI oa len B1 S2 w2 w2 := by
  rcases ht with ⟨h0, -⟩ | ⟨g, ho, hr, -, h1, h2⟩
  · exact .inl ⟨h0, rfl⟩
  · obtain ⟨d', L', -, F', G', -, hon, -⟩ := hd
    exact .inr ⟨g, ho, hr.only hon (by omega) (fun hf => by have := (h.in hf).2; omega), Only.refl _ _, h1, h2⟩
theorem tail_end {m N len B1 S2 : Nat} {oa : Option Addr} {wr : World} (h : NwF w0 n r most d L F G w) (hw : w.heap.size ≤ B1) (hs : w1.heap.size = S2) (hb : Below w.heap.size w w1) (hd : DoR w0 n r most F G m N w1 w2) (ht : TailI oa len B1 S2 w2 wr) : DoR w0 n r most F G m N w wr := by
  rcases ht with ⟨-, rfl⟩ | ⟨g, -, -, ho, h1, h2⟩
  · exact hd.start hb
  · have h0 := h.2.2.2.size
    obtain ⟨d', L', k1, F', G', k2, k3, k4⟩ := hd.row ho (by omega) (by omega) (fun hf => by have := (h.in hf).2; omega) (by obtain ⟨_, _, _, _, _, _, hon, _⟩ := hd; exact hon.size)
    refine ⟨d', L', k1, F', G', k2, (Only.of_new (F := nfoot F G) hb).trans k3 (fun k hk hf => hf.elim id fun e => by omega), fun k hk => (k4 k hk).imp id fun hh => Nat.le_trans hb.size hh⟩
theorem do_two {m N : Nat} {W W1 W2 : World} (h : NwF w0 n r most d L F G w) (hb : Below w.heap.size w W) (h1 : NetTo W w0.heap.size n F most d' (L'.map RC.vw) W1) (h2 : RfTo W1 w0.heap.size r most d' L' G W2) (hi : NInv most d' L' m N) : DoR w0 n r most F G m N w W2 :=
  ⟨d', L', hi, (nw_step (h.new hb) h1 (fun _ => h2)).start hb⟩
end
set_option maxHeartbeats 4000000 in
set_option maxRecDepth 100000 in
theorem do04_2 {w0 w : World} {n r : Nat} {most d : Int} {L : List RC} {F : List Nat} {G : Nat → Prop} {m N : Nat} (h : NwF w0 n r most d L F G w) (hi : NInv most d L m N) (hm : m ≤ 1000) (id : Int) (host : ByteArray) (a : Option Addr) (c : Nat) (b : List UInt8) (hN : N + b.length ≤ 100000) (hr : Rd w0 a (bv b)) :
    Calls Try.prog 17 #[.pointer (some ⟨n, 0, none⟩), .pointer (some ⟨r, 0, none⟩), .agg #[.int .i64 2, .int .i64 id, .string host, .slice a b.length c]] w fun e w' => e = .returned (.bool true) ∧ DoR w0 n r most F G (m + 1) (N + b.length) w w' := by
  obtain ⟨i0, hii, hz0, hz1, hz2⟩ := info_parts info_byte
  obtain ⟨w1, hw1⟩ : ∃ w1, w1 = w.alloc (.cells #[.int .i64 2, .int .i64 id, .string host, .slice a b.length c] 41) := ⟨_, rfl⟩
  have hb1 : Below w.heap.size w w1 := by rw [hw1]; exact (Below.refl _ w).alloc (Nat.le_refl _) _
  have hs1 : w1.heap.size = w.heap.size + 1 := by rw [hw1]; simp
  have hbx : w1.heap[w.heap.size]? = some (.cells #[.int .i64 2, .int .i64 id, .string host, .slice a b.length c] 41 (0, 0)) := by rw [hw1]; exact heap_alloc_new w _
  have c0 : w1.cell? ⟨w.heap.size, 0, none⟩ = some (.int .i64 2) := by rw [cell_of_row _ _ _ _ _ _ hbx]; rfl
  have c3 : w1.cell? ⟨w.heap.size, 3, none⟩ = some (.slice a b.length c) := by rw [cell_of_row _ _ _ _ _ _ hbx]; rfl
  have HW1 := Lib.hid hw1
  have HB1 := Lib.hid hb1
  have HS1 := Lib.hid hs1
  have HBX := Lib.hid hbx
  have H := Lib.hid h
  have HI := Lib.hid hi
  have HR := Lib.hid (hr.below (h.2.2.2.trans (hb1.mono h.2.2.2.size)) (Nat.le_refl _))
  have HR0 := Lib.hid hr
  clear hw1 hb1 hbx h hi hr
  go_enter Try.func17, Try.ntmps17
  go_upto_region 1 with fail
  rw [← HW1.out]
  go_wp2_with (first
    | (at_builtin; refine step_append_any (.inl rfl) _ _ 22 rfl w1.heap.size 5 i0 (.int .u8 0) 1 1 Try.underlying22 hii hz0 hz1 hz2 rfl (by decide) (.slice none 0 0) 0 [] rfl (World.ownsRow_nil _ _ _ _) a b.length c (bv b) rfl (by simp [bv]) HR.out (bv_one b) (by unfold maxLen; omega) (by omega) (Nat.le_refl _) ?_)
    | fail)
  rintro v w2 ⟨o1, g1, -⟩
  have hb12 : Below w1.heap.size w1 w2 := (Below.refl _ _).grown g1 (Nat.le_refl _) (fun k e => by cases e)
  obtain ⟨oa, oc, rfl, -, -, -⟩ := own_cells o1
  have hbx2 := hb12.block w.heap.size (by omega)
  have O1 := Lib.hid o1
  have HB2 := Lib.hid (HB1.out.trans (hb12.mono HB1.out.size))
  have HB12 := Lib.hid hb12
  have HBX2 := Lib.hid (hbx2.trans HBX.out)
  have k0 : w2.cell? ⟨w.heap.size, 0, none⟩ = some (.int .i64 2) := by rw [cell_of_row _ _ _ _ _ _ HBX2.out]; rfl
  clear hb12 hbx2 o1 g1 c0 c3
  have HT0 := Lib.hid (show TailI oa b.length w1.heap.size w2.heap.size w2 w2 from by
    by_cases h0 : b.length = 0
    · exact .inl ⟨h0, rfl⟩
    · obtain ⟨g, c', e, hrow, hg1, hg2, -⟩ := RowB.of_own O1.out (by omega)
      cases e
      exact .inr ⟨g, rfl, hrow, Only.refl _ _, by omega, hg2⟩)
  have HS12 := Lib.hid (show w.heap.size ≤ w1.heap.size from by omega)
  have HTE := Lib.hid (fun (wx wr : World) (hd : DoR w0 n r most F G (m + 1) (N + b.length) w2 wx) (ht : TailI oa b.length w1.heap.size w2.heap.size wx wr) => tail_end H.out HS12.out rfl HB2.out hd ht)
  have HTS := Lib.hid (fun (wx : World) (hd : DoR w0 n r most F G (m + 1) (N + b.length) w2 wx) => tail_start H.out HS12.out rfl HT0.out hd)
  have HH := Lib.hid (H.out.new HB2.out)
  have HKR := Lib.hid (fun (W : World) (hd : DoR w0 n r most F G (m + 1) (N + b.length) w2 W) => (show W.heap[w.heap.size]? = some (.cells #[.int .i64 2, .int .i64 id, .string host, .slice a b.length c] 41 (0, 0)) from by
    obtain ⟨_, _, _, _, _, _, hon, _⟩ := hd
    exact hon.heap HBX2.out (fun hf => by have := (H.out.in hf).2; omega)))
  have HKP := Lib.hid (fun (W W1 : World) (d' : Int) (l' : List CV) (hW : W.heap[w.heap.size]? = some (.cells #[.int .i64 2, .int .i64 id, .string host, .slice a b.length c] 41 (0, 0))) (ht : NetTo W w0.heap.size n F most d' l' W1) => (show W1.heap[w.heap.size]? = some (.cells #[.int .i64 2, .int .i64 id, .string host, .slice a b.length c] 41 (0, 0)) from by
    obtain ⟨_, _, hon, _⟩ := ht
    exact hon.heap hW (fun hf => by have := (H.out.in (.inl hf)).2; omega)))
  have HLN := Lib.hid (show L.length ≤ 100000 from by have := HI.out.len2; omega)
  have hdn := HI.out.dn
  have hd0 := HI.out.d0
  clear HT0 HS12 HS1 hs1
  obtain ⟨e1, e2⟩ := act_ok (x := id) (st := 1) (f := fun v => { v with st := 2 }) (g := fun v : RC => { v with st := 2 }) (L := L) (fun v hv => rfl)
  obtain ⟨cc, hcc⟩ : ∃ cc, cc = rmust id 1 L := ⟨_, rfl⟩
  have HP := Lib.hid (fun W (hb : Below w2.heap.size w2 W) => (show Calls Try.prog 10 #[.pointer (some ⟨n, 0, none⟩), .int .i64 id] W fun e w' => e = .returned (.int .i64 cc) ∧ NetTo W w0.heap.size n F most d ((ract id 1 (fun v : RC => { v with st := 2 }) L).map RC.vw) w' from by
    have h := accept_any (HH.out.new hb).1 (HH.out.new hb).2.2.2.size id
    rw [e1, e2, ← hcc] at h
    exact h))
  have HRR := Lib.hid (fun W W1 (hb : Below w2.heap.size w2 W) (ht : NetTo W w0.heap.size n F most d ((ract id 1 (fun v : RC => { v with st := 2 }) L).map RC.vw) W1) => (show Calls Try.prog 34 #[.pointer (some ⟨r, 0, none⟩), .int .i64 id] W1 fun e w' => e = .returned (.int .i64 cc) ∧ DoR w0 n r most F G (m + 1) (N + b.length) w2 w' from by
    have hf := HH.out.new hb
    have hr1 : RfIs W1 w0.heap.size r most d L G := by
      obtain ⟨F', b1, b2, b3⟩ := ht
      exact hf.2.1.only b2 (fun k hk hff => hf.2.2.1 k hff hk)
    refine (raccept_any hr1 id (by have := HLN.out; omega)).mono ?_
    rintro e w' ⟨rfl, hto⟩
    exact ⟨by rw [hcc], do_two HH.out hb ht hto ((HI.out.act id 1 (fun v : RC => { v with st := 2 }) (fun _ => rfl) (Nat.le_refl N) (fun v hv => HI.out.sz v hv)).more (Nat.le_succ _) (Nat.le_add_right _ _))⟩))
  clear e1 e2 hcc
  have hbq : (cc == cc) = true := by simp
  clear H HI HR HR0 O1 HB1 HW1 HBX
  go_wp2_with fail
  refine wp_region_noPanic ?_
  refine wp_region_held_drew (S := (fun w' => w'.heap[w.heap.size]? = some (.cells #[.int .i64 2, .int .i64 id, .string host, .slice a b.length c] 41 (0, 0)))) (by kernel_rfl) ?_ (fun hHeld => ?_)
  · exact HBX2.out
  refine wpAnyH_take (i := 0) (oi := _) (v := ?_) rfl (by kernel_rfl) (by kernel_rfl) (by kernel_rfl) (fun _ _ _ h => h) (Or.inl ⟨by rfl, ?_⟩) (by assumption) ?_
  rotate_left 1
  · (intro w hSw; (try dsimp only at hSw); go_simp; (try with_reducible rfl))
  try simp only [Act.put, List.getElem_toArray, List.getElem_cons_zero, List.setIfInBounds_toArray, List.set_cons_zero, List.set_cons_succ]
  refine wpAnyH_take (i := 1) (oi := _) (v := ?_) rfl (by kernel_rfl) (by kernel_rfl) (by kernel_rfl) (fun _ _ _ h => h) (Or.inl ⟨by rfl, ?_⟩) (by assumption) ?_
  rotate_left 1
  · (intro w hSw; (try dsimp only at hSw); go_simp; (try with_reducible rfl))
  try simp only [Act.put, List.getElem_toArray, List.getElem_cons_succ, List.getElem_cons_zero, List.setIfInBounds_toArray, List.set_cons_zero, List.set_cons_succ]
  refine wpAnyH_take (i := 2) (oi := _) (v := ?_) rfl (by kernel_rfl) (by kernel_rfl) (by kernel_rfl) (fun _ _ _ h => h) (Or.inl ⟨by rfl, ?_⟩) (by assumption) ?_
  rotate_left 1
  · (intro w hSw; (try dsimp only at hSw); (have q := cell_of_row _ _ 1 _ _ _ hSw; go_simp); (try with_reducible rfl))
  try simp only [Act.put, List.getElem_toArray, List.getElem_cons_succ, List.getElem_cons_zero, List.setIfInBounds_toArray, List.set_cons_zero, List.set_cons_succ]
  refine wpAnyH_take (i := 4) (oi := _) (v := ?_) rfl (by kernel_rfl) (by kernel_rfl) (by kernel_rfl) (fun _ _ _ h => h) (Or.inl ⟨by rfl, ?_⟩) (by assumption) ?_
  rotate_left 1
  · (intro w hSw; (try dsimp only at hSw); go_simp; (try with_reducible rfl))
  try simp only [Act.put, List.getElem_toArray, List.getElem_cons_succ, List.getElem_cons_zero, List.setIfInBounds_toArray, List.set_cons_zero, List.set_cons_succ]
  refine wpAnyH_take (i := 5) (oi := _) (v := ?_) rfl (by kernel_rfl) (by kernel_rfl) (by kernel_rfl) (fun _ _ _ h => h) (Or.inl ⟨by rfl, ?_⟩) (by assumption) ?_
  rotate_left 1
  · (intro w hSw; (try dsimp only at hSw); go_simp; (try with_reducible rfl))
  try simp only [Act.put, List.getElem_toArray, List.getElem_cons_succ, List.getElem_cons_zero, List.setIfInBounds_toArray, List.set_cons_zero, List.set_cons_succ]
  refine wpAnyH_take (i := 6) (oi := _) (v := ?_) rfl (by kernel_rfl) (by kernel_rfl) (by kernel_rfl) (fun _ _ _ h => h) (Or.inl ⟨by rfl, ?_⟩) (by assumption) ?_
  rotate_left 1
  · (intro w hSw; (try dsimp only at hSw); (have q := cell_of_row _ _ 1 _ _ _ hSw; go_simp); (try with_reducible rfl))
  try simp only [Act.put, List.getElem_toArray, List.getElem_cons_succ, List.getElem_cons_zero, List.setIfInBounds_toArray, List.set_cons_zero, List.set_cons_succ]
  refine wpAnyH_ready (rs := [3]) (by kernel_rfl) (by simp) ?_
  refine AllReadyH.cons (o := _) rfl (fun K hK => ?_) AllReadyH.nil
  go_simp
  refine (HP.out _ (drew_below _)).mono ?_
  rintro e w3 ⟨rfl, ht3⟩
  have HT3 := Lib.hid ht3
  have HK3 := Lib.hid (HKP.out _ _ _ _ hHeld ht3)
  clear ht3
  go_wp2_with fail
  refine hK.out _ _ ?_ (fun hHeld3 => ?_)
  · exact HK3.out
  clear hK K
  try simp only [Act.put, List.getElem_toArray, List.getElem_cons_succ, List.getElem_cons_zero, List.setIfInBounds_toArray, List.set_cons_zero, List.set_cons_succ]
  refine wpAnyH_ready (rs := [7]) (by kernel_rfl) (by simp) ?_
  refine AllReadyH.cons (o := _) rfl (fun K hK => ?_) AllReadyH.nil
  go_simp
  refine (HRR.out _ _ (drew_below _) HT3.out).mono ?_
  rintro e w4 ⟨rfl, hdo⟩
  have HD4 := Lib.hid hdo
  have HK4 := Lib.hid (HKR.out _ hdo)
  clear hdo
  go_wp2_with fail
  refine hK.out _ _ ?_ (fun hHeld7 => ?_)
  · exact HK4.out
  clear hK K
  try simp only [Act.put, List.getElem_toArray, List.getElem_cons_succ, List.getElem_cons_zero, List.setIfInBounds_toArray, List.set_cons_zero, List.set_cons_succ]
  refine wpAnyH_take (i := 8) (oi := _) (v := ?_) rfl (by kernel_rfl) (by kernel_rfl) (by kernel_rfl) (fun _ _ _ h => h) (Or.inl ⟨by rfl, ?_⟩) (by assumption) ?_
  rotate_left 1
  · (intro w hSw; (try dsimp only at hSw); go_simp; (try with_reducible rfl))
  try simp only [Act.put, List.getElem_toArray, List.getElem_cons_succ, List.getElem_cons_zero, List.setIfInBounds_toArray, List.set_cons_zero, List.set_cons_succ]
  refine wpAnyH_take (i := 9) (oi := _) (v := ?_) rfl (by kernel_rfl) (by kernel_rfl) (by kernel_rfl) (fun _ _ _ h => h) (Or.inl ⟨by rfl, ?_⟩) (by assumption) ?_
  rotate_left 1
  · (intro w hSw; (try dsimp only at hSw); go_simp; (try with_reducible rfl))
  try simp only [Act.put, List.getElem_toArray, List.getElem_cons_succ, List.getElem_cons_zero, List.setIfInBounds_toArray, List.set_cons_zero, List.set_cons_succ]
  refine wpAnyH_done (by kernel_rfl) ?_ _
  refine NoPanic.normal ?_
  have hdo := HD4.out
  clear HD4 HK3 HK4 HT3 HP HRR HBX2 HKR HKP HH
  have HDO := Lib.hid hdo
  have HTI := Lib.hid (HTS.out _ hdo)
  clear hdo
  go_wp2_with fail
  go_loopw [15] (fun iv wr => ∃ j : Nat, iv = .int .i64 j ∧ j ≤ b.length ∧ TailI oa b.length w1.heap.size w2.heap.size w4 wr) (fun iv _ => b.length - (intOf iv).toNat)
  case atStart => exact ⟨0, rfl, Nat.zero_le _, HTI.out⟩
  case round =>
    obtain ⟨j, rfl, hj, hti⟩ := hrel
    obtain ⟨wz, hwz⟩ : ∃ wz, wz = wr := ⟨_, rfl⟩
    subst hwz
    by_cases hc : j < b.length
    · rcases hti with ⟨h0, -⟩ | ⟨g, rfl, hrow, hon, hg1, hg2⟩
      · omega
      · obtain ⟨x, hx⟩ := hrow.1 j hc
        have hfz := hrow.2 j
        have HROW := Lib.hid hrow
        have HON := Lib.hid hon
        clear hrow hon HTI HDO
        go_wp2
        go_roundw
        case rel => exact ⟨j + 1, by go_num, by omega, .inr ⟨g, rfl, HROW.out.set j _, HON.out.setCell _ _ (fun _ => rfl), hg1, hg2⟩⟩
        case measure => simp [intOf]; omega
    · have HX := Lib.hid (HTE.out _ _ HDO.out hti)
      clear hti
      go_wp2
      go_ret
      exact ⟨rfl, HX.out⟩
set_option maxHeartbeats 4000000 in
set_option maxRecDepth 100000 in
theorem do04_3 {w0 w : World} {n r : Nat} {most d : Int} {L : List RC} {F : List Nat} {G : Nat → Prop} {m N : Nat} (h : NwF w0 n r most d L F G w) (hi : NInv most d L m N) (hm : m ≤ 1000) (id : Int) (host : ByteArray) (a : Option Addr) (c : Nat) (b : List UInt8) (hN : N + b.length ≤ 100000) (hr : Rd w0 a (bv b)) :
    Calls Try.prog 17 #[.pointer (some ⟨n, 0, none⟩), .pointer (some ⟨r, 0, none⟩), .agg #[.int .i64 3, .int .i64 id, .string host, .slice a b.length c]] w fun e w' => e = .returned (.bool true) ∧ DoR w0 n r most F G (m + 1) (N + b.length) w w' := by
  obtain ⟨i0, hii, hz0, hz1, hz2⟩ := info_parts info_byte
  obtain ⟨w1, hw1⟩ : ∃ w1, w1 = w.alloc (.cells #[.int .i64 3, .int .i64 id, .string host, .slice a b.length c] 41) := ⟨_, rfl⟩
  have hb1 : Below w.heap.size w w1 := by rw [hw1]; exact (Below.refl _ w).alloc (Nat.le_refl _) _
  have hs1 : w1.heap.size = w.heap.size + 1 := by rw [hw1]; simp
  have hbx : w1.heap[w.heap.size]? = some (.cells #[.int .i64 3, .int .i64 id, .string host, .slice a b.length c] 41 (0, 0)) := by rw [hw1]; exact heap_alloc_new w _
  have c0 : w1.cell? ⟨w.heap.size, 0, none⟩ = some (.int .i64 3) := by rw [cell_of_row _ _ _ _ _ _ hbx]; rfl
  have c3 : w1.cell? ⟨w.heap.size, 3, none⟩ = some (.slice a b.length c) := by rw [cell_of_row _ _ _ _ _ _ hbx]; rfl
  have HW1 := Lib.hid hw1
  have HB1 := Lib.hid hb1
  have HS1 := Lib.hid hs1
  have HBX := Lib.hid hbx
  have H := Lib.hid h
  have HI := Lib.hid hi
  have HR := Lib.hid (hr.below (h.2.2.2.trans (hb1.mono h.2.2.2.size)) (Nat.le_refl _))
  have HR0 := Lib.hid hr
  clear hw1 hb1 hbx h hi hr
  go_enter Try.func17, Try.ntmps17
  go_upto_region 1 with fail
  rw [← HW1.out]
  go_wp2_with (first
    | (at_builtin; refine step_append_any (.inl rfl) _ _ 22 rfl w1.heap.size 5 i0 (.int .u8 0) 1 1 Try.underlying22 hii hz0 hz1 hz2 rfl (by decide) (.slice none 0 0) 0 [] rfl (World.ownsRow_nil _ _ _ _) a b.length c (bv b) rfl (by simp [bv]) HR.out (bv_one b) (by unfold maxLen; omega) (by omega) (Nat.le_refl _) ?_)
    | fail)
  rintro v w2 ⟨o1, g1, -⟩
  have hb12 : Below w1.heap.size w1 w2 := (Below.refl _ _).grown g1 (Nat.le_refl _) (fun k e => by cases e)
  obtain ⟨oa, oc, rfl, -, -, -⟩ := own_cells o1
  have hbx2 := hb12.block w.heap.size (by omega)
  have O1 := Lib.hid o1
  have HB2 := Lib.hid (HB1.out.trans (hb12.mono HB1.out.size))
  have HB12 := Lib.hid hb12
  have HBX2 := Lib.hid (hbx2.trans HBX.out)
  have k0 : w2.cell? ⟨w.heap.size, 0, none⟩ = some (.int .i64 3) := by rw [cell_of_row _ _ _ _ _ _ HBX2.out]; rfl
  clear hb12 hbx2 o1 g1 c0 c3
  have HT0 := Lib.hid (show TailI oa b.length w1.heap.size w2.heap.size w2 w2 from by
    by_cases h0 : b.length = 0
    · exact .inl ⟨h0, rfl⟩
    · obtain ⟨g, c', e, hrow, hg1, hg2, -⟩ := RowB.of_own O1.out (by omega)
      cases e
      exact .inr ⟨g, rfl, hrow, Only.refl _ _, by omega, hg2⟩)
  have HS12 := Lib.hid (show w.heap.size ≤ w1.heap.size from by omega)
  have HTE := Lib.hid (fun (wx wr : World) (hd : DoR w0 n r most F G (m + 1) (N + b.length) w2 wx) (ht : TailI oa b.length w1.heap.size w2.heap.size wx wr) => tail_end H.out HS12.out rfl HB2.out hd ht)
  have HTS := Lib.hid (fun (wx : World) (hd : DoR w0 n r most F G (m + 1) (N + b.length) w2 wx) => tail_start H.out HS12.out rfl HT0.out hd)
  have HH := Lib.hid (H.out.new HB2.out)
  have HKR := Lib.hid (fun (W : World) (hd : DoR w0 n r most F G (m + 1) (N + b.length) w2 W) => (show W.heap[w.heap.size]? = some (.cells #[.int .i64 3, .int .i64 id, .string host, .slice a b.length c] 41 (0, 0)) from by
    obtain ⟨_, _, _, _, _, _, hon, _⟩ := hd
    exact hon.heap HBX2.out (fun hf => by have := (H.out.in hf).2; omega)))
  have HKP := Lib.hid (fun (W W1 : World) (d' : Int) (l' : List CV) (hW : W.heap[w.heap.size]? = some (.cells #[.int .i64 3, .int .i64 id, .string host, .slice a b.length c] 41 (0, 0))) (ht : NetTo W w0.heap.size n F most d' l' W1) => (show W1.heap[w.heap.size]? = some (.cells #[.int .i64 3, .int .i64 id, .string host, .slice a b.length c] 41 (0, 0)) from by
    obtain ⟨_, _, hon, _⟩ := ht
    exact hon.heap hW (fun hf => by have := (H.out.in (.inl hf)).2; omega)))
  have HLN := Lib.hid (show L.length ≤ 100000 from by have := HI.out.len2; omega)
  have hdn := HI.out.dn
  have hd0 := HI.out.d0
  clear HT0 HS12 HS1 hs1
  obtain ⟨e1, e2⟩ := act_ok (x := id) (st := 1) (f := fun v => { v with st := 4 }) (g := fun v : RC => { v with st := 4 }) (L := L) (fun v hv => rfl)
  obtain ⟨cc, hcc⟩ : ∃ cc, cc = rmust id 1 L := ⟨_, rfl⟩
  have HP := Lib.hid (fun W (hb : Below w2.heap.size w2 W) => (show Calls Try.prog 24 #[.pointer (some ⟨n, 0, none⟩), .int .i64 id] W fun e w' => e = .returned (.int .i64 cc) ∧ NetTo W w0.heap.size n F most d ((ract id 1 (fun v : RC => { v with st := 4 }) L).map RC.vw) w' from by
    have h := refuse_any (HH.out.new hb).1 (HH.out.new hb).2.2.2.size id
    rw [e1, e2, ← hcc] at h
    exact h))
  have HRR := Lib.hid (fun W W1 (hb : Below w2.heap.size w2 W) (ht : NetTo W w0.heap.size n F most d ((ract id 1 (fun v : RC => { v with st := 4 }) L).map RC.vw) W1) => (show Calls Try.prog 35 #[.pointer (some ⟨r, 0, none⟩), .int .i64 id] W1 fun e w' => e = .returned (.int .i64 cc) ∧ DoR w0 n r most F G (m + 1) (N + b.length) w2 w' from by
    have hf := HH.out.new hb
    have hr1 : RfIs W1 w0.heap.size r most d L G := by
      obtain ⟨F', b1, b2, b3⟩ := ht
      exact hf.2.1.only b2 (fun k hk hff => hf.2.2.1 k hff hk)
    refine (rrefuse_any hr1 id (by have := HLN.out; omega)).mono ?_
    rintro e w' ⟨rfl, hto⟩
    exact ⟨by rw [hcc], do_two HH.out hb ht hto ((HI.out.act id 1 (fun v : RC => { v with st := 4 }) (fun _ => rfl) (Nat.le_refl N) (fun v hv => HI.out.sz v hv)).more (Nat.le_succ _) (Nat.le_add_right _ _))⟩))
  clear e1 e2 hcc
  have hbq : (cc == cc) = true := by simp
  clear H HI HR HR0 O1 HB1 HW1 HBX
  go_wp2_with fail
  refine wp_region_noPanic ?_
  refine wp_region_held_drew (S := (fun w' => w'.heap[w.heap.size]? = some (.cells #[.int .i64 3, .int .i64 id, .string host, .slice a b.length c] 41 (0, 0)))) (by kernel_rfl) ?_ (fun hHeld => ?_)
  · exact HBX2.out
  refine wpAnyH_take (i := 0) (oi := _) (v := ?_) rfl (by kernel_rfl) (by kernel_rfl) (by kernel_rfl) (fun _ _ _ h => h) (Or.inl ⟨by rfl, ?_⟩) (by assumption) ?_
  rotate_left 1
  · (intro w hSw; (try dsimp only at hSw); go_simp; (try with_reducible rfl))
  try simp only [Act.put, List.getElem_toArray, List.getElem_cons_zero, List.setIfInBounds_toArray, List.set_cons_zero, List.set_cons_succ]
  refine wpAnyH_take (i := 1) (oi := _) (v := ?_) rfl (by kernel_rfl) (by kernel_rfl) (by kernel_rfl) (fun _ _ _ h => h) (Or.inl ⟨by rfl, ?_⟩) (by assumption) ?_
  rotate_left 1
  · (intro w hSw; (try dsimp only at hSw); go_simp; (try with_reducible rfl))
  try simp only [Act.put, List.getElem_toArray, List.getElem_cons_succ, List.getElem_cons_zero, List.setIfInBounds_toArray, List.set_cons_zero, List.set_cons_succ]
  refine wpAnyH_take (i := 2) (oi := _) (v := ?_) rfl (by kernel_rfl) (by kernel_rfl) (by kernel_rfl) (fun _ _ _ h => h) (Or.inl ⟨by rfl, ?_⟩) (by assumption) ?_
  rotate_left 1
  · (intro w hSw; (try dsimp only at hSw); (have q := cell_of_row _ _ 1 _ _ _ hSw; go_simp); (try with_reducible rfl))
  try simp only [Act.put, List.getElem_toArray, List.getElem_cons_succ, List.getElem_cons_zero, List.setIfInBounds_toArray, List.set_cons_zero, List.set_cons_succ]
  refine wpAnyH_take (i := 4) (oi := _) (v := ?_) rfl (by kernel_rfl) (by kernel_rfl) (by kernel_rfl) (fun _ _ _ h => h) (Or.inl ⟨by rfl, ?_⟩) (by assumption) ?_
  rotate_left 1
  · (intro w hSw; (try dsimp only at hSw); go_simp; (try with_reducible rfl))
  try simp only [Act.put, List.getElem_toArray, List.getElem_cons_succ, List.getElem_cons_zero, List.setIfInBounds_toArray, List.set_cons_zero, List.set_cons_succ]
  refine wpAnyH_take (i := 5) (oi := _) (v := ?_) rfl (by kernel_rfl) (by kernel_rfl) (by kernel_rfl) (fun _ _ _ h => h) (Or.inl ⟨by rfl, ?_⟩) (by assumption) ?_
  rotate_left 1
  · (intro w hSw; (try dsimp only at hSw); go_simp; (try with_reducible rfl))
  try simp only [Act.put, List.getElem_toArray, List.getElem_cons_succ, List.getElem_cons_zero, List.setIfInBounds_toArray, List.set_cons_zero, List.set_cons_succ]
  refine wpAnyH_take (i := 6) (oi := _) (v := ?_) rfl (by kernel_rfl) (by kernel_rfl) (by kernel_rfl) (fun _ _ _ h => h) (Or.inl ⟨by rfl, ?_⟩) (by assumption) ?_
  rotate_left 1
  · (intro w hSw; (try dsimp only at hSw); (have q := cell_of_row _ _ 1 _ _ _ hSw; go_simp); (try with_reducible rfl))
  try simp only [Act.put, List.getElem_toArray, List.getElem_cons_succ, List.getElem_cons_zero, List.setIfInBounds_toArray, List.set_cons_zero, List.set_cons_succ]
  refine wpAnyH_ready (rs := [3]) (by kernel_rfl) (by simp) ?_
  refine AllReadyH.cons (o := _) rfl (fun K hK => ?_) AllReadyH.nil
  go_simp
  refine (HP.out _ (drew_below _)).mono ?_
  rintro e w3 ⟨rfl, ht3⟩
  have HT3 := Lib.hid ht3
  have HK3 := Lib.hid (HKP.out _ _ _ _ hHeld ht3)
  clear ht3
  go_wp2_with fail
  refine hK.out _ _ ?_ (fun hHeld3 => ?_)
  · exact HK3.out
  clear hK K
  try simp only [Act.put, List.getElem_toArray, List.getElem_cons_succ, List.getElem_cons_zero, List.setIfInBounds_toArray, List.set_cons_zero, List.set_cons_succ]
  refine wpAnyH_ready (rs := [7]) (by kernel_rfl) (by simp) ?_
  refine AllReadyH.cons (o := _) rfl (fun K hK => ?_) AllReadyH.nil
  go_simp
  refine (HRR.out _ _ (drew_below _) HT3.out).mono ?_
  rintro e w4 ⟨rfl, hdo⟩
  have HD4 := Lib.hid hdo
  have HK4 := Lib.hid (HKR.out _ hdo)
  clear hdo
  go_wp2_with fail
  refine hK.out _ _ ?_ (fun hHeld7 => ?_)
  · exact HK4.out
  clear hK K
  try simp only [Act.put, List.getElem_toArray, List.getElem_cons_succ, List.getElem_cons_zero, List.setIfInBounds_toArray, List.set_cons_zero, List.set_cons_succ]
  refine wpAnyH_take (i := 8) (oi := _) (v := ?_) rfl (by kernel_rfl) (by kernel_rfl) (by kernel_rfl) (fun _ _ _ h => h) (Or.inl ⟨by rfl, ?_⟩) (by assumption) ?_
  rotate_left 1
  · (intro w hSw; (try dsimp only at hSw); go_simp; (try with_reducible rfl))
  try simp only [Act.put, List.getElem_toArray, List.getElem_cons_succ, List.getElem_cons_zero, List.setIfInBounds_toArray, List.set_cons_zero, List.set_cons_succ]
  refine wpAnyH_take (i := 9) (oi := _) (v := ?_) rfl (by kernel_rfl) (by kernel_rfl) (by kernel_rfl) (fun _ _ _ h => h) (Or.inl ⟨by rfl, ?_⟩) (by assumption) ?_
  rotate_left 1
  · (intro w hSw; (try dsimp only at hSw); go_simp; (try with_reducible rfl))
  try simp only [Act.put, List.getElem_toArray, List.getElem_cons_succ, List.getElem_cons_zero, List.setIfInBounds_toArray, List.set_cons_zero, List.set_cons_succ]
  refine wpAnyH_done (by kernel_rfl) ?_ _
  refine NoPanic.normal ?_
  have hdo := HD4.out
  clear HD4 HK3 HK4 HT3 HP HRR HBX2 HKR HKP HH
  have HDO := Lib.hid hdo
  have HTI := Lib.hid (HTS.out _ hdo)
  clear hdo
  go_wp2_with fail
  go_loopw [15] (fun iv wr => ∃ j : Nat, iv = .int .i64 j ∧ j ≤ b.length ∧ TailI oa b.length w1.heap.size w2.heap.size w4 wr) (fun iv _ => b.length - (intOf iv).toNat)
  case atStart => exact ⟨0, rfl, Nat.zero_le _, HTI.out⟩
  case round =>
    obtain ⟨j, rfl, hj, hti⟩ := hrel
    obtain ⟨wz, hwz⟩ : ∃ wz, wz = wr := ⟨_, rfl⟩
    subst hwz
    by_cases hc : j < b.length
    · rcases hti with ⟨h0, -⟩ | ⟨g, rfl, hrow, hon, hg1, hg2⟩
      · omega
      · obtain ⟨x, hx⟩ := hrow.1 j hc
        have hfz := hrow.2 j
        have HROW := Lib.hid hrow
        have HON := Lib.hid hon
        clear hrow hon HTI HDO
        go_wp2
        go_roundw
        case rel => exact ⟨j + 1, by go_num, by omega, .inr ⟨g, rfl, HROW.out.set j _, HON.out.setCell _ _ (fun _ => rfl), hg1, hg2⟩⟩
        case measure => simp [intOf]; omega
    · have HX := Lib.hid (HTE.out _ _ HDO.out hti)
      clear hti
      go_wp2
      go_ret
      exact ⟨rfl, HX.out⟩
set_option maxHeartbeats 4000000 in
set_option maxRecDepth 100000 in
theorem do04_5 {w0 w : World} {n r : Nat} {most d : Int} {L : List RC} {F : List Nat} {G : Nat → Prop} {m N : Nat} (h : NwF w0 n r most d L F G w) (hi : NInv most d L m N) (hm : m ≤ 1000) (id : Int) (host : ByteArray) (a : Option Addr) (c : Nat) (b : List UInt8) (hN : N + b.length ≤ 100000) (hr : Rd w0 a (bv b)) :
    Calls Try.prog 17 #[.pointer (some ⟨n, 0, none⟩), .pointer (some ⟨r, 0, none⟩), .agg #[.int .i64 5, .int .i64 id, .string host, .slice a b.length c]] w fun e w' => e = .returned (.bool true) ∧ DoR w0 n r most F G (m + 1) (N + b.length) w w' := by
  obtain ⟨i0, hii, hz0, hz1, hz2⟩ := info_parts info_byte
  obtain ⟨w1, hw1⟩ : ∃ w1, w1 = w.alloc (.cells #[.int .i64 5, .int .i64 id, .string host, .slice a b.length c] 41) := ⟨_, rfl⟩
  have hb1 : Below w.heap.size w w1 := by rw [hw1]; exact (Below.refl _ w).alloc (Nat.le_refl _) _
  have hs1 : w1.heap.size = w.heap.size + 1 := by rw [hw1]; simp
  have hbx : w1.heap[w.heap.size]? = some (.cells #[.int .i64 5, .int .i64 id, .string host, .slice a b.length c] 41 (0, 0)) := by rw [hw1]; exact heap_alloc_new w _
  have c0 : w1.cell? ⟨w.heap.size, 0, none⟩ = some (.int .i64 5) := by rw [cell_of_row _ _ _ _ _ _ hbx]; rfl
  have c3 : w1.cell? ⟨w.heap.size, 3, none⟩ = some (.slice a b.length c) := by rw [cell_of_row _ _ _ _ _ _ hbx]; rfl
  have HW1 := Lib.hid hw1
  have HB1 := Lib.hid hb1
  have HS1 := Lib.hid hs1
  have HBX := Lib.hid hbx
  have H := Lib.hid h
  have HI := Lib.hid hi
  have HR := Lib.hid (hr.below (h.2.2.2.trans (hb1.mono h.2.2.2.size)) (Nat.le_refl _))
  have HR0 := Lib.hid hr
  clear hw1 hb1 hbx h hi hr
  go_enter Try.func17, Try.ntmps17
  go_upto_region 1 with fail
  rw [← HW1.out]
  go_wp2_with (first
    | (at_builtin; refine step_append_any (.inl rfl) _ _ 22 rfl w1.heap.size 5 i0 (.int .u8 0) 1 1 Try.underlying22 hii hz0 hz1 hz2 rfl (by decide) (.slice none 0 0) 0 [] rfl (World.ownsRow_nil _ _ _ _) a b.length c (bv b) rfl (by simp [bv]) HR.out (bv_one b) (by unfold maxLen; omega) (by omega) (Nat.le_refl _) ?_)
    | fail)
  rintro v w2 ⟨o1, g1, -⟩
  have hb12 : Below w1.heap.size w1 w2 := (Below.refl _ _).grown g1 (Nat.le_refl _) (fun k e => by cases e)
  obtain ⟨oa, oc, rfl, -, -, -⟩ := own_cells o1
  have hbx2 := hb12.block w.heap.size (by omega)
  have O1 := Lib.hid o1
  have HB2 := Lib.hid (HB1.out.trans (hb12.mono HB1.out.size))
  have HB12 := Lib.hid hb12
  have HBX2 := Lib.hid (hbx2.trans HBX.out)
  have k0 : w2.cell? ⟨w.heap.size, 0, none⟩ = some (.int .i64 5) := by rw [cell_of_row _ _ _ _ _ _ HBX2.out]; rfl
  clear hb12 hbx2 o1 g1 c0 c3
  have HT0 := Lib.hid (show TailI oa b.length w1.heap.size w2.heap.size w2 w2 from by
    by_cases h0 : b.length = 0
    · exact .inl ⟨h0, rfl⟩
    · obtain ⟨g, c', e, hrow, hg1, hg2, -⟩ := RowB.of_own O1.out (by omega)
      cases e
      exact .inr ⟨g, rfl, hrow, Only.refl _ _, by omega, hg2⟩)
  have HS12 := Lib.hid (show w.heap.size ≤ w1.heap.size from by omega)
  have HTE := Lib.hid (fun (wx wr : World) (hd : DoR w0 n r most F G (m + 1) (N + b.length) w2 wx) (ht : TailI oa b.length w1.heap.size w2.heap.size wx wr) => tail_end H.out HS12.out rfl HB2.out hd ht)
  have HTS := Lib.hid (fun (wx : World) (hd : DoR w0 n r most F G (m + 1) (N + b.length) w2 wx) => tail_start H.out HS12.out rfl HT0.out hd)
  have HH := Lib.hid (H.out.new HB2.out)
  have HKR := Lib.hid (fun (W : World) (hd : DoR w0 n r most F G (m + 1) (N + b.length) w2 W) => (show W.heap[w.heap.size]? = some (.cells #[.int .i64 5, .int .i64 id, .string host, .slice a b.length c] 41 (0, 0)) from by
    obtain ⟨_, _, _, _, _, _, hon, _⟩ := hd
    exact hon.heap HBX2.out (fun hf => by have := (H.out.in hf).2; omega)))
  have HKP := Lib.hid (fun (W W1 : World) (d' : Int) (l' : List CV) (hW : W.heap[w.heap.size]? = some (.cells #[.int .i64 5, .int .i64 id, .string host, .slice a b.length c] 41 (0, 0))) (ht : NetTo W w0.heap.size n F most d' l' W1) => (show W1.heap[w.heap.size]? = some (.cells #[.int .i64 5, .int .i64 id, .string host, .slice a b.length c] 41 (0, 0)) from by
    obtain ⟨_, _, hon, _⟩ := ht
    exact hon.heap hW (fun hf => by have := (H.out.in (.inl hf)).2; omega)))
  have HLN := Lib.hid (show L.length ≤ 100000 from by have := HI.out.len2; omega)
  have hdn := HI.out.dn
  have hd0 := HI.out.d0
  clear HT0 HS12 HS1 hs1
  obtain ⟨e1, e2⟩ := act_ok (x := id) (st := 2) (f := fun v => { v with st := 3 }) (g := fun v : RC => { v with st := 3 }) (L := L) (fun v hv => rfl)
  obtain ⟨cc, hcc⟩ : ∃ cc, cc = rmust id 2 L := ⟨_, rfl⟩
  have HP := Lib.hid (fun W (hb : Below w2.heap.size w2 W) => (show Calls Try.prog 14 #[.pointer (some ⟨n, 0, none⟩), .int .i64 id] W fun e w' => e = .returned (.int .i64 cc) ∧ NetTo W w0.heap.size n F most d ((ract id 2 (fun v : RC => { v with st := 3 }) L).map RC.vw) w' from by
    have h := end_any (HH.out.new hb).1 (HH.out.new hb).2.2.2.size id
    rw [e1, e2, ← hcc] at h
    exact h))
  have HRR := Lib.hid (fun W W1 (hb : Below w2.heap.size w2 W) (ht : NetTo W w0.heap.size n F most d ((ract id 2 (fun v : RC => { v with st := 3 }) L).map RC.vw) W1) => (show Calls Try.prog 37 #[.pointer (some ⟨r, 0, none⟩), .int .i64 id] W1 fun e w' => e = .returned (.int .i64 cc) ∧ DoR w0 n r most F G (m + 1) (N + b.length) w2 w' from by
    have hf := HH.out.new hb
    have hr1 : RfIs W1 w0.heap.size r most d L G := by
      obtain ⟨F', b1, b2, b3⟩ := ht
      exact hf.2.1.only b2 (fun k hk hff => hf.2.2.1 k hff hk)
    refine (rend_any hr1 id (by have := HLN.out; omega)).mono ?_
    rintro e w' ⟨rfl, hto⟩
    exact ⟨by rw [hcc], do_two HH.out hb ht hto ((HI.out.act id 2 (fun v : RC => { v with st := 3 }) (fun _ => rfl) (Nat.le_refl N) (fun v hv => HI.out.sz v hv)).more (Nat.le_succ _) (Nat.le_add_right _ _))⟩))
  clear e1 e2 hcc
  have hbq : (cc == cc) = true := by simp
  clear H HI HR HR0 O1 HB1 HW1 HBX
  go_wp2_with fail
  refine wp_region_noPanic ?_
  refine wp_region_held_drew (S := (fun w' => w'.heap[w.heap.size]? = some (.cells #[.int .i64 5, .int .i64 id, .string host, .slice a b.length c] 41 (0, 0)))) (by kernel_rfl) ?_ (fun hHeld => ?_)
  · exact HBX2.out
  refine wpAnyH_take (i := 0) (oi := _) (v := ?_) rfl (by kernel_rfl) (by kernel_rfl) (by kernel_rfl) (fun _ _ _ h => h) (Or.inl ⟨by rfl, ?_⟩) (by assumption) ?_
  rotate_left 1
  · (intro w hSw; (try dsimp only at hSw); go_simp; (try with_reducible rfl))
  try simp only [Act.put, List.getElem_toArray, List.getElem_cons_zero, List.setIfInBounds_toArray, List.set_cons_zero, List.set_cons_succ]
  refine wpAnyH_take (i := 1) (oi := _) (v := ?_) rfl (by kernel_rfl) (by kernel_rfl) (by kernel_rfl) (fun _ _ _ h => h) (Or.inl ⟨by rfl, ?_⟩) (by assumption) ?_
  rotate_left 1
  · (intro w hSw; (try dsimp only at hSw); go_simp; (try with_reducible rfl))
  try simp only [Act.put, List.getElem_toArray, List.getElem_cons_succ, List.getElem_cons_zero, List.setIfInBounds_toArray, List.set_cons_zero, List.set_cons_succ]
  refine wpAnyH_take (i := 2) (oi := _) (v := ?_) rfl (by kernel_rfl) (by kernel_rfl) (by kernel_rfl) (fun _ _ _ h => h) (Or.inl ⟨by rfl, ?_⟩) (by assumption) ?_
  rotate_left 1
  · (intro w hSw; (try dsimp only at hSw); (have q := cell_of_row _ _ 1 _ _ _ hSw; go_simp); (try with_reducible rfl))
  try simp only [Act.put, List.getElem_toArray, List.getElem_cons_succ, List.getElem_cons_zero, List.setIfInBounds_toArray, List.set_cons_zero, List.set_cons_succ]
  refine wpAnyH_take (i := 4) (oi := _) (v := ?_) rfl (by kernel_rfl) (by kernel_rfl) (by kernel_rfl) (fun _ _ _ h => h) (Or.inl ⟨by rfl, ?_⟩) (by assumption) ?_
  rotate_left 1
  · (intro w hSw; (try dsimp only at hSw); go_simp; (try with_reducible rfl))
  try simp only [Act.put, List.getElem_toArray, List.getElem_cons_succ, List.getElem_cons_zero, List.setIfInBounds_toArray, List.set_cons_zero, List.set_cons_succ]
  refine wpAnyH_take (i := 5) (oi := _) (v := ?_) rfl (by kernel_rfl) (by kernel_rfl) (by kernel_rfl) (fun _ _ _ h => h) (Or.inl ⟨by rfl, ?_⟩) (by assumption) ?_
  rotate_left 1
  · (intro w hSw; (try dsimp only at hSw); go_simp; (try with_reducible rfl))
  try simp only [Act.put, List.getElem_toArray, List.getElem_cons_succ, List.getElem_cons_zero, List.setIfInBounds_toArray, List.set_cons_zero, List.set_cons_succ]
  refine wpAnyH_take (i := 6) (oi := _) (v := ?_) rfl (by kernel_rfl) (by kernel_rfl) (by kernel_rfl) (fun _ _ _ h => h) (Or.inl ⟨by rfl, ?_⟩) (by assumption) ?_
  rotate_left 1
  · (intro w hSw; (try dsimp only at hSw); (have q := cell_of_row _ _ 1 _ _ _ hSw; go_simp); (try with_reducible rfl))
  try simp only [Act.put, List.getElem_toArray, List.getElem_cons_succ, List.getElem_cons_zero, List.setIfInBounds_toArray, List.set_cons_zero, List.set_cons_succ]
  refine wpAnyH_ready (rs := [3]) (by kernel_rfl) (by simp) ?_
  refine AllReadyH.cons (o := _) rfl (fun K hK => ?_) AllReadyH.nil
  go_simp
  refine (HP.out _ (drew_below _)).mono ?_
  rintro e w3 ⟨rfl, ht3⟩
  have HT3 := Lib.hid ht3
  have HK3 := Lib.hid (HKP.out _ _ _ _ hHeld ht3)
  clear ht3
  go_wp2_with fail
  refine hK.out _ _ ?_ (fun hHeld3 => ?_)
  · exact HK3.out
  clear hK K
  try simp only [Act.put, List.getElem_toArray, List.getElem_cons_succ, List.getElem_cons_zero, List.setIfInBounds_toArray, List.set_cons_zero, List.set_cons_succ]
  refine wpAnyH_ready (rs := [7]) (by kernel_rfl) (by simp) ?_
  refine AllReadyH.cons (o := _) rfl (fun K hK => ?_) AllReadyH.nil
  go_simp
  refine (HRR.out _ _ (drew_below _) HT3.out).mono ?_
  rintro e w4 ⟨rfl, hdo⟩
  have HD4 := Lib.hid hdo
  have HK4 := Lib.hid (HKR.out _ hdo)
  clear hdo
  go_wp2_with fail
  refine hK.out _ _ ?_ (fun hHeld7 => ?_)
  · exact HK4.out
  clear hK K
  try simp only [Act.put, List.getElem_toArray, List.getElem_cons_succ, List.getElem_cons_zero, List.setIfInBounds_toArray, List.set_cons_zero, List.set_cons_succ]
  refine wpAnyH_take (i := 8) (oi := _) (v := ?_) rfl (by kernel_rfl) (by kernel_rfl) (by kernel_rfl) (fun _ _ _ h => h) (Or.inl ⟨by rfl, ?_⟩) (by assumption) ?_
  rotate_left 1
  · (intro w hSw; (try dsimp only at hSw); go_simp; (try with_reducible rfl))
  try simp only [Act.put, List.getElem_toArray, List.getElem_cons_succ, List.getElem_cons_zero, List.setIfInBounds_toArray, List.set_cons_zero, List.set_cons_succ]
  refine wpAnyH_take (i := 9) (oi := _) (v := ?_) rfl (by kernel_rfl) (by kernel_rfl) (by kernel_rfl) (fun _ _ _ h => h) (Or.inl ⟨by rfl, ?_⟩) (by assumption) ?_
  rotate_left 1
  · (intro w hSw; (try dsimp only at hSw); go_simp; (try with_reducible rfl))
  try simp only [Act.put, List.getElem_toArray, List.getElem_cons_succ, List.getElem_cons_zero, List.setIfInBounds_toArray, List.set_cons_zero, List.set_cons_succ]
  refine wpAnyH_done (by kernel_rfl) ?_ _
  refine NoPanic.normal ?_
  have hdo := HD4.out
  clear HD4 HK3 HK4 HT3 HP HRR HBX2 HKR HKP HH
  have HDO := Lib.hid hdo
  have HTI := Lib.hid (HTS.out _ hdo)
  clear hdo
  go_wp2_with fail
  go_loopw [15] (fun iv wr => ∃ j : Nat, iv = .int .i64 j ∧ j ≤ b.length ∧ TailI oa b.length w1.heap.size w2.heap.size w4 wr) (fun iv _ => b.length - (intOf iv).toNat)
  case atStart => exact ⟨0, rfl, Nat.zero_le _, HTI.out⟩
  case round =>
    obtain ⟨j, rfl, hj, hti⟩ := hrel
    obtain ⟨wz, hwz⟩ : ∃ wz, wz = wr := ⟨_, rfl⟩
    subst hwz
    by_cases hc : j < b.length
    · rcases hti with ⟨h0, -⟩ | ⟨g, rfl, hrow, hon, hg1, hg2⟩
      · omega
      · obtain ⟨x, hx⟩ := hrow.1 j hc
        have hfz := hrow.2 j
        have HROW := Lib.hid hrow
        have HON := Lib.hid hon
        clear hrow hon HTI HDO
        go_wp2
        go_roundw
        case rel => exact ⟨j + 1, by go_num, by omega, .inr ⟨g, rfl, HROW.out.set j _, HON.out.setCell _ _ (fun _ => rfl), hg1, hg2⟩⟩
        case measure => simp [intOf]; omega
    · have HX := Lib.hid (HTE.out _ _ HDO.out hti)
      clear hti
      go_wp2
      go_ret
      exact ⟨rfl, HX.out⟩
set_option maxHeartbeats 4000000 in
set_option maxRecDepth 100000 in
theorem do04_0 {w0 w : World} {n r : Nat} {most d : Int} {L : List RC} {F : List Nat} {G : Nat → Prop} {m N : Nat} (h : NwF w0 n r most d L F G w) (hi : NInv most d L m N) (hm : m ≤ 1000) (kind id : Int) (host : ByteArray) (a : Option Addr) (c : Nat) (b : List UInt8) (hN : N + b.length ≤ 100000) (hr : Rd w0 a (bv b)) (hk1 : kind ≠ 1) (hk2 : kind ≠ 2) (hk3 : kind ≠ 3) (hk4 : kind ≠ 4) (hk5 : kind ≠ 5) (hk6 : kind ≠ 6) (hk7 : kind ≠ 7) (hk8 : kind ≠ 8) (hk9 : kind ≠ 9) :
    Calls Try.prog 17 #[.pointer (some ⟨n, 0, none⟩), .pointer (some ⟨r, 0, none⟩), .agg #[.int .i64 kind, .int .i64 id, .string host, .slice a b.length c]] w fun e w' => e = .returned (.bool true) ∧ DoR w0 n r most F G (m + 1) (N + b.length) w w' := by
  obtain ⟨i0, hii, hz0, hz1, hz2⟩ := info_parts info_byte
  obtain ⟨w1, hw1⟩ : ∃ w1, w1 = w.alloc (.cells #[.int .i64 kind, .int .i64 id, .string host, .slice a b.length c] 41) := ⟨_, rfl⟩
  have hb1 : Below w.heap.size w w1 := by rw [hw1]; exact (Below.refl _ w).alloc (Nat.le_refl _) _
  have hs1 : w1.heap.size = w.heap.size + 1 := by rw [hw1]; simp
  have hbx : w1.heap[w.heap.size]? = some (.cells #[.int .i64 kind, .int .i64 id, .string host, .slice a b.length c] 41 (0, 0)) := by rw [hw1]; exact heap_alloc_new w _
  have c0 : w1.cell? ⟨w.heap.size, 0, none⟩ = some (.int .i64 kind) := by rw [cell_of_row _ _ _ _ _ _ hbx]; rfl
  have c3 : w1.cell? ⟨w.heap.size, 3, none⟩ = some (.slice a b.length c) := by rw [cell_of_row _ _ _ _ _ _ hbx]; rfl
  have HW1 := Lib.hid hw1
  have HB1 := Lib.hid hb1
  have HS1 := Lib.hid hs1
  have HBX := Lib.hid hbx
  have H := Lib.hid h
  have HI := Lib.hid hi
  have HR := Lib.hid (hr.below (h.2.2.2.trans (hb1.mono h.2.2.2.size)) (Nat.le_refl _))
  have HR0 := Lib.hid hr
  clear hw1 hb1 hbx h hi hr
  go_enter Try.func17, Try.ntmps17
  go_upto_region 1 with fail
  rw [← HW1.out]
  go_wp2_with (first
    | (at_builtin; refine step_append_any (.inl rfl) _ _ 22 rfl w1.heap.size 5 i0 (.int .u8 0) 1 1 Try.underlying22 hii hz0 hz1 hz2 rfl (by decide) (.slice none 0 0) 0 [] rfl (World.ownsRow_nil _ _ _ _) a b.length c (bv b) rfl (by simp [bv]) HR.out (bv_one b) (by unfold maxLen; omega) (by omega) (Nat.le_refl _) ?_)
    | fail)
  rintro v w2 ⟨o1, g1, -⟩
  have hb12 : Below w1.heap.size w1 w2 := (Below.refl _ _).grown g1 (Nat.le_refl _) (fun k e => by cases e)
  obtain ⟨oa, oc, rfl, -, -, -⟩ := own_cells o1
  have hbx2 := hb12.block w.heap.size (by omega)
  have O1 := Lib.hid o1
  have HB2 := Lib.hid (HB1.out.trans (hb12.mono HB1.out.size))
  have HB12 := Lib.hid hb12
  have HBX2 := Lib.hid (hbx2.trans HBX.out)
  have k0 : w2.cell? ⟨w.heap.size, 0, none⟩ = some (.int .i64 kind) := by rw [cell_of_row _ _ _ _ _ _ HBX2.out]; rfl
  clear hb12 hbx2 o1 g1 c0 c3
  have HT0 := Lib.hid (show TailI oa b.length w1.heap.size w2.heap.size w2 w2 from by
    by_cases h0 : b.length = 0
    · exact .inl ⟨h0, rfl⟩
    · obtain ⟨g, c', e, hrow, hg1, hg2, -⟩ := RowB.of_own O1.out (by omega)
      cases e
      exact .inr ⟨g, rfl, hrow, Only.refl _ _, by omega, hg2⟩)
  have HS12 := Lib.hid (show w.heap.size ≤ w1.heap.size from by omega)
  have HTE := Lib.hid (fun (wx wr : World) (hd : DoR w0 n r most F G (m + 1) (N + b.length) w2 wx) (ht : TailI oa b.length w1.heap.size w2.heap.size wx wr) => tail_end H.out HS12.out rfl HB2.out hd ht)
  have HTS := Lib.hid (fun (wx : World) (hd : DoR w0 n r most F G (m + 1) (N + b.length) w2 wx) => tail_start H.out HS12.out rfl HT0.out hd)
  have HH := Lib.hid (H.out.new HB2.out)
  have HKR := Lib.hid (fun (W : World) (hd : DoR w0 n r most F G (m + 1) (N + b.length) w2 W) => (show W.heap[w.heap.size]? = some (.cells #[.int .i64 kind, .int .i64 id, .string host, .slice a b.length c] 41 (0, 0)) from by
    obtain ⟨_, _, _, _, _, _, hon, _⟩ := hd
    exact hon.heap HBX2.out (fun hf => by have := (H.out.in hf).2; omega)))
  have HKP := Lib.hid (fun (W W1 : World) (d' : Int) (l' : List CV) (hW : W.heap[w.heap.size]? = some (.cells #[.int .i64 kind, .int .i64 id, .string host, .slice a b.length c] 41 (0, 0))) (ht : NetTo W w0.heap.size n F most d' l' W1) => (show W1.heap[w.heap.size]? = some (.cells #[.int .i64 kind, .int .i64 id, .string host, .slice a b.length c] 41 (0, 0)) from by
    obtain ⟨_, _, hon, _⟩ := ht
    exact hon.heap hW (fun hf => by have := (H.out.in (.inl hf)).2; omega)))
  have HLN := Lib.hid (show L.length ≤ 100000 from by have := HI.out.len2; omega)
  have hdn := HI.out.dn
  have hd0 := HI.out.d0
  clear HT0 HS12 HS1 hs1
  have hb1 : (kind == 1) = false := by rw [beq_eq_false_iff_ne]; exact hk1
  have hb2 : (kind == 2) = false := by rw [beq_eq_false_iff_ne]; exact hk2
  have hb3 : (kind == 3) = false := by rw [beq_eq_false_iff_ne]; exact hk3
  have hb4 : (kind == 4) = false := by rw [beq_eq_false_iff_ne]; exact hk4
  have hb5 : (kind == 5) = false := by rw [beq_eq_false_iff_ne]; exact hk5
  have hb6 : (kind == 6) = false := by rw [beq_eq_false_iff_ne]; exact hk6
  have hb7 : (kind == 7) = false := by rw [beq_eq_false_iff_ne]; exact hk7
  have hb8 : (kind == 8) = false := by rw [beq_eq_false_iff_ne]; exact hk8
  have hb9 : (kind == 9) = false := by rw [beq_eq_false_iff_ne]; exact hk9
  clear hk1 hk2 hk3 hk4 hk5 hk6 hk7 hk8 hk9
  have hdo : DoR w0 n r most F G (m + 1) (N + b.length) w2 w2 := ⟨d, L, HI.out.more (Nat.le_succ _) (Nat.le_add_right _ _), NwTo.same HH.out (Below.refl _ _)⟩
  clear H HI HR HR0 O1 HB1 HW1 HBX HBX2 HKR HKP HH
  have HDO := Lib.hid hdo
  have HTI := Lib.hid (HTS.out _ hdo)
  clear hdo
  go_wp2_with fail
  go_loopw [15] (fun iv wr => ∃ j : Nat, iv = .int .i64 j ∧ j ≤ b.length ∧ TailI oa b.length w1.heap.size w2.heap.size w2 wr) (fun iv _ => b.length - (intOf iv).toNat)
  case atStart => exact ⟨0, rfl, Nat.zero_le _, HTI.out⟩
  case round =>
    obtain ⟨j, rfl, hj, hti⟩ := hrel
    obtain ⟨wz, hwz⟩ : ∃ wz, wz = wr := ⟨_, rfl⟩
    subst hwz
    by_cases hc : j < b.length
    · rcases hti with ⟨h0, -⟩ | ⟨g, rfl, hrow, hon, hg1, hg2⟩
      · omega
      · obtain ⟨x, hx⟩ := hrow.1 j hc
        have hfz := hrow.2 j
        have HROW := Lib.hid hrow
        have HON := Lib.hid hon
        clear hrow hon HTI HDO
        go_wp2
        go_roundw
        case rel => exact ⟨j + 1, by go_num, by omega, .inr ⟨g, rfl, HROW.out.set j _, HON.out.setCell _ _ (fun _ => rfl), hg1, hg2⟩⟩
        case measure => simp [intOf]; omega
    · have HX := Lib.hid (HTE.out _ _ HDO.out hti)
      clear hti
      go_wp2
      go_ret
      exact ⟨rfl, HX.out⟩
end Go.Proofs.Ytepdnmpcccgcaaa
