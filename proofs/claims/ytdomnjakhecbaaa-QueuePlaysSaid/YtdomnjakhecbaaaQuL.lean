/- What a queue that is not there, and a zero one, answer: the walks. -/
import Derived.Test.YtdomnjakhecbaaaQuJ
import Derived.RangeFuncNested
import Derived.RangeFuncBound
import Derived.RangeFuncCalls
import Derived.RangeFuncLeaves
import Derived.OwnWalkIn
import Derived.Shelf.Abstract
import Derived.Deep.QuietTactic
import Derived.BigQuiet
import Derived.TacticsInMore
import Derived.LoopNIn
import Derived.LoopIn
namespace Go.Proofs.Ytdomnjakhecbaaa
open Go.RowKit K Go.Shelf
attribute [local go_sem] Oper.semAt_some
set_option maxRecDepth 100000 in
theorem nput (w : World) (win : Int) (v : Value) : Calls Try.prog 9 #[.pointer none, .int .i64 win, v] w fun e w' => e = .returned (.tuple #[.int .u64 0, .int .i64 1]) ∧ w = w' := by
  go_enter Try.func9, Try.ntmps9
  go_wp2
  go_ret2
  exact ⟨rfl, rfl⟩
set_option maxRecDepth 100000 in
theorem nnext (w : World) : Calls Try.prog 11 #[.pointer none] w fun e w' => e = .returned (.tuple #[.int .i64 0, .bool false]) ∧ w = w' := by
  go_enter Try.func11, Try.ntmps11
  go_wp2
  go_ret2
  exact ⟨rfl, rfl⟩
set_option maxRecDepth 100000 in
theorem nhand (w : World) (now : Int) : Calls Try.prog 12 #[.pointer none, .int .i64 now] w fun e w' => e = .returned (.tuple #[.slice none 0 0, .bool false]) ∧ w = w' := by
  go_enter Try.func12, Try.ntmps12
  go_wp2_with fail
  refine (nnext w).mono ?_
  rintro e w1 ⟨rfl, rfl⟩
  go_wp2
  go_ret2
  exact ⟨rfl, rfl⟩
set_option maxRecDepth 100000 in
theorem nanswer (w : World) (ok : Bool) (now : Int) : Calls Try.prog 14 #[.pointer none, .bool ok, .int .i64 now] w fun e w' => e = .returned (.int .i64 1) ∧ w = w' := by
  go_enter Try.func14, Try.ntmps14
  go_wp2
  go_ret
  exact ⟨rfl, rfl⟩
set_option maxRecDepth 100000 in
theorem nsink (w : World) : Calls Try.prog 28 #[.pointer none] w fun e w' => e = .returned (.bool false) ∧ w = w' := by
  go_enter Try.func28, Try.ntmps28
  go_wp2
  go_ret
  exact ⟨rfl, rfl⟩
set_option maxRecDepth 100000 in
theorem nwaiting (w : World) : Calls Try.prog 16 #[.pointer none] w fun e w' => e = .returned (.int .i64 0) ∧ w = w' := by
  go_enter Try.func16, Try.ntmps16
  go_wp2
  go_ret
  exact ⟨rfl, rfl⟩
set_option maxRecDepth 100000 in
theorem ntries (w : World) : Calls Try.prog 26 #[.pointer none] w fun e w' => e = .returned (.int .i64 0) ∧ w = w' := by
  go_enter Try.func26, Try.ntmps26
  go_wp2
  go_ret
  exact ⟨rfl, rfl⟩
set_option maxRecDepth 100000 in
theorem nacked (w : World) : Calls Try.prog 15 #[.pointer none] w fun e w' => e = .returned (.int .i64 0) ∧ w = w' := by
  go_enter Try.func15, Try.ntmps15
  go_wp2
  go_ret
  exact ⟨rfl, rfl⟩
set_option maxRecDepth 100000 in
theorem ndropped (w : World) : Calls Try.prog 22 #[.pointer none] w fun e w' => e = .returned (.int .i64 0) ∧ w = w' := by
  go_enter Try.func22, Try.ntmps22
  go_wp2
  go_ret
  exact ⟨rfl, rfl⟩
set_option maxRecDepth 100000 in
theorem ncopy (w : World) : Calls Try.prog 29 #[.pointer none] w fun e w' => e = .returned (.pointer none) ∧ w = w' := by
  go_enter Try.func29, Try.ntmps29
  go_wp2
  go_ret
  exact ⟨rfl, rfl⟩
set_option maxRecDepth 100000 in
theorem nsame0 (w : World) : Calls Try.prog 30 #[.pointer none, .pointer none] w fun e w' => e = .returned (.bool true) ∧ w = w' := by
  go_enter Try.func30, Try.ntmps30
  go_wp2
  go_ret
  exact ⟨rfl, rfl⟩
set_option maxRecDepth 100000 in
theorem nsame1 (w : World) (b : Addr) : Calls Try.prog 30 #[.pointer none, .pointer (some b)] w fun e w' => e = .returned (.bool false) ∧ w = w' := by
  go_enter Try.func30, Try.ntmps30
  go_wp2
  go_ret
  exact ⟨rfl, rfl⟩
set_option maxRecDepth 100000 in
theorem nsame2 (w : World) (b : Addr) : Calls Try.prog 30 #[.pointer (some b), .pointer none] w fun e w' => e = .returned (.bool false) ∧ w = w' := by
  go_enter Try.func30, Try.ntmps30
  go_wp2
  go_ret
  exact ⟨rfl, rfl⟩
set_option maxRecDepth 100000 in
theorem nall (w : World) : Calls Try.prog 27 #[.pointer none] w fun e w' => e = .returned (.func (.func 46) #[] #[.pointer (some ⟨w.heap.size, 0, none⟩)]) ∧ w'.cell? ⟨w.heap.size, 0, none⟩ = some (.slice none 0 0) ∧ Below w.heap.size w w' := by
  go_enter Try.func27, Try.ntmps27
  go_wp2
  go_ret
  exact ⟨rfl, by rw [cell_of_row _ _ _ _ _ _ (heap_alloc_new w _)]; rfl, (Below.refl _ _).alloc (Nat.le_refl _) _⟩
theorem all1_nil (l b : Nat) (w : World) (hc : w.cell? ⟨b, 0, none⟩ = some (.slice none 0 0)) : Calls Try.prog 46 #[.func (.yield l) #[] #[], .pointer (some ⟨b, 0, none⟩)] w fun e w' => (∃ v, e = .returned v) ∧ w = w' := by
  go_enter Try.func46, Try.ntmps46
  go_wp2
  go_loopw [7] (fun i wr => i = .int .i64 0 ∧ w = wr) (fun _ _ => 0)
  case atStart => exact ⟨rfl, rfl⟩
  case round =>
    obtain ⟨rfl, rfl⟩ := hrel
    go_wp2
    go_end0
    exact ⟨⟨_, rfl⟩, rfl⟩
theorem equalFunc0 (w : World) : Calls Try.prog 47 #[.slice none 0 0, .slice none 0 0, .func (.func 48) #[] #[]] w fun e w' => e = .returned (.bool true) ∧ w = w' := by
  go_enter Try.func47, Try.ntmps47
  go_wp2
  go_loopw [17] (fun i wr => i = .int .i64 0 ∧ w = wr) (fun _ _ => 0)
  case atStart => exact ⟨rfl, rfl⟩
  case round =>
    obtain ⟨rfl, rfl⟩ := hrel
    go_wp2
    go_ret
    exact ⟨rfl, rfl⟩
theorem quiet_add_left {P : Program} {f : FuncId} {args : Array Value} {w : World} {a n : Nat} {v : Value} (h : Calls P f args (w.drewN (a + n)) fun e w' => e = .returned v ∧ w.drewN (a + n) = w') :
    Calls P f args (w.drewN (a + n)) fun e w'' => e = .returned v ∧ ∃ m, w'' = w.drewN (a + m) :=
  h.mono fun _ _ ⟨he, hm⟩ => ⟨he, n, hm.symm⟩
/-- A range over a function that yields nothing. -/
theorem wp_rangeFunc_none {P : Program} {g : Operand} {p : Tmp} {body : Code} {Q : Exit → Act → World → Prop} {a : Act} {w : World} {gf : Nat} {lb : Array Value} (hg : a.eval g = .func (.func gf) #[] lb) (eg : ∀ args w, (callFunc gf args).run P w = .ok (.enter gf args) w)
    (hseq : ∀ (l : Nat) (W : World), Below w.heap.size w W → Calls P gf (#[.func (.yield l) #[] #[]] ++ lb) W fun e W' => (∃ v, e = .returned v) ∧ W = W')
    (hdone : ∀ (D : Nat) (W : World), w.heap.size ≤ D → Below w.heap.size w W → W.heap[D]? = some (.deferred (some [])) → Q .normal { a with defers := { target := .collected D, args := #[] } :: a.defers } W) :
    (Code.rangeFunc g #[p] Code.skip body).wp P Q a w := by
  refine (wpIn_wide (n := 8)).1 ?_
  refine wpIn_rangeFunc_ownG (α := Value) rfl (by omega) (gf := gf) (lb := lb) hg trivial eg
    (encs := fun x => #[x]) (Kp := fun _ _ => True) (S := fun xs => xs = []) (Sp := fun _ => False) (N := 0) (w0 := w) (fun l J Jx W hW _ _ _ h0 => callsIn_wide.2 ((hseq l W hW).mono fun e W' ⟨h1, h2⟩ => ⟨h1, .inl ⟨[], rfl, by rw [← h2]; exact h0⟩⟩))
    (fun _ _ => trivial) (fun _ _ _ _ _ _ _ _ => trivial) (Below.refl _ _) (fun _ => rfl)
    (fun _ W => Below w.heap.size w W) (fun _ _ _ => False) (ownFrom_below (Nat.le_refl _) (Nat.le_refl _)) (fun _ _ _ _ _ hs _ _ => hs) (Below.refl _ _)
    (fun x => { tmps := a.tmps.setIfInBounds p x, defers := [] }) ?assign ?body ?done ?stop
  case assign =>
    intro l x W K hK
    gi_wp2
    simpa using hK
  case body => exact fun l pre x W _ h => absurd h (by omega)
  case stop => exact fun _ _ _ _ _ h => h.elim
  case done => exact fun D xs W hD _ hB hK => hdone D W hD hB hK
set_option maxHeartbeats 1000000 in
set_option maxRecDepth 100000 in
theorem qsame_empty (w : World) (g g' : Nat) (s : QR) (h : QBox w g (.slice none 0 0) s) (h' : QBox w g' (.slice none 0 0) s) :
    Calls Try.prog 30 #[.pointer (some ⟨g, 0, none⟩), .pointer (some ⟨g', 0, none⟩)] w fun e w' => e = .returned (.bool true) ∧ Below w.heap.size w w' := by
  obtain ⟨most, base, longest, put, acked, dropped, sink, time, tries⟩ := s
  have c0 := h.c0
  have c1 : w.cell? ⟨g, 1, none⟩ = some (.int .i64 most) := h.cell 1
  have c2 : w.cell? ⟨g, 2, none⟩ = some (.int .i64 base) := h.cell 2
  have c3 : w.cell? ⟨g, 3, none⟩ = some (.int .i64 longest) := h.cell 3
  have c4 : w.cell? ⟨g, 4, none⟩ = some (.int .u64 put) := h.cell 4
  have c5 := h.c5
  have c6 := h.c6
  have c7 := h.c7
  have c8 := h.c8
  have c9 := h.c9
  have d0 := h'.c0
  have d1 : w.cell? ⟨g', 1, none⟩ = some (.int .i64 most) := h'.cell 1
  have d2 : w.cell? ⟨g', 2, none⟩ = some (.int .i64 base) := h'.cell 2
  have d3 : w.cell? ⟨g', 3, none⟩ = some (.int .i64 longest) := h'.cell 3
  have d4 : w.cell? ⟨g', 4, none⟩ = some (.int .u64 put) := h'.cell 4
  have d5 := h'.c5
  have d6 := h'.c6
  have d7 := h'.c7
  have d8 := h'.c8
  have d9 := h'.c9
  clear h h'
  go_enter Try.func30, Try.ntmps30
  go_wp2_with fail
  go_quiet (fail)
  go_wp2_with fail
  go_quiet (fail)
  go_wp2_with fail
  go_quiet ((go_at_call 47; exact quiet_add_left (equalFunc0 _)))
  go_wp2
  go_ret
  exact ⟨rfl, ⟨rfl, rfl, rfl, Nat.le_refl _, fun _ _ => rfl⟩⟩
theorem all_not_nil (w : World) (v : Value) : Sem.run Try.prog (binOp .eql 63 (.func (.func 46) #[] #[v]) Value.nilFunc) w = .ok (.bool false) w := by kernel_rfl
def zQ (d : Int) : QR := ⟨0, 0, 0, 0, 0, d, false, 0, 0⟩
theorem putR_z0 : putR (zQ 0) [] 0 [recA 0] = ((0, 6), zQ 1, []) := by
  unfold putR
  rw [if_neg (by rw [show (zQ 0).put + 1 = 1 from rfl, recA_may 1 0 (by omega)]; simp), if_pos (by decide)]
  rfl
theorem putR_z1 : putR (zQ 1) [] 0 [] = ((0, 2), zQ 1, []) := by
  unfold putR
  rw [if_pos (by simp [mayB])]
theorem QLv.zero (w : World) (o : Obj) : QLv w [(w.heap.size, o)] (w.heap.size + 1) (zQ 0) [] ((w.alloc o).alloc (.cells #[.slice none 0 0, .int .i64 0, .int .i64 0, .int .i64 0, .int .u64 0, .int .i64 0, .int .i64 0, .bool false, .int .i64 0, .int .i64 0] 61)) := by
  have hb : QBox ((w.alloc o).alloc (.cells #[.slice none 0 0, .int .i64 0, .int .i64 0, .int .i64 0, .int .u64 0, .int .i64 0, .int .i64 0, .bool false, .int .i64 0, .int .i64 0] 61)) (w.heap.size + 1) (.slice none 0 0) (zQ 0) := by
    have h := heap_alloc_new (w.alloc o) (.cells #[.slice none 0 0, .int .i64 0, .int .i64 0, .int .i64 0, .int .u64 0, .int .i64 0, .int .i64 0, .bool false, .int .i64 0, .int .i64 0] 61)
    rw [World.size_alloc] at h
    exact h
  refine ⟨(· = w.heap.size + 1), ⟨_, [], fun _ => False, hb, .inl ⟨World.ownsRow_nil _ _ _ _, fun b e => by cases e⟩, rfl, rfl, fun h => h, fun _ h => h.elim, fun k h => by have h : k = w.heap.size + 1 := h; rw [h]; exact (Array.getElem?_eq_some_iff.1 hb).1⟩, fun k h => by have h : k = w.heap.size + 1 := h; omega, ((Below.refl _ w).alloc (Nat.le_refl _) _).alloc (by simp) _, fun p hp => ?_⟩
  simp only [List.mem_cons, List.not_mem_nil, or_false] at hp
  subst hp
  exact ⟨(Below.heap_alloc _ _ _ (by simp)).trans (heap_alloc_new w o), fun h => by have h : w.heap.size = w.heap.size + 1 := h; omega⟩
theorem QLv.add {w0 w W : World} {K : List (Nat × Obj)} {g D : Nat} {s : QR} {fs : List Frm} {o : Obj} (h : QLv w0 K g s fs w) (hb : Below w.heap.size w W) (hD : w.heap.size ≤ D) (hK : W.heap[D]? = some o) : QLv w0 ((D, o) :: K) g s fs W := by
  obtain ⟨M, k1, k2, k3, k4⟩ := h
  refine ⟨M, k1.new hb, k2, k3.trans (hb.mono k3.size), fun p hp => ?_⟩
  rcases List.mem_cons.1 hp with rfl | hp
  · exact ⟨hK, fun h => by have := k1.lt _ h; simp at this; omega⟩
  · exact ⟨(hb.block _ (Array.getElem?_eq_some_iff.1 (k4 p hp).1).1).trans (k4 p hp).1, (k4 p hp).2⟩
theorem lhand0 {w0 w : World} {K : List (Nat × Obj)} {g : Nat} {s : QR} (h : QLv w0 K g s [] w) (now : Int) :
    Calls Try.prog 12 #[.pointer (some ⟨g, 0, none⟩), .int .i64 now] w fun e w' => e = .returned (.tuple #[.slice none 0 0, .bool false]) ∧ w = w' := by
  obtain ⟨M, h1, _⟩ := h
  exact qhand h1 now (by simp) (by simp)
theorem lanswer_no {w0 w : World} {K : List (Nat × Obj)} {g : Nat} {s : QR} {fs : List Frm} (h : QLv w0 K g s fs w) (ok : Bool) (now : Int) (hs : s.sink = false) :
    Calls Try.prog 14 #[.pointer (some ⟨g, 0, none⟩), .bool ok, .int .i64 now] w fun e w' => e = .returned (.int .i64 7) ∧ QLv w0 K g s fs w' := by
  obtain ⟨M, h1, h2, h3, h4⟩ := h
  refine (qanswer_no h1 ok now hs).mono ?_
  intro e w' hp
  unfold AnsP ansR at hp
  rw [if_pos hs] at hp
  exact ⟨hp.1, QLv.to h2 h3 h4 ⟨M, hp.2.1, hp.2.2, fun _ h => .inl h⟩⟩
theorem ldropped {w0 w : World} {K : List (Nat × Obj)} {g : Nat} {s : QR} {fs : List Frm} (h : QLv w0 K g s fs w) : Calls Try.prog 22 #[.pointer (some ⟨g, 0, none⟩)] w fun e w' => e = .returned (.int .i64 s.dropped) ∧ w = w' := by
  obtain ⟨M, h1, _⟩ := h
  exact qdropped h1
set_option maxHeartbeats 1000000 in
set_option maxRecDepth 100000 in
theorem queueNil_any (w : World) : Calls Try.prog 6 #[] w fun e w' => e = .returned (.bool true) ∧ Below w.heap.size w w' := by
  refine (callsIn_wide (n := 8)).1 ?_
  refine callsIn_of_wp_marks Try.func6 rfl trivial ?_ rfl
  simp only [Try.ntmps6, List.size_toArray, List.length_nil, Nat.reduceSub, Array.replicate_succ, Array.replicate_zero, List.push_toArray, List.append_toArray, List.nil_append, List.cons_append]
  refine wpIn_wide.2 ?_
  have HZ := Lib.hid (QLv.zero w (.cells #[.bool false] 4))
  go_wp2_with fail
  refine (record_any _ 0).mono ?_
  rintro e w1 ⟨b1, rfl, -, -, hb1⟩
  have h1 := HZ.out.step hb1
  have H1 := Lib.hid h1
  clear HZ hb1 h1
  go_wp2_with fail
  refine (nput w1 _ _).mono ?_
  rintro e w2 ⟨rfl, rfl⟩
  go_wp2_with fail
  refine (record_any _ 0).mono ?_
  rintro e w3 ⟨b3, rfl, -, hr3, hb3⟩
  have h3 := H1.out.step hb3
  have HP := Lib.hid (lput h3 0 (some ⟨b3, 0, none⟩) 1 [recA 0] (by simp) (by omega) (by simp) (by simp) hr3 (fun x hx => by simp at hx; subst hx; exact (recA_fit 0 (by omega)).1) (by decide) (by decide) (by decide))
  rw [putR_z0] at HP
  clear H1 hb3 h3 hr3
  go_wp2_with fail
  refine HP.out.mono ?_
  rintro e w4 ⟨rfl, h4⟩
  have HP2 := Lib.hid (lput h4 0 none 0 [] (by simp) (by omega) (by simp) (fun _ => rfl) (Rd.nil _ _) (by simp) (by decide) (by decide) (by decide))
  rw [putR_z1] at HP2
  clear h4 HP
  go_wp2_with fail
  refine HP2.out.mono ?_
  rintro e w5 ⟨rfl, h5⟩
  have H5 := Lib.hid h5
  clear h5 HP2
  go_wp2_with fail
  refine (nhand w5 0).mono ?_
  rintro e w6 ⟨rfl, rfl⟩
  go_wp2_with fail
  refine (lhand0 H5.out 0).mono ?_
  rintro e w6 ⟨rfl, rfl⟩
  go_wp2_with fail
  refine (nnext w5).mono ?_
  rintro e w6 ⟨rfl, rfl⟩
  go_wp2_with fail
  refine (nall w5).mono ?_
  rintro e w6 ⟨rfl, -, hb6⟩
  have H6 := Lib.hid (H5.out.step hb6)
  clear hb6
  have hne := all_not_nil w6 (.pointer (some ⟨w5.heap.size, 0, none⟩))
  go_wp2_with fail
  clear hne
  refine (nall w6).mono ?_
  rintro e w7 ⟨rfl, hc7, hb7⟩
  have HC7 := Lib.hid hc7
  have H7 := Lib.hid (H6.out.step hb7)
  have HS7 := Lib.hid (World.block_lt_of_cell? w7 _ hc7)
  clear hb7 hc7
  go_wp2_with fail
  refine wp_rangeFunc_none (gf := 46) (lb := #[.pointer (some ⟨w6.heap.size, 0, none⟩)]) rfl (enters_of Try.func46 (by kernel_rfl) rfl) (fun l W hW => all1_nil l w6.heap.size W ((hW.cell (p := ⟨w6.heap.size, 0, none⟩) HS7.out).trans HC7.out)) ?_
  intro D W hD hB hK
  have H8 := Lib.hid (H7.out.add hB hD hK)
  have HD := Lib.hid (show w.heap.size ≤ D by have := H7.out.bel.size; omega)
  clear hB hK hD H7 HC7
  go_wp2_with fail
  refine (nanswer W true 0).mono ?_
  rintro e w8 ⟨rfl, rfl⟩
  go_wp2_with fail
  refine (lanswer_no H8.out true 0 rfl).mono ?_
  rintro e w9 ⟨rfl, h9⟩
  have H9 := Lib.hid h9
  clear h9
  go_wp2_with fail
  refine (nsink w9).mono ?_
  rintro e w10 ⟨rfl, rfl⟩
  go_wp2_with fail
  refine (nwaiting w9).mono ?_
  rintro e w10 ⟨rfl, rfl⟩
  go_wp2_with fail
  refine (ntries w9).mono ?_
  rintro e w10 ⟨rfl, rfl⟩
  go_wp2_with fail
  refine (nacked w9).mono ?_
  rintro e w10 ⟨rfl, rfl⟩
  go_wp2_with fail
  refine (ndropped w9).mono ?_
  rintro e w10 ⟨rfl, rfl⟩
  go_wp2_with fail
  refine (show Calls Try.prog 22 #[.pointer (some ⟨w.heap.size + 1, 0, none⟩)] w9 fun e w' => e = .returned (.int .i64 1) ∧ w9 = w' from ldropped H9.out).mono ?_
  rintro e w10 ⟨rfl, rfl⟩
  go_wp2_with fail
  refine (ncopy w9).mono ?_
  rintro e w10 ⟨rfl, rfl⟩
  go_wp2_with fail
  refine (nsame0 w9).mono ?_
  rintro e w10 ⟨rfl, rfl⟩
  go_wp2_with fail
  refine (nsame1 w9 _).mono ?_
  rintro e w10 ⟨rfl, rfl⟩
  go_wp2_with fail
  refine (nsame2 w9 _).mono ?_
  rintro e w10 ⟨rfl, rfl⟩
  go_wp2_with fail
  refine (new_any w9 (-1) 0 (-5)).mono ?_
  rintro e w10 ⟨rfl, hx1, hxb1⟩
  have HX1 := Lib.hid hx1
  have HXB1 := Lib.hid hxb1
  clear hx1 hxb1
  go_wp2_with fail
  refine (new_any w10 0 1 1).mono ?_
  rintro e w11 ⟨rfl, hx2, hxb2⟩
  have HSM := Lib.hid (qsame_empty w11 w9.heap.size w10.heap.size (newQ 0 1 1) ((hxb2.block _ (Array.getElem?_eq_some_iff.1 HX1.out).1).trans HX1.out) hx2)
  have HXB2 := Lib.hid (HXB1.out.trans (hxb2.mono HXB1.out.size))
  clear hx2 hxb2 HX1 HXB1
  go_wp2_with fail
  refine HSM.out.mono ?_
  rintro e w12 ⟨rfl, hb12⟩
  have HB12 := Lib.hid (HXB2.out.trans (hb12.mono HXB2.out.size))
  clear hb12 HXB2 HSM
  go_wp2_with fail
  refine (known_any w12).mono ?_
  rintro e w13 ⟨rfl, hb13⟩
  have h13 := H9.out.step (HB12.out.trans (hb13.mono HB12.out.size))
  have hR := h13.keeps (p := (w.heap.size, Obj.cells #[.bool false] 4)) (by simp)
  have cR : w13.cell? ⟨w.heap.size, 0, none⟩ = some (.bool false) := by rw [cell_of_row _ _ _ _ _ _ hR]; rfl
  have zR : w13.frozen? ⟨w.heap.size, 0, none⟩ = false := frozen_of_row w13 _ 0 _ _ hR
  have HR := Lib.hid hR
  have HK := Lib.hid (h13.keeps (p := (D, Obj.deferred (some []))) (by simp))
  have HBE := Lib.hid h13.bel
  clear h13 hR hb13 HB12 H9
  go_wp2_with fail
  have hDR : D ≠ w.heap.size := fun e => by
    have h1 := HR.out
    have h2 := HK.out
    simp only [e] at h1 h2
    rw [h1] at h2
    cases h2
  have hK2 : (w13.setCell ⟨w.heap.size, 0, none⟩ (.bool true)).heap[D]? = some (.deferred (some [])) := (Below.heap_setCell _ _ _ _ hDR).trans HK.out
  refine ⟨by simp, .inl ⟨_, _, rfl, run_takeDeferred hK2, ?_⟩⟩
  have hR2 : ((w13.setCell ⟨w.heap.size, 0, none⟩ (.bool true)).putObj D (.deferred none)).heap[w.heap.size]? = some (.cells #[.bool true] 4 (0, 0)) := by
    rw [World.putObj_heap_other (fun e => hDR e.symm), heap_setCell_same _ _ _ _ _ _ HR.out]
    rfl
  have hcR : ((w13.setCell ⟨w.heap.size, 0, none⟩ (.bool true)).putObj D (.deferred none)).cell? ⟨w.heap.size, 0, none⟩ = some (.bool true) := by rw [cell_of_row _ _ _ _ _ _ hR2]; rfl
  refine ⟨.bool true, ?_, rfl, ?_⟩
  · simp [results, Try.results6, go_sem, hcR]
  · exact (HBE.out.setCell (p := ⟨w.heap.size, 0, none⟩) (Nat.le_refl _) (.bool true)).grown (grownBy_putObj' _ D (.deferred none)) (by have := HBE.out.size; simp; omega) (fun k e => by cases e; exact HD.out)
end Go.Proofs.Ytdomnjakhecbaaa
