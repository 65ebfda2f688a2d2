/- The reference's net: the walks over Dial, Close, Copy. -/
import Derived.Test.YtepdnmpcccgcaaaNtG
namespace Go.Proofs.Ytepdnmpcccgcaaa
open Go.RowKit K
theorem flat_take {α : Type} (f : α → List Value) (n : Nat) (hn : ∀ x, (f x).length = n) : ∀ (L : List α) (k : Nat), (L.flatMap f).take (k * n) = (L.take k).flatMap f
  | [], k => by simp
  | y :: t, 0 => by simp
  | y :: t, k + 1 => by
    have e : (k + 1) * n = (f y).length + k * n := by rw [hn, Nat.add_mul]; omega
    rw [List.flatMap_cons, e, List.take_length_add_append, flat_take f n hn t k, List.take_succ_cons, List.flatMap_cons]
theorem flat_drop {α : Type} (f : α → List Value) (n : Nat) (hn : ∀ x, (f x).length = n) : ∀ (L : List α) (k : Nat), (L.flatMap f).drop (k * n) = (L.drop k).flatMap f
  | [], k => by simp
  | y :: t, 0 => by simp
  | y :: t, k + 1 => by
    have e : (k + 1) * n = (f y).length + k * n := by rw [hn, Nat.add_mul]; omega
    rw [List.flatMap_cons, e, List.drop_length_add_append, flat_drop f n hn t k, List.drop_succ_cons]
theorem wrap_one {k : Nat} (h : k ≤ 1000000) : IntKind.i64.wrap ((k : Int) + 1) = (k : Int) + 1 := by
  have hm : ((k : Int) + 1) % 18446744073709551616 = (k : Int) + 1 := by omega
  unfold IntKind.wrap
  simp [IntKind.bits, IntKind.signed, hm]
  omega
def rdel (id : Int) : List RC → List RC
  | [] => []
  | v :: r => if id = v.id then r else v :: rdel id r
theorem rdel_first {x : Int} : ∀ {L : List RC} {k : Nat}, FirstAt x L k → rdel x L = L.take k ++ L.drop (k + 1)
  | [], k, ⟨h, _⟩ => by simp at h
  | y :: t, 0, ⟨_, h, _⟩ => by
    have : y.id = x := h
    simp [rdel, this]
  | y :: t, k + 1, ⟨h1, h2, h3⟩ => by
    have hx : ¬ x = y.id := fun e => h3 y (by simp) e.symm
    have ih := rdel_first (x := x) (L := t) (k := k) ⟨by simpa using h1, by simpa using h2, fun u hu => h3 u (by rw [List.take_succ_cons]; exact List.mem_cons_of_mem _ hu)⟩
    simp only [rdel, if_neg hx, ih, List.take_succ_cons, List.drop_succ_cons, List.cons_append]
section
variable {w : World} {B r : Nat} {most dial : Int} {L : List RC} {G : Nat → Prop}
/-- Behind the store of a new row. -/
theorem rf_cut {W : World} {L' : List RC} {v : Value} {n : Nat} {xs : List Value} (h : RfIs w B r most dial L G) (hB : B ≤ w.heap.size) (hb : Below w.heap.size w W) (ho : W.ownsRow w.heap.size 74 6 v n xs) (hn : n = L'.length) (hx : xs = rcf L') : RfTo w B r most dial L' G (W.setCell ⟨r, 0, none⟩ v) := by
  subst hn hx
  have hr := (h.in r h.mem).2
  obtain ⟨a, c, hbx, -⟩ := h.shape
  have hbW : W.heap[r]? = some (.cells #[.slice a L.length c, .int .i64 most, .int .i64 dial] 66 (0, 0)) := keeph hb hbx
  have hov : ∀ b, v.ownBlock = some b → w.heap.size ≤ b ∧ b < W.heap.size := ho.lt
  refine ⟨fun k => k = r ∨ v.ownBlock = some k, ⟨v, ?_, own_base (D := w.heap.size) ?_ hB, fun b e => ⟨.inr e, fun e2 => by have := (hov b e).1; omega⟩, .inl rfl, fun k hk => ?_⟩, ?_, fun k hk => ?_⟩
  · rw [heap_setCell_same _ _ _ _ _ _ hbW]
    rfl
  · exact ((Only.refl (fun k => k = r) W).setCell ⟨r, 0, none⟩ v (fun _ => rfl)).own ho (fun b e e2 => by have := (hov b e).1; have e2 : b = r := e2; omega)
  · rcases hk with rfl | hk
    · exact ⟨(h.in k h.mem).1, by rw [World.size_setCell]; exact Nat.lt_of_lt_of_le hr hb.size⟩
    · exact ⟨by have := (hov k hk).1; omega, by rw [World.size_setCell]; exact (hov k hk).2⟩
  · exact (Only.of_new hb).setCell ⟨r, 0, none⟩ v (fun _ => h.mem)
  · rcases hk with rfl | hk
    · exact .inl h.mem
    · exact .inr (hov k hk).1
def RfCopy (w : World) (most dial : Int) (L : List RC) (e : Ending) (w' : World) : Prop := ∃ r G, e = .returned (.pointer (some ⟨r, 0, none⟩)) ∧ RfIs w' w.heap.size r most dial L G ∧ Below w.heap.size w w'
set_option maxHeartbeats 1000000 in
set_option maxRecDepth 100000 in
theorem rfcopy_any (h : RfIs w B r most dial L G) (hl : L.length ≤ 100000) : Calls Try.prog 19 #[.pointer (some ⟨r, 0, none⟩)] w (RfCopy w most dial L) := by
  obtain ⟨i0, hi, hz0, hz1, hz2⟩ := info_parts info_rc
  obtain ⟨a, c, hb, hcl, hr, -⟩ := h.shape
  have C0 := Lib.hid (show w.cell? ⟨r, 0, none⟩ = some (.slice a L.length c) by rw [cell_of_row _ _ _ _ _ _ hb]; rfl)
  have C1 := Lib.hid (show w.cell? ⟨r, 1, none⟩ = some (.int .i64 most) by rw [cell_of_row _ _ _ _ _ _ hb]; rfl)
  have C2 := Lib.hid (show w.cell? ⟨r, 2, none⟩ = some (.int .i64 dial) by rw [cell_of_row _ _ _ _ _ _ hb]; rfl)
  have HR := Lib.hid hr
  have HO := Lib.hid (rcf_one L)
  have HLN := Lib.hid (show (rcf L).length = L.length * 6 by rw [rcf_length, Nat.mul_comm])
  clear h hb hr
  go_enter Try.func19, Try.ntmps19
  go_wp2_with fail
  refine wp_region_noPanic ?_
  refine wp_region_held_drew (S := (fun w' => Below w.heap.size w w')) (by kernel_rfl) ?_ (fun hHeld => ?_)
  · exact drew_below _
  refine wpAnyH_take (i := 0) (oi := _) (v := ?_) rfl (by kernel_rfl) (by kernel_rfl) (by kernel_rfl) (fun _ _ _ h => h) (Or.inl ⟨by rfl, ?_⟩) (by assumption) ?_
  rotate_left 1
  · (intro w hSw; (try dsimp only at hSw); go_simp; (try with_reducible rfl))
  try simp only [Act.put, List.getElem_toArray, List.getElem_cons_zero, List.setIfInBounds_toArray, List.set_cons_zero, List.set_cons_succ]
  refine wpAnyH_take (i := 1) (oi := _) (v := ?_) rfl (by kernel_rfl) (by kernel_rfl) (by kernel_rfl) (fun _ _ _ h => h) (Or.inl ⟨by rfl, ?_⟩) (by assumption) ?_
  rotate_left 1
  · (intro w hSw; (try dsimp only at hSw); go_simp; (try with_reducible rfl))
  try simp only [Act.put, List.getElem_toArray, List.getElem_cons_succ, List.getElem_cons_zero, List.setIfInBounds_toArray, List.set_cons_zero, List.set_cons_succ]
  refine wpAnyH_take (i := 2) (oi := _) (v := ?_) rfl (by kernel_rfl) (by kernel_rfl) (by kernel_rfl) (fun _ _ _ h => h) (Or.inl ⟨by rfl, ?_⟩) (by assumption) ?_
  rotate_left 1
  · (intro w hSw; (try dsimp only at hSw); go_simp; (try with_reducible rfl))
  try simp only [Act.put, List.getElem_toArray, List.getElem_cons_succ, List.getElem_cons_zero, List.setIfInBounds_toArray, List.set_cons_zero, List.set_cons_succ]
  refine wpAnyH_take (i := 3) (oi := _) (v := ?_) rfl (by kernel_rfl) (by kernel_rfl) (by kernel_rfl) (fun _ _ _ h => h) (Or.inl ⟨by rfl, ?_⟩) (by assumption) ?_
  rotate_left 1
  · (intro w hSw; (try dsimp only at hSw); (have q := keepc hSw C0.out; go_simp); (try with_reducible rfl))
  try simp only [Act.put, List.getElem_toArray, List.getElem_cons_succ, List.getElem_cons_zero, List.setIfInBounds_toArray, List.set_cons_zero, List.set_cons_succ]
  refine wpAnyH_take (i := 5) (oi := _) (v := ?_) rfl (by kernel_rfl) (by kernel_rfl) (by kernel_rfl) (fun _ _ _ h => h) (Or.inl ⟨by rfl, ?_⟩) (by assumption) ?_
  rotate_left 1
  · (intro w hSw; (try dsimp only at hSw); go_simp; (try with_reducible rfl))
  try simp only [Act.put, List.getElem_toArray, List.getElem_cons_succ, List.getElem_cons_zero, List.setIfInBounds_toArray, List.set_cons_zero, List.set_cons_succ]
  refine wpAnyH_take (i := 6) (oi := _) (v := ?_) rfl (by kernel_rfl) (by kernel_rfl) (by kernel_rfl) (fun _ _ _ h => h) (Or.inl ⟨by rfl, ?_⟩) (by assumption) ?_
  rotate_left 1
  · (intro w hSw; (try dsimp only at hSw); go_simp; (try with_reducible rfl))
  try simp only [Act.put, List.getElem_toArray, List.getElem_cons_succ, List.getElem_cons_zero, List.setIfInBounds_toArray, List.set_cons_zero, List.set_cons_succ]
  refine wpAnyH_take (i := 7) (oi := _) (v := ?_) rfl (by kernel_rfl) (by kernel_rfl) (by kernel_rfl) (fun _ _ _ h => h) (Or.inl ⟨by rfl, ?_⟩) (by assumption) ?_
  rotate_left 1
  · (intro w hSw; (try dsimp only at hSw); go_simp; (try with_reducible rfl))
  try simp only [Act.put, List.getElem_toArray, List.getElem_cons_succ, List.getElem_cons_zero, List.setIfInBounds_toArray, List.set_cons_zero, List.set_cons_succ]
  refine wpAnyH_take (i := 8) (oi := _) (v := ?_) rfl (by kernel_rfl) (by kernel_rfl) (by kernel_rfl) (fun _ _ _ h => h) (Or.inl ⟨by rfl, ?_⟩) (by assumption) ?_
  rotate_left 1
  · (intro w hSw; (try dsimp only at hSw); (have q := keepc hSw C1.out; go_simp); (try with_reducible rfl))
  try simp only [Act.put, List.getElem_toArray, List.getElem_cons_succ, List.getElem_cons_zero, List.setIfInBounds_toArray, List.set_cons_zero, List.set_cons_succ]
  refine wpAnyH_take (i := 9) (oi := _) (v := ?_) rfl (by kernel_rfl) (by kernel_rfl) (by kernel_rfl) (fun _ _ _ h => h) (Or.inl ⟨by rfl, ?_⟩) (by assumption) ?_
  rotate_left 1
  · (intro w hSw; (try dsimp only at hSw); go_simp; (try with_reducible rfl))
  try simp only [Act.put, List.getElem_toArray, List.getElem_cons_succ, List.getElem_cons_zero, List.setIfInBounds_toArray, List.set_cons_zero, List.set_cons_succ]
  refine wpAnyH_take (i := 10) (oi := _) (v := ?_) rfl (by kernel_rfl) (by kernel_rfl) (by kernel_rfl) (fun _ _ _ h => h) (Or.inl ⟨by rfl, ?_⟩) (by assumption) ?_
  rotate_left 1
  · (intro w hSw; (try dsimp only at hSw); go_simp; (try with_reducible rfl))
  try simp only [Act.put, List.getElem_toArray, List.getElem_cons_succ, List.getElem_cons_zero, List.setIfInBounds_toArray, List.set_cons_zero, List.set_cons_succ]
  refine wpAnyH_take (i := 11) (oi := _) (v := ?_) rfl (by kernel_rfl) (by kernel_rfl) (by kernel_rfl) (fun _ _ _ h => h) (Or.inl ⟨by rfl, ?_⟩) (by assumption) ?_
  rotate_left 1
  · (intro w hSw; (try dsimp only at hSw); go_simp; (try with_reducible rfl))
  try simp only [Act.put, List.getElem_toArray, List.getElem_cons_succ, List.getElem_cons_zero, List.setIfInBounds_toArray, List.set_cons_zero, List.set_cons_succ]
  refine wpAnyH_take (i := 12) (oi := _) (v := ?_) rfl (by kernel_rfl) (by kernel_rfl) (by kernel_rfl) (fun _ _ _ h => h) (Or.inl ⟨by rfl, ?_⟩) (by assumption) ?_
  rotate_left 1
  · (intro w hSw; (try dsimp only at hSw); (have q := keepc hSw C2.out; go_simp); (try with_reducible rfl))
  try simp only [Act.put, List.getElem_toArray, List.getElem_cons_succ, List.getElem_cons_zero, List.setIfInBounds_toArray, List.set_cons_zero, List.set_cons_succ]
  refine wpAnyH_ready (rs := [4]) (by kernel_rfl) (by simp) ?_
  refine AllReadyH.cons (o := _) rfl (fun K hK => ?_) AllReadyH.nil
  refine rstep_append_any (by kernel_rfl) _ _ 64 rfl w.heap.size 74 i0 _ 6 72 Try.underlying64 hi hz0 hz1 hz2 rfl (by decide) (.slice none 0 0) 0 [] rfl (World.ownsRow_nil _ _ _ _) a L.length c _ rfl HLN.out (HR.out.below hHeld (Nat.le_refl _)) HO.out (by unfold maxLen; omega) (by omega) hHeld.size ?_
  rintro v1 w1 ⟨o1, g1, -⟩
  have hb1 := hHeld.grown g1 hHeld.size (fun b e => by cases e)
  rw [Nat.zero_add, List.nil_append] at o1
  obtain ⟨a1, c1, rfl, -, -, -⟩ := own_cells o1
  refine hK.out _ _ ?_ (fun hHeld4 => ?_)
  · exact hb1
  clear hK K
  try simp only [Act.put, List.getElem_toArray, List.getElem_cons_succ, List.getElem_cons_zero, List.setIfInBounds_toArray, List.set_cons_zero, List.set_cons_succ]
  refine wpAnyH_take (i := 13) (oi := _) (v := ?_) rfl (by kernel_rfl) (by kernel_rfl) (by kernel_rfl) (fun _ _ _ h => h) (Or.inl ⟨by rfl, ?_⟩) (by assumption) ?_
  rotate_left 1
  · (intro w hSw; (try dsimp only at hSw); go_simp; (try with_reducible rfl))
  try simp only [Act.put, List.getElem_toArray, List.getElem_cons_succ, List.getElem_cons_zero, List.setIfInBounds_toArray, List.set_cons_zero, List.set_cons_succ]
  refine wpAnyH_ready (rs := [14]) (by kernel_rfl) (by simp) ?_
  refine AllReadyH.cons (o := _) rfl (fun K hK => ?_) AllReadyH.nil
  go_simp
  refine hK.out _ _ ?_ (fun hHeld14 => ?_)
  · exact hb1.alloc hb1.size _
  clear hK K
  try simp only [Act.put, List.getElem_toArray, List.getElem_cons_succ, List.getElem_cons_zero, List.setIfInBounds_toArray, List.set_cons_zero, List.set_cons_succ]
  refine wpAnyH_take (i := 15) (oi := _) (v := ?_) rfl (by kernel_rfl) (by kernel_rfl) (by kernel_rfl) (fun _ _ _ h => h) (Or.inl ⟨by rfl, ?_⟩) (by assumption) ?_
  rotate_left 1
  · (intro w hSw; (try dsimp only at hSw); go_simp; (try with_reducible rfl))
  try simp only [Act.put, List.getElem_toArray, List.getElem_cons_succ, List.getElem_cons_zero, List.setIfInBounds_toArray, List.set_cons_zero, List.set_cons_succ]
  refine wpAnyH_done (by kernel_rfl) ?_ _
  refine NoPanic.normal ?_
  have HF := Lib.hid (show RfCopy w most dial L (.returned (.pointer (some ⟨w1.heap.size, 0, none⟩))) (w1.alloc (.cells #[.slice a1 L.length c1, .int .i64 most, .int .i64 dial] 66)) from ⟨_, fun k => k = w1.heap.size ∨ (Value.slice a1 L.length c1).ownBlock = some k, rfl, ⟨.slice a1 L.length c1, heap_alloc_new w1 _, ((Only.refl (fun _ => False) w1).alloc (.cells #[.slice a1 L.length c1, .int .i64 most, .int .i64 dial] 66)).own o1 (fun _ _ h => h), fun b e => ⟨.inr e, fun e2 => by have := (o1.lt b e).2; omega⟩, .inl rfl, fun k hk => by
    rcases hk with rfl | hk
    · exact ⟨hb1.size, by simp⟩
    · have := o1.lt k hk; exact ⟨this.1, by simp; omega⟩⟩, hb1.alloc hb1.size _⟩)
  go_wp2
  go_ret
  exact HF.out
set_option maxHeartbeats 1000000 in
theorem rdial_full (h : RfIs w B r most dial L G) (host : ByteArray) (hfull : most ≤ (L.length : Int)) :
    Calls Try.prog 33 #[.pointer (some ⟨r, 0, none⟩), .string host] w fun e w' => e = .returned (.tuple #[.int .i64 0, .int .i64 6]) ∧ RfTo w B r most dial L G w' := by
  obtain ⟨a, c, hb, hcl, hr, -⟩ := h.shape
  have c0 : w.cell? ⟨r, 0, none⟩ = some (.slice a L.length c) := by rw [cell_of_row _ _ _ _ _ _ hb]; rfl
  have c1 : w.cell? ⟨r, 1, none⟩ = some (.int .i64 most) := by rw [cell_of_row _ _ _ _ _ _ hb]; rfl
  have H := Lib.hid h
  clear h hb hr
  go_enter Try.func33, Try.ntmps33
  go_wp2_with fail
  go_quiet (fail)
  go_wp2
  go_ret2
  exact ⟨rfl, RfTo.same H.out (below_drewN (Below.refl _ _) _)⟩
theorem RfIs.dialed (h : RfIs w B r most dial L G) (n : Nat) (d : Int) : RfIs ((w.drewN n).setCell ⟨r, 2, none⟩ (.int .i64 d)) B r most d L G ∧ Only G w ((w.drewN n).setCell ⟨r, 2, none⟩ (.int .i64 d)) := by
  obtain ⟨v, h1, h2, h3, h4, h5⟩ := h
  have ho : Only (· = r) (w.drewN n) ((w.drewN n).setCell ⟨r, 2, none⟩ (.int .i64 d)) := (Only.refl _ _).setCell _ _ (fun _ => rfl)
  refine ⟨⟨v, ?_, ho.own h2 (fun k hk e => (h3 k hk).2 e), h3, h4, fun k hk => by rw [World.size_setCell]; exact h5 k hk⟩, ((Only.refl G w).drewN n).setCell _ _ (fun _ => h4)⟩
  rw [heap_setCell_same (w.drewN n) r 2 _ _ _ h1]
  rfl
set_option maxHeartbeats 4000000 in
set_option maxRecDepth 100000 in
theorem rdial_any (h : RfIs w B r most dial L G) (hB : B ≤ w.heap.size) (host : ByteArray) (hroom : (L.length : Int) < most) (hl : L.length ≤ 100000) (hd : 0 ≤ dial) (hd2 : dial ≤ 1000000) :
    Calls Try.prog 33 #[.pointer (some ⟨r, 0, none⟩), .string host] w fun e w' => e = .returned (.tuple #[.int .i64 (dial + 1), .int .i64 0]) ∧ RfTo w B r most (dial + 1) (L ++ [⟨dial + 1, host, 1, ⟨#[]⟩, 0, ⟨#[]⟩⟩]) G w' := by
  obtain ⟨i0, hi, hz0, hz1, hz2⟩ := info_parts info_rc
  obtain ⟨a, c, hb, hcl, hr, -⟩ := h.shape
  have c0 : w.cell? ⟨r, 0, none⟩ = some (.slice a L.length c) := by rw [cell_of_row _ _ _ _ _ _ hb]; rfl
  have c1 : w.cell? ⟨r, 1, none⟩ = some (.int .i64 most) := by rw [cell_of_row _ _ _ _ _ _ hb]; rfl
  have c2 : w.cell? ⟨r, 2, none⟩ = some (.int .i64 dial) := by rw [cell_of_row _ _ _ _ _ _ hb]; rfl
  have f2 : w.frozen? ⟨r, 2, none⟩ = false := frozen_of_row _ _ _ _ _ hb
  have H := Lib.hid h
  clear h hb hr
  go_enter Try.func33, Try.ntmps33
  go_wp2_with fail
  go_quiet (fail)
  go_wp2_with fail
  obtain ⟨wb, hwb⟩ : ∃ u, u = (w.drewN nq).setCell ⟨r, 2, none⟩ (.int .i64 (dial + 1)) := ⟨_, rfl⟩
  obtain ⟨h2, h2o⟩ := H.out.dialed nq (dial + 1)
  rw [← hwb] at h2 h2o ⊢
  have hwz : wb.heap.size = w.heap.size := by rw [hwb]; simp
  obtain ⟨a, c, hb, hcl, hr, -⟩ := h2.shape
  have C0 := Lib.hid (show wb.cell? ⟨r, 0, none⟩ = some (.slice a L.length c) by rw [cell_of_row _ _ _ _ _ _ hb]; rfl)
  have C2 := Lib.hid (show wb.cell? ⟨r, 2, none⟩ = some (.int .i64 (dial + 1)) by rw [cell_of_row _ _ _ _ _ _ hb]; rfl)
  have F0 := Lib.hid (show wb.frozen? ⟨r, 0, none⟩ = false from frozen_of_row _ _ _ _ _ hb)
  have HR := Lib.hid hr
  have HO := Lib.hid (rcf_one L)
  have HONE := Lib.hid (show ∀ u ∈ rcc ⟨dial + 1, host, 1, ⟨#[]⟩, 0, ⟨#[]⟩⟩, u.oneCell' = true from by intro u hu; simp only [rcc, List.mem_cons, List.not_mem_nil, or_false] at hu; rcases hu with rfl | rfl | rfl | rfl | rfl | rfl <;> rfl)
  have HLN := Lib.hid (show (rcf L).length = L.length * 6 by rw [rcf_length, Nat.mul_comm])
  have HRL := Lib.hid (h2.in r h2.mem).2
  have HCUT := Lib.hid (fun (W : World) (v : Value) (n : Nat) (xs : List Value) (hb : Below wb.heap.size wb W) (ho : W.ownsRow wb.heap.size 74 6 v n xs) (hn : n = 0 + L.length + 1) (hx : xs = ([] ++ rcf L) ++ rcc ⟨dial + 1, host, 1, ⟨#[]⟩, 0, ⟨#[]⟩⟩) => (show RfTo w B r most (dial + 1) (L ++ [⟨dial + 1, host, 1, ⟨#[]⟩, 0, ⟨#[]⟩⟩]) G (W.setCell ⟨r, 0, none⟩ v) from
    RfTo.trans h2o (fun k hk => .inl hk) (rf_cut h2 (by omega) hb ho (by rw [hn, List.length_append]; simp) (by rw [hx, rcf_app]; simp [rcf]))))
  clear hwb h2 h2o hb hr c0 c1 c2 f2 H
  refine wp_region_noPanic ?_
  refine wp_region_held_drew (S := (fun w' => ∀ (p : Addr) (u : Value), p ≠ ⟨r, 0, none⟩ → wb.cell? p = some u → w'.cell? p = some u)) (by kernel_rfl) ?_ (fun hHeld => ?_)
  · exact fun _ _ _ h => h
  refine wpAnyH_take (i := 0) (oi := _) (v := ?_) rfl (by kernel_rfl) (by kernel_rfl) (by kernel_rfl) (fun _ _ _ h => h) (Or.inl ⟨by rfl, ?_⟩) (by assumption) ?_
  rotate_left 1
  · (intro w hSw; (try dsimp only at hSw); go_simp; (try with_reducible rfl))
  try simp only [Act.put, List.getElem_toArray, List.getElem_cons_zero, List.setIfInBounds_toArray, List.set_cons_zero, List.set_cons_succ]
  refine wpAnyH_take (i := 1) (oi := _) (v := ?_) rfl (by kernel_rfl) (by kernel_rfl) (by kernel_rfl) (fun _ _ _ h => h) (Or.inl ⟨by rfl, ?_⟩) (by assumption) ?_
  rotate_left 1
  · (intro w hSw; (try dsimp only at hSw); go_simp; (try with_reducible rfl))
  try simp only [Act.put, List.getElem_toArray, List.getElem_cons_succ, List.getElem_cons_zero, List.setIfInBounds_toArray, List.set_cons_zero, List.set_cons_succ]
  refine wpAnyH_take (i := 2) (oi := _) (v := ?_) rfl (by kernel_rfl) (by kernel_rfl) (by kernel_rfl) (fun _ _ _ h => h) (Or.inl ⟨by rfl, ?_⟩) (by assumption) ?_
  rotate_left 1
  · (intro w hSw; (try dsimp only at hSw); go_simp; (try with_reducible rfl))
  try simp only [Act.put, List.getElem_toArray, List.getElem_cons_succ, List.getElem_cons_zero, List.setIfInBounds_toArray, List.set_cons_zero, List.set_cons_succ]
  refine wpAnyH_take (i := 3) (oi := _) (v := ?_) rfl (by kernel_rfl) (by kernel_rfl) (by kernel_rfl) (fun _ _ _ h => h) (Or.inl ⟨by rfl, ?_⟩) (by assumption) ?_
  rotate_left 1
  · (intro w hSw; (try dsimp only at hSw); go_simp; (try with_reducible rfl))
  try simp only [Act.put, List.getElem_toArray, List.getElem_cons_succ, List.getElem_cons_zero, List.setIfInBounds_toArray, List.set_cons_zero, List.set_cons_succ]
  refine wpAnyH_take (i := 6) (oi := _) (v := ?_) rfl (by kernel_rfl) (by kernel_rfl) (by kernel_rfl) (fun _ _ _ h => h) (Or.inl ⟨by rfl, ?_⟩) (by assumption) ?_
  rotate_left 1
  · (intro w hSw; (try dsimp only at hSw); go_simp; (try with_reducible rfl))
  try simp only [Act.put, List.getElem_toArray, List.getElem_cons_succ, List.getElem_cons_zero, List.setIfInBounds_toArray, List.set_cons_zero, List.set_cons_succ]
  refine wpAnyH_take (i := 7) (oi := _) (v := ?_) rfl (by kernel_rfl) (by kernel_rfl) (by kernel_rfl) (fun _ _ _ h => h) (Or.inl ⟨by rfl, ?_⟩) (by assumption) ?_
  rotate_left 1
  · (intro w hSw; (try dsimp only at hSw); go_simp; (try with_reducible rfl))
  try simp only [Act.put, List.getElem_toArray, List.getElem_cons_succ, List.getElem_cons_zero, List.setIfInBounds_toArray, List.set_cons_zero, List.set_cons_succ]
  refine wpAnyH_take (i := 8) (oi := _) (v := ?_) rfl (by kernel_rfl) (by kernel_rfl) (by kernel_rfl) (fun _ _ _ h => h) (Or.inl ⟨by rfl, ?_⟩) (by assumption) ?_
  rotate_left 1
  · (intro w hSw; (try dsimp only at hSw); go_simp; (try with_reducible rfl))
  try simp only [Act.put, List.getElem_toArray, List.getElem_cons_succ, List.getElem_cons_zero, List.setIfInBounds_toArray, List.set_cons_zero, List.set_cons_succ]
  refine wpAnyH_take (i := 9) (oi := _) (v := ?_) rfl (by kernel_rfl) (by kernel_rfl) (by kernel_rfl) (fun _ _ _ h => h) (Or.inl ⟨by rfl, ?_⟩) (by assumption) ?_
  rotate_left 1
  · (intro w hSw; (try dsimp only at hSw); (have q := hSw ⟨r, 2, none⟩ _ (by intro e; cases e) C2.out; go_simp); (try with_reducible rfl))
  try simp only [Act.put, List.getElem_toArray, List.getElem_cons_succ, List.getElem_cons_zero, List.setIfInBounds_toArray, List.set_cons_zero, List.set_cons_succ]
  refine wpAnyH_take (i := 10) (oi := _) (v := ?_) rfl (by kernel_rfl) (by kernel_rfl) (by kernel_rfl) (fun _ _ _ h => h) (Or.inl ⟨by rfl, ?_⟩) (by assumption) ?_
  rotate_left 1
  · (intro w hSw; (try dsimp only at hSw); go_simp; (try with_reducible rfl))
  try simp only [Act.put, List.getElem_toArray, List.getElem_cons_succ, List.getElem_cons_zero, List.setIfInBounds_toArray, List.set_cons_zero, List.set_cons_succ]
  refine wpAnyH_take (i := 11) (oi := _) (v := ?_) rfl (by kernel_rfl) (by kernel_rfl) (by kernel_rfl) (fun _ _ _ h => h) (Or.inl ⟨by rfl, ?_⟩) (by assumption) ?_
  rotate_left 1
  · (intro w hSw; (try dsimp only at hSw); go_simp; (try with_reducible rfl))
  try simp only [Act.put, List.getElem_toArray, List.getElem_cons_succ, List.getElem_cons_zero, List.setIfInBounds_toArray, List.set_cons_zero, List.set_cons_succ]
  have hb0 := drew_below wb
  obtain ⟨ww0, hww0⟩ : ∃ u, u = wb.drew := ⟨_, rfl⟩
  rw [← hww0] at hb0 hHeld
  rw [← hww0]
  clear hww0 hHeld
  refine wpAnyH_ready (rs := [4, 12]) (by kernel_rfl) (by simp) ?_
  refine AllReadyH.cons (o := _) rfl (fun K hK => ?_) (AllReadyH.cons (o := _) rfl (fun K hK => ?_) AllReadyH.nil)
  · have q0 := keepc hb0 C0.out
    go_simp
    refine hK.out _ _ ?_ (fun _ => ?_)
    · exact fun p u hp hu => keepc hb0 hu
    clear hK K q0
    try simp only [Act.put, List.getElem_toArray, List.getElem_cons_succ, List.getElem_cons_zero, List.setIfInBounds_toArray, List.set_cons_zero, List.set_cons_succ]
    refine wpAnyH_ready (rs := [5, 12]) (by kernel_rfl) (by simp) ?_
    refine AllReadyH.cons (o := _) rfl (fun K hK => ?_) (AllReadyH.cons (o := _) rfl (fun K hK => ?_) AllReadyH.nil)
    · refine rstep_append_any (by kernel_rfl) _ _ 64 rfl wb.heap.size 74 i0 _ 6 72 Try.underlying64 hi hz0 hz1 hz2 rfl (by decide) (.slice none 0 0) 0 [] rfl (World.ownsRow_nil _ _ _ _) a L.length c _ rfl HLN.out (HR.out.below hb0 (Nat.le_refl _)) HO.out (by unfold maxLen; omega) (by omega) hb0.size ?_
      rintro v1 ww1 ⟨o1_1, g1, -⟩
      have hb1 := hb0.grown g1 hb0.size (fun b e => by cases e)
      refine hK.out _ _ ?_ (fun _ => ?_)
      · exact fun p u hp hu => keepc hb1 hu
      clear hK K g1
      try simp only [Act.put, List.getElem_toArray, List.getElem_cons_succ, List.getElem_cons_zero, List.setIfInBounds_toArray, List.set_cons_zero, List.set_cons_succ]
      refine wpAnyH_ready (rs := [12]) (by kernel_rfl) (by simp) ?_
      refine AllReadyH.cons (o := _) rfl (fun K hK => ?_) AllReadyH.nil
      go_simp
      obtain ⟨X, hX⟩ : ∃ X, X = ww1.heap.size := ⟨_, rfl⟩
      obtain ⟨ww2, hww2⟩ : ∃ u, u = ww1.alloc (.cells #[.int .i64 (dial + 1), .string host, .int .i64 1, .string ⟨#[]⟩, .int .i64 0, .string ⟨#[]⟩] 74) := ⟨_, rfl⟩
      have hb2 : Below wb.heap.size wb ww2 := by rw [hww2]; exact hb1.alloc hb1.size _
      have hx2 : Rd ww2 (some ⟨X, 0, none⟩) (rcc ⟨dial + 1, host, 1, ⟨#[]⟩, 0, ⟨#[]⟩⟩) := by rw [hX, hww2]; exact Rd.new ww1 _ _ _ _ (fun k u hu => by simpa [rcc] using hu)
      have o1_2 : ww2.ownsRow wb.heap.size 74 6 v1 (0 + L.length) ([] ++ rcf L) := by rw [hww2]; exact ((Only.refl (fun _ => False) ww1).alloc (.cells #[.int .i64 (dial + 1), .string host, .int .i64 1, .string ⟨#[]⟩, .int .i64 0, .string ⟨#[]⟩] 74)).own o1_1 (fun _ _ h => h)
      rw [← hX, ← hww2]
      refine hK.out _ _ ?_ (fun _ => ?_)
      · exact fun p u hp hu => keepc hb2 hu
      clear hK K hX hww2
      try simp only [Act.put, List.getElem_toArray, List.getElem_cons_succ, List.getElem_cons_zero, List.setIfInBounds_toArray, List.set_cons_zero, List.set_cons_succ]
      refine wpAnyH_ready (rs := [13]) (by kernel_rfl) (by simp) ?_
      refine AllReadyH.cons (o := _) rfl (fun K hK => ?_) AllReadyH.nil
      refine rstep_append_any (by kernel_rfl) _ _ 64 rfl wb.heap.size 74 i0 _ 6 72 Try.underlying64 hi hz0 hz1 hz2 rfl (by decide) v1 (0 + L.length) _ rfl o1_2 (some ⟨X, 0, none⟩) 1 1 (rcc ⟨dial + 1, host, 1, ⟨#[]⟩, 0, ⟨#[]⟩⟩) rfl rfl hx2 HONE.out (by unfold maxLen; omega) (by omega) hb2.size ?_
      rintro v2 ww3 ⟨o2, g2, -⟩
      have hb3 := hb2.grown g2 hb2.size (fun b e => (o1_2.lt b e).1)
      obtain ⟨a2, c2, rfl, -, -, -⟩ := own_cells o2
      refine hK.out _ _ ?_ (fun _ => ?_)
      · exact fun p u hp hu => keepc hb3 hu
      clear hK K g2
      try simp only [Act.put, List.getElem_toArray, List.getElem_cons_succ, List.getElem_cons_zero, List.setIfInBounds_toArray, List.set_cons_zero, List.set_cons_succ]
      refine wpAnyH_take (i := 14) (oi := _) (v := ?_) rfl (by kernel_rfl) (by kernel_rfl) (by kernel_rfl) (fun _ _ _ h => h) (Or.inl ⟨by rfl, ?_⟩) (by assumption) ?_
      rotate_left 1
      · (intro w hSw; (try dsimp only at hSw); go_simp; (try with_reducible rfl))
      try simp only [Act.put, List.getElem_toArray, List.getElem_cons_succ, List.getElem_cons_zero, List.setIfInBounds_toArray, List.set_cons_zero, List.set_cons_succ]
      refine wpAnyH_take (i := 15) (oi := _) (v := ?_) rfl (by kernel_rfl) (by kernel_rfl) (by kernel_rfl) (fun _ _ _ h => h) (Or.inl ⟨by rfl, ?_⟩) (by assumption) ?_
      rotate_left 1
      · (intro w hSw; (try dsimp only at hSw); go_simp; (try with_reducible rfl))
      try simp only [Act.put, List.getElem_toArray, List.getElem_cons_succ, List.getElem_cons_zero, List.setIfInBounds_toArray, List.set_cons_zero, List.set_cons_succ]
      refine wpAnyH_ready (rs := [16]) (by kernel_rfl) (by simp) ?_
      refine AllReadyH.cons (o := _) rfl (fun K hK => ?_) AllReadyH.nil
      have q0 := keepc hb3 C0.out
      have f0 : ww3.frozen? ⟨r, 0, none⟩ = false := (World.frozen?_of_block (hb3.block r HRL.out)).trans F0.out
      have HTO := Lib.hid (HCUT.out ww3 _ _ _ hb3 o2 rfl rfl)
      have HBE := Lib.hid hb3
      clear o2 hb3
      go_simp
      refine hK.out _ _ ?_ (fun _ => ?_)
      · exact fun p u hp hu => (World.cell?_setCell_other _ _ _ _ (Ne.symm hp)).trans (keepc HBE.out hu)
      clear hK K q0 f0
      try simp only [Act.put, List.getElem_toArray, List.getElem_cons_succ, List.getElem_cons_zero, List.setIfInBounds_toArray, List.set_cons_zero, List.set_cons_succ]
      refine wpAnyH_done (by kernel_rfl) ?_ _
      refine NoPanic.normal ?_
      have hto := HTO.out
      obtain ⟨G3, t1, t2, t3⟩ := hto
      obtain ⟨a9, c9, hb9, -, -, -⟩ := t1.shape
      have c9' : (ww3.setCell ⟨r, 0, none⟩ (.slice a2 (0 + L.length + 1) c2)).cell? ⟨r, 2, none⟩ = some (.int .i64 (dial + 1)) := by rw [cell_of_row _ _ _ _ _ _ hb9]; rfl
      simp only [Nat.zero_add] at c9'
      clear t1 t2 t3 hb9
      go_wp2
      go_ret2
      exact ⟨rfl, by have h9 := HTO.out; simp only [Nat.zero_add] at h9; exact h9⟩
    · go_simp
      obtain ⟨X, hX⟩ : ∃ X, X = ww0.heap.size := ⟨_, rfl⟩
      obtain ⟨ww1, hww1⟩ : ∃ u, u = ww0.alloc (.cells #[.int .i64 (dial + 1), .string host, .int .i64 1, .string ⟨#[]⟩, .int .i64 0, .string ⟨#[]⟩] 74) := ⟨_, rfl⟩
      have hb1 : Below wb.heap.size wb ww1 := by rw [hww1]; exact hb0.alloc hb0.size _
      have hx1 : Rd ww1 (some ⟨X, 0, none⟩) (rcc ⟨dial + 1, host, 1, ⟨#[]⟩, 0, ⟨#[]⟩⟩) := by rw [hX, hww1]; exact Rd.new ww0 _ _ _ _ (fun k u hu => by simpa [rcc] using hu)
      rw [← hX, ← hww1]
      refine hK.out _ _ ?_ (fun _ => ?_)
      · exact fun p u hp hu => keepc hb1 hu
      clear hK K hX hww1
      try simp only [Act.put, List.getElem_toArray, List.getElem_cons_succ, List.getElem_cons_zero, List.setIfInBounds_toArray, List.set_cons_zero, List.set_cons_succ]
      refine wpAnyH_ready (rs := [5]) (by kernel_rfl) (by simp) ?_
      refine AllReadyH.cons (o := _) rfl (fun K hK => ?_) AllReadyH.nil
      refine rstep_append_any (by kernel_rfl) _ _ 64 rfl wb.heap.size 74 i0 _ 6 72 Try.underlying64 hi hz0 hz1 hz2 rfl (by decide) (.slice none 0 0) 0 [] rfl (World.ownsRow_nil _ _ _ _) a L.length c _ rfl HLN.out (HR.out.below hb1 (Nat.le_refl _)) HO.out (by unfold maxLen; omega) (by omega) hb1.size ?_
      rintro v1 ww2 ⟨o1_2, g1, -⟩
      have hb2 := hb1.grown g1 hb1.size (fun b e => by cases e)
      have hx2 := hx1.below ((Below.refl _ _).grown g1 (Nat.le_refl _) (fun b e => by cases e)) (Nat.le_refl _)
      refine hK.out _ _ ?_ (fun _ => ?_)
      · exact fun p u hp hu => keepc hb2 hu
      clear hK K g1
      try simp only [Act.put, List.getElem_toArray, List.getElem_cons_succ, List.getElem_cons_zero, List.setIfInBounds_toArray, List.set_cons_zero, List.set_cons_succ]
      refine wpAnyH_ready (rs := [13]) (by kernel_rfl) (by simp) ?_
      refine AllReadyH.cons (o := _) rfl (fun K hK => ?_) AllReadyH.nil
      refine rstep_append_any (by kernel_rfl) _ _ 64 rfl wb.heap.size 74 i0 _ 6 72 Try.underlying64 hi hz0 hz1 hz2 rfl (by decide) v1 (0 + L.length) _ rfl o1_2 (some ⟨X, 0, none⟩) 1 1 (rcc ⟨dial + 1, host, 1, ⟨#[]⟩, 0, ⟨#[]⟩⟩) rfl rfl hx2 HONE.out (by unfold maxLen; omega) (by omega) hb2.size ?_
      rintro v2 ww3 ⟨o2, g2, -⟩
      have hb3 := hb2.grown g2 hb2.size (fun b e => (o1_2.lt b e).1)
      obtain ⟨a2, c2, rfl, -, -, -⟩ := own_cells o2
      refine hK.out _ _ ?_ (fun _ => ?_)
      · exact fun p u hp hu => keepc hb3 hu
      clear hK K g2
      try simp only [Act.put, List.getElem_toArray, List.getElem_cons_succ, List.getElem_cons_zero, List.setIfInBounds_toArray, List.set_cons_zero, List.set_cons_succ]
      refine wpAnyH_take (i := 14) (oi := _) (v := ?_) rfl (by kernel_rfl) (by kernel_rfl) (by kernel_rfl) (fun _ _ _ h => h) (Or.inl ⟨by rfl, ?_⟩) (by assumption) ?_
      rotate_left 1
      · (intro w hSw; (try dsimp only at hSw); go_simp; (try with_reducible rfl))
      try simp only [Act.put, List.getElem_toArray, List.getElem_cons_succ, List.getElem_cons_zero, List.setIfInBounds_toArray, List.set_cons_zero, List.set_cons_succ]
      refine wpAnyH_take (i := 15) (oi := _) (v := ?_) rfl (by kernel_rfl) (by kernel_rfl) (by kernel_rfl) (fun _ _ _ h => h) (Or.inl ⟨by rfl, ?_⟩) (by assumption) ?_
      rotate_left 1
      · (intro w hSw; (try dsimp only at hSw); go_simp; (try with_reducible rfl))
      try simp only [Act.put, List.getElem_toArray, List.getElem_cons_succ, List.getElem_cons_zero, List.setIfInBounds_toArray, List.set_cons_zero, List.set_cons_succ]
      refine wpAnyH_ready (rs := [16]) (by kernel_rfl) (by simp) ?_
      refine AllReadyH.cons (o := _) rfl (fun K hK => ?_) AllReadyH.nil
      have q0 := keepc hb3 C0.out
      have f0 : ww3.frozen? ⟨r, 0, none⟩ = false := (World.frozen?_of_block (hb3.block r HRL.out)).trans F0.out
      have HTO := Lib.hid (HCUT.out ww3 _ _ _ hb3 o2 rfl rfl)
      have HBE := Lib.hid hb3
      clear o2 hb3
      go_simp
      refine hK.out _ _ ?_ (fun _ => ?_)
      · exact fun p u hp hu => (World.cell?_setCell_other _ _ _ _ (Ne.symm hp)).trans (keepc HBE.out hu)
      clear hK K q0 f0
      try simp only [Act.put, List.getElem_toArray, List.getElem_cons_succ, List.getElem_cons_zero, List.setIfInBounds_toArray, List.set_cons_zero, List.set_cons_succ]
      refine wpAnyH_done (by kernel_rfl) ?_ _
      refine NoPanic.normal ?_
      have hto := HTO.out
      obtain ⟨G3, t1, t2, t3⟩ := hto
      obtain ⟨a9, c9, hb9, -, -, -⟩ := t1.shape
      have c9' : (ww3.setCell ⟨r, 0, none⟩ (.slice a2 (0 + L.length + 1) c2)).cell? ⟨r, 2, none⟩ = some (.int .i64 (dial + 1)) := by rw [cell_of_row _ _ _ _ _ _ hb9]; rfl
      simp only [Nat.zero_add] at c9'
      clear t1 t2 t3 hb9
      go_wp2
      go_ret2
      exact ⟨rfl, by have h9 := HTO.out; simp only [Nat.zero_add] at h9; exact h9⟩
  · go_simp
    obtain ⟨X, hX⟩ : ∃ X, X = ww0.heap.size := ⟨_, rfl⟩
    obtain ⟨ww1, hww1⟩ : ∃ u, u = ww0.alloc (.cells #[.int .i64 (dial + 1), .string host, .int .i64 1, .string ⟨#[]⟩, .int .i64 0, .string ⟨#[]⟩] 74) := ⟨_, rfl⟩
    have hb1 : Below wb.heap.size wb ww1 := by rw [hww1]; exact hb0.alloc hb0.size _
    have hx1 : Rd ww1 (some ⟨X, 0, none⟩) (rcc ⟨dial + 1, host, 1, ⟨#[]⟩, 0, ⟨#[]⟩⟩) := by rw [hX, hww1]; exact Rd.new ww0 _ _ _ _ (fun k u hu => by simpa [rcc] using hu)
    rw [← hX, ← hww1]
    refine hK.out _ _ ?_ (fun _ => ?_)
    · exact fun p u hp hu => keepc hb1 hu
    clear hK K hX hww1
    try simp only [Act.put, List.getElem_toArray, List.getElem_cons_succ, List.getElem_cons_zero, List.setIfInBounds_toArray, List.set_cons_zero, List.set_cons_succ]
    refine wpAnyH_ready (rs := [4]) (by kernel_rfl) (by simp) ?_
    refine AllReadyH.cons (o := _) rfl (fun K hK => ?_) AllReadyH.nil
    have q0 := keepc hb1 C0.out
    go_simp
    refine hK.out _ _ ?_ (fun _ => ?_)
    · exact fun p u hp hu => keepc hb1 hu
    clear hK K q0
    try simp only [Act.put, List.getElem_toArray, List.getElem_cons_succ, List.getElem_cons_zero, List.setIfInBounds_toArray, List.set_cons_zero, List.set_cons_succ]
    refine wpAnyH_ready (rs := [5]) (by kernel_rfl) (by simp) ?_
    refine AllReadyH.cons (o := _) rfl (fun K hK => ?_) AllReadyH.nil
    refine rstep_append_any (by kernel_rfl) _ _ 64 rfl wb.heap.size 74 i0 _ 6 72 Try.underlying64 hi hz0 hz1 hz2 rfl (by decide) (.slice none 0 0) 0 [] rfl (World.ownsRow_nil _ _ _ _) a L.length c _ rfl HLN.out (HR.out.below hb1 (Nat.le_refl _)) HO.out (by unfold maxLen; omega) (by omega) hb1.size ?_
    rintro v1 ww2 ⟨o1_2, g1, -⟩
    have hb2 := hb1.grown g1 hb1.size (fun b e => by cases e)
    have hx2 := hx1.below ((Below.refl _ _).grown g1 (Nat.le_refl _) (fun b e => by cases e)) (Nat.le_refl _)
    refine hK.out _ _ ?_ (fun _ => ?_)
    · exact fun p u hp hu => keepc hb2 hu
    clear hK K g1
    try simp only [Act.put, List.getElem_toArray, List.getElem_cons_succ, List.getElem_cons_zero, List.setIfInBounds_toArray, List.set_cons_zero, List.set_cons_succ]
    refine wpAnyH_ready (rs := [13]) (by kernel_rfl) (by simp) ?_
    refine AllReadyH.cons (o := _) rfl (fun K hK => ?_) AllReadyH.nil
    refine rstep_append_any (by kernel_rfl) _ _ 64 rfl wb.heap.size 74 i0 _ 6 72 Try.underlying64 hi hz0 hz1 hz2 rfl (by decide) v1 (0 + L.length) _ rfl o1_2 (some ⟨X, 0, none⟩) 1 1 (rcc ⟨dial + 1, host, 1, ⟨#[]⟩, 0, ⟨#[]⟩⟩) rfl rfl hx2 HONE.out (by unfold maxLen; omega) (by omega) hb2.size ?_
    rintro v2 ww3 ⟨o2, g2, -⟩
    have hb3 := hb2.grown g2 hb2.size (fun b e => (o1_2.lt b e).1)
    obtain ⟨a2, c2, rfl, -, -, -⟩ := own_cells o2
    refine hK.out _ _ ?_ (fun _ => ?_)
    · exact fun p u hp hu => keepc hb3 hu
    clear hK K g2
    try simp only [Act.put, List.getElem_toArray, List.getElem_cons_succ, List.getElem_cons_zero, List.setIfInBounds_toArray, List.set_cons_zero, List.set_cons_succ]
    refine wpAnyH_take (i := 14) (oi := _) (v := ?_) rfl (by kernel_rfl) (by kernel_rfl) (by kernel_rfl) (fun _ _ _ h => h) (Or.inl ⟨by rfl, ?_⟩) (by assumption) ?_
    rotate_left 1
    · (intro w hSw; (try dsimp only at hSw); go_simp; (try with_reducible rfl))
    try simp only [Act.put, List.getElem_toArray, List.getElem_cons_succ, List.getElem_cons_zero, List.setIfInBounds_toArray, List.set_cons_zero, List.set_cons_succ]
    refine wpAnyH_take (i := 15) (oi := _) (v := ?_) rfl (by kernel_rfl) (by kernel_rfl) (by kernel_rfl) (fun _ _ _ h => h) (Or.inl ⟨by rfl, ?_⟩) (by assumption) ?_
    rotate_left 1
    · (intro w hSw; (try dsimp only at hSw); go_simp; (try with_reducible rfl))
    try simp only [Act.put, List.getElem_toArray, List.getElem_cons_succ, List.getElem_cons_zero, List.setIfInBounds_toArray, List.set_cons_zero, List.set_cons_succ]
    refine wpAnyH_ready (rs := [16]) (by kernel_rfl) (by simp) ?_
    refine AllReadyH.cons (o := _) rfl (fun K hK => ?_) AllReadyH.nil
    have q0 := keepc hb3 C0.out
    have f0 : ww3.frozen? ⟨r, 0, none⟩ = false := (World.frozen?_of_block (hb3.block r HRL.out)).trans F0.out
    have HTO := Lib.hid (HCUT.out ww3 _ _ _ hb3 o2 rfl rfl)
    have HBE := Lib.hid hb3
    clear o2 hb3
    go_simp
    refine hK.out _ _ ?_ (fun _ => ?_)
    · exact fun p u hp hu => (World.cell?_setCell_other _ _ _ _ (Ne.symm hp)).trans (keepc HBE.out hu)
    clear hK K q0 f0
    try simp only [Act.put, List.getElem_toArray, List.getElem_cons_succ, List.getElem_cons_zero, List.setIfInBounds_toArray, List.set_cons_zero, List.set_cons_succ]
    refine wpAnyH_done (by kernel_rfl) ?_ _
    refine NoPanic.normal ?_
    have hto := HTO.out
    obtain ⟨G3, t1, t2, t3⟩ := hto
    obtain ⟨a9, c9, hb9, -, -, -⟩ := t1.shape
    have c9' : (ww3.setCell ⟨r, 0, none⟩ (.slice a2 (0 + L.length + 1) c2)).cell? ⟨r, 2, none⟩ = some (.int .i64 (dial + 1)) := by rw [cell_of_row _ _ _ _ _ _ hb9]; rfl
    simp only [Nat.zero_add] at c9'
    clear t1 t2 t3 hb9
    go_wp2
    go_ret2
    exact ⟨rfl, by have h9 := HTO.out; simp only [Nat.zero_add] at h9; exact h9⟩
set_option maxHeartbeats 4000000 in
set_option maxRecDepth 100000 in
theorem rclose_any (h : RfIs w B r most dial L G) (hB : B ≤ w.heap.size) (x : Int) (hl : L.length ≤ 100000) :
    Calls Try.prog 41 #[.pointer (some ⟨r, 0, none⟩), .int .i64 x] w fun e w' => e = .returned (.int .i64 (if (rfind x L).isSome then 0 else 8)) ∧ RfTo w B r most dial (rdel x L) G w' := by
  cases hr : rfind x L with
  | none =>
    have HO := Lib.hid (rof_any h x (by omega))
    have hd : ∀ {L : List RC}, rfind x L = none → rdel x L = L := fun {L} => by
      induction L with
      | nil => intro _; rfl
      | cons y t ih =>
        intro hh
        by_cases hx : x = y.id
        · simp [rfind, hx] at hh
        · have h' : rfind x t = none := by simpa [rfind, hx] using hh
          simp only [rdel, if_neg hx, ih h']
    rw [hd hr]
    have HX := Lib.hid (RfTo.same h (Below.refl _ _))
    have HR := Lib.hid hr
    clear h hr hd
    go_enter Try.func41, Try.ntmps41
    go_wp2_with fail
    refine HO.out.mono ?_
    rintro e w1 ⟨i, rfl, ho, rfl⟩
    obtain ⟨rfl, -⟩ : i = -1 ∧ True := by
      rcases ho with ⟨rfl, -⟩ | ⟨k, hk, rfl, -, -, h, -⟩
      · exact ⟨rfl, trivial⟩
      · rw [HR.out] at h; cases h
    clear ho
    go_wp2
    go_ret
    exact ⟨rfl, HX.out⟩
  | some v0 =>
    obtain ⟨k, hf, -, -⟩ := rfind_first hr
    rw [rdel_first hf]
    obtain ⟨i0, hi, hz0, hz1, hz2⟩ := info_parts info_rc
    have HOF := Lib.hid (rof_at h hf (by omega))
    have hkl := hf.1
    obtain ⟨wb, hwb⟩ : ∃ u, u = w := ⟨_, rfl⟩
    subst hwb
    obtain ⟨a, c, hb, hcl, hr2, -⟩ := h.shape
    have C0 := Lib.hid (show wb.cell? ⟨r, 0, none⟩ = some (.slice a L.length c) by rw [cell_of_row _ _ _ _ _ _ hb]; rfl)
    have F0 := Lib.hid (show wb.frozen? ⟨r, 0, none⟩ = false from frozen_of_row _ _ _ _ _ hb)
    have HR := Lib.hid hr2
    have HRL := Lib.hid (h.in r h.mem).2
    have HWR := Lib.hid (show IntKind.i64.wrap ((k : Int) + 1) = (k : Int) + 1 from wrap_one (by omega))
    have HY1 := Lib.hid (show (((rcf L).take (k * 6)).drop (0 * 6)).length = (k - 0) * 6 by rw [List.length_drop, List.length_take, rcf_length]; omega)
    have HY2 := Lib.hid (show (((rcf L).take (L.length * 6)).drop ((k + 1) * 6)).length = (L.length - (k + 1)) * 6 by rw [List.length_drop, List.length_take, rcf_length]; omega)
    have HO1 := Lib.hid (show ∀ u ∈ ((rcf L).take (k * 6)).drop (0 * 6), u.oneCell' = true from fun u hu => rcf_one L u (List.mem_of_mem_take (List.mem_of_mem_drop hu)))
    have HO2 := Lib.hid (show ∀ u ∈ ((rcf L).take (L.length * 6)).drop ((k + 1) * 6), u.oneCell' = true from fun u hu => rcf_one L u (List.mem_of_mem_take (List.mem_of_mem_drop hu)))
    have HCUT := Lib.hid (fun (W : World) (v : Value) (n : Nat) (xs : List Value) (hb : Below wb.heap.size wb W) (ho : W.ownsRow wb.heap.size 74 6 v n xs) (hn : n = 0 + (k - 0) + (L.length - (k + 1))) (hx : xs = ([] ++ ((rcf L).take (k * 6)).drop (0 * 6)) ++ ((rcf L).take (L.length * 6)).drop ((k + 1) * 6)) => (show RfTo wb B r most dial (L.take k ++ L.drop (k + 1)) G (W.setCell ⟨r, 0, none⟩ v) from
      rf_cut h hB hb ho (by rw [hn, List.length_append, List.length_take, List.length_drop]; omega) (by
        rw [hx, Nat.zero_mul, List.drop_zero, List.nil_append, rcf_app]
        have e1 : (rcf L).take (L.length * 6) = rcf L := List.take_of_length_le (by rw [rcf_length]; omega)
        rw [e1]
        show _ = (L.take k).flatMap rcc ++ (L.drop (k + 1)).flatMap rcc
        rw [← flat_take rcc 6 (fun _ => rfl), ← flat_drop rcc 6 (fun _ => rfl)]
        rfl)))
    clear h hb hr2 hf hr
    go_enter Try.func41, Try.ntmps41
    go_wp2_with fail
    refine HOF.out.mono ?_
    rintro e w1 ⟨rfl, rfl⟩
    clear HOF
    go_wp2_with fail
    refine wp_region_noPanic ?_
    refine wp_region_held_drew (S := (fun w' => ∀ (p : Addr) (u : Value), p ≠ ⟨r, 0, none⟩ → wb.cell? p = some u → w'.cell? p = some u)) (by kernel_rfl) ?_ (fun hHeld => ?_)
    · exact fun _ _ _ h => h
    refine wpAnyH_take (i := 0) (oi := _) (v := ?_) rfl (by kernel_rfl) (by kernel_rfl) (by kernel_rfl) (fun _ _ _ h => h) (Or.inl ⟨by rfl, ?_⟩) (by assumption) ?_
    rotate_left 1
    · (intro w hSw; (try dsimp only at hSw); go_simp; (try with_reducible rfl))
    try simp only [Act.put, List.getElem_toArray, List.getElem_cons_zero, List.setIfInBounds_toArray, List.set_cons_zero, List.set_cons_succ]
    refine wpAnyH_take (i := 1) (oi := _) (v := ?_) rfl (by kernel_rfl) (by kernel_rfl) (by kernel_rfl) (fun _ _ _ h => h) (Or.inl ⟨by rfl, ?_⟩) (by assumption) ?_
    rotate_left 1
    · (intro w hSw; (try dsimp only at hSw); go_simp; (try with_reducible rfl))
    try simp only [Act.put, List.getElem_toArray, List.getElem_cons_succ, List.getElem_cons_zero, List.setIfInBounds_toArray, List.set_cons_zero, List.set_cons_succ]
    refine wpAnyH_take (i := 2) (oi := _) (v := ?_) rfl (by kernel_rfl) (by kernel_rfl) (by kernel_rfl) (fun _ _ _ h => h) (Or.inl ⟨by rfl, ?_⟩) (by assumption) ?_
    rotate_left 1
    · (intro w hSw; (try dsimp only at hSw); go_simp; (try with_reducible rfl))
    try simp only [Act.put, List.getElem_toArray, List.getElem_cons_succ, List.getElem_cons_zero, List.setIfInBounds_toArray, List.set_cons_zero, List.set_cons_succ]
    refine wpAnyH_take (i := 3) (oi := _) (v := ?_) rfl (by kernel_rfl) (by kernel_rfl) (by kernel_rfl) (fun _ _ _ h => h) (Or.inl ⟨by rfl, ?_⟩) (by assumption) ?_
    rotate_left 1
    · (intro w hSw; (try dsimp only at hSw); go_simp; (try with_reducible rfl))
    try simp only [Act.put, List.getElem_toArray, List.getElem_cons_succ, List.getElem_cons_zero, List.setIfInBounds_toArray, List.set_cons_zero, List.set_cons_succ]
    refine wpAnyH_take (i := 5) (oi := _) (v := ?_) rfl (by kernel_rfl) (by kernel_rfl) (by kernel_rfl) (fun _ _ _ h => h) (Or.inl ⟨by rfl, ?_⟩) (by assumption) ?_
    rotate_left 1
    · (intro w hSw; (try dsimp only at hSw); go_simp; (try with_reducible rfl))
    try simp only [Act.put, List.getElem_toArray, List.getElem_cons_succ, List.getElem_cons_zero, List.setIfInBounds_toArray, List.set_cons_zero, List.set_cons_succ]
    refine wpAnyH_take (i := 8) (oi := _) (v := ?_) rfl (by kernel_rfl) (by kernel_rfl) (by kernel_rfl) (fun _ _ _ h => h) (Or.inl ⟨by rfl, ?_⟩) (by assumption) ?_
    rotate_left 1
    · (intro w hSw; (try dsimp only at hSw); go_simp; (try with_reducible rfl))
    try simp only [Act.put, List.getElem_toArray, List.getElem_cons_succ, List.getElem_cons_zero, List.setIfInBounds_toArray, List.set_cons_zero, List.set_cons_succ]
    refine wpAnyH_take (i := 9) (oi := _) (v := ?_) rfl (by kernel_rfl) (by kernel_rfl) (by kernel_rfl) (fun _ _ _ h => h) (Or.inl ⟨by rfl, ?_⟩) (by assumption) ?_
    rotate_left 1
    · (intro w hSw; (try dsimp only at hSw); go_simp; (try with_reducible rfl))
    try simp only [Act.put, List.getElem_toArray, List.getElem_cons_succ, List.getElem_cons_zero, List.setIfInBounds_toArray, List.set_cons_zero, List.set_cons_succ]
    refine wpAnyH_take (i := 10) (oi := _) (v := ?_) rfl (by kernel_rfl) (by kernel_rfl) (by kernel_rfl) (fun _ _ _ h => h) (Or.inl ⟨by rfl, ?_⟩) (by assumption) ?_
    rotate_left 1
    · (intro w hSw; (try dsimp only at hSw); go_simp; (try with_reducible rfl))
    try simp only [Act.put, List.getElem_toArray, List.getElem_cons_succ, List.getElem_cons_zero, List.setIfInBounds_toArray, List.set_cons_zero, List.set_cons_succ]
    refine wpAnyH_take (i := 12) (oi := _) (v := ?_) rfl (by kernel_rfl) (by kernel_rfl) (by kernel_rfl) (fun _ _ _ h => h) (Or.inl ⟨by rfl, ?_⟩) (by assumption) ?_
    rotate_left 1
    · (intro w hSw; (try dsimp only at hSw); go_simp; (try with_reducible rfl))
    try simp only [Act.put, List.getElem_toArray, List.getElem_cons_succ, List.getElem_cons_zero, List.setIfInBounds_toArray, List.set_cons_zero, List.set_cons_succ]
    refine wpAnyH_take (i := 13) (oi := _) (v := ?_) rfl (by kernel_rfl) (by kernel_rfl) (by kernel_rfl) (fun _ _ _ h => h) (Or.inl ⟨by rfl, ?_⟩) (by assumption) ?_
    rotate_left 1
    · (intro w hSw; (try dsimp only at hSw); (have hw := HWR.out; go_simp); (try with_reducible rfl))
    try simp only [Act.put, List.getElem_toArray, List.getElem_cons_succ, List.getElem_cons_zero, List.setIfInBounds_toArray, List.set_cons_zero, List.set_cons_succ]
    have hb0 := drew_below wb
    obtain ⟨ww0, hww0⟩ : ∃ u, u = wb.drew := ⟨_, rfl⟩
    rw [← hww0] at hb0 hHeld
    rw [← hww0]
    clear hww0 hHeld
    refine wpAnyH_ready (rs := [4, 11]) (by kernel_rfl) (by simp) ?_
    refine AllReadyH.cons (o := _) rfl (fun K hK => ?_) (AllReadyH.cons (o := _) rfl (fun K hK => ?_) AllReadyH.nil)
    · have q0 := keepc hb0 C0.out
      go_simp
      refine hK.out _ _ ?_ (fun _ => ?_)
      · exact fun p u hp hu => keepc hb0 hu
      clear hK K q0
      try simp only [Act.put, List.getElem_toArray, List.getElem_cons_succ, List.getElem_cons_zero, List.setIfInBounds_toArray, List.set_cons_zero, List.set_cons_succ]
      refine wpAnyH_take (i := 6) (oi := _) (v := ?_) rfl (by kernel_rfl) (by kernel_rfl) (by kernel_rfl) (fun _ _ _ h => h) (Or.inl ⟨by rfl, ?_⟩) (by assumption) ?_
      rotate_left 1
      · (intro w hSw; (try dsimp only at hSw); refine Eq.trans (exec_cut 64 74 _ _ _ (by rfl) Try.underlying64 6 (by kernel_rfl) a L.length c (by rfl) 0 k (.inl (by exact ⟨rfl, rfl⟩)) (.inr (by exact ⟨_, rfl, rfl⟩)) (by omega) (by omega)) ?_; (try with_reducible rfl))
      try simp only [Act.put, List.getElem_toArray, List.getElem_cons_succ, List.getElem_cons_zero, List.setIfInBounds_toArray, List.set_cons_zero, List.set_cons_succ]
      refine wpAnyH_ready (rs := [7, 11]) (by kernel_rfl) (by simp) ?_
      refine AllReadyH.cons (o := _) rfl (fun K hK => ?_) (AllReadyH.cons (o := _) rfl (fun K hK => ?_) AllReadyH.nil)
      · refine rstep_append_any (by kernel_rfl) _ _ 64 rfl wb.heap.size 74 i0 _ 6 72 Try.underlying64 hi hz0 hz1 hz2 rfl (by decide) (.slice none 0 0) 0 [] rfl (World.ownsRow_nil _ _ _ _) (cutB a c 0 6) (k - 0) (c - 0) _ rfl HY1.out ((HR.out.below hb0 (Nat.le_refl _)).cutB c 0 (k * 6) 6 (by rw [rcf_length]; omega)) HO1.out (by unfold maxLen; omega) (by omega) hb0.size ?_
        rintro v1 ww1 ⟨o1_1, g1, -⟩
        have hb1 := hb0.grown g1 hb0.size (fun b e => by cases e)
        refine hK.out _ _ ?_ (fun _ => ?_)
        · exact fun p u hp hu => keepc hb1 hu
        clear hK K g1
        try simp only [Act.put, List.getElem_toArray, List.getElem_cons_succ, List.getElem_cons_zero, List.setIfInBounds_toArray, List.set_cons_zero, List.set_cons_succ]
        refine wpAnyH_ready (rs := [11]) (by kernel_rfl) (by simp) ?_
        refine AllReadyH.cons (o := _) rfl (fun K hK => ?_) AllReadyH.nil
        have q0 := keepc hb1 C0.out
        go_simp
        refine hK.out _ _ ?_ (fun _ => ?_)
        · exact fun p u hp hu => keepc hb1 hu
        clear hK K q0
        try simp only [Act.put, List.getElem_toArray, List.getElem_cons_succ, List.getElem_cons_zero, List.setIfInBounds_toArray, List.set_cons_zero, List.set_cons_succ]
        refine wpAnyH_take (i := 14) (oi := _) (v := ?_) rfl (by kernel_rfl) (by kernel_rfl) (by kernel_rfl) (fun _ _ _ h => h) (Or.inl ⟨by rfl, ?_⟩) (by assumption) ?_
        rotate_left 1
        · (intro w hSw; (try dsimp only at hSw); refine Eq.trans (exec_cut 64 74 _ _ _ (by rfl) Try.underlying64 6 (by kernel_rfl) a L.length c (by rfl) (k + 1) L.length (.inr (by exact ⟨_, rfl, rfl⟩)) (.inl (by exact ⟨rfl, rfl⟩)) (by omega) (by omega)) ?_; (try with_reducible rfl))
        try simp only [Act.put, List.getElem_toArray, List.getElem_cons_succ, List.getElem_cons_zero, List.setIfInBounds_toArray, List.set_cons_zero, List.set_cons_succ]
        refine wpAnyH_ready (rs := [15]) (by kernel_rfl) (by simp) ?_
        refine AllReadyH.cons (o := _) rfl (fun K hK => ?_) AllReadyH.nil
        refine rstep_append_any (by kernel_rfl) _ _ 64 rfl wb.heap.size 74 i0 _ 6 72 Try.underlying64 hi hz0 hz1 hz2 rfl (by decide) v1 (0 + (k - 0)) _ rfl o1_1 (cutB a c (k + 1) 6) (L.length - (k + 1)) (c - (k + 1)) _ rfl HY2.out ((HR.out.below hb1 (Nat.le_refl _)).cutB c (k + 1) (L.length * 6) 6 (by rw [rcf_length]; omega)) HO2.out (by unfold maxLen; omega) (by omega) hb1.size ?_
        rintro v2 ww2 ⟨o2, g2, -⟩
        have hb2 := hb1.grown g2 hb1.size (fun b e => (o1_1.lt b e).1)
        obtain ⟨a2, c2, rfl, -, -, -⟩ := own_cells o2
        refine hK.out _ _ ?_ (fun _ => ?_)
        · exact fun p u hp hu => keepc hb2 hu
        clear hK K g2
        try simp only [Act.put, List.getElem_toArray, List.getElem_cons_succ, List.getElem_cons_zero, List.setIfInBounds_toArray, List.set_cons_zero, List.set_cons_succ]
        refine wpAnyH_take (i := 16) (oi := _) (v := ?_) rfl (by kernel_rfl) (by kernel_rfl) (by kernel_rfl) (fun _ _ _ h => h) (Or.inl ⟨by rfl, ?_⟩) (by assumption) ?_
        rotate_left 1
        · (intro w hSw; (try dsimp only at hSw); go_simp; (try with_reducible rfl))
        try simp only [Act.put, List.getElem_toArray, List.getElem_cons_succ, List.getElem_cons_zero, List.setIfInBounds_toArray, List.set_cons_zero, List.set_cons_succ]
        refine wpAnyH_take (i := 17) (oi := _) (v := ?_) rfl (by kernel_rfl) (by kernel_rfl) (by kernel_rfl) (fun _ _ _ h => h) (Or.inl ⟨by rfl, ?_⟩) (by assumption) ?_
        rotate_left 1
        · (intro w hSw; (try dsimp only at hSw); go_simp; (try with_reducible rfl))
        try simp only [Act.put, List.getElem_toArray, List.getElem_cons_succ, List.getElem_cons_zero, List.setIfInBounds_toArray, List.set_cons_zero, List.set_cons_succ]
        refine wpAnyH_ready (rs := [18]) (by kernel_rfl) (by simp) ?_
        refine AllReadyH.cons (o := _) rfl (fun K hK => ?_) AllReadyH.nil
        have q0 := keepc hb2 C0.out
        have f0 : ww2.frozen? ⟨r, 0, none⟩ = false := (World.frozen?_of_block (hb2.block r HRL.out)).trans F0.out
        have HTO := Lib.hid (HCUT.out ww2 _ _ _ hb2 o2 rfl rfl)
        have HBE := Lib.hid hb2
        clear o2 hb2
        go_simp
        refine hK.out _ _ ?_ (fun _ => ?_)
        · exact fun p u hp hu => (World.cell?_setCell_other _ _ _ _ (Ne.symm hp)).trans (keepc HBE.out hu)
        clear hK K q0 f0
        try simp only [Act.put, List.getElem_toArray, List.getElem_cons_succ, List.getElem_cons_zero, List.setIfInBounds_toArray, List.set_cons_zero, List.set_cons_succ]
        refine wpAnyH_done (by kernel_rfl) ?_ _
        refine NoPanic.normal ?_
        go_wp2
        go_ret
        exact ⟨rfl, by have h9 := HTO.out; simp only [Nat.zero_add, Nat.sub_zero] at h9; exact h9⟩
      · have q0 := keepc hb0 C0.out
        go_simp
        refine hK.out _ _ ?_ (fun _ => ?_)
        · exact fun p u hp hu => keepc hb0 hu
        clear hK K q0
        try simp only [Act.put, List.getElem_toArray, List.getElem_cons_succ, List.getElem_cons_zero, List.setIfInBounds_toArray, List.set_cons_zero, List.set_cons_succ]
        refine wpAnyH_take (i := 14) (oi := _) (v := ?_) rfl (by kernel_rfl) (by kernel_rfl) (by kernel_rfl) (fun _ _ _ h => h) (Or.inl ⟨by rfl, ?_⟩) (by assumption) ?_
        rotate_left 1
        · (intro w hSw; (try dsimp only at hSw); refine Eq.trans (exec_cut 64 74 _ _ _ (by rfl) Try.underlying64 6 (by kernel_rfl) a L.length c (by rfl) (k + 1) L.length (.inr (by exact ⟨_, rfl, rfl⟩)) (.inl (by exact ⟨rfl, rfl⟩)) (by omega) (by omega)) ?_; (try with_reducible rfl))
        try simp only [Act.put, List.getElem_toArray, List.getElem_cons_succ, List.getElem_cons_zero, List.setIfInBounds_toArray, List.set_cons_zero, List.set_cons_succ]
        refine wpAnyH_ready (rs := [7]) (by kernel_rfl) (by simp) ?_
        refine AllReadyH.cons (o := _) rfl (fun K hK => ?_) AllReadyH.nil
        refine rstep_append_any (by kernel_rfl) _ _ 64 rfl wb.heap.size 74 i0 _ 6 72 Try.underlying64 hi hz0 hz1 hz2 rfl (by decide) (.slice none 0 0) 0 [] rfl (World.ownsRow_nil _ _ _ _) (cutB a c 0 6) (k - 0) (c - 0) _ rfl HY1.out ((HR.out.below hb0 (Nat.le_refl _)).cutB c 0 (k * 6) 6 (by rw [rcf_length]; omega)) HO1.out (by unfold maxLen; omega) (by omega) hb0.size ?_
        rintro v1 ww1 ⟨o1_1, g1, -⟩
        have hb1 := hb0.grown g1 hb0.size (fun b e => by cases e)
        refine hK.out _ _ ?_ (fun _ => ?_)
        · exact fun p u hp hu => keepc hb1 hu
        clear hK K g1
        try simp only [Act.put, List.getElem_toArray, List.getElem_cons_succ, List.getElem_cons_zero, List.setIfInBounds_toArray, List.set_cons_zero, List.set_cons_succ]
        refine wpAnyH_ready (rs := [15]) (by kernel_rfl) (by simp) ?_
        refine AllReadyH.cons (o := _) rfl (fun K hK => ?_) AllReadyH.nil
        refine rstep_append_any (by kernel_rfl) _ _ 64 rfl wb.heap.size 74 i0 _ 6 72 Try.underlying64 hi hz0 hz1 hz2 rfl (by decide) v1 (0 + (k - 0)) _ rfl o1_1 (cutB a c (k + 1) 6) (L.length - (k + 1)) (c - (k + 1)) _ rfl HY2.out ((HR.out.below hb1 (Nat.le_refl _)).cutB c (k + 1) (L.length * 6) 6 (by rw [rcf_length]; omega)) HO2.out (by unfold maxLen; omega) (by omega) hb1.size ?_
        rintro v2 ww2 ⟨o2, g2, -⟩
        have hb2 := hb1.grown g2 hb1.size (fun b e => (o1_1.lt b e).1)
        obtain ⟨a2, c2, rfl, -, -, -⟩ := own_cells o2
        refine hK.out _ _ ?_ (fun _ => ?_)
        · exact fun p u hp hu => keepc hb2 hu
        clear hK K g2
        try simp only [Act.put, List.getElem_toArray, List.getElem_cons_succ, List.getElem_cons_zero, List.setIfInBounds_toArray, List.set_cons_zero, List.set_cons_succ]
        refine wpAnyH_take (i := 16) (oi := _) (v := ?_) rfl (by kernel_rfl) (by kernel_rfl) (by kernel_rfl) (fun _ _ _ h => h) (Or.inl ⟨by rfl, ?_⟩) (by assumption) ?_
        rotate_left 1
        · (intro w hSw; (try dsimp only at hSw); go_simp; (try with_reducible rfl))
        try simp only [Act.put, List.getElem_toArray, List.getElem_cons_succ, List.getElem_cons_zero, List.setIfInBounds_toArray, List.set_cons_zero, List.set_cons_succ]
        refine wpAnyH_take (i := 17) (oi := _) (v := ?_) rfl (by kernel_rfl) (by kernel_rfl) (by kernel_rfl) (fun _ _ _ h => h) (Or.inl ⟨by rfl, ?_⟩) (by assumption) ?_
        rotate_left 1
        · (intro w hSw; (try dsimp only at hSw); go_simp; (try with_reducible rfl))
        try simp only [Act.put, List.getElem_toArray, List.getElem_cons_succ, List.getElem_cons_zero, List.setIfInBounds_toArray, List.set_cons_zero, List.set_cons_succ]
        refine wpAnyH_ready (rs := [18]) (by kernel_rfl) (by simp) ?_
        refine AllReadyH.cons (o := _) rfl (fun K hK => ?_) AllReadyH.nil
        have q0 := keepc hb2 C0.out
        have f0 : ww2.frozen? ⟨r, 0, none⟩ = false := (World.frozen?_of_block (hb2.block r HRL.out)).trans F0.out
        have HTO := Lib.hid (HCUT.out ww2 _ _ _ hb2 o2 rfl rfl)
        have HBE := Lib.hid hb2
        clear o2 hb2
        go_simp
        refine hK.out _ _ ?_ (fun _ => ?_)
        · exact fun p u hp hu => (World.cell?_setCell_other _ _ _ _ (Ne.symm hp)).trans (keepc HBE.out hu)
        clear hK K q0 f0
        try simp only [Act.put, List.getElem_toArray, List.getElem_cons_succ, List.getElem_cons_zero, List.setIfInBounds_toArray, List.set_cons_zero, List.set_cons_succ]
        refine wpAnyH_done (by kernel_rfl) ?_ _
        refine NoPanic.normal ?_
        go_wp2
        go_ret
        exact ⟨rfl, by have h9 := HTO.out; simp only [Nat.zero_add, Nat.sub_zero] at h9; exact h9⟩
    · have q0 := keepc hb0 C0.out
      go_simp
      refine hK.out _ _ ?_ (fun _ => ?_)
      · exact fun p u hp hu => keepc hb0 hu
      clear hK K q0
      try simp only [Act.put, List.getElem_toArray, List.getElem_cons_succ, List.getElem_cons_zero, List.setIfInBounds_toArray, List.set_cons_zero, List.set_cons_succ]
      refine wpAnyH_take (i := 14) (oi := _) (v := ?_) rfl (by kernel_rfl) (by kernel_rfl) (by kernel_rfl) (fun _ _ _ h => h) (Or.inl ⟨by rfl, ?_⟩) (by assumption) ?_
      rotate_left 1
      · (intro w hSw; (try dsimp only at hSw); refine Eq.trans (exec_cut 64 74 _ _ _ (by rfl) Try.underlying64 6 (by kernel_rfl) a L.length c (by rfl) (k + 1) L.length (.inr (by exact ⟨_, rfl, rfl⟩)) (.inl (by exact ⟨rfl, rfl⟩)) (by omega) (by omega)) ?_; (try with_reducible rfl))
      try simp only [Act.put, List.getElem_toArray, List.getElem_cons_succ, List.getElem_cons_zero, List.setIfInBounds_toArray, List.set_cons_zero, List.set_cons_succ]
      refine wpAnyH_ready (rs := [4]) (by kernel_rfl) (by simp) ?_
      refine AllReadyH.cons (o := _) rfl (fun K hK => ?_) AllReadyH.nil
      have q0 := keepc hb0 C0.out
      go_simp
      refine hK.out _ _ ?_ (fun _ => ?_)
      · exact fun p u hp hu => keepc hb0 hu
      clear hK K q0
      try simp only [Act.put, List.getElem_toArray, List.getElem_cons_succ, List.getElem_cons_zero, List.setIfInBounds_toArray, List.set_cons_zero, List.set_cons_succ]
      refine wpAnyH_take (i := 6) (oi := _) (v := ?_) rfl (by kernel_rfl) (by kernel_rfl) (by kernel_rfl) (fun _ _ _ h => h) (Or.inl ⟨by rfl, ?_⟩) (by assumption) ?_
      rotate_left 1
      · (intro w hSw; (try dsimp only at hSw); refine Eq.trans (exec_cut 64 74 _ _ _ (by rfl) Try.underlying64 6 (by kernel_rfl) a L.length c (by rfl) 0 k (.inl (by exact ⟨rfl, rfl⟩)) (.inr (by exact ⟨_, rfl, rfl⟩)) (by omega) (by omega)) ?_; (try with_reducible rfl))
      try simp only [Act.put, List.getElem_toArray, List.getElem_cons_succ, List.getElem_cons_zero, List.setIfInBounds_toArray, List.set_cons_zero, List.set_cons_succ]
      refine wpAnyH_ready (rs := [7]) (by kernel_rfl) (by simp) ?_
      refine AllReadyH.cons (o := _) rfl (fun K hK => ?_) AllReadyH.nil
      refine rstep_append_any (by kernel_rfl) _ _ 64 rfl wb.heap.size 74 i0 _ 6 72 Try.underlying64 hi hz0 hz1 hz2 rfl (by decide) (.slice none 0 0) 0 [] rfl (World.ownsRow_nil _ _ _ _) (cutB a c 0 6) (k - 0) (c - 0) _ rfl HY1.out ((HR.out.below hb0 (Nat.le_refl _)).cutB c 0 (k * 6) 6 (by rw [rcf_length]; omega)) HO1.out (by unfold maxLen; omega) (by omega) hb0.size ?_
      rintro v1 ww1 ⟨o1_1, g1, -⟩
      have hb1 := hb0.grown g1 hb0.size (fun b e => by cases e)
      refine hK.out _ _ ?_ (fun _ => ?_)
      · exact fun p u hp hu => keepc hb1 hu
      clear hK K g1
      try simp only [Act.put, List.getElem_toArray, List.getElem_cons_succ, List.getElem_cons_zero, List.setIfInBounds_toArray, List.set_cons_zero, List.set_cons_succ]
      refine wpAnyH_ready (rs := [15]) (by kernel_rfl) (by simp) ?_
      refine AllReadyH.cons (o := _) rfl (fun K hK => ?_) AllReadyH.nil
      refine rstep_append_any (by kernel_rfl) _ _ 64 rfl wb.heap.size 74 i0 _ 6 72 Try.underlying64 hi hz0 hz1 hz2 rfl (by decide) v1 (0 + (k - 0)) _ rfl o1_1 (cutB a c (k + 1) 6) (L.length - (k + 1)) (c - (k + 1)) _ rfl HY2.out ((HR.out.below hb1 (Nat.le_refl _)).cutB c (k + 1) (L.length * 6) 6 (by rw [rcf_length]; omega)) HO2.out (by unfold maxLen; omega) (by omega) hb1.size ?_
      rintro v2 ww2 ⟨o2, g2, -⟩
      have hb2 := hb1.grown g2 hb1.size (fun b e => (o1_1.lt b e).1)
      obtain ⟨a2, c2, rfl, -, -, -⟩ := own_cells o2
      refine hK.out _ _ ?_ (fun _ => ?_)
      · exact fun p u hp hu => keepc hb2 hu
      clear hK K g2
      try simp only [Act.put, List.getElem_toArray, List.getElem_cons_succ, List.getElem_cons_zero, List.setIfInBounds_toArray, List.set_cons_zero, List.set_cons_succ]
      refine wpAnyH_take (i := 16) (oi := _) (v := ?_) rfl (by kernel_rfl) (by kernel_rfl) (by kernel_rfl) (fun _ _ _ h => h) (Or.inl ⟨by rfl, ?_⟩) (by assumption) ?_
      rotate_left 1
      · (intro w hSw; (try dsimp only at hSw); go_simp; (try with_reducible rfl))
      try simp only [Act.put, List.getElem_toArray, List.getElem_cons_succ, List.getElem_cons_zero, List.setIfInBounds_toArray, List.set_cons_zero, List.set_cons_succ]
      refine wpAnyH_take (i := 17) (oi := _) (v := ?_) rfl (by kernel_rfl) (by kernel_rfl) (by kernel_rfl) (fun _ _ _ h => h) (Or.inl ⟨by rfl, ?_⟩) (by assumption) ?_
      rotate_left 1
      · (intro w hSw; (try dsimp only at hSw); go_simp; (try with_reducible rfl))
      try simp only [Act.put, List.getElem_toArray, List.getElem_cons_succ, List.getElem_cons_zero, List.setIfInBounds_toArray, List.set_cons_zero, List.set_cons_succ]
      refine wpAnyH_ready (rs := [18]) (by kernel_rfl) (by simp) ?_
      refine AllReadyH.cons (o := _) rfl (fun K hK => ?_) AllReadyH.nil
      have q0 := keepc hb2 C0.out
      have f0 : ww2.frozen? ⟨r, 0, none⟩ = false := (World.frozen?_of_block (hb2.block r HRL.out)).trans F0.out
      have HTO := Lib.hid (HCUT.out ww2 _ _ _ hb2 o2 rfl rfl)
      have HBE := Lib.hid hb2
      clear o2 hb2
      go_simp
      refine hK.out _ _ ?_ (fun _ => ?_)
      · exact fun p u hp hu => (World.cell?_setCell_other _ _ _ _ (Ne.symm hp)).trans (keepc HBE.out hu)
      clear hK K q0 f0
      try simp only [Act.put, List.getElem_toArray, List.getElem_cons_succ, List.getElem_cons_zero, List.setIfInBounds_toArray, List.set_cons_zero, List.set_cons_succ]
      refine wpAnyH_done (by kernel_rfl) ?_ _
      refine NoPanic.normal ?_
      go_wp2
      go_ret
      exact ⟨rfl, by have h9 := HTO.out; simp only [Nat.zero_add, Nat.sub_zero] at h9; exact h9⟩
end
end Go.Proofs.Ytepdnmpcccgcaaa
