/- The walks over the copies of both meters. -/
import Derived.Test.YthademifhnkbiaaDpM
namespace Go.Proofs.Ythademifhnkbiaa
open Go.RowKit K
def RCopy (w : World) (most : Int) (L : List SV) (e : Ending) (w' : World) : Prop := ∃ r G, e = .returned (.pointer (some ⟨r, 0, none⟩)) ∧ RsIs w' w.heap.size r most L G ∧ Below w.heap.size w w'
section
variable {w : World} {B r : Nat} {most : Int} {L : List SV} {G : Nat → Prop}
set_option maxHeartbeats 1000000 in
set_option maxRecDepth 100000 in
theorem rcopy16_any (h : RsIs w B r most L G) (hl : L.length ≤ 100000) : Calls Try.prog 32 #[.pointer (some ⟨r, 0, none⟩)] w (RCopy w most L) := by
  obtain ⟨i0, hi, hz0, hz1, hz2⟩ := info_parts info_on
  obtain ⟨a, c, hb, hcl, hr, -⟩ := h.shape
  have C0 := Lib.hid (show w.cell? ⟨r, 0, none⟩ = some (.slice a L.length c) by rw [cell_of_row _ _ _ _ _ _ hb]; rfl)
  have C1 := Lib.hid (show w.cell? ⟨r, 1, none⟩ = some (.int .i64 most) by rw [cell_of_row _ _ _ _ _ _ hb]; rfl)
  have HR := Lib.hid hr
  have HO := Lib.hid (onf_one L)
  have HLN := Lib.hid (show (onf L).length = L.length * 7 by rw [onf_length, Nat.mul_comm])
  clear h hb hr
  go_enter Try.func32, Try.ntmps32
  go_wp2_with fail
  refine wp_region_noPanic ?_
  refine wp_region_held_drew (S := (fun w' => Below w.heap.size w w')) (by kernel_rfl) ?_ (fun hHeld => ?_)
  · exact drew_below _
  refine wpAnyH_take (i := 0) (oi := _) (v := ?_) rfl (by kernel_rfl) (by kernel_rfl) (by kernel_rfl) (fun _ _ _ h => h) (Or.inl ⟨by rfl, ?_⟩) (by assumption) ?_
  rotate_left 1
  · (intro w hSw; (try dsimp only at hSw); go_simp; (try with_reducible rfl))
  try simp only [Act.put, List.getElem_toArray, List.getElem_cons_zero, List.setIfInBounds_toArray, List.set_cons_zero, List.set_cons_succ]
  refine wpAnyH_take (i := 1) (oi := _) (v := ?_) rfl (by kernel_rfl) (by kernel_rfl) (by kernel_rfl) (fun _ _ _ h => h) (Or.inl ⟨by rfl, ?_⟩) (by assumption) ?_
  rotate_left 1
  · (intro w hSw; (try dsimp only at hSw); go_simp; (try with_reducible rfl))
  try simp only [Act.put, List.getElem_toArray, List.getElem_cons_succ, List.getElem_cons_zero, List.setIfInBounds_toArray, List.set_cons_zero, List.set_cons_succ]
  refine wpAnyH_take (i := 2) (oi := _) (v := ?_) rfl (by kernel_rfl) (by kernel_rfl) (by kernel_rfl) (fun _ _ _ h => h) (Or.inl ⟨by rfl, ?_⟩) (by assumption) ?_
  rotate_left 1
  · (intro w hSw; (try dsimp only at hSw); go_simp; (try with_reducible rfl))
  try simp only [Act.put, List.getElem_toArray, List.getElem_cons_succ, List.getElem_cons_zero, List.setIfInBounds_toArray, List.set_cons_zero, List.set_cons_succ]
  refine wpAnyH_take (i := 3) (oi := _) (v := ?_) rfl (by kernel_rfl) (by kernel_rfl) (by kernel_rfl) (fun _ _ _ h => h) (Or.inl ⟨by rfl, ?_⟩) (by assumption) ?_
  rotate_left 1
  · (intro w hSw; (try dsimp only at hSw); (have q := keepc hSw C0.out; go_simp); (try with_reducible rfl))
  try simp only [Act.put, List.getElem_toArray, List.getElem_cons_succ, List.getElem_cons_zero, List.setIfInBounds_toArray, List.set_cons_zero, List.set_cons_succ]
  refine wpAnyH_take (i := 5) (oi := _) (v := ?_) rfl (by kernel_rfl) (by kernel_rfl) (by kernel_rfl) (fun _ _ _ h => h) (Or.inl ⟨by rfl, ?_⟩) (by assumption) ?_
  rotate_left 1
  · (intro w hSw; (try dsimp only at hSw); go_simp; (try with_reducible rfl))
  try simp only [Act.put, List.getElem_toArray, List.getElem_cons_succ, List.getElem_cons_zero, List.setIfInBounds_toArray, List.set_cons_zero, List.set_cons_succ]
  refine wpAnyH_take (i := 6) (oi := _) (v := ?_) rfl (by kernel_rfl) (by kernel_rfl) (by kernel_rfl) (fun _ _ _ h => h) (Or.inl ⟨by rfl, ?_⟩) (by assumption) ?_
  rotate_left 1
  · (intro w hSw; (try dsimp only at hSw); go_simp; (try with_reducible rfl))
  try simp only [Act.put, List.getElem_toArray, List.getElem_cons_succ, List.getElem_cons_zero, List.setIfInBounds_toArray, List.set_cons_zero, List.set_cons_succ]
  refine wpAnyH_take (i := 7) (oi := _) (v := ?_) rfl (by kernel_rfl) (by kernel_rfl) (by kernel_rfl) (fun _ _ _ h => h) (Or.inl ⟨by rfl, ?_⟩) (by assumption) ?_
  rotate_left 1
  · (intro w hSw; (try dsimp only at hSw); go_simp; (try with_reducible rfl))
  try simp only [Act.put, List.getElem_toArray, List.getElem_cons_succ, List.getElem_cons_zero, List.setIfInBounds_toArray, List.set_cons_zero, List.set_cons_succ]
  refine wpAnyH_take (i := 8) (oi := _) (v := ?_) rfl (by kernel_rfl) (by kernel_rfl) (by kernel_rfl) (fun _ _ _ h => h) (Or.inl ⟨by rfl, ?_⟩) (by assumption) ?_
  rotate_left 1
  · (intro w hSw; (try dsimp only at hSw); (have q := keepc hSw C1.out; go_simp); (try with_reducible rfl))
  try simp only [Act.put, List.getElem_toArray, List.getElem_cons_succ, List.getElem_cons_zero, List.setIfInBounds_toArray, List.set_cons_zero, List.set_cons_succ]
  refine wpAnyH_ready (rs := [4]) (by kernel_rfl) (by simp) ?_
  refine AllReadyH.cons (o := _) rfl (fun K hK => ?_) AllReadyH.nil
  refine rstep_append_any (by kernel_rfl) _ _ 52 rfl w.heap.size 95 i0 _ 7 72 Try.underlying52 hi hz0 hz1 hz2 rfl (by decide) (.slice none 0 0) 0 [] rfl (World.ownsRow_nil _ _ _ _) a L.length c _ rfl HLN.out (HR.out.below hHeld (Nat.le_refl _)) HO.out (by unfold maxLen; omega) (by omega) hHeld.size ?_
  rintro v1 w1 ⟨o1, g1, -⟩
  have hb1 := hHeld.grown g1 hHeld.size (fun b e => by cases e)
  rw [Nat.zero_add, List.nil_append] at o1
  obtain ⟨a1, c1, rfl, -, -, -⟩ := own_cells o1
  refine hK.out _ _ ?_ (fun hHeld4 => ?_)
  · exact hb1
  clear hK K
  try simp only [Act.put, List.getElem_toArray, List.getElem_cons_succ, List.getElem_cons_zero, List.setIfInBounds_toArray, List.set_cons_zero, List.set_cons_succ]
  refine wpAnyH_take (i := 9) (oi := _) (v := ?_) rfl (by kernel_rfl) (by kernel_rfl) (by kernel_rfl) (fun _ _ _ h => h) (Or.inl ⟨by rfl, ?_⟩) (by assumption) ?_
  rotate_left 1
  · (intro w hSw; (try dsimp only at hSw); go_simp; (try with_reducible rfl))
  try simp only [Act.put, List.getElem_toArray, List.getElem_cons_succ, List.getElem_cons_zero, List.setIfInBounds_toArray, List.set_cons_zero, List.set_cons_succ]
  refine wpAnyH_ready (rs := [10]) (by kernel_rfl) (by simp) ?_
  refine AllReadyH.cons (o := _) rfl (fun K hK => ?_) AllReadyH.nil
  go_simp
  refine hK.out _ _ ?_ (fun hHeld10 => ?_)
  · exact hb1.alloc hb1.size _
  clear hK K
  try simp only [Act.put, List.getElem_toArray, List.getElem_cons_succ, List.getElem_cons_zero, List.setIfInBounds_toArray, List.set_cons_zero, List.set_cons_succ]
  refine wpAnyH_take (i := 11) (oi := _) (v := ?_) rfl (by kernel_rfl) (by kernel_rfl) (by kernel_rfl) (fun _ _ _ h => h) (Or.inl ⟨by rfl, ?_⟩) (by assumption) ?_
  rotate_left 1
  · (intro w hSw; (try dsimp only at hSw); go_simp; (try with_reducible rfl))
  try simp only [Act.put, List.getElem_toArray, List.getElem_cons_succ, List.getElem_cons_zero, List.setIfInBounds_toArray, List.set_cons_zero, List.set_cons_succ]
  refine wpAnyH_done (by kernel_rfl) ?_ _
  refine NoPanic.normal ?_
  have HF := Lib.hid (show RCopy w most L (.returned (.pointer (some ⟨w1.heap.size, 0, none⟩))) (w1.alloc (.cells #[.slice a1 L.length c1, .int .i64 most] 54)) from ⟨_, fun k => k = w1.heap.size ∨ (Value.slice a1 L.length c1).ownBlock = some k, rfl, ⟨.slice a1 L.length c1, heap_alloc_new w1 _, ((Only.refl (fun _ => False) w1).alloc (.cells #[.slice a1 L.length c1, .int .i64 most] 54)).own o1 (fun _ _ h => h), fun b e => ⟨.inr e, fun e2 => by have := (o1.lt b e).2; omega⟩, .inl rfl, fun k hk => by
    rcases hk with rfl | hk
    · exact ⟨hb1.size, by simp⟩
    · have := o1.lt k hk; exact ⟨this.1, by simp; omega⟩⟩, hb1.alloc hb1.size _⟩)
  go_wp2
  go_ret
  exact HF.out
  end
def tcell (t : Tal) : Nat → Int
  | 1 => t.p
  | 2 => t.a
  | 3 => t.o
  | 4 => t.t
  | 5 => t.f
  | 6 => t.g
  | _ => t.r
def RMCopy (w : World) (most : Int) (L : List SV) (tal : Tal) (e : Ending) (w' : World) : Prop := ∃ m r G, e = .returned (.pointer (some ⟨m, 0, none⟩)) ∧ RmIs w' w.heap.size m r most L G tal ∧ Below w.heap.size w w'
set_option maxHeartbeats 1000000 in
set_option maxRecDepth 100000 in
theorem rmcopy_any {w : World} {B m r : Nat} {most : Int} {L : List SV} {G : Nat → Prop} {tal : Tal} (h : RmIs w B m r most L G tal) (hl : L.length ≤ 100000) : Calls Try.prog 20 #[.pointer (some ⟨m, 0, none⟩)] w (RMCopy w most L tal) := by
  have hm := h.1
  have C0 := Lib.hid (show w.cell? ⟨m, 0, none⟩ = some (.pointer (some ⟨r, 0, none⟩)) by rw [cell_of_row _ _ _ _ _ _ hm]; rfl)
  have HC := Lib.hid (fun W (hb : Below w.heap.size w W) => rcopy16_any (h.2.1.new hb) hl)
  obtain ⟨tp, ta, t0, tt', tf, tg, tr⟩ := tal
  have C1 := Lib.hid (show w.cell? ⟨m, 1, none⟩ = some (.int .i64 tp) by rw [cell_of_row _ _ _ _ _ _ hm]; rfl)
  have C2 := Lib.hid (show w.cell? ⟨m, 2, none⟩ = some (.int .i64 ta) by rw [cell_of_row _ _ _ _ _ _ hm]; rfl)
  have C3 := Lib.hid (show w.cell? ⟨m, 3, none⟩ = some (.int .i64 t0) by rw [cell_of_row _ _ _ _ _ _ hm]; rfl)
  have C4 := Lib.hid (show w.cell? ⟨m, 4, none⟩ = some (.int .i64 tt') by rw [cell_of_row _ _ _ _ _ _ hm]; rfl)
  have C5 := Lib.hid (show w.cell? ⟨m, 5, none⟩ = some (.int .i64 tf) by rw [cell_of_row _ _ _ _ _ _ hm]; rfl)
  have C6 := Lib.hid (show w.cell? ⟨m, 6, none⟩ = some (.int .i64 tg) by rw [cell_of_row _ _ _ _ _ _ hm]; rfl)
  have C7 := Lib.hid (show w.cell? ⟨m, 7, none⟩ = some (.int .i64 tr) by rw [cell_of_row _ _ _ _ _ _ hm]; rfl)
  clear h hm hl
  go_enter Try.func20, Try.ntmps20
  go_wp2_with fail
  refine wp_region_noPanic ?_
  refine wp_region_held_drew (S := (fun w' => Below w.heap.size w w')) (by kernel_rfl) ?_ (fun hHeld => ?_)
  · exact drew_below _
  refine wpAnyH_take (i := 0) (oi := _) (v := ?_) rfl (by kernel_rfl) (by kernel_rfl) (by kernel_rfl) (fun _ _ _ h => h) (Or.inl ⟨by rfl, ?_⟩) (by assumption) ?_
  rotate_left 1
  · (intro w hSw; (try dsimp only at hSw); go_simp; (try with_reducible rfl))
  try simp only [Act.put, List.getElem_toArray, List.getElem_cons_zero, List.setIfInBounds_toArray, List.set_cons_zero, List.set_cons_succ]
  refine wpAnyH_take (i := 1) (oi := _) (v := ?_) rfl (by kernel_rfl) (by kernel_rfl) (by kernel_rfl) (fun _ _ _ h => h) (Or.inl ⟨by rfl, ?_⟩) (by assumption) ?_
  rotate_left 1
  · (intro w hSw; (try dsimp only at hSw); go_simp; (try with_reducible rfl))
  try simp only [Act.put, List.getElem_toArray, List.getElem_cons_succ, List.getElem_cons_zero, List.setIfInBounds_toArray, List.set_cons_zero, List.set_cons_succ]
  refine wpAnyH_take (i := 2) (oi := _) (v := ?_) rfl (by kernel_rfl) (by kernel_rfl) (by kernel_rfl) (fun _ _ _ h => h) (Or.inl ⟨by rfl, ?_⟩) (by assumption) ?_
  rotate_left 1
  · (intro w hSw; (try dsimp only at hSw); go_simp; (try with_reducible rfl))
  try simp only [Act.put, List.getElem_toArray, List.getElem_cons_succ, List.getElem_cons_zero, List.setIfInBounds_toArray, List.set_cons_zero, List.set_cons_succ]
  refine wpAnyH_take (i := 3) (oi := _) (v := ?_) rfl (by kernel_rfl) (by kernel_rfl) (by kernel_rfl) (fun _ _ _ h => h) (Or.inl ⟨by rfl, ?_⟩) (by assumption) ?_
  rotate_left 1
  · (intro w hSw; (try dsimp only at hSw); (have q := keepc hSw C0.out; go_simp); (try with_reducible rfl))
  try simp only [Act.put, List.getElem_toArray, List.getElem_cons_succ, List.getElem_cons_zero, List.setIfInBounds_toArray, List.set_cons_zero, List.set_cons_succ]
  refine wpAnyH_take (i := 5) (oi := _) (v := ?_) rfl (by kernel_rfl) (by kernel_rfl) (by kernel_rfl) (fun _ _ _ h => h) (Or.inl ⟨by rfl, ?_⟩) (by assumption) ?_
  rotate_left 1
  · (intro w hSw; (try dsimp only at hSw); go_simp; (try with_reducible rfl))
  try simp only [Act.put, List.getElem_toArray, List.getElem_cons_succ, List.getElem_cons_zero, List.setIfInBounds_toArray, List.set_cons_zero, List.set_cons_succ]
  refine wpAnyH_take (i := 6) (oi := _) (v := ?_) rfl (by kernel_rfl) (by kernel_rfl) (by kernel_rfl) (fun _ _ _ h => h) (Or.inl ⟨by rfl, ?_⟩) (by assumption) ?_
  rotate_left 1
  · (intro w hSw; (try dsimp only at hSw); go_simp; (try with_reducible rfl))
  try simp only [Act.put, List.getElem_toArray, List.getElem_cons_succ, List.getElem_cons_zero, List.setIfInBounds_toArray, List.set_cons_zero, List.set_cons_succ]
  refine wpAnyH_take (i := 7) (oi := _) (v := ?_) rfl (by kernel_rfl) (by kernel_rfl) (by kernel_rfl) (fun _ _ _ h => h) (Or.inl ⟨by rfl, ?_⟩) (by assumption) ?_
  rotate_left 1
  · (intro w hSw; (try dsimp only at hSw); go_simp; (try with_reducible rfl))
  try simp only [Act.put, List.getElem_toArray, List.getElem_cons_succ, List.getElem_cons_zero, List.setIfInBounds_toArray, List.set_cons_zero, List.set_cons_succ]
  refine wpAnyH_take (i := 8) (oi := _) (v := ?_) rfl (by kernel_rfl) (by kernel_rfl) (by kernel_rfl) (fun _ _ _ h => h) (Or.inl ⟨by rfl, ?_⟩) (by assumption) ?_
  rotate_left 1
  · (intro w hSw; (try dsimp only at hSw); (have q1 := keepc hSw C1.out; have q2 := keepc hSw C2.out; have q3 := keepc hSw C3.out; have q4 := keepc hSw C4.out; have q5 := keepc hSw C5.out; have q6 := keepc hSw C6.out; have q7 := keepc hSw C7.out; go_simp); (try with_reducible rfl))
  try simp only [Act.put, List.getElem_toArray, List.getElem_cons_succ, List.getElem_cons_zero, List.setIfInBounds_toArray, List.set_cons_zero, List.set_cons_succ]
  refine wpAnyH_ready (rs := [4]) (by kernel_rfl) (by simp) ?_
  refine AllReadyH.cons (o := _) rfl (fun K hK => ?_) AllReadyH.nil
  go_simp
  refine (HC.out _ hHeld).mono ?_
  rintro e w1 ⟨r1, G1, rfl, h1, hb1⟩
  have HB1 := Lib.hid (hHeld.trans (hb1.mono hHeld.size))
  have H1 := Lib.hid h1
  clear h1 hb1
  go_wp2_with fail
  refine hK.out _ _ ?_ (fun hHeld4 => ?_)
  · exact HB1.out
  clear hK K
  try simp only [Act.put, List.getElem_toArray, List.getElem_cons_succ, List.getElem_cons_zero, List.setIfInBounds_toArray, List.set_cons_zero, List.set_cons_succ]
  refine wpAnyH_take (i := 9) (oi := _) (v := ?_) rfl (by kernel_rfl) (by kernel_rfl) (by kernel_rfl) (fun _ _ _ h => h) (Or.inl ⟨by rfl, ?_⟩) (by assumption) ?_
  rotate_left 1
  · (intro w hSw; (try dsimp only at hSw); go_simp; (try with_reducible rfl))
  try simp only [Act.put, List.getElem_toArray, List.getElem_cons_succ, List.getElem_cons_zero, List.setIfInBounds_toArray, List.set_cons_zero, List.set_cons_succ]
  refine wpAnyH_ready (rs := [10]) (by kernel_rfl) (by simp) ?_
  refine AllReadyH.cons (o := _) rfl (fun K hK => ?_) AllReadyH.nil
  go_simp
  refine hK.out _ _ ?_ (fun hHeld10 => ?_)
  · exact HB1.out.alloc HB1.out.size _
  clear hK K
  try simp only [Act.put, List.getElem_toArray, List.getElem_cons_succ, List.getElem_cons_zero, List.setIfInBounds_toArray, List.set_cons_zero, List.set_cons_succ]
  refine wpAnyH_take (i := 11) (oi := _) (v := ?_) rfl (by kernel_rfl) (by kernel_rfl) (by kernel_rfl) (fun _ _ _ h => h) (Or.inl ⟨by rfl, ?_⟩) (by assumption) ?_
  rotate_left 1
  · (intro w hSw; (try dsimp only at hSw); go_simp; (try with_reducible rfl))
  try simp only [Act.put, List.getElem_toArray, List.getElem_cons_succ, List.getElem_cons_zero, List.setIfInBounds_toArray, List.set_cons_zero, List.set_cons_succ]
  refine wpAnyH_done (by kernel_rfl) ?_ _
  refine NoPanic.normal ?_
  have HF := Lib.hid (show RMCopy w most L ⟨tp, ta, t0, tt', tf, tg, tr⟩ (.returned (.pointer (some ⟨w1.heap.size, 0, none⟩))) (w1.alloc (.cells (mcells r1 ⟨tp, ta, t0, tt', tf, tg, tr⟩) 57)) from ⟨_, r1, G1, rfl, ⟨heap_alloc_new w1 _, H1.out.new ((Below.refl _ _).alloc (Nat.le_refl _) _), fun h => by have := H1.out.lt _ h; omega, HB1.out.size⟩, HB1.out.alloc HB1.out.size _⟩)
  go_wp2
  go_ret
  exact HF.out
def MCopy (w : World) (most : Int) (l : List SV) (tal : Tal) (e : Ending) (w' : World) : Prop := ∃ m s F l', e = .returned (.pointer (some ⟨m, 0, none⟩)) ∧ MIs w' w.heap.size m s most l' F tal ∧ l'.Perm l ∧ Below w.heap.size w w'
set_option maxHeartbeats 1000000 in
set_option maxRecDepth 100000 in
theorem mcopy_any {w : World} {B m s : Nat} {most : Int} {l : List SV} {F : List Nat} {tal : Tal} (h : MIs w B m s most l F tal) (hu : Uniq l) (hm0 : 0 ≤ most) : Calls Try.prog 19 #[.pointer (some ⟨m, 0, none⟩)] w (MCopy w most l tal) := by
  have hm := h.1
  have HC := Lib.hid (fun W (hb : Below w.heap.size w W) => mstore_any (h.new hb) hu hm0)
  obtain ⟨tp, ta, t0, tt', tf, tg, tr⟩ := tal
  have C1 := Lib.hid (show w.cell? ⟨m, 1, none⟩ = some (.int .i64 tp) by rw [cell_of_row _ _ _ _ _ _ hm]; rfl)
  have C2 := Lib.hid (show w.cell? ⟨m, 2, none⟩ = some (.int .i64 ta) by rw [cell_of_row _ _ _ _ _ _ hm]; rfl)
  have C3 := Lib.hid (show w.cell? ⟨m, 3, none⟩ = some (.int .i64 t0) by rw [cell_of_row _ _ _ _ _ _ hm]; rfl)
  have C4 := Lib.hid (show w.cell? ⟨m, 4, none⟩ = some (.int .i64 tt') by rw [cell_of_row _ _ _ _ _ _ hm]; rfl)
  have C5 := Lib.hid (show w.cell? ⟨m, 5, none⟩ = some (.int .i64 tf) by rw [cell_of_row _ _ _ _ _ _ hm]; rfl)
  have C6 := Lib.hid (show w.cell? ⟨m, 6, none⟩ = some (.int .i64 tg) by rw [cell_of_row _ _ _ _ _ _ hm]; rfl)
  have C7 := Lib.hid (show w.cell? ⟨m, 7, none⟩ = some (.int .i64 tr) by rw [cell_of_row _ _ _ _ _ _ hm]; rfl)
  clear h hm hu hm0
  go_enter Try.func19, Try.ntmps19
  go_wp2_with fail
  refine wp_region_noPanic ?_
  refine wp_region_held_drew (S := (fun w' => Below w.heap.size w w')) (by kernel_rfl) ?_ (fun hHeld => ?_)
  · exact drew_below _
  refine wpAnyH_take (i := 0) (oi := _) (v := ?_) rfl (by kernel_rfl) (by kernel_rfl) (by kernel_rfl) (fun _ _ _ h => h) (Or.inl ⟨by rfl, ?_⟩) (by assumption) ?_
  rotate_left 1
  · (intro w hSw; (try dsimp only at hSw); go_simp; (try with_reducible rfl))
  try simp only [Act.put, List.getElem_toArray, List.getElem_cons_zero, List.setIfInBounds_toArray, List.set_cons_zero, List.set_cons_succ]
  refine wpAnyH_take (i := 2) (oi := _) (v := ?_) rfl (by kernel_rfl) (by kernel_rfl) (by kernel_rfl) (fun _ _ _ h => h) (Or.inl ⟨by rfl, ?_⟩) (by assumption) ?_
  rotate_left 1
  · (intro w hSw; (try dsimp only at hSw); go_simp; (try with_reducible rfl))
  try simp only [Act.put, List.getElem_toArray, List.getElem_cons_succ, List.getElem_cons_zero, List.setIfInBounds_toArray, List.set_cons_zero, List.set_cons_succ]
  refine wpAnyH_take (i := 3) (oi := _) (v := ?_) rfl (by kernel_rfl) (by kernel_rfl) (by kernel_rfl) (fun _ _ _ h => h) (Or.inl ⟨by rfl, ?_⟩) (by assumption) ?_
  rotate_left 1
  · (intro w hSw; (try dsimp only at hSw); go_simp; (try with_reducible rfl))
  try simp only [Act.put, List.getElem_toArray, List.getElem_cons_succ, List.getElem_cons_zero, List.setIfInBounds_toArray, List.set_cons_zero, List.set_cons_succ]
  refine wpAnyH_take (i := 4) (oi := _) (v := ?_) rfl (by kernel_rfl) (by kernel_rfl) (by kernel_rfl) (fun _ _ _ h => h) (Or.inl ⟨by rfl, ?_⟩) (by assumption) ?_
  rotate_left 1
  · (intro w hSw; (try dsimp only at hSw); go_simp; (try with_reducible rfl))
  try simp only [Act.put, List.getElem_toArray, List.getElem_cons_succ, List.getElem_cons_zero, List.setIfInBounds_toArray, List.set_cons_zero, List.set_cons_succ]
  refine wpAnyH_take (i := 5) (oi := _) (v := ?_) rfl (by kernel_rfl) (by kernel_rfl) (by kernel_rfl) (fun _ _ _ h => h) (Or.inl ⟨by rfl, ?_⟩) (by assumption) ?_
  rotate_left 1
  · (intro w hSw; (try dsimp only at hSw); (have q1 := keepc hSw C1.out; have q2 := keepc hSw C2.out; have q3 := keepc hSw C3.out; have q4 := keepc hSw C4.out; have q5 := keepc hSw C5.out; have q6 := keepc hSw C6.out; have q7 := keepc hSw C7.out; go_simp); (try with_reducible rfl))
  try simp only [Act.put, List.getElem_toArray, List.getElem_cons_succ, List.getElem_cons_zero, List.setIfInBounds_toArray, List.set_cons_zero, List.set_cons_succ]
  refine wpAnyH_ready (rs := [1]) (by kernel_rfl) (by simp) ?_
  refine AllReadyH.cons (o := _) rfl (fun K hK => ?_) AllReadyH.nil
  go_simp
  refine (HC.out _ hHeld).mono ?_
  rintro e w1 ⟨s1, F1, l1, rfl, h1, hp1, hb1, hF1⟩
  have HB1 := Lib.hid (hHeld.trans (hb1.mono hHeld.size))
  have H1 := Lib.hid h1
  have HP1 := Lib.hid hp1
  have HF1 := Lib.hid (show ∀ k ∈ F1, w.heap.size ≤ k from hF1)
  clear h1 hb1 hp1 hF1
  go_wp2_with fail
  refine hK.out _ _ ?_ (fun hHeld1 => ?_)
  · exact HB1.out
  clear hK K
  try simp only [Act.put, List.getElem_toArray, List.getElem_cons_succ, List.getElem_cons_zero, List.setIfInBounds_toArray, List.set_cons_zero, List.set_cons_succ]
  refine wpAnyH_take (i := 6) (oi := _) (v := ?_) rfl (by kernel_rfl) (by kernel_rfl) (by kernel_rfl) (fun _ _ _ h => h) (Or.inl ⟨by rfl, ?_⟩) (by assumption) ?_
  rotate_left 1
  · (intro w hSw; (try dsimp only at hSw); go_simp; (try with_reducible rfl))
  try simp only [Act.put, List.getElem_toArray, List.getElem_cons_succ, List.getElem_cons_zero, List.setIfInBounds_toArray, List.set_cons_zero, List.set_cons_succ]
  refine wpAnyH_ready (rs := [7]) (by kernel_rfl) (by simp) ?_
  refine AllReadyH.cons (o := _) rfl (fun K hK => ?_) AllReadyH.nil
  go_simp
  refine hK.out _ _ ?_ (fun hHeld7 => ?_)
  · exact HB1.out.alloc HB1.out.size _
  clear hK K
  try simp only [Act.put, List.getElem_toArray, List.getElem_cons_succ, List.getElem_cons_zero, List.setIfInBounds_toArray, List.set_cons_zero, List.set_cons_succ]
  refine wpAnyH_take (i := 8) (oi := _) (v := ?_) rfl (by kernel_rfl) (by kernel_rfl) (by kernel_rfl) (fun _ _ _ h => h) (Or.inl ⟨by rfl, ?_⟩) (by assumption) ?_
  rotate_left 1
  · (intro w hSw; (try dsimp only at hSw); go_simp; (try with_reducible rfl))
  try simp only [Act.put, List.getElem_toArray, List.getElem_cons_succ, List.getElem_cons_zero, List.setIfInBounds_toArray, List.set_cons_zero, List.set_cons_succ]
  refine wpAnyH_done (by kernel_rfl) ?_ _
  refine NoPanic.normal ?_
  have HF := Lib.hid (show MCopy w most l ⟨tp, ta, t0, tt', tf, tg, tr⟩ (.returned (.pointer (some ⟨w1.heap.size, 0, none⟩))) (w1.alloc (.cells (mcells s1 ⟨tp, ta, t0, tt', tf, tg, tr⟩) 65)) from ⟨_, s1, F1, l1, rfl, ⟨heap_alloc_new w1 _, H1.out.alloc _, fun h => by have := H1.out.lt _ h; omega, HB1.out.size, HF1.out⟩, HP1.out, HB1.out.alloc HB1.out.size _⟩)
  go_wp2
  go_ret
  exact HF.out
  end Go.Proofs.Ythademifhnkbiaa
