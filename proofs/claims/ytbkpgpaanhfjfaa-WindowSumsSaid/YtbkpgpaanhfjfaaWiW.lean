/- Chapter 18: same; begin, of both windows; WindowPlays and WindowSums: the walks. -/
import Derived.Test.YtbkpgpaanhfjfaaWiV
namespace Go.Proofs.Ytbkpgpaanhfjfaa
open Go.RowKit Go.Sort K
set_option maxHeartbeats 4000000 in
set_option maxRecDepth 100000 in
theorem same18_any {w : World} {B g r k : Nat} {s : Cfg} {L : List WV} {F : List Nat} {G : Nat → Prop} (h : WpIs w B g r s L F G) (hi : WpI k s L) :
    Calls Try.prog 19 #[.pointer (some ⟨g, 0, none⟩), .pointer (some ⟨r, 0, none⟩)] w fun e w' => e = .returned (.bool true) ∧ Below w.heap.size w w' := by
  have HH := Lib.hid h
  have HI := Lib.hid hi
  have HC := Lib.hid (counts_any h.1 hi.len.1)
  obtain ⟨fl, hfl⟩ : ∃ x, x = s.floor := ⟨_, rfl⟩
  obtain ⟨mk, hmk⟩ : ∃ x, x = s.mark := ⟨_, rfl⟩
  obtain ⟨cd, hcd⟩ : ∃ x, x = s.cred := ⟨_, rfl⟩
  obtain ⟨la, hla⟩ : ∃ x, x = s.late := ⟨_, rfl⟩
  obtain ⟨ar, cr, hrow, -, hwm, -⟩ := id h.2.1
  have K3 := Lib.hid (show w.cell? ⟨r, 3, none⟩ = some (.slice ar L.length cr) by rw [cell_of_row _ _ _ _ _ _ hrow]; rfl)
  have K4 := Lib.hid (show w.cell? ⟨r, 4, none⟩ = some (.int .i64 fl) by rw [hfl, cell_of_row _ _ _ _ _ _ hrow]; rfl)
  have K5 := Lib.hid (show w.cell? ⟨r, 5, none⟩ = some (.int .i64 mk) by rw [hmk, cell_of_row _ _ _ _ _ _ hrow]; rfl)
  have K6 := Lib.hid (show w.cell? ⟨r, 6, none⟩ = some (.int .i64 cd) by rw [hcd, cell_of_row _ _ _ _ _ _ hrow]; rfl)
  have K7 := Lib.hid (show w.cell? ⟨r, 7, none⟩ = some (.int .i64 la) by rw [hla, cell_of_row _ _ _ _ _ _ hrow]; rfl)
  have HWM := Lib.hid hwm
  rw [← hcd, ← hla] at HC
  have HFL := Lib.hid (fun W (hb : Below w.heap.size w W) => (show Calls Try.prog 24 #[.pointer (some ⟨g, 0, none⟩)] W fun e w' => e = .returned (.int .i64 fl) ∧ W = w' by rw [hfl]; exact floor_any (HH.out.1.new hb) HI.out.len.1))
  have HMK := Lib.hid (fun W (hb : Below w.heap.size w W) => (show Calls Try.prog 25 #[.pointer (some ⟨g, 0, none⟩)] W fun e w' => e = .returned (.int .i64 mk) ∧ W = w' by rw [hmk]; exact mark_any (HH.out.1.new hb) HI.out.len.1))
  have HOP := Lib.hid (fun W (hb : Below w.heap.size w W) => open_any (HH.out.1.new hb) HI.out.wbd HI.out.len.1)
  clear h hi hfl hmk hcd hla hrow hwm
  go_enter Try.func19, Try.ntmps19
  go_wp2_with fail
  refine HC.out.mono ?_
  rintro e w2 ⟨rfl, hb2⟩
  have HB2 := Lib.hid hb2
  clear hb2
  go_wp2_with fail
  refine wp_region_noPanic ?_
  refine wp_region_held_drew (S := (fun w' => Below w.heap.size w w')) (by kernel_rfl) ?_ (fun hHeld => ?_)
  · exact HB2.out.trans ((drew_below _).mono HB2.out.size)
  refine wpAnyH_take (i := 0) (oi := _) (v := ?_) rfl (by kernel_rfl) (by kernel_rfl) (by kernel_rfl) (fun _ _ _ h => h) (Or.inl ⟨by rfl, ?_⟩) (by assumption) ?_
  rotate_left 1
  · (intro w hSw; (try dsimp only at hSw); go_simp; (try with_reducible rfl))
  try simp only [Act.put, List.getElem_toArray, List.getElem_cons_succ, List.getElem_cons_zero, List.setIfInBounds_toArray, List.set_cons_zero, List.set_cons_succ]
  refine wpAnyH_take (i := 2) (oi := _) (v := ?_) rfl (by kernel_rfl) (by kernel_rfl) (by kernel_rfl) (fun _ _ _ h => h) (Or.inl ⟨by rfl, ?_⟩) (by assumption) ?_
  rotate_left 1
  · (intro w hSw; (try dsimp only at hSw); go_simp; (try with_reducible rfl))
  try simp only [Act.put, List.getElem_toArray, List.getElem_cons_succ, List.getElem_cons_zero, List.setIfInBounds_toArray, List.set_cons_zero, List.set_cons_succ]
  refine wpAnyH_take (i := 3) (oi := _) (v := ?_) rfl (by kernel_rfl) (by kernel_rfl) (by kernel_rfl) (fun _ _ _ h => h) (Or.inl ⟨by rfl, ?_⟩) (by assumption) ?_
  rotate_left 1
  · (intro w hSw; (try dsimp only at hSw); go_simp; (try with_reducible rfl))
  try simp only [Act.put, List.getElem_toArray, List.getElem_cons_succ, List.getElem_cons_zero, List.setIfInBounds_toArray, List.set_cons_zero, List.set_cons_succ]
  refine wpAnyH_take (i := 4) (oi := _) (v := ?_) rfl (by kernel_rfl) (by kernel_rfl) (by kernel_rfl) (fun _ _ _ h => h) (Or.inl ⟨by rfl, ?_⟩) (by assumption) ?_
  rotate_left 1
  · (intro w hSw; (try dsimp only at hSw); go_simp; (try with_reducible rfl))
  try simp only [Act.put, List.getElem_toArray, List.getElem_cons_succ, List.getElem_cons_zero, List.setIfInBounds_toArray, List.set_cons_zero, List.set_cons_succ]
  refine wpAnyH_take (i := 5) (oi := _) (v := ?_) rfl (by kernel_rfl) (by kernel_rfl) (by kernel_rfl) (fun _ _ _ h => h) (Or.inl ⟨by rfl, ?_⟩) (by assumption) ?_
  rotate_left 1
  · (intro w hSw; (try dsimp only at hSw); (have q := keepc hSw K3.out; go_simp); (try with_reducible rfl))
  try simp only [Act.put, List.getElem_toArray, List.getElem_cons_succ, List.getElem_cons_zero, List.setIfInBounds_toArray, List.set_cons_zero, List.set_cons_succ]
  refine wpAnyH_ready (rs := [1]) (by kernel_rfl) (by simp) ?_
  refine AllReadyH.cons (o := _) rfl (fun K hK => ?_) AllReadyH.nil
  go_simp
  refine (HOP.out _ hHeld).mono ?_
  rintro e w3 ⟨⟨a3, c3, rfl, hw3⟩, hb3⟩
  have HB3 := Lib.hid (hHeld.trans (hb3.mono hHeld.size))
  have HSW := Lib.hid (samewin_eq (c1 := c3) (c2 := cr) hw3 (HWM.out.new HB3.out) HI.out.wbd.len (fun v hv => (HI.out.wbd.crs v hv).1))
  clear hw3 hb3
  go_wp2_with fail
  refine hK.out _ _ ?_ (fun hHeld1 => ?_)
  · exact HB3.out
  clear hK K
  try simp only [Act.put, List.getElem_toArray, List.getElem_cons_succ, List.getElem_cons_zero, List.setIfInBounds_toArray, List.set_cons_zero, List.set_cons_succ]
  refine wpAnyH_ready (rs := [6]) (by kernel_rfl) (by simp) ?_
  refine AllReadyH.cons (o := _) rfl (fun K hK => ?_) AllReadyH.nil
  go_simp
  refine HSW.out.mono ?_
  rintro e w4 ⟨rfl, hb4⟩
  have HB4 := Lib.hid (HB3.out.trans (hb4.mono HB3.out.size))
  clear hb4
  go_wp2_with fail
  refine hK.out _ _ ?_ (fun hHeld6 => ?_)
  · exact HB4.out
  clear hK K
  try simp only [Act.put, List.getElem_toArray, List.getElem_cons_succ, List.getElem_cons_zero, List.setIfInBounds_toArray, List.set_cons_zero, List.set_cons_succ]
  refine wpAnyH_take (i := 7) (oi := _) (v := ?_) rfl (by kernel_rfl) (by kernel_rfl) (by kernel_rfl) (fun _ _ _ h => h) (Or.inl ⟨by rfl, ?_⟩) (by assumption) ?_
  rotate_left 1
  · (intro w hSw; (try dsimp only at hSw); go_simp; (try with_reducible rfl))
  try simp only [Act.put, List.getElem_toArray, List.getElem_cons_succ, List.getElem_cons_zero, List.setIfInBounds_toArray, List.set_cons_zero, List.set_cons_succ]
  refine wpAnyH_take (i := 8) (oi := _) (v := ?_) rfl (by kernel_rfl) (by kernel_rfl) (by kernel_rfl) (fun _ _ _ h => h) (Or.inl ⟨by rfl, ?_⟩) (by assumption) ?_
  rotate_left 1
  · (intro w hSw; (try dsimp only at hSw); go_simp; (try with_reducible rfl))
  try simp only [Act.put, List.getElem_toArray, List.getElem_cons_succ, List.getElem_cons_zero, List.setIfInBounds_toArray, List.set_cons_zero, List.set_cons_succ]
  refine wpAnyH_take (i := 10) (oi := _) (v := ?_) rfl (by kernel_rfl) (by kernel_rfl) (by kernel_rfl) (fun _ _ _ h => h) (Or.inl ⟨by rfl, ?_⟩) (by assumption) ?_
  rotate_left 1
  · (intro w hSw; (try dsimp only at hSw); go_simp; (try with_reducible rfl))
  try simp only [Act.put, List.getElem_toArray, List.getElem_cons_succ, List.getElem_cons_zero, List.setIfInBounds_toArray, List.set_cons_zero, List.set_cons_succ]
  refine wpAnyH_take (i := 11) (oi := _) (v := ?_) rfl (by kernel_rfl) (by kernel_rfl) (by kernel_rfl) (fun _ _ _ h => h) (Or.inl ⟨by rfl, ?_⟩) (by assumption) ?_
  rotate_left 1
  · (intro w hSw; (try dsimp only at hSw); go_simp; (try with_reducible rfl))
  try simp only [Act.put, List.getElem_toArray, List.getElem_cons_succ, List.getElem_cons_zero, List.setIfInBounds_toArray, List.set_cons_zero, List.set_cons_succ]
  refine wpAnyH_take (i := 12) (oi := _) (v := ?_) rfl (by kernel_rfl) (by kernel_rfl) (by kernel_rfl) (fun _ _ _ h => h) (Or.inl ⟨by rfl, ?_⟩) (by assumption) ?_
  rotate_left 1
  · (intro w hSw; (try dsimp only at hSw); go_simp; (try with_reducible rfl))
  try simp only [Act.put, List.getElem_toArray, List.getElem_cons_succ, List.getElem_cons_zero, List.setIfInBounds_toArray, List.set_cons_zero, List.set_cons_succ]
  refine wpAnyH_take (i := 13) (oi := _) (v := ?_) rfl (by kernel_rfl) (by kernel_rfl) (by kernel_rfl) (fun _ _ _ h => h) (Or.inl ⟨by rfl, ?_⟩) (by assumption) ?_
  rotate_left 1
  · (intro w hSw; (try dsimp only at hSw); (have q := keepc hSw K4.out; go_simp); (try with_reducible rfl))
  try simp only [Act.put, List.getElem_toArray, List.getElem_cons_succ, List.getElem_cons_zero, List.setIfInBounds_toArray, List.set_cons_zero, List.set_cons_succ]
  refine wpAnyH_ready (rs := [9]) (by kernel_rfl) (by simp) ?_
  refine AllReadyH.cons (o := _) rfl (fun K hK => ?_) AllReadyH.nil
  go_simp
  refine (HFL.out _ HB4.out).mono ?_
  rintro e w5 ⟨rfl, rfl⟩
  go_wp2_with fail
  refine hK.out _ _ ?_ (fun hHeld9 => ?_)
  · exact HB4.out
  clear hK K
  try simp only [Act.put, List.getElem_toArray, List.getElem_cons_succ, List.getElem_cons_zero, List.setIfInBounds_toArray, List.set_cons_zero, List.set_cons_succ]
  refine wpAnyH_take (i := 14) (oi := _) (v := ?_) rfl (by kernel_rfl) (by kernel_rfl) (by kernel_rfl) (fun _ _ _ h => h) (Or.inl ⟨by rfl, ?_⟩) (by assumption) ?_
  rotate_left 1
  · (intro w hSw; (try dsimp only at hSw); go_simp; (try with_reducible rfl))
  try simp only [Act.put, List.getElem_toArray, List.getElem_cons_succ, List.getElem_cons_zero, List.setIfInBounds_toArray, List.set_cons_zero, List.set_cons_succ]
  refine wpAnyH_take (i := 15) (oi := _) (v := ?_) rfl (by kernel_rfl) (by kernel_rfl) (by kernel_rfl) (fun _ _ _ h => h) (Or.inl ⟨by rfl, ?_⟩) (by assumption) ?_
  rotate_left 1
  · (intro w hSw; (try dsimp only at hSw); go_simp; (try with_reducible rfl))
  try simp only [Act.put, List.getElem_toArray, List.getElem_cons_succ, List.getElem_cons_zero, List.setIfInBounds_toArray, List.set_cons_zero, List.set_cons_succ]
  refine wpAnyH_take (i := 16) (oi := _) (v := ?_) rfl (by kernel_rfl) (by kernel_rfl) (by kernel_rfl) (fun _ _ _ h => h) (Or.inl ⟨by rfl, ?_⟩) (by assumption) ?_
  rotate_left 1
  · (intro w hSw; (try dsimp only at hSw); go_simp; (try with_reducible rfl))
  try simp only [Act.put, List.getElem_toArray, List.getElem_cons_succ, List.getElem_cons_zero, List.setIfInBounds_toArray, List.set_cons_zero, List.set_cons_succ]
  refine wpAnyH_take (i := 17) (oi := _) (v := ?_) rfl (by kernel_rfl) (by kernel_rfl) (by kernel_rfl) (fun _ _ _ h => h) (Or.inl ⟨by rfl, ?_⟩) (by assumption) ?_
  rotate_left 1
  · (intro w hSw; (try dsimp only at hSw); go_simp; (try with_reducible rfl))
  try simp only [Act.put, List.getElem_toArray, List.getElem_cons_succ, List.getElem_cons_zero, List.setIfInBounds_toArray, List.set_cons_zero, List.set_cons_succ]
  refine wpAnyH_take (i := 19) (oi := _) (v := ?_) rfl (by kernel_rfl) (by kernel_rfl) (by kernel_rfl) (fun _ _ _ h => h) (Or.inl ⟨by rfl, ?_⟩) (by assumption) ?_
  rotate_left 1
  · (intro w hSw; (try dsimp only at hSw); go_simp; (try with_reducible rfl))
  try simp only [Act.put, List.getElem_toArray, List.getElem_cons_succ, List.getElem_cons_zero, List.setIfInBounds_toArray, List.set_cons_zero, List.set_cons_succ]
  refine wpAnyH_take (i := 20) (oi := _) (v := ?_) rfl (by kernel_rfl) (by kernel_rfl) (by kernel_rfl) (fun _ _ _ h => h) (Or.inl ⟨by rfl, ?_⟩) (by assumption) ?_
  rotate_left 1
  · (intro w hSw; (try dsimp only at hSw); go_simp; (try with_reducible rfl))
  try simp only [Act.put, List.getElem_toArray, List.getElem_cons_succ, List.getElem_cons_zero, List.setIfInBounds_toArray, List.set_cons_zero, List.set_cons_succ]
  refine wpAnyH_take (i := 21) (oi := _) (v := ?_) rfl (by kernel_rfl) (by kernel_rfl) (by kernel_rfl) (fun _ _ _ h => h) (Or.inl ⟨by rfl, ?_⟩) (by assumption) ?_
  rotate_left 1
  · (intro w hSw; (try dsimp only at hSw); go_simp; (try with_reducible rfl))
  try simp only [Act.put, List.getElem_toArray, List.getElem_cons_succ, List.getElem_cons_zero, List.setIfInBounds_toArray, List.set_cons_zero, List.set_cons_succ]
  refine wpAnyH_take (i := 22) (oi := _) (v := ?_) rfl (by kernel_rfl) (by kernel_rfl) (by kernel_rfl) (fun _ _ _ h => h) (Or.inl ⟨by rfl, ?_⟩) (by assumption) ?_
  rotate_left 1
  · (intro w hSw; (try dsimp only at hSw); (have q := keepc hSw K5.out; go_simp); (try with_reducible rfl))
  try simp only [Act.put, List.getElem_toArray, List.getElem_cons_succ, List.getElem_cons_zero, List.setIfInBounds_toArray, List.set_cons_zero, List.set_cons_succ]
  refine wpAnyH_ready (rs := [18]) (by kernel_rfl) (by simp) ?_
  refine AllReadyH.cons (o := _) rfl (fun K hK => ?_) AllReadyH.nil
  go_simp
  refine (HMK.out _ HB4.out).mono ?_
  rintro e w5 ⟨rfl, rfl⟩
  go_wp2_with fail
  refine hK.out _ _ ?_ (fun hHeld18 => ?_)
  · exact HB4.out
  clear hK K
  try simp only [Act.put, List.getElem_toArray, List.getElem_cons_succ, List.getElem_cons_zero, List.setIfInBounds_toArray, List.set_cons_zero, List.set_cons_succ]
  refine wpAnyH_take (i := 23) (oi := _) (v := ?_) rfl (by kernel_rfl) (by kernel_rfl) (by kernel_rfl) (fun _ _ _ h => h) (Or.inl ⟨by rfl, ?_⟩) (by assumption) ?_
  rotate_left 1
  · (intro w hSw; (try dsimp only at hSw); go_simp; (try with_reducible rfl))
  try simp only [Act.put, List.getElem_toArray, List.getElem_cons_succ, List.getElem_cons_zero, List.setIfInBounds_toArray, List.set_cons_zero, List.set_cons_succ]
  refine wpAnyH_take (i := 24) (oi := _) (v := ?_) rfl (by kernel_rfl) (by kernel_rfl) (by kernel_rfl) (fun _ _ _ h => h) (Or.inl ⟨by rfl, ?_⟩) (by assumption) ?_
  rotate_left 1
  · (intro w hSw; (try dsimp only at hSw); go_simp; (try with_reducible rfl))
  try simp only [Act.put, List.getElem_toArray, List.getElem_cons_succ, List.getElem_cons_zero, List.setIfInBounds_toArray, List.set_cons_zero, List.set_cons_succ]
  refine wpAnyH_take (i := 25) (oi := _) (v := ?_) rfl (by kernel_rfl) (by kernel_rfl) (by kernel_rfl) (fun _ _ _ h => h) (Or.inl ⟨by rfl, ?_⟩) (by assumption) ?_
  rotate_left 1
  · (intro w hSw; (try dsimp only at hSw); go_simp; (try with_reducible rfl))
  try simp only [Act.put, List.getElem_toArray, List.getElem_cons_succ, List.getElem_cons_zero, List.setIfInBounds_toArray, List.set_cons_zero, List.set_cons_succ]
  refine wpAnyH_take (i := 26) (oi := _) (v := ?_) rfl (by kernel_rfl) (by kernel_rfl) (by kernel_rfl) (fun _ _ _ h => h) (Or.inl ⟨by rfl, ?_⟩) (by assumption) ?_
  rotate_left 1
  · (intro w hSw; (try dsimp only at hSw); go_simp; (try with_reducible rfl))
  try simp only [Act.put, List.getElem_toArray, List.getElem_cons_succ, List.getElem_cons_zero, List.setIfInBounds_toArray, List.set_cons_zero, List.set_cons_succ]
  refine wpAnyH_take (i := 27) (oi := _) (v := ?_) rfl (by kernel_rfl) (by kernel_rfl) (by kernel_rfl) (fun _ _ _ h => h) (Or.inl ⟨by rfl, ?_⟩) (by assumption) ?_
  rotate_left 1
  · (intro w hSw; (try dsimp only at hSw); go_simp; (try with_reducible rfl))
  try simp only [Act.put, List.getElem_toArray, List.getElem_cons_succ, List.getElem_cons_zero, List.setIfInBounds_toArray, List.set_cons_zero, List.set_cons_succ]
  refine wpAnyH_take (i := 28) (oi := _) (v := ?_) rfl (by kernel_rfl) (by kernel_rfl) (by kernel_rfl) (fun _ _ _ h => h) (Or.inl ⟨by rfl, ?_⟩) (by assumption) ?_
  rotate_left 1
  · (intro w hSw; (try dsimp only at hSw); go_simp; (try with_reducible rfl))
  try simp only [Act.put, List.getElem_toArray, List.getElem_cons_succ, List.getElem_cons_zero, List.setIfInBounds_toArray, List.set_cons_zero, List.set_cons_succ]
  refine wpAnyH_take (i := 29) (oi := _) (v := ?_) rfl (by kernel_rfl) (by kernel_rfl) (by kernel_rfl) (fun _ _ _ h => h) (Or.inl ⟨by rfl, ?_⟩) (by assumption) ?_
  rotate_left 1
  · (intro w hSw; (try dsimp only at hSw); go_simp; (try with_reducible rfl))
  try simp only [Act.put, List.getElem_toArray, List.getElem_cons_succ, List.getElem_cons_zero, List.setIfInBounds_toArray, List.set_cons_zero, List.set_cons_succ]
  refine wpAnyH_take (i := 30) (oi := _) (v := ?_) rfl (by kernel_rfl) (by kernel_rfl) (by kernel_rfl) (fun _ _ _ h => h) (Or.inl ⟨by rfl, ?_⟩) (by assumption) ?_
  rotate_left 1
  · (intro w hSw; (try dsimp only at hSw); (have q := keepc hSw K6.out; go_simp); (try with_reducible rfl))
  try simp only [Act.put, List.getElem_toArray, List.getElem_cons_succ, List.getElem_cons_zero, List.setIfInBounds_toArray, List.set_cons_zero, List.set_cons_succ]
  refine wpAnyH_take (i := 31) (oi := _) (v := ?_) rfl (by kernel_rfl) (by kernel_rfl) (by kernel_rfl) (fun _ _ _ h => h) (Or.inl ⟨by rfl, ?_⟩) (by assumption) ?_
  rotate_left 1
  · (intro w hSw; (try dsimp only at hSw); go_simp; (try with_reducible rfl))
  try simp only [Act.put, List.getElem_toArray, List.getElem_cons_succ, List.getElem_cons_zero, List.setIfInBounds_toArray, List.set_cons_zero, List.set_cons_succ]
  refine wpAnyH_take (i := 32) (oi := _) (v := ?_) rfl (by kernel_rfl) (by kernel_rfl) (by kernel_rfl) (fun _ _ _ h => h) (Or.inl ⟨by rfl, ?_⟩) (by assumption) ?_
  rotate_left 1
  · (intro w hSw; (try dsimp only at hSw); go_simp; (try with_reducible rfl))
  try simp only [Act.put, List.getElem_toArray, List.getElem_cons_succ, List.getElem_cons_zero, List.setIfInBounds_toArray, List.set_cons_zero, List.set_cons_succ]
  refine wpAnyH_take (i := 33) (oi := _) (v := ?_) rfl (by kernel_rfl) (by kernel_rfl) (by kernel_rfl) (fun _ _ _ h => h) (Or.inl ⟨by rfl, ?_⟩) (by assumption) ?_
  rotate_left 1
  · (intro w hSw; (try dsimp only at hSw); go_simp; (try with_reducible rfl))
  try simp only [Act.put, List.getElem_toArray, List.getElem_cons_succ, List.getElem_cons_zero, List.setIfInBounds_toArray, List.set_cons_zero, List.set_cons_succ]
  refine wpAnyH_take (i := 34) (oi := _) (v := ?_) rfl (by kernel_rfl) (by kernel_rfl) (by kernel_rfl) (fun _ _ _ h => h) (Or.inl ⟨by rfl, ?_⟩) (by assumption) ?_
  rotate_left 1
  · (intro w hSw; (try dsimp only at hSw); go_simp; (try with_reducible rfl))
  try simp only [Act.put, List.getElem_toArray, List.getElem_cons_succ, List.getElem_cons_zero, List.setIfInBounds_toArray, List.set_cons_zero, List.set_cons_succ]
  refine wpAnyH_take (i := 35) (oi := _) (v := ?_) rfl (by kernel_rfl) (by kernel_rfl) (by kernel_rfl) (fun _ _ _ h => h) (Or.inl ⟨by rfl, ?_⟩) (by assumption) ?_
  rotate_left 1
  · (intro w hSw; (try dsimp only at hSw); go_simp; (try with_reducible rfl))
  try simp only [Act.put, List.getElem_toArray, List.getElem_cons_succ, List.getElem_cons_zero, List.setIfInBounds_toArray, List.set_cons_zero, List.set_cons_succ]
  refine wpAnyH_take (i := 36) (oi := _) (v := ?_) rfl (by kernel_rfl) (by kernel_rfl) (by kernel_rfl) (fun _ _ _ h => h) (Or.inl ⟨by rfl, ?_⟩) (by assumption) ?_
  rotate_left 1
  · (intro w hSw; (try dsimp only at hSw); go_simp; (try with_reducible rfl))
  try simp only [Act.put, List.getElem_toArray, List.getElem_cons_succ, List.getElem_cons_zero, List.setIfInBounds_toArray, List.set_cons_zero, List.set_cons_succ]
  refine wpAnyH_take (i := 37) (oi := _) (v := ?_) rfl (by kernel_rfl) (by kernel_rfl) (by kernel_rfl) (fun _ _ _ h => h) (Or.inl ⟨by rfl, ?_⟩) (by assumption) ?_
  rotate_left 1
  · (intro w hSw; (try dsimp only at hSw); go_simp; (try with_reducible rfl))
  try simp only [Act.put, List.getElem_toArray, List.getElem_cons_succ, List.getElem_cons_zero, List.setIfInBounds_toArray, List.set_cons_zero, List.set_cons_succ]
  refine wpAnyH_take (i := 38) (oi := _) (v := ?_) rfl (by kernel_rfl) (by kernel_rfl) (by kernel_rfl) (fun _ _ _ h => h) (Or.inl ⟨by rfl, ?_⟩) (by assumption) ?_
  rotate_left 1
  · (intro w hSw; (try dsimp only at hSw); (have q := keepc hSw K7.out; go_simp); (try with_reducible rfl))
  try simp only [Act.put, List.getElem_toArray, List.getElem_cons_succ, List.getElem_cons_zero, List.setIfInBounds_toArray, List.set_cons_zero, List.set_cons_succ]
  refine wpAnyH_take (i := 39) (oi := _) (v := ?_) rfl (by kernel_rfl) (by kernel_rfl) (by kernel_rfl) (fun _ _ _ h => h) (Or.inl ⟨by rfl, ?_⟩) (by assumption) ?_
  rotate_left 1
  · (intro w hSw; (try dsimp only at hSw); go_simp; (try with_reducible rfl))
  try simp only [Act.put, List.getElem_toArray, List.getElem_cons_succ, List.getElem_cons_zero, List.setIfInBounds_toArray, List.set_cons_zero, List.set_cons_succ]
  refine wpAnyH_take (i := 40) (oi := _) (v := ?_) rfl (by kernel_rfl) (by kernel_rfl) (by kernel_rfl) (fun _ _ _ h => h) (Or.inl ⟨by rfl, ?_⟩) (by assumption) ?_
  rotate_left 1
  · (intro w hSw; (try dsimp only at hSw); go_simp; (try with_reducible rfl))
  try simp only [Act.put, List.getElem_toArray, List.getElem_cons_succ, List.getElem_cons_zero, List.setIfInBounds_toArray, List.set_cons_zero, List.set_cons_succ]
  refine wpAnyH_take (i := 41) (oi := _) (v := ?_) rfl (by kernel_rfl) (by kernel_rfl) (by kernel_rfl) (fun _ _ _ h => h) (Or.inl ⟨by rfl, ?_⟩) (by assumption) ?_
  rotate_left 1
  · (intro w hSw; (try dsimp only at hSw); go_simp; (try with_reducible rfl))
  try simp only [Act.put, List.getElem_toArray, List.getElem_cons_succ, List.getElem_cons_zero, List.setIfInBounds_toArray, List.set_cons_zero, List.set_cons_succ]
  refine wpAnyH_done (by kernel_rfl) ?_ _
  refine NoPanic.normal ?_
  go_wp2
  go_ret
  exact ⟨rfl, HB4.out⟩
theorem RwIs.base {w : World} {B C r : Nat} {s : Cfg} {L : List WV} {G : Nat → Prop} (h : RwIs w B r s L G) (hC : C ≤ B) : RwIs w C r s L G := by
  obtain ⟨a, c, h1, h2, h3, h4, h5⟩ := h
  exact ⟨a, c, h1, h2, h3, Nat.le_trans hC h4, fun k hk => ⟨Nat.le_trans hC (h5 k hk).1, (h5 k hk).2⟩⟩
def BegW (w : World) (len lat most : Int) (e : Ending) (w' : World) : Prop := ∃ g r F, e = .returned (.tuple #[.pointer (some ⟨g, 0, none⟩), .pointer (some ⟨r, 0, none⟩), .bool true]) ∧ WpIs w' w.heap.size g r (cfg0 len lat most) [] F (fun _ => False) ∧ Below w.heap.size w w'
set_option maxHeartbeats 1000000 in
theorem beginw_any (w : World) (len lat most : Int) (hm : MayW len lat most) : Calls Try.prog 10 #[.int .i64 len, .int .i64 lat, .int .i64 most] w (BegW w len lat most) := by
  go_enter Try.func10, Try.ntmps10
  go_wp2_with fail
  refine (new_any w len lat most hm).mono ?_
  rintro e w1 ⟨g, F, rfl, hw, hb⟩
  have HW := Lib.hid hw
  have HB := Lib.hid hb
  clear hw hb
  go_wp2_with fail
  refine (rwnew_any w1 len lat most).mono ?_
  rintro e w2 ⟨r, rfl, hr, hb⟩
  have HF := Lib.hid (show BegW w len lat most (.returned (.tuple #[.pointer (some ⟨g, 0, none⟩), .pointer (some ⟨r, 0, none⟩), .bool true])) w2 from ⟨g, r, F, rfl, ⟨HW.out.new hb, hr.base HB.out.size, fun _ h => h.elim, fun e => by
    have h1 := (HW.out.in r e).2
    obtain ⟨_, _, -, -, -, h4, -⟩ := hr
    omega⟩, HB.out.trans (hb.mono HB.out.size)⟩)
  clear hb hr
  go_wp2
  refine bodyPost_ret (results_tmp3 rfl _ _ _) rfl ?_
  exact HF.out
theorem WpTo.next {w0 w w' : World} {B g r : Nat} {s s' : Cfg} {L L' : List WV} {F : List Nat} {G : Nat → Prop} (hB : B ≤ w0.heap.size) (hb : Below B w0 w) (h : WpIs w B g r s L F G) (ht : WpTo w B g r F G s' L' w') : Below B w0 w' ∧ ∃ F' G', WpIs w' B g r s' L' F' G' := by
  obtain ⟨F', G', h1, h2, -, -⟩ := ht
  refine ⟨hb.trans (h2.below (Nat.le_trans hB hb.size) (fun k hk => ?_)), F', G', h1⟩
  rcases hk with hk | rfl
  · exact (h.1.in k hk).1
  · obtain ⟨_, _, -, -, -, h4, -⟩ := h.2.1
    exact h4
/-- Both windows within a law. -/
def PlM (w : World) (g r k : Nat) (W : World) : Prop := ∃ s L F G, WpIs W w.heap.size g r s L F G ∧ WpI k s L ∧ Below w.heap.size w W
theorem PlM.do_ {w W : World} {g r k : Nat} (h : PlM w g r k W) (hk : k ≤ 100) (x : ActR) (hx : x.Q) : Calls Try.prog 18 #[.pointer (some ⟨g, 0, none⟩), .pointer (some ⟨r, 0, none⟩), .agg #[.int .i64 x.kind, .int .i64 x.n, encStr x.nm, .int .i64 x.time, .int .i64 x.inc, .bool x.rst]] W fun e w' => e = .returned (.bool true) ∧ PlM w g r (k + 1) w' := by
  obtain ⟨s, L, F, G, h1, h2, h3⟩ := h
  refine (do18_any h1 h2 hk x hx).mono ?_
  rintro e w' ⟨rfl, hto⟩
  obtain ⟨h4, F', G', h5⟩ := WpTo.next (Nat.le_refl _) h3 h1 hto
  exact ⟨rfl, _, _, F', G', h5, h2.act hk h1.1.ws h1.1.cs hx, h4⟩
theorem PlM.same {w W : World} {g r k : Nat} (h : PlM w g r k W) : Calls Try.prog 19 #[.pointer (some ⟨g, 0, none⟩), .pointer (some ⟨r, 0, none⟩)] W fun e w' => e = .returned (.bool true) ∧ PlM w g r k w' := by
  obtain ⟨s, L, F, G, h1, h2, h3⟩ := h
  refine (same18_any h1 h2).mono ?_
  rintro e w' ⟨rfl, hb⟩
  exact ⟨rfl, s, L, F, G, h1.new hb, h2, h3.trans (hb.mono h3.size)⟩
theorem PlM.bel {w W : World} {g r k : Nat} (h : PlM w g r k W) : Below w.heap.size w W := by
  obtain ⟨_, _, _, _, -, -, h3⟩ := h
  exact h3
theorem PlM.new {w W V : World} {g r k : Nat} (h : PlM w g r k W) (hb : Below W.heap.size W V) : PlM w g r k V := by
  obtain ⟨s, L, F, G, h1, h2, h3⟩ := h
  exact ⟨s, L, F, G, h1.new hb, h2, h3.trans (hb.mono h3.size)⟩
theorem PlM.beg {w : World} {len lat most : Int} {g r : Nat} {W : World} {F : List Nat} (hm : MayW len lat most) (h : WpIs W w.heap.size g r (cfg0 len lat most) [] F (fun _ => False)) (hb : Below w.heap.size w W) : PlM w g r 0 W := ⟨_, _, _, _, h, WpI.zero hm, hb⟩
set_option maxHeartbeats 4000000 in
set_option maxRecDepth 100000 in
theorem windowPlays_any (w : World) (len lat most : Int) {l : List ActR} {a : Option Addr} {c : Nat} (ha : ActsM w l a) (hl : l.length ≤ 9223372036854775807) :
    Calls Try.prog 4 #[.int .i64 len, .int .i64 lat, .int .i64 most, .slice a l.length c] w fun e w' => e = .returned (.bool true) ∧ Below w.heap.size w w' := by
  have HX := Lib.hid ha
  clear ha
  by_cases hm : MayW len lat most
  rotate_left 1
  · have HM := Lib.hid (may_no w len lat most hm)
    have HNO := Lib.hid (new_no w len lat most hm)
    clear hm hl
    go_enter Try.func4, Try.ntmps4
    go_wp2_with fail
    refine HM.out.mono ?_
    rintro e w1 ⟨rfl, rfl⟩
    go_wp2_with fail
    refine HNO.out.mono ?_
    rintro e w1 ⟨rfl, rfl⟩
    go_wp2_with fail
    refine (wknown_any w).mono ?_
    rintro e w1 ⟨rfl, hb⟩
    have HF := Lib.hid hb
    clear hb
    go_wp2
    go_ret
    exact ⟨rfl, HF.out⟩
  have HM := Lib.hid (may_yes w len lat most hm)
  have HMAY := Lib.hid hm
  clear hm
  go_enter Try.func4, Try.ntmps4
  go_wp2_with fail
  refine HM.out.mono ?_
  rintro e w1 ⟨rfl, rfl⟩
  go_wp2_with fail
  refine (beginw_any w len lat most HMAY.out).mono ?_
  rintro e w1 ⟨g, r, F, rfl, hw, hb⟩
  have HP := Lib.hid (PlM.beg HMAY.out hw hb)
  clear hw hb HM
  by_cases hl100 : 100 < l.length
  · have hgt : (100 : Int) < (l.length : Int) := by omega
    go_wp2_with fail
    refine (wknown_any w1).mono ?_
    rintro e w2 ⟨rfl, hb⟩
    have HF := Lib.hid (HP.out.bel.trans (hb.mono HP.out.bel.size))
    clear hb
    go_wp2
    go_ret
    exact ⟨rfl, HF.out⟩
  have hle : (l.length : Int) ≤ 100 := by omega
  go_wp2_with fail
  go_loopw [15] (fun iv wr => ∃ k : Nat, iv = .int .i64 k ∧ k ≤ l.length ∧ PlM w g r k wr) (fun iv _ => l.length - (intOf iv).toNat)
  case atStart => exact ⟨0, rfl, Nat.zero_le _, HP.out⟩
  case round =>
    obtain ⟨k, rfl, hk, hP⟩ := hrel
    obtain ⟨wz, hwz⟩ : ∃ wz, wz = wr := ⟨_, rfl⟩
    subst hwz
    have HPZ := Lib.hid hP
    clear hP HP
    by_cases hc : k < l.length
    · obtain ⟨b, off, rfl, hb, hQ, d0, d1, d2, d3, d4, d5⟩ := acts_at HX.out hc
      have hbel := HPZ.out.bel
      have e0 := keepc hbel d0
      have e1 := keepc hbel d1
      have e2 := keepc hbel d2
      have e3 := keepc hbel d3
      have e4 := keepc hbel d4
      have e5 := keepc hbel d5
      have hb2 : b < wz.heap.size := Nat.lt_of_lt_of_le hb hbel.size
      clear d0 d1 d2 d3 d4 d5 hb hbel
      have HDO := Lib.hid (HPZ.out.do_ (by omega) l[k] hQ)
      generalize l[k] = x at e0 e1 e2 e3 e4 e5 HDO
      obtain ⟨kind, n, nm, time, inc, rst⟩ := x
      simp only at e0 e1 e2 e3 e4 e5 HDO
      clear hQ
      go_wp2_with fail
      refine HDO.out.mono ?_
      rintro e w3 ⟨rfl, hp3⟩
      have HSM := Lib.hid hp3.same
      clear hp3
      go_wp2_with fail
      refine HSM.out.mono ?_
      rintro e w4 ⟨rfl, hp4⟩
      have HREL := Lib.hid hp4
      clear hp4
      go_wp2
      go_roundw
      case rel => exact ⟨k + 1, by go_num, by omega, HREL.out⟩
      case measure => simp [intOf]; omega
    · obtain rfl : k = l.length := by omega
      go_wp2_with fail
      refine (wknown_any wz).mono ?_
      rintro e w2 ⟨rfl, hb⟩
      have HF := Lib.hid (HPZ.out.bel.trans (hb.mono HPZ.out.bel.size))
      clear hb
      go_wp2
      go_ret
      exact ⟨rfl, HF.out⟩
set_option maxHeartbeats 4000000 in
set_option maxRecDepth 100000 in
theorem windowSums_any (w : World) {l : List Int} {a : Option Addr} {c : Nat} (ha : Rd w a (l.map fun z => Value.int .i64 z)) (hz : ∀ z ∈ l, -9223372036854775808 ≤ z ∧ z ≤ 9223372036854775807) (hl : l.length ≤ 9223372036854775807) :
    Calls Try.prog 5 #[.slice a l.length c] w fun e w' => e = .returned (.bool true) ∧ Below w.heap.size w w' := by
  have HX := Lib.hid ha
  have HZ := Lib.hid hz
  clear ha hz
  have hm : MayW 5 0 2 := by unfold MayW; omega
  have HMAY := Lib.hid hm
  clear hm
  go_enter Try.func5, Try.ntmps5
  by_cases hl20 : 20 < l.length
  · have hgt : (20 : Int) < (l.length : Int) := by omega
    go_wp2_with fail
    refine (wknown_any w).mono ?_
    rintro e w2 ⟨rfl, hb⟩
    have HF := Lib.hid hb
    clear hb
    go_wp2
    go_ret
    exact ⟨rfl, HF.out⟩
  have hle : (l.length : Int) ≤ 20 := by omega
  go_wp2_with fail
  refine (beginw_any w 5 0 2 HMAY.out).mono ?_
  rintro e w1 ⟨g, r, F, rfl, hw, hb⟩
  have HP := Lib.hid (PlM.beg HMAY.out hw hb)
  clear hw hb
  go_wp2_with fail
  go_loopw [6] (fun iv wr => ∃ k : Nat, iv = .int .i64 k ∧ k ≤ l.length ∧ PlM w g r k wr) (fun iv _ => l.length - (intOf iv).toNat)
  case atStart => exact ⟨0, rfl, Nat.zero_le _, HP.out⟩
  case round =>
    obtain ⟨k, rfl, hk, hP⟩ := hrel
    obtain ⟨wz, hwz⟩ : ∃ wz, wz = wr := ⟨_, rfl⟩
    subst hwz
    have HPZ := Lib.hid hP
    clear hP HP
    by_cases hc : k < l.length
    · obtain ⟨b, off, rfl, hb, d0⟩ := HX.out.at (k := k) (v := .int .i64 l[k]) (by simp [hc])
      have hbel := HPZ.out.bel
      have e0 := keepc hbel d0
      have hb2 : b < wz.heap.size := Nat.lt_of_lt_of_le hb hbel.size
      have hq := HZ.out _ (List.getElem_mem hc)
      have HDO := Lib.hid (HPZ.out.do_ (by omega) (ActR.mk 2 0 [97] 3 l[k] false) ⟨⟨by show (-9223372036854775808 : Int) ≤ 0; omega, by show (0 : Int) ≤ _; omega⟩, by show 1 ≤ _; omega, ⟨by show (-9223372036854775808 : Int) ≤ 3; omega, by show (3 : Int) ≤ _; omega⟩, hq⟩)
      generalize l[k] = x at e0 HDO
      simp only at HDO
      clear d0 hb hbel hq
      go_wp2_with fail
      refine HDO.out.mono ?_
      rintro e w3 ⟨rfl, hp3⟩
      have HREL := Lib.hid hp3
      clear hp3
      go_wp2
      go_roundw
      case rel => exact ⟨k + 1, by go_num, by omega, HREL.out⟩
      case measure => simp [intOf]; omega
    · obtain rfl : k = l.length := by omega
      have HSM := Lib.hid HPZ.out.same
      go_wp2_with fail
      refine HSM.out.mono ?_
      rintro e w3 ⟨rfl, hp3⟩
      have HP3 := Lib.hid hp3
      clear hp3
      go_wp2_with fail
      refine (wknown_any w3).mono ?_
      rintro e w2 ⟨rfl, hb⟩
      have HF := Lib.hid (HP3.out.bel.trans (hb.mono HP3.out.bel.size))
      clear hb
      go_wp2
      go_ret
      exact ⟨rfl, HF.out⟩
theorem flat_ints : ∀ ys : List Int, (ys.flatMap fun z : Int => [Value.int .i64 z]) = ys.map fun z => Value.int .i64 z
  | [] => rfl
  | y :: t => by rw [List.flatMap_cons, flat_ints t]; rfl
theorem fit_i64 {w : World} {n : Nat} {cs : List Value} (h : Fit Try.prog w n 2 cs) : ∃ z : Int, cs = [Value.int .i64 z] ∧ (-9223372036854775808 ≤ z ∧ z ≤ 9223372036854775807) := by
  obtain ⟨z, e, hw⟩ := fit_int h Try.underlying2
  exact ⟨z, e, i64_wf hw⟩
set_option maxRecDepth 100000 in
open Go.WideShapes in
theorem open_ints {W : World} {base n : Nat} {v : Value} (ok : Value.okWide Try.prog W .any base 53 v) (h : Fit Try.prog W n 53 v.cells.toList) :
    ∃ a c l, v = .slice a (l : List Int).length c ∧ Rd W a (l.map fun z => Value.int .i64 z) ∧ (∀ z ∈ l, -9223372036854775808 ≤ z ∧ z ≤ 9223372036854775807) ∧ l.length ≤ 9223372036854775807 := by
  obtain ⟨a0, len, cap, rfl⟩ := okWide_slice Try.underlying53 ok
  obtain ⟨a, c, ys, e, h1, h2, h3, -, h5, h6⟩ := fit_slice (fun z : Int => [Value.int .i64 z]) (fun z : Int => -9223372036854775808 ≤ z ∧ z ≤ 9223372036854775807) h Try.underlying53 (fun m x _ hx => fit_i64 hx)
  simp only [Value.cells, List.cons.injEq, and_true, Value.slice.injEq] at e
  obtain ⟨rfl, rfl, rfl⟩ := e
  rw [flat_ints] at h6
  exact ⟨a0, cap, ys, rfl, h6, h5, by omega⟩
end Go.Proofs.Ytbkpgpaanhfjfaa
