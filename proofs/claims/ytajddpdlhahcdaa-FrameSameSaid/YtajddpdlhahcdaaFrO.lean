/- The walk over the law FrameSame. -/
import Derived.Test.YtajddpdlhahcdaaFrL
namespace Go.Proofs.Ytajddpdlhahcdaa
open Go.RowKit K
theorem recEq_symm (x y : Rec) : recEq x y = recEq y x := by
  unfold recEq
  rw [Bool.eq_iff_iff]
  simp only [Bool.and_eq_true, decide_eq_true_eq, beq_iff_eq]
  constructor <;> rintro ⟨h1, h2, h3, h4, h5⟩ <;> exact ⟨h1.symm, h2.symm, h3.symm, h4.symm, h5.symm⟩
theorem recsEq_symm : ∀ xs ys : List Rec, recsEq xs ys = recsEq ys xs
  | [], [] => rfl
  | [], _ :: _ => rfl
  | _ :: _, [] => rfl
  | x :: xs, y :: ys => by simp [recsEq, recEq_symm x y, recsEq_symm xs ys]
theorem recsEq_refl : ∀ xs : List Rec, recsEq xs xs = true
  | [] => rfl
  | x :: xs => by simp [recsEq, recEq, recsEq_refl xs]
theorem frEq_symm (q win q2 win2 : Int) (xs ys : List Rec) : frEq q2 win2 ys q win xs = frEq q win xs q2 win2 ys := by
  unfold frEq
  rw [recsEq_symm ys xs, Bool.eq_iff_iff]
  simp only [Bool.and_eq_true, beq_iff_eq]
  constructor <;> rintro ⟨h1, h2, h3⟩ <;> exact ⟨h1.symm, h2.symm, h3⟩
theorem frEq_refl (q win : Int) (xs : List Rec) : frEq q win xs q win xs = true := by simp [frEq, recsEq_refl]
set_option maxHeartbeats 1000000 in
theorem frameSame_much (w : World) (q win q2 win2 : Int) (a1 a2 : Option Addr) (c1 c2 : Nat) (xs ys : List Rec) (hl1 : xs.length ≤ 9223372036854775807) (hl2 : ys.length ≤ 9223372036854775807) (hs1 : ∀ x ∈ xs, x.name.size ≤ 140737488355328) (hs2 : ∀ x ∈ ys, x.name.size ≤ 140737488355328) (hr1 : Rd w a1 (rcf xs)) (hr2 : Rd w a2 (rcf ys))
    (hm : muchB xs = true ∨ muchB xs = false ∧ muchB ys = true) :
    Calls Try.prog 3 #[frv q win (.slice a1 xs.length c1), frv q2 win2 (.slice a2 ys.length c2)] w fun e w' => e = .returned (.bool true) ∧ Below w.heap.size w w' := by
  have hb0 : ∀ o1 o2, Below w.heap.size w ((w.alloc o1).alloc o2) := fun o1 o2 => ((Below.refl _ _).alloc (Nat.le_refl _) _).alloc (by simp) _
  have h1 := fun o1 o2 => much_any ((w.alloc o1).alloc o2) q win a1 c1 xs hl1 hs1 (hr1.below (hb0 o1 o2) (Nat.le_refl _))
  have h2 := fun W (hb : Below w.heap.size w W) => much_any W q2 win2 a2 c2 ys hl2 hs2 (hr2.below hb (Nat.le_refl _))
  have H2 := Lib.hid h2
  unfold frv at *
  rcases hm with hm | ⟨hm, hm2⟩
  · rw [hm] at h1
    have H1 := Lib.hid h1
    clear h1 h2 hr1 hr2 hs1 hs2 hl1 hl2 hm
    go_enter Try.func3, Try.ntmps3
    go_wp2_with fail
    refine (H1.out _ _).mono ?_
    rintro e w1 ⟨rfl, hb1⟩
    have HB := Lib.hid ((hb0 _ _).trans (hb1.mono (by simp; omega)))
    clear hb1 hb0
    go_wp2_with fail
    refine (known_any _).mono ?_
    rintro e w2 ⟨rfl, hb2⟩
    go_wp2
    go_ret
    exact ⟨rfl, HB.out.trans (hb2.mono HB.out.size)⟩
  · rw [hm] at h1
    have H1 := Lib.hid h1
    have HM2 := Lib.hid hm2
    clear h1 h2 hr1 hr2 hs1 hs2 hl1 hl2 hm hm2
    go_enter Try.func3, Try.ntmps3
    go_wp2_with fail
    have cB : ∀ o1, (((w.alloc o1).alloc (.cells #[.int .u64 q2, .int .i64 win2, .slice a2 ys.length c2] 25)).heap)[w.heap.size + 1]? = some (.cells #[.int .u64 q2, .int .i64 win2, .slice a2 ys.length c2] 25 (0, 0)) := fun o1 => by
      have := heap_alloc_new (w.alloc o1) (.cells #[.int .u64 q2, .int .i64 win2, .slice a2 ys.length c2] 25)
      rw [World.size_alloc] at this
      exact this
    refine (H1.out _ _).mono ?_
    rintro e w1 ⟨rfl, hb1⟩
    have hcB := (hb1.block (w.heap.size + 1) (by simp)).trans (cB _)
    have cB0 : w1.cell? ⟨w.heap.size + 1, 0, none⟩ = some (.int .u64 q2) := by rw [cell_of_row _ _ _ _ _ _ hcB]; rfl
    have cB1 : w1.cell? ⟨w.heap.size + 1, 1, none⟩ = some (.int .i64 win2) := by rw [cell_of_row _ _ _ _ _ _ hcB]; rfl
    have cB2 : w1.cell? ⟨w.heap.size + 1, 2, none⟩ = some (.slice a2 ys.length c2) := by rw [cell_of_row _ _ _ _ _ _ hcB]; rfl
    have HB := Lib.hid ((hb0 _ _).trans (hb1.mono (by simp; omega)))
    have h2 := H2.out _ HB.out
    rw [HM2.out] at h2
    have H2 := Lib.hid h2
    clear hb1 hb0 cB hcB h2
    go_wp2_with fail
    refine H2.out.mono ?_
    rintro e w2 ⟨rfl, hb2⟩
    have HB2 := Lib.hid (HB.out.trans (hb2.mono HB.out.size))
    clear hb2
    go_wp2_with fail
    refine (known_any _).mono ?_
    rintro e w3 ⟨rfl, hb3⟩
    go_wp2
    go_ret
    exact ⟨rfl, HB2.out.trans (hb3.mono HB2.out.size)⟩
set_option maxHeartbeats 2000000 in
theorem frameSame_true (w : World) (q win q2 win2 : Int) (a1 a2 : Option Addr) (c1 c2 : Nat) (xs ys : List Rec) (hl1 : xs.length ≤ 60) (hl2 : ys.length ≤ 60) (hs1 : ∀ x ∈ xs, x.name.size ≤ 140737488355328) (hs2 : ∀ x ∈ ys, x.name.size ≤ 140737488355328) (hr1 : Rd w a1 (rcf xs)) (hr2 : Rd w a2 (rcf ys))
    (hm : muchB xs = false) (hm2 : muchB ys = false) (hE : frEq q win xs q2 win2 ys = true) :
    Calls Try.prog 3 #[frv q win (.slice a1 xs.length c1), frv q2 win2 (.slice a2 ys.length c2)] w fun e w' => e = .returned (.bool true) ∧ Below w.heap.size w w' := by
  have hb0 : ∀ o1 o2, Below w.heap.size w ((w.alloc o1).alloc o2) := fun o1 o2 => ((Below.refl _ _).alloc (Nat.le_refl _) _).alloc (by simp) _
  have h1 := fun W (hb : Below w.heap.size w W) => much_any W q win a1 c1 xs (by omega) hs1 (hr1.below hb (Nat.le_refl _))
  have h2 := fun W (hb : Below w.heap.size w W) => much_any W q2 win2 a2 c2 ys (by omega) hs2 (hr2.below hb (Nat.le_refl _))
  have hab := fun W (hb : Below w.heap.size w W) => fsame_any W q win q2 win2 a1 a2 c1 c2 xs ys (by omega) (by omega) (hr1.below hb (Nat.le_refl _)) (hr2.below hb (Nat.le_refl _))
  have hrab := fun W (hb : Below w.heap.size w W) => rfsame_any W q win q2 win2 a1 a2 c1 c2 xs ys (by omega) (by omega) (hr1.below hb (Nat.le_refl _)) (hr2.below hb (Nat.le_refl _))
  have hba := fun W (hb : Below w.heap.size w W) => fsame_any W q2 win2 q win a2 a1 c2 c1 ys xs (by omega) (by omega) (hr2.below hb (Nat.le_refl _)) (hr1.below hb (Nat.le_refl _))
  have haa := fun W (hb : Below w.heap.size w W) => fsame_any W q win q win a1 a1 c1 c1 xs xs (by omega) (by omega) (hr1.below hb (Nat.le_refl _)) (hr1.below hb (Nat.le_refl _))
  rw [frEq_refl] at haa
  rw [frEq_symm] at hba
  rw [hE] at hba hab hrab
  rw [hm] at h1
  rw [hm2] at h2
  unfold frv at *
  have H1 := Lib.hid h1
  have H2 := Lib.hid h2
  have HAB := Lib.hid hab
  have HRAB := Lib.hid hrab
  have HBA := Lib.hid hba
  have HAA := Lib.hid haa
  clear h1 h2 hab hrab hba haa hr1 hr2 hs1 hs2 hl1 hl2 hm hm2 hE
  go_enter Try.func3, Try.ntmps3
  go_wp2_with fail
  have hwb := hb0 (.cells #[.int .u64 q, .int .i64 win, .slice a1 xs.length c1] 25) (.cells #[.int .u64 q2, .int .i64 win2, .slice a2 ys.length c2] 25)
  have cB : (((w.alloc (.cells #[.int .u64 q, .int .i64 win, .slice a1 xs.length c1] 25)).alloc (.cells #[.int .u64 q2, .int .i64 win2, .slice a2 ys.length c2] 25)).heap)[w.heap.size + 1]? = some (.cells #[.int .u64 q2, .int .i64 win2, .slice a2 ys.length c2] 25 (0, 0)) := by
    have := heap_alloc_new (w.alloc (.cells #[.int .u64 q, .int .i64 win, .slice a1 xs.length c1] 25)) (.cells #[.int .u64 q2, .int .i64 win2, .slice a2 ys.length c2] 25)
    rw [World.size_alloc] at this
    exact this
  have cA : (((w.alloc (.cells #[.int .u64 q, .int .i64 win, .slice a1 xs.length c1] 25)).alloc (.cells #[.int .u64 q2, .int .i64 win2, .slice a2 ys.length c2] 25)).heap)[w.heap.size]? = some (.cells #[.int .u64 q, .int .i64 win, .slice a1 xs.length c1] 25 (0, 0)) :=
    (Below.heap_alloc _ _ w.heap.size (by simp)).trans (heap_alloc_new w _)
  have hsz : ((w.alloc (.cells #[.int .u64 q, .int .i64 win, .slice a1 xs.length c1] 25)).alloc (.cells #[.int .u64 q2, .int .i64 win2, .slice a2 ys.length c2] 25)).heap.size = w.heap.size + 2 := by simp
  refine (H1.out _ (by exact hwb)).mono ?_
  rintro e w1 ⟨rfl, hb1⟩
  have HB := Lib.hid (hwb.trans (hb1.mono (by omega)))
  have dA := (hb1.block w.heap.size (by omega)).trans cA
  have dB := (hb1.block (w.heap.size + 1) (by omega)).trans cB
  clear cA cB hwb hb0 hb1 hsz
  have cA0 : w1.cell? ⟨w.heap.size, 0, none⟩ = some (.int .u64 q) := by rw [cell_of_row _ _ _ _ _ _ dA]; rfl
  have cA1 : w1.cell? ⟨w.heap.size, 1, none⟩ = some (.int .i64 win) := by rw [cell_of_row _ _ _ _ _ _ dA]; rfl
  have cA2 : w1.cell? ⟨w.heap.size, 2, none⟩ = some (.slice a1 xs.length c1) := by rw [cell_of_row _ _ _ _ _ _ dA]; rfl
  have cB0 : w1.cell? ⟨w.heap.size + 1, 0, none⟩ = some (.int .u64 q2) := by rw [cell_of_row _ _ _ _ _ _ dB]; rfl
  have cB1 : w1.cell? ⟨w.heap.size + 1, 1, none⟩ = some (.int .i64 win2) := by rw [cell_of_row _ _ _ _ _ _ dB]; rfl
  have cB2 : w1.cell? ⟨w.heap.size + 1, 2, none⟩ = some (.slice a2 ys.length c2) := by rw [cell_of_row _ _ _ _ _ _ dB]; rfl
  clear dA dB
  go_wp2_with fail
  refine (H2.out _ (by exact HB.out)).mono ?_
  rintro e w2 ⟨rfl, hb2⟩
  have HBs := Lib.hid (HB.out.trans (hb2.mono HB.out.size)).drew
  replace cA0 := keepc hb2 cA0
  replace cA1 := keepc hb2 cA1
  replace cA2 := keepc hb2 cA2
  replace cB0 := keepc hb2 cB0
  replace cB1 := keepc hb2 cB1
  replace cB2 := keepc hb2 cB2
  clear hb2
  go_wp2_with fail
  refine wp_region_noPanic ?_
  refine wp_region_held_drew (S := (fun w' => w'.cell? ⟨w.heap.size, 0, none⟩ = some (.int .u64 q) ∧ w'.cell? ⟨w.heap.size, 1, none⟩ = some (.int .i64 win) ∧ w'.cell? ⟨w.heap.size, 2, none⟩ = some (.slice a1 xs.length c1) ∧ w'.cell? ⟨w.heap.size + 1, 0, none⟩ = some (.int .u64 q2) ∧ w'.cell? ⟨w.heap.size + 1, 1, none⟩ = some (.int .i64 win2) ∧ w'.cell? ⟨w.heap.size + 1, 2, none⟩ = some (.slice a2 ys.length c2))) (by kernel_rfl) ?_ (fun hHeld => ?_)
  · exact ⟨cA0, cA1, cA2, cB0, cB1, cB2⟩
  refine wpAnyH_take (i := 0) (oi := _) (v := ?_) rfl (by kernel_rfl) (by kernel_rfl) (by kernel_rfl) (fun _ _ _ h => h) (Or.inl ⟨by rfl, ?_⟩) (by assumption) ?_
  rotate_left 1
  · (intro w hSw; (try dsimp only at hSw); go_simp; (try with_reducible rfl))
  try simp only [Act.put, List.getElem_toArray, List.getElem_cons_succ, List.getElem_cons_zero, List.setIfInBounds_toArray, List.set_cons_zero, List.set_cons_succ]
  refine wpAnyH_take (i := 1) (oi := _) (v := ?_) rfl (by kernel_rfl) (by kernel_rfl) (by kernel_rfl) (fun _ _ _ h => h) (Or.inl ⟨by rfl, ?_⟩) (by assumption) ?_
  rotate_left 1
  · (intro w hSw; (try dsimp only at hSw); go_simp; (try with_reducible rfl))
  try simp only [Act.put, List.getElem_toArray, List.getElem_cons_succ, List.getElem_cons_zero, List.setIfInBounds_toArray, List.set_cons_zero, List.set_cons_succ]
  refine wpAnyH_take (i := 3) (oi := _) (v := ?_) rfl (by kernel_rfl) (by kernel_rfl) (by kernel_rfl) (fun _ _ _ h => h) (Or.inl ⟨by rfl, ?_⟩) (by assumption) ?_
  rotate_left 1
  · (intro w hSw; (try dsimp only at hSw); go_simp; (try with_reducible rfl))
  try simp only [Act.put, List.getElem_toArray, List.getElem_cons_succ, List.getElem_cons_zero, List.setIfInBounds_toArray, List.set_cons_zero, List.set_cons_succ]
  refine wpAnyH_take (i := 4) (oi := _) (v := ?_) rfl (by kernel_rfl) (by kernel_rfl) (by kernel_rfl) (fun _ _ _ h => h) (Or.inl ⟨by rfl, ?_⟩) (by assumption) ?_
  rotate_left 1
  · (intro w hSw; (try dsimp only at hSw); go_simp; (try with_reducible rfl))
  try simp only [Act.put, List.getElem_toArray, List.getElem_cons_succ, List.getElem_cons_zero, List.setIfInBounds_toArray, List.set_cons_zero, List.set_cons_succ]
  refine wpAnyH_ready (rs := [2]) (by kernel_rfl) (by simp) ?_
  refine AllReadyH.cons (o := _) rfl (fun K hK => ?_) AllReadyH.nil
  go_simp
  refine (HAB.out _ (by exact HBs.out)).mono ?_
  rintro e w' ⟨rfl, hbk⟩
  have hbka := hbk
  have HBa := Lib.hid (HBs.out.trans (hbk.mono HBs.out.size))
  go_wp2_with fail
  refine hK.out _ _ ?_ (fun hHeld2 => ?_)
  · exact ⟨keepc hbk hHeld.1, keepc hbk hHeld.2.1, keepc hbk hHeld.2.2.1, keepc hbk hHeld.2.2.2.1, keepc hbk hHeld.2.2.2.2.1, keepc hbk hHeld.2.2.2.2.2⟩
  clear hK K
  try simp only [Act.put, List.getElem_toArray, List.getElem_cons_succ, List.getElem_cons_zero, List.setIfInBounds_toArray, List.set_cons_zero, List.set_cons_succ]
  refine wpAnyH_ready (rs := [5]) (by kernel_rfl) (by simp) ?_
  refine AllReadyH.cons (o := _) rfl (fun K hK => ?_) AllReadyH.nil
  go_simp
  refine (HRAB.out _ (by exact HBa.out)).mono ?_
  rintro e w' ⟨rfl, hbk⟩
  have hbkb := hbk
  have HBb := Lib.hid (HBa.out.trans (hbk.mono HBa.out.size))
  go_wp2_with fail
  refine hK.out _ _ ?_ (fun hHeld5 => ?_)
  · exact ⟨keepc hbk hHeld2.1, keepc hbk hHeld2.2.1, keepc hbk hHeld2.2.2.1, keepc hbk hHeld2.2.2.2.1, keepc hbk hHeld2.2.2.2.2.1, keepc hbk hHeld2.2.2.2.2.2⟩
  clear hK K
  try simp only [Act.put, List.getElem_toArray, List.getElem_cons_succ, List.getElem_cons_zero, List.setIfInBounds_toArray, List.set_cons_zero, List.set_cons_succ]
  refine wpAnyH_take (i := 6) (oi := _) (v := ?_) rfl (by kernel_rfl) (by kernel_rfl) (by kernel_rfl) (fun _ _ _ h => h) (Or.inl ⟨by rfl, ?_⟩) (by assumption) ?_
  rotate_left 1
  · (intro w hSw; (try dsimp only at hSw); go_simp; (try with_reducible rfl))
  try simp only [Act.put, List.getElem_toArray, List.getElem_cons_succ, List.getElem_cons_zero, List.setIfInBounds_toArray, List.set_cons_zero, List.set_cons_succ]
  refine wpAnyH_take (i := 7) (oi := _) (v := ?_) rfl (by kernel_rfl) (by kernel_rfl) (by kernel_rfl) (fun _ _ _ h => h) (Or.inl ⟨by rfl, ?_⟩) (by assumption) ?_
  rotate_left 1
  · (intro w hSw; (try dsimp only at hSw); go_simp; (try with_reducible rfl))
  try simp only [Act.put, List.getElem_toArray, List.getElem_cons_succ, List.getElem_cons_zero, List.setIfInBounds_toArray, List.set_cons_zero, List.set_cons_succ]
  refine wpAnyH_take (i := 8) (oi := _) (v := ?_) rfl (by kernel_rfl) (by kernel_rfl) (by kernel_rfl) (fun _ _ _ h => h) (Or.inl ⟨by rfl, ?_⟩) (by assumption) ?_
  rotate_left 1
  · (intro w hSw; (try dsimp only at hSw); go_simp; (try with_reducible rfl))
  try simp only [Act.put, List.getElem_toArray, List.getElem_cons_succ, List.getElem_cons_zero, List.setIfInBounds_toArray, List.set_cons_zero, List.set_cons_succ]
  refine wpAnyH_take (i := 9) (oi := _) (v := ?_) rfl (by kernel_rfl) (by kernel_rfl) (by kernel_rfl) (fun _ _ _ h => h) (Or.inl ⟨by rfl, ?_⟩) (by assumption) ?_
  rotate_left 1
  · (intro w hSw; (try dsimp only at hSw); go_simp; (try with_reducible rfl))
  try simp only [Act.put, List.getElem_toArray, List.getElem_cons_succ, List.getElem_cons_zero, List.setIfInBounds_toArray, List.set_cons_zero, List.set_cons_succ]
  refine wpAnyH_take (i := 11) (oi := _) (v := ?_) rfl (by kernel_rfl) (by kernel_rfl) (by kernel_rfl) (fun _ _ _ h => h) (Or.inl ⟨by rfl, ?_⟩) (by assumption) ?_
  rotate_left 1
  · (intro w hSw; (try dsimp only at hSw); go_simp; (try with_reducible rfl))
  try simp only [Act.put, List.getElem_toArray, List.getElem_cons_succ, List.getElem_cons_zero, List.setIfInBounds_toArray, List.set_cons_zero, List.set_cons_succ]
  refine wpAnyH_take (i := 12) (oi := _) (v := ?_) rfl (by kernel_rfl) (by kernel_rfl) (by kernel_rfl) (fun _ _ _ h => h) (Or.inl ⟨by rfl, ?_⟩) (by assumption) ?_
  rotate_left 1
  · (intro w hSw; (try dsimp only at hSw); go_simp; (try with_reducible rfl))
  try simp only [Act.put, List.getElem_toArray, List.getElem_cons_succ, List.getElem_cons_zero, List.setIfInBounds_toArray, List.set_cons_zero, List.set_cons_succ]
  refine wpAnyH_ready (rs := [10]) (by kernel_rfl) (by simp) ?_
  refine AllReadyH.cons (o := _) rfl (fun K hK => ?_) AllReadyH.nil
  go_simp
  refine (HBA.out _ (by exact HBb.out)).mono ?_
  rintro e w' ⟨rfl, hbk⟩
  have hbkc := hbk
  have HBc := Lib.hid (HBb.out.trans (hbk.mono HBb.out.size))
  go_wp2_with fail
  refine hK.out _ _ ?_ (fun hHeld10 => ?_)
  · exact ⟨keepc hbk hHeld5.1, keepc hbk hHeld5.2.1, keepc hbk hHeld5.2.2.1, keepc hbk hHeld5.2.2.2.1, keepc hbk hHeld5.2.2.2.2.1, keepc hbk hHeld5.2.2.2.2.2⟩
  clear hK K
  try simp only [Act.put, List.getElem_toArray, List.getElem_cons_succ, List.getElem_cons_zero, List.setIfInBounds_toArray, List.set_cons_zero, List.set_cons_succ]
  refine wpAnyH_ready (rs := [13]) (by kernel_rfl) (by simp) ?_
  refine AllReadyH.cons (o := _) rfl (fun K hK => ?_) AllReadyH.nil
  go_simp
  refine (HRAB.out _ (by exact HBc.out)).mono ?_
  rintro e w' ⟨rfl, hbk⟩
  have hbkd := hbk
  have HBd := Lib.hid (HBc.out.trans (hbk.mono HBc.out.size))
  go_wp2_with fail
  refine hK.out _ _ ?_ (fun hHeld13 => ?_)
  · exact ⟨keepc hbk hHeld10.1, keepc hbk hHeld10.2.1, keepc hbk hHeld10.2.2.1, keepc hbk hHeld10.2.2.2.1, keepc hbk hHeld10.2.2.2.2.1, keepc hbk hHeld10.2.2.2.2.2⟩
  clear hK K
  try simp only [Act.put, List.getElem_toArray, List.getElem_cons_succ, List.getElem_cons_zero, List.setIfInBounds_toArray, List.set_cons_zero, List.set_cons_succ]
  refine wpAnyH_take (i := 14) (oi := _) (v := ?_) rfl (by kernel_rfl) (by kernel_rfl) (by kernel_rfl) (fun _ _ _ h => h) (Or.inl ⟨by rfl, ?_⟩) (by assumption) ?_
  rotate_left 1
  · (intro w hSw; (try dsimp only at hSw); go_simp; (try with_reducible rfl))
  try simp only [Act.put, List.getElem_toArray, List.getElem_cons_succ, List.getElem_cons_zero, List.setIfInBounds_toArray, List.set_cons_zero, List.set_cons_succ]
  refine wpAnyH_take (i := 15) (oi := _) (v := ?_) rfl (by kernel_rfl) (by kernel_rfl) (by kernel_rfl) (fun _ _ _ h => h) (Or.inl ⟨by rfl, ?_⟩) (by assumption) ?_
  rotate_left 1
  · (intro w hSw; (try dsimp only at hSw); go_simp; (try with_reducible rfl))
  try simp only [Act.put, List.getElem_toArray, List.getElem_cons_succ, List.getElem_cons_zero, List.setIfInBounds_toArray, List.set_cons_zero, List.set_cons_succ]
  refine wpAnyH_take (i := 16) (oi := _) (v := ?_) rfl (by kernel_rfl) (by kernel_rfl) (by kernel_rfl) (fun _ _ _ h => h) (Or.inl ⟨by rfl, ?_⟩) (by assumption) ?_
  rotate_left 1
  · (intro w hSw; (try dsimp only at hSw); go_simp; (try with_reducible rfl))
  try simp only [Act.put, List.getElem_toArray, List.getElem_cons_succ, List.getElem_cons_zero, List.setIfInBounds_toArray, List.set_cons_zero, List.set_cons_succ]
  refine wpAnyH_take (i := 17) (oi := _) (v := ?_) rfl (by kernel_rfl) (by kernel_rfl) (by kernel_rfl) (fun _ _ _ h => h) (Or.inl ⟨by rfl, ?_⟩) (by assumption) ?_
  rotate_left 1
  · (intro w hSw; (try dsimp only at hSw); go_simp; (try with_reducible rfl))
  try simp only [Act.put, List.getElem_toArray, List.getElem_cons_succ, List.getElem_cons_zero, List.setIfInBounds_toArray, List.set_cons_zero, List.set_cons_succ]
  refine wpAnyH_take (i := 18) (oi := _) (v := ?_) rfl (by kernel_rfl) (by kernel_rfl) (by kernel_rfl) (fun _ _ _ h => h) (Or.inl ⟨by rfl, ?_⟩) (by assumption) ?_
  rotate_left 1
  · (intro w hSw; (try dsimp only at hSw); go_simp; (try with_reducible rfl))
  try simp only [Act.put, List.getElem_toArray, List.getElem_cons_succ, List.getElem_cons_zero, List.setIfInBounds_toArray, List.set_cons_zero, List.set_cons_succ]
  refine wpAnyH_ready (rs := [19]) (by kernel_rfl) (by simp) ?_
  refine AllReadyH.cons (o := _) rfl (fun K hK => ?_) AllReadyH.nil
  go_simp
  refine (HAA.out _ (by exact HBd.out)).mono ?_
  rintro e w' ⟨rfl, hbk⟩
  have hbke := hbk
  have HBe := Lib.hid (HBd.out.trans (hbk.mono HBd.out.size))
  go_wp2_with fail
  refine hK.out _ _ ?_ (fun hHeld19 => ?_)
  · exact ⟨keepc hbk hHeld13.1, keepc hbk hHeld13.2.1, keepc hbk hHeld13.2.2.1, keepc hbk hHeld13.2.2.2.1, keepc hbk hHeld13.2.2.2.2.1, keepc hbk hHeld13.2.2.2.2.2⟩
  clear hK K
  try simp only [Act.put, List.getElem_toArray, List.getElem_cons_succ, List.getElem_cons_zero, List.setIfInBounds_toArray, List.set_cons_zero, List.set_cons_succ]
  refine wpAnyH_take (i := 20) (oi := _) (v := ?_) rfl (by kernel_rfl) (by kernel_rfl) (by kernel_rfl) (fun _ _ _ h => h) (Or.inl ⟨by rfl, ?_⟩) (by assumption) ?_
  rotate_left 1
  · (intro w hSw; (try dsimp only at hSw); go_simp; (try with_reducible rfl))
  try simp only [Act.put, List.getElem_toArray, List.getElem_cons_succ, List.getElem_cons_zero, List.setIfInBounds_toArray, List.set_cons_zero, List.set_cons_succ]
  refine wpAnyH_take (i := 21) (oi := _) (v := ?_) rfl (by kernel_rfl) (by kernel_rfl) (by kernel_rfl) (fun _ _ _ h => h) (Or.inl ⟨by rfl, ?_⟩) (by assumption) ?_
  rotate_left 1
  · (intro w hSw; (try dsimp only at hSw); go_simp; (try with_reducible rfl))
  try simp only [Act.put, List.getElem_toArray, List.getElem_cons_succ, List.getElem_cons_zero, List.setIfInBounds_toArray, List.set_cons_zero, List.set_cons_succ]
  refine wpAnyH_ready (rs := [22]) (by kernel_rfl) (by simp) ?_
  refine AllReadyH.cons (o := _) rfl (fun K hK => ?_) AllReadyH.nil
  go_simp
  refine (known_any _).mono ?_
  rintro e w' ⟨rfl, hbk⟩
  have hbkf := hbk
  have HBf := Lib.hid (HBe.out.trans (hbk.mono HBe.out.size))
  go_wp2_with fail
  refine hK.out _ _ ?_ (fun hHeld22 => ?_)
  · exact ⟨keepc hbk hHeld19.1, keepc hbk hHeld19.2.1, keepc hbk hHeld19.2.2.1, keepc hbk hHeld19.2.2.2.1, keepc hbk hHeld19.2.2.2.2.1, keepc hbk hHeld19.2.2.2.2.2⟩
  clear hK K
  try simp only [Act.put, List.getElem_toArray, List.getElem_cons_succ, List.getElem_cons_zero, List.setIfInBounds_toArray, List.set_cons_zero, List.set_cons_succ]
  refine wpAnyH_take (i := 23) (oi := _) (v := ?_) rfl (by kernel_rfl) (by kernel_rfl) (by kernel_rfl) (fun _ _ _ h => h) (Or.inl ⟨by rfl, ?_⟩) (by assumption) ?_
  rotate_left 1
  · (intro w hSw; (try dsimp only at hSw); go_simp; (try with_reducible rfl))
  try simp only [Act.put, List.getElem_toArray, List.getElem_cons_succ, List.getElem_cons_zero, List.setIfInBounds_toArray, List.set_cons_zero, List.set_cons_succ]
  refine wpAnyH_take (i := 24) (oi := _) (v := ?_) rfl (by kernel_rfl) (by kernel_rfl) (by kernel_rfl) (fun _ _ _ h => h) (Or.inl ⟨by rfl, ?_⟩) (by assumption) ?_
  rotate_left 1
  · (intro w hSw; (try dsimp only at hSw); go_simp; (try with_reducible rfl))
  try simp only [Act.put, List.getElem_toArray, List.getElem_cons_succ, List.getElem_cons_zero, List.setIfInBounds_toArray, List.set_cons_zero, List.set_cons_succ]
  refine wpAnyH_done (by kernel_rfl) ?_ _
  refine NoPanic.normal ?_
  clear cA0 cA1 cA2 cB0 cB1 cB2 hHeld hHeld2 hHeld5 hHeld10 hHeld13 hHeld19 hHeld22
  have HBF := Lib.hid HBf.out
  go_wp2
  go_ret
  exact ⟨rfl, HBF.out⟩
set_option maxHeartbeats 2000000 in
theorem frameSame_false (w : World) (q win q2 win2 : Int) (a1 a2 : Option Addr) (c1 c2 : Nat) (xs ys : List Rec) (hl1 : xs.length ≤ 60) (hl2 : ys.length ≤ 60) (hs1 : ∀ x ∈ xs, x.name.size ≤ 140737488355328) (hs2 : ∀ x ∈ ys, x.name.size ≤ 140737488355328) (hr1 : Rd w a1 (rcf xs)) (hr2 : Rd w a2 (rcf ys))
    (hm : muchB xs = false) (hm2 : muchB ys = false) (hE : frEq q win xs q2 win2 ys = false) :
    Calls Try.prog 3 #[frv q win (.slice a1 xs.length c1), frv q2 win2 (.slice a2 ys.length c2)] w fun e w' => e = .returned (.bool true) ∧ Below w.heap.size w w' := by
  have hb0 : ∀ o1 o2, Below w.heap.size w ((w.alloc o1).alloc o2) := fun o1 o2 => ((Below.refl _ _).alloc (Nat.le_refl _) _).alloc (by simp) _
  have h1 := fun W (hb : Below w.heap.size w W) => much_any W q win a1 c1 xs (by omega) hs1 (hr1.below hb (Nat.le_refl _))
  have h2 := fun W (hb : Below w.heap.size w W) => much_any W q2 win2 a2 c2 ys (by omega) hs2 (hr2.below hb (Nat.le_refl _))
  have hab := fun W (hb : Below w.heap.size w W) => fsame_any W q win q2 win2 a1 a2 c1 c2 xs ys (by omega) (by omega) (hr1.below hb (Nat.le_refl _)) (hr2.below hb (Nat.le_refl _))
  have hrab := fun W (hb : Below w.heap.size w W) => rfsame_any W q win q2 win2 a1 a2 c1 c2 xs ys (by omega) (by omega) (hr1.below hb (Nat.le_refl _)) (hr2.below hb (Nat.le_refl _))
  have hba := fun W (hb : Below w.heap.size w W) => fsame_any W q2 win2 q win a2 a1 c2 c1 ys xs (by omega) (by omega) (hr2.below hb (Nat.le_refl _)) (hr1.below hb (Nat.le_refl _))
  have haa := fun W (hb : Below w.heap.size w W) => fsame_any W q win q win a1 a1 c1 c1 xs xs (by omega) (by omega) (hr1.below hb (Nat.le_refl _)) (hr1.below hb (Nat.le_refl _))
  rw [frEq_refl] at haa
  rw [frEq_symm] at hba
  rw [hE] at hba hab hrab
  rw [hm] at h1
  rw [hm2] at h2
  unfold frv at *
  have H1 := Lib.hid h1
  have H2 := Lib.hid h2
  have HAB := Lib.hid hab
  have HRAB := Lib.hid hrab
  have HBA := Lib.hid hba
  have HAA := Lib.hid haa
  clear h1 h2 hab hrab hba haa hr1 hr2 hs1 hs2 hl1 hl2 hm hm2 hE
  go_enter Try.func3, Try.ntmps3
  go_wp2_with fail
  have hwb := hb0 (.cells #[.int .u64 q, .int .i64 win, .slice a1 xs.length c1] 25) (.cells #[.int .u64 q2, .int .i64 win2, .slice a2 ys.length c2] 25)
  have cB : (((w.alloc (.cells #[.int .u64 q, .int .i64 win, .slice a1 xs.length c1] 25)).alloc (.cells #[.int .u64 q2, .int .i64 win2, .slice a2 ys.length c2] 25)).heap)[w.heap.size + 1]? = some (.cells #[.int .u64 q2, .int .i64 win2, .slice a2 ys.length c2] 25 (0, 0)) := by
    have := heap_alloc_new (w.alloc (.cells #[.int .u64 q, .int .i64 win, .slice a1 xs.length c1] 25)) (.cells #[.int .u64 q2, .int .i64 win2, .slice a2 ys.length c2] 25)
    rw [World.size_alloc] at this
    exact this
  have cA : (((w.alloc (.cells #[.int .u64 q, .int .i64 win, .slice a1 xs.length c1] 25)).alloc (.cells #[.int .u64 q2, .int .i64 win2, .slice a2 ys.length c2] 25)).heap)[w.heap.size]? = some (.cells #[.int .u64 q, .int .i64 win, .slice a1 xs.length c1] 25 (0, 0)) :=
    (Below.heap_alloc _ _ w.heap.size (by simp)).trans (heap_alloc_new w _)
  have hsz : ((w.alloc (.cells #[.int .u64 q, .int .i64 win, .slice a1 xs.length c1] 25)).alloc (.cells #[.int .u64 q2, .int .i64 win2, .slice a2 ys.length c2] 25)).heap.size = w.heap.size + 2 := by simp
  refine (H1.out _ (by exact hwb)).mono ?_
  rintro e w1 ⟨rfl, hb1⟩
  have HB := Lib.hid (hwb.trans (hb1.mono (by omega)))
  have dA := (hb1.block w.heap.size (by omega)).trans cA
  have dB := (hb1.block (w.heap.size + 1) (by omega)).trans cB
  clear cA cB hwb hb0 hb1 hsz
  have cA0 : w1.cell? ⟨w.heap.size, 0, none⟩ = some (.int .u64 q) := by rw [cell_of_row _ _ _ _ _ _ dA]; rfl
  have cA1 : w1.cell? ⟨w.heap.size, 1, none⟩ = some (.int .i64 win) := by rw [cell_of_row _ _ _ _ _ _ dA]; rfl
  have cA2 : w1.cell? ⟨w.heap.size, 2, none⟩ = some (.slice a1 xs.length c1) := by rw [cell_of_row _ _ _ _ _ _ dA]; rfl
  have cB0 : w1.cell? ⟨w.heap.size + 1, 0, none⟩ = some (.int .u64 q2) := by rw [cell_of_row _ _ _ _ _ _ dB]; rfl
  have cB1 : w1.cell? ⟨w.heap.size + 1, 1, none⟩ = some (.int .i64 win2) := by rw [cell_of_row _ _ _ _ _ _ dB]; rfl
  have cB2 : w1.cell? ⟨w.heap.size + 1, 2, none⟩ = some (.slice a2 ys.length c2) := by rw [cell_of_row _ _ _ _ _ _ dB]; rfl
  clear dA dB
  go_wp2_with fail
  refine (H2.out _ (by exact HB.out)).mono ?_
  rintro e w2 ⟨rfl, hb2⟩
  have HBs := Lib.hid (HB.out.trans (hb2.mono HB.out.size)).drew
  replace cA0 := keepc hb2 cA0
  replace cA1 := keepc hb2 cA1
  replace cA2 := keepc hb2 cA2
  replace cB0 := keepc hb2 cB0
  replace cB1 := keepc hb2 cB1
  replace cB2 := keepc hb2 cB2
  clear hb2
  go_wp2_with fail
  refine wp_region_noPanic ?_
  refine wp_region_held_drew (S := (fun w' => w'.cell? ⟨w.heap.size, 0, none⟩ = some (.int .u64 q) ∧ w'.cell? ⟨w.heap.size, 1, none⟩ = some (.int .i64 win) ∧ w'.cell? ⟨w.heap.size, 2, none⟩ = some (.slice a1 xs.length c1) ∧ w'.cell? ⟨w.heap.size + 1, 0, none⟩ = some (.int .u64 q2) ∧ w'.cell? ⟨w.heap.size + 1, 1, none⟩ = some (.int .i64 win2) ∧ w'.cell? ⟨w.heap.size + 1, 2, none⟩ = some (.slice a2 ys.length c2))) (by kernel_rfl) ?_ (fun hHeld => ?_)
  · exact ⟨cA0, cA1, cA2, cB0, cB1, cB2⟩
  refine wpAnyH_take (i := 0) (oi := _) (v := ?_) rfl (by kernel_rfl) (by kernel_rfl) (by kernel_rfl) (fun _ _ _ h => h) (Or.inl ⟨by rfl, ?_⟩) (by assumption) ?_
  rotate_left 1
  · (intro w hSw; (try dsimp only at hSw); go_simp; (try with_reducible rfl))
  try simp only [Act.put, List.getElem_toArray, List.getElem_cons_succ, List.getElem_cons_zero, List.setIfInBounds_toArray, List.set_cons_zero, List.set_cons_succ]
  refine wpAnyH_take (i := 1) (oi := _) (v := ?_) rfl (by kernel_rfl) (by kernel_rfl) (by kernel_rfl) (fun _ _ _ h => h) (Or.inl ⟨by rfl, ?_⟩) (by assumption) ?_
  rotate_left 1
  · (intro w hSw; (try dsimp only at hSw); go_simp; (try with_reducible rfl))
  try simp only [Act.put, List.getElem_toArray, List.getElem_cons_succ, List.getElem_cons_zero, List.setIfInBounds_toArray, List.set_cons_zero, List.set_cons_succ]
  refine wpAnyH_take (i := 3) (oi := _) (v := ?_) rfl (by kernel_rfl) (by kernel_rfl) (by kernel_rfl) (fun _ _ _ h => h) (Or.inl ⟨by rfl, ?_⟩) (by assumption) ?_
  rotate_left 1
  · (intro w hSw; (try dsimp only at hSw); go_simp; (try with_reducible rfl))
  try simp only [Act.put, List.getElem_toArray, List.getElem_cons_succ, List.getElem_cons_zero, List.setIfInBounds_toArray, List.set_cons_zero, List.set_cons_succ]
  refine wpAnyH_take (i := 4) (oi := _) (v := ?_) rfl (by kernel_rfl) (by kernel_rfl) (by kernel_rfl) (fun _ _ _ h => h) (Or.inl ⟨by rfl, ?_⟩) (by assumption) ?_
  rotate_left 1
  · (intro w hSw; (try dsimp only at hSw); go_simp; (try with_reducible rfl))
  try simp only [Act.put, List.getElem_toArray, List.getElem_cons_succ, List.getElem_cons_zero, List.setIfInBounds_toArray, List.set_cons_zero, List.set_cons_succ]
  refine wpAnyH_ready (rs := [2]) (by kernel_rfl) (by simp) ?_
  refine AllReadyH.cons (o := _) rfl (fun K hK => ?_) AllReadyH.nil
  go_simp
  refine (HAB.out _ (by exact HBs.out)).mono ?_
  rintro e w' ⟨rfl, hbk⟩
  have hbka := hbk
  have HBa := Lib.hid (HBs.out.trans (hbk.mono HBs.out.size))
  go_wp2_with fail
  refine hK.out _ _ ?_ (fun hHeld2 => ?_)
  · exact ⟨keepc hbk hHeld.1, keepc hbk hHeld.2.1, keepc hbk hHeld.2.2.1, keepc hbk hHeld.2.2.2.1, keepc hbk hHeld.2.2.2.2.1, keepc hbk hHeld.2.2.2.2.2⟩
  clear hK K
  try simp only [Act.put, List.getElem_toArray, List.getElem_cons_succ, List.getElem_cons_zero, List.setIfInBounds_toArray, List.set_cons_zero, List.set_cons_succ]
  refine wpAnyH_ready (rs := [5]) (by kernel_rfl) (by simp) ?_
  refine AllReadyH.cons (o := _) rfl (fun K hK => ?_) AllReadyH.nil
  go_simp
  refine (HRAB.out _ (by exact HBa.out)).mono ?_
  rintro e w' ⟨rfl, hbk⟩
  have hbkb := hbk
  have HBb := Lib.hid (HBa.out.trans (hbk.mono HBa.out.size))
  go_wp2_with fail
  refine hK.out _ _ ?_ (fun hHeld5 => ?_)
  · exact ⟨keepc hbk hHeld2.1, keepc hbk hHeld2.2.1, keepc hbk hHeld2.2.2.1, keepc hbk hHeld2.2.2.2.1, keepc hbk hHeld2.2.2.2.2.1, keepc hbk hHeld2.2.2.2.2.2⟩
  clear hK K
  try simp only [Act.put, List.getElem_toArray, List.getElem_cons_succ, List.getElem_cons_zero, List.setIfInBounds_toArray, List.set_cons_zero, List.set_cons_succ]
  refine wpAnyH_take (i := 6) (oi := _) (v := ?_) rfl (by kernel_rfl) (by kernel_rfl) (by kernel_rfl) (fun _ _ _ h => h) (Or.inl ⟨by rfl, ?_⟩) (by assumption) ?_
  rotate_left 1
  · (intro w hSw; (try dsimp only at hSw); go_simp; (try with_reducible rfl))
  try simp only [Act.put, List.getElem_toArray, List.getElem_cons_succ, List.getElem_cons_zero, List.setIfInBounds_toArray, List.set_cons_zero, List.set_cons_succ]
  refine wpAnyH_take (i := 7) (oi := _) (v := ?_) rfl (by kernel_rfl) (by kernel_rfl) (by kernel_rfl) (fun _ _ _ h => h) (Or.inl ⟨by rfl, ?_⟩) (by assumption) ?_
  rotate_left 1
  · (intro w hSw; (try dsimp only at hSw); go_simp; (try with_reducible rfl))
  try simp only [Act.put, List.getElem_toArray, List.getElem_cons_succ, List.getElem_cons_zero, List.setIfInBounds_toArray, List.set_cons_zero, List.set_cons_succ]
  refine wpAnyH_take (i := 8) (oi := _) (v := ?_) rfl (by kernel_rfl) (by kernel_rfl) (by kernel_rfl) (fun _ _ _ h => h) (Or.inl ⟨by rfl, ?_⟩) (by assumption) ?_
  rotate_left 1
  · (intro w hSw; (try dsimp only at hSw); go_simp; (try with_reducible rfl))
  try simp only [Act.put, List.getElem_toArray, List.getElem_cons_succ, List.getElem_cons_zero, List.setIfInBounds_toArray, List.set_cons_zero, List.set_cons_succ]
  refine wpAnyH_take (i := 9) (oi := _) (v := ?_) rfl (by kernel_rfl) (by kernel_rfl) (by kernel_rfl) (fun _ _ _ h => h) (Or.inl ⟨by rfl, ?_⟩) (by assumption) ?_
  rotate_left 1
  · (intro w hSw; (try dsimp only at hSw); go_simp; (try with_reducible rfl))
  try simp only [Act.put, List.getElem_toArray, List.getElem_cons_succ, List.getElem_cons_zero, List.setIfInBounds_toArray, List.set_cons_zero, List.set_cons_succ]
  refine wpAnyH_take (i := 11) (oi := _) (v := ?_) rfl (by kernel_rfl) (by kernel_rfl) (by kernel_rfl) (fun _ _ _ h => h) (Or.inl ⟨by rfl, ?_⟩) (by assumption) ?_
  rotate_left 1
  · (intro w hSw; (try dsimp only at hSw); go_simp; (try with_reducible rfl))
  try simp only [Act.put, List.getElem_toArray, List.getElem_cons_succ, List.getElem_cons_zero, List.setIfInBounds_toArray, List.set_cons_zero, List.set_cons_succ]
  refine wpAnyH_take (i := 12) (oi := _) (v := ?_) rfl (by kernel_rfl) (by kernel_rfl) (by kernel_rfl) (fun _ _ _ h => h) (Or.inl ⟨by rfl, ?_⟩) (by assumption) ?_
  rotate_left 1
  · (intro w hSw; (try dsimp only at hSw); go_simp; (try with_reducible rfl))
  try simp only [Act.put, List.getElem_toArray, List.getElem_cons_succ, List.getElem_cons_zero, List.setIfInBounds_toArray, List.set_cons_zero, List.set_cons_succ]
  refine wpAnyH_ready (rs := [10]) (by kernel_rfl) (by simp) ?_
  refine AllReadyH.cons (o := _) rfl (fun K hK => ?_) AllReadyH.nil
  go_simp
  refine (HBA.out _ (by exact HBb.out)).mono ?_
  rintro e w' ⟨rfl, hbk⟩
  have hbkc := hbk
  have HBc := Lib.hid (HBb.out.trans (hbk.mono HBb.out.size))
  go_wp2_with fail
  refine hK.out _ _ ?_ (fun hHeld10 => ?_)
  · exact ⟨keepc hbk hHeld5.1, keepc hbk hHeld5.2.1, keepc hbk hHeld5.2.2.1, keepc hbk hHeld5.2.2.2.1, keepc hbk hHeld5.2.2.2.2.1, keepc hbk hHeld5.2.2.2.2.2⟩
  clear hK K
  try simp only [Act.put, List.getElem_toArray, List.getElem_cons_succ, List.getElem_cons_zero, List.setIfInBounds_toArray, List.set_cons_zero, List.set_cons_succ]
  refine wpAnyH_ready (rs := [13]) (by kernel_rfl) (by simp) ?_
  refine AllReadyH.cons (o := _) rfl (fun K hK => ?_) AllReadyH.nil
  go_simp
  refine (HRAB.out _ (by exact HBc.out)).mono ?_
  rintro e w' ⟨rfl, hbk⟩
  have hbkd := hbk
  have HBd := Lib.hid (HBc.out.trans (hbk.mono HBc.out.size))
  go_wp2_with fail
  refine hK.out _ _ ?_ (fun hHeld13 => ?_)
  · exact ⟨keepc hbk hHeld10.1, keepc hbk hHeld10.2.1, keepc hbk hHeld10.2.2.1, keepc hbk hHeld10.2.2.2.1, keepc hbk hHeld10.2.2.2.2.1, keepc hbk hHeld10.2.2.2.2.2⟩
  clear hK K
  try simp only [Act.put, List.getElem_toArray, List.getElem_cons_succ, List.getElem_cons_zero, List.setIfInBounds_toArray, List.set_cons_zero, List.set_cons_succ]
  refine wpAnyH_take (i := 14) (oi := _) (v := ?_) rfl (by kernel_rfl) (by kernel_rfl) (by kernel_rfl) (fun _ _ _ h => h) (Or.inl ⟨by rfl, ?_⟩) (by assumption) ?_
  rotate_left 1
  · (intro w hSw; (try dsimp only at hSw); go_simp; (try with_reducible rfl))
  try simp only [Act.put, List.getElem_toArray, List.getElem_cons_succ, List.getElem_cons_zero, List.setIfInBounds_toArray, List.set_cons_zero, List.set_cons_succ]
  refine wpAnyH_take (i := 15) (oi := _) (v := ?_) rfl (by kernel_rfl) (by kernel_rfl) (by kernel_rfl) (fun _ _ _ h => h) (Or.inl ⟨by rfl, ?_⟩) (by assumption) ?_
  rotate_left 1
  · (intro w hSw; (try dsimp only at hSw); go_simp; (try with_reducible rfl))
  try simp only [Act.put, List.getElem_toArray, List.getElem_cons_succ, List.getElem_cons_zero, List.setIfInBounds_toArray, List.set_cons_zero, List.set_cons_succ]
  refine wpAnyH_take (i := 16) (oi := _) (v := ?_) rfl (by kernel_rfl) (by kernel_rfl) (by kernel_rfl) (fun _ _ _ h => h) (Or.inl ⟨by rfl, ?_⟩) (by assumption) ?_
  rotate_left 1
  · (intro w hSw; (try dsimp only at hSw); go_simp; (try with_reducible rfl))
  try simp only [Act.put, List.getElem_toArray, List.getElem_cons_succ, List.getElem_cons_zero, List.setIfInBounds_toArray, List.set_cons_zero, List.set_cons_succ]
  refine wpAnyH_take (i := 17) (oi := _) (v := ?_) rfl (by kernel_rfl) (by kernel_rfl) (by kernel_rfl) (fun _ _ _ h => h) (Or.inl ⟨by rfl, ?_⟩) (by assumption) ?_
  rotate_left 1
  · (intro w hSw; (try dsimp only at hSw); go_simp; (try with_reducible rfl))
  try simp only [Act.put, List.getElem_toArray, List.getElem_cons_succ, List.getElem_cons_zero, List.setIfInBounds_toArray, List.set_cons_zero, List.set_cons_succ]
  refine wpAnyH_take (i := 18) (oi := _) (v := ?_) rfl (by kernel_rfl) (by kernel_rfl) (by kernel_rfl) (fun _ _ _ h => h) (Or.inl ⟨by rfl, ?_⟩) (by assumption) ?_
  rotate_left 1
  · (intro w hSw; (try dsimp only at hSw); go_simp; (try with_reducible rfl))
  try simp only [Act.put, List.getElem_toArray, List.getElem_cons_succ, List.getElem_cons_zero, List.setIfInBounds_toArray, List.set_cons_zero, List.set_cons_succ]
  refine wpAnyH_ready (rs := [19]) (by kernel_rfl) (by simp) ?_
  refine AllReadyH.cons (o := _) rfl (fun K hK => ?_) AllReadyH.nil
  go_simp
  refine (HAA.out _ (by exact HBd.out)).mono ?_
  rintro e w' ⟨rfl, hbk⟩
  have hbke := hbk
  have HBe := Lib.hid (HBd.out.trans (hbk.mono HBd.out.size))
  go_wp2_with fail
  refine hK.out _ _ ?_ (fun hHeld19 => ?_)
  · exact ⟨keepc hbk hHeld13.1, keepc hbk hHeld13.2.1, keepc hbk hHeld13.2.2.1, keepc hbk hHeld13.2.2.2.1, keepc hbk hHeld13.2.2.2.2.1, keepc hbk hHeld13.2.2.2.2.2⟩
  clear hK K
  try simp only [Act.put, List.getElem_toArray, List.getElem_cons_succ, List.getElem_cons_zero, List.setIfInBounds_toArray, List.set_cons_zero, List.set_cons_succ]
  refine wpAnyH_take (i := 20) (oi := _) (v := ?_) rfl (by kernel_rfl) (by kernel_rfl) (by kernel_rfl) (fun _ _ _ h => h) (Or.inl ⟨by rfl, ?_⟩) (by assumption) ?_
  rotate_left 1
  · (intro w hSw; (try dsimp only at hSw); go_simp; (try with_reducible rfl))
  try simp only [Act.put, List.getElem_toArray, List.getElem_cons_succ, List.getElem_cons_zero, List.setIfInBounds_toArray, List.set_cons_zero, List.set_cons_succ]
  refine wpAnyH_take (i := 21) (oi := _) (v := ?_) rfl (by kernel_rfl) (by kernel_rfl) (by kernel_rfl) (fun _ _ _ h => h) (Or.inl ⟨by rfl, ?_⟩) (by assumption) ?_
  rotate_left 1
  · (intro w hSw; (try dsimp only at hSw); go_simp; (try with_reducible rfl))
  try simp only [Act.put, List.getElem_toArray, List.getElem_cons_succ, List.getElem_cons_zero, List.setIfInBounds_toArray, List.set_cons_zero, List.set_cons_succ]
  refine wpAnyH_ready (rs := [22]) (by kernel_rfl) (by simp) ?_
  refine AllReadyH.cons (o := _) rfl (fun K hK => ?_) AllReadyH.nil
  go_simp
  refine (known_any _).mono ?_
  rintro e w' ⟨rfl, hbk⟩
  have hbkf := hbk
  have HBf := Lib.hid (HBe.out.trans (hbk.mono HBe.out.size))
  go_wp2_with fail
  refine hK.out _ _ ?_ (fun hHeld22 => ?_)
  · exact ⟨keepc hbk hHeld19.1, keepc hbk hHeld19.2.1, keepc hbk hHeld19.2.2.1, keepc hbk hHeld19.2.2.2.1, keepc hbk hHeld19.2.2.2.2.1, keepc hbk hHeld19.2.2.2.2.2⟩
  clear hK K
  try simp only [Act.put, List.getElem_toArray, List.getElem_cons_succ, List.getElem_cons_zero, List.setIfInBounds_toArray, List.set_cons_zero, List.set_cons_succ]
  refine wpAnyH_take (i := 23) (oi := _) (v := ?_) rfl (by kernel_rfl) (by kernel_rfl) (by kernel_rfl) (fun _ _ _ h => h) (Or.inl ⟨by rfl, ?_⟩) (by assumption) ?_
  rotate_left 1
  · (intro w hSw; (try dsimp only at hSw); go_simp; (try with_reducible rfl))
  try simp only [Act.put, List.getElem_toArray, List.getElem_cons_succ, List.getElem_cons_zero, List.setIfInBounds_toArray, List.set_cons_zero, List.set_cons_succ]
  refine wpAnyH_take (i := 24) (oi := _) (v := ?_) rfl (by kernel_rfl) (by kernel_rfl) (by kernel_rfl) (fun _ _ _ h => h) (Or.inl ⟨by rfl, ?_⟩) (by assumption) ?_
  rotate_left 1
  · (intro w hSw; (try dsimp only at hSw); go_simp; (try with_reducible rfl))
  try simp only [Act.put, List.getElem_toArray, List.getElem_cons_succ, List.getElem_cons_zero, List.setIfInBounds_toArray, List.set_cons_zero, List.set_cons_succ]
  refine wpAnyH_done (by kernel_rfl) ?_ _
  refine NoPanic.normal ?_
  clear cA0 cA1 cA2 cB0 cB1 cB2 hHeld hHeld2 hHeld5 hHeld10 hHeld13 hHeld19 hHeld22
  have HBF := Lib.hid HBf.out
  go_wp2
  go_ret
  exact ⟨rfl, HBF.out⟩
theorem frameSame_any (w : World) (q win q2 win2 : Int) (a1 a2 : Option Addr) (c1 c2 : Nat) (xs ys : List Rec) (hl1 : xs.length ≤ 9223372036854775807) (hl2 : ys.length ≤ 9223372036854775807) (hs1 : ∀ x ∈ xs, x.name.size ≤ 140737488355328) (hs2 : ∀ x ∈ ys, x.name.size ≤ 140737488355328) (hr1 : Rd w a1 (rcf xs)) (hr2 : Rd w a2 (rcf ys)) :
    Calls Try.prog 3 #[frv q win (.slice a1 xs.length c1), frv q2 win2 (.slice a2 ys.length c2)] w fun e w' => e = .returned (.bool true) ∧ Below w.heap.size w w' := by
  cases hm : muchB xs with
  | true => exact frameSame_much w q win q2 win2 a1 a2 c1 c2 xs ys hl1 hl2 hs1 hs2 hr1 hr2 (.inl hm)
  | false =>
    cases hm2 : muchB ys with
    | true => exact frameSame_much w q win q2 win2 a1 a2 c1 c2 xs ys hl1 hl2 hs1 hs2 hr1 hr2 (.inr ⟨hm, hm2⟩)
    | false =>
      have k1 : xs.length ≤ 60 := by
        unfold muchB at hm
        simp at hm
        exact hm.1
      have k2 : ys.length ≤ 60 := by
        unfold muchB at hm2
        simp at hm2
        exact hm2.1
      cases hE : frEq q win xs q2 win2 ys with
      | true => exact frameSame_true w q win q2 win2 a1 a2 c1 c2 xs ys k1 k2 hs1 hs2 hr1 hr2 hm hm2 hE
      | false => exact frameSame_false w q win q2 win2 a1 a2 c1 c2 xs ys k1 k2 hs1 hs2 hr1 hr2 hm hm2 hE
end Go.Proofs.Ytajddpdlhahcdaa
