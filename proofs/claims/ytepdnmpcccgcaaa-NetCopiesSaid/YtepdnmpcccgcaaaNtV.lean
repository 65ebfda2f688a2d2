/- The reference's Same: the walk; when both say the same. -/
import Derived.Test.YtepdnmpcccgcaaaNtZ
namespace Go.Proofs.Ytepdnmpcccgcaaa
open Go.RowKit K
noncomputable instance : DecidableEq CV := fun _ _ => Classical.propDecidable _
theorem vw_iff {u v : RC} : u.vw = v.vw ↔ u.id = v.id ∧ u.host = v.host ∧ u.st = v.st ∧ u.out = v.out ∧ u.inn.extract u.pos u.inn.size = v.inn.extract v.pos v.inn.size := by
  have e : ∀ a b : ByteArray, a = b ↔ a.data.toList = b.data.toList := fun a b => ⟨fun h => by rw [h], fun h => ByteArray.ext (Array.toList_inj.1 h)⟩
  rw [e u.out v.out, e (u.inn.extract _ _) (v.inn.extract _ _), extract_drop, extract_drop]
  unfold RC.vw
  simp only [CV.mk.injEq]
  exact ⟨fun ⟨h1, h2, h3, h4, h5⟩ => ⟨h1, h2, h3, h5, h4⟩, fun ⟨h1, h2, h3, h4, h5⟩ => ⟨h1, h2, h3, h5, h4⟩⟩
theorem map_drop_cons {L : List RC} {k : Nat} (h : k < L.length) : (L.drop k).map RC.vw = L[k].vw :: (L.drop (k + 1)).map RC.vw := by
  rw [← List.getElem_cons_drop h, List.map_cons]
theorem bel1 (w : World) (a : Obj) : Below w.heap.size w (w.alloc a) := (Below.refl _ w).alloc (Nat.le_refl _) _
theorem bel1d (w : World) (a : Obj) : Below w.heap.size w (w.alloc a).drew := (bel1 w a).trans ((drew_below _).mono (by simp))
theorem bel2 (w : World) (a b : Obj) : Below w.heap.size w ((w.alloc a).alloc b) := (bel1 w a).alloc (by simp) _
theorem bel2d (w : World) (a b : Obj) : Below w.heap.size w ((w.alloc a).alloc b).drew := (bel2 w a b).trans ((drew_below _).mono (by simp; omega))
set_option maxHeartbeats 4000000 in
set_option maxRecDepth 100000 in
theorem rsame_any {w : World} {B r : Nat} {most d : Int} {L : List RC} {G : Nat → Prop} {B2 r2 : Nat} {d2 : Int} {L2 : List RC} {G2 : Nat → Prop} (h1 : RfIs w B r most d L G) (h2 : RfIs w B2 r2 most d2 L2 G2) (hl1 : L.length ≤ 1000000) (hl2 : L2.length ≤ 1000000)
    (hs1 : ∀ v ∈ L, v.inn.size ≤ 1000000 ∧ v.pos ≤ v.inn.size) (hs2 : ∀ v ∈ L2, v.inn.size ≤ 1000000 ∧ v.pos ≤ v.inn.size) :
    Calls Try.prog 21 #[.pointer (some ⟨r, 0, none⟩), .pointer (some ⟨r2, 0, none⟩)] w fun e w' => e = .returned (.bool (decide (d = d2) && decide (L.map RC.vw = L2.map RC.vw))) ∧ Below w.heap.size w w' := by
  obtain ⟨a, c, hb, hc, hr, -⟩ := h1.shape
  obtain ⟨a', c', hb', hc', hr', -⟩ := h2.shape
  have c0 : w.cell? ⟨r, 0, none⟩ = some (.slice a L.length c) := by rw [cell_of_row _ _ _ _ _ _ hb]; rfl
  have c1 : w.cell? ⟨r, 1, none⟩ = some (.int .i64 most) := by rw [cell_of_row _ _ _ _ _ _ hb]; rfl
  have c2 : w.cell? ⟨r, 2, none⟩ = some (.int .i64 d) := by rw [cell_of_row _ _ _ _ _ _ hb]; rfl
  have d0 : w.cell? ⟨r2, 0, none⟩ = some (.slice a' L2.length c') := by rw [cell_of_row _ _ _ _ _ _ hb']; rfl
  have d1 : w.cell? ⟨r2, 1, none⟩ = some (.int .i64 most) := by rw [cell_of_row _ _ _ _ _ _ hb']; rfl
  have e2 : w.cell? ⟨r2, 2, none⟩ = some (.int .i64 d2) := by rw [cell_of_row _ _ _ _ _ _ hb']; rfl
  have HR := Lib.hid hr
  have HR2 := Lib.hid hr'
  have HS1 := Lib.hid hs1
  have HS2 := Lib.hid hs2
  clear h1 h2 hb hb' hr hr' hs1 hs2
  have hmm : (most != most) = false := by simp
  by_cases hd : d = d2
  rotate_left 1
  · have HE := Lib.hid (show (decide (d = d2) && decide (L.map RC.vw = L2.map RC.vw)) = false by rw [decide_eq_false hd]; rfl)
    have hne : (d != d2) = true := by rw [bne_iff_ne]; exact hd
    clear hd
    go_enter Try.func21, Try.ntmps21
    go_wp2_with fail
    go_quiet (fail)
    go_wp2
    go_ret
    exact ⟨by rw [HE.out]; rfl, below_drewN (Below.refl _ w) _⟩
  subst hd
  have hdd : (d != d) = false := by simp
  by_cases hl : L.length = L2.length
  rotate_left 1
  · have HE := Lib.hid (show (decide (d = d) && decide (L.map RC.vw = L2.map RC.vw)) = false by
      have hn : ¬ (L.map RC.vw = L2.map RC.vw) := fun h => hl (by have := congrArg List.length h; simpa using this)
      rw [decide_eq_false hn, Bool.and_false])
    have hne : ((L.length : Int) != (L2.length : Int)) = true := by rw [bne_iff_ne]; omega
    clear hl
    go_enter Try.func21, Try.ntmps21
    go_wp2_with fail
    go_quiet (fail)
    go_wp2
    go_ret
    exact ⟨by rw [HE.out]; rfl, below_drewN (Below.refl _ w) _⟩
  have HL := Lib.hid hl
  have hne : ((L.length : Int) != (L2.length : Int)) = false := by rw [bne_eq_false_iff_eq]; omega
  have HDD := Lib.hid (show (decide (d = d) && decide (L.map RC.vw = L2.map RC.vw)) = decide (L.map RC.vw = L2.map RC.vw) by simp)
  rw [HDD.out]
  have C0 := Lib.hid c0
  have D0 := Lib.hid d0
  clear hl
  go_enter Try.func21, Try.ntmps21
  go_wp2_with fail
  go_quiet (fail)
  clear c0 c1 c2 d0 d1 e2 hmm hdd hne
  obtain ⟨ws, hws⟩ : ∃ W, W = w.drewN nq := ⟨_, rfl⟩
  have HBS := Lib.hid (show Below w.heap.size w ws by rw [hws]; exact below_drewN (Below.refl _ w) _)
  rw [← hws]
  clear hws
  go_wp2
  go_loopw [5] (fun i wr => ∃ k : Nat, i = .int .i64 k ∧ k ≤ L.length ∧ Below w.heap.size w wr ∧ decide (L.map RC.vw = L2.map RC.vw) = decide ((L.drop k).map RC.vw = (L2.drop k).map RC.vw)) (fun i _ => L.length - (intOf i).toNat)
  case atStart => exact ⟨0, rfl, Nat.zero_le _, HBS.out, rfl⟩
  case round =>
    obtain ⟨k, rfl, hk, hbr, hal⟩ := hrel
    obtain ⟨wz, hwz⟩ : ∃ wz, wz = wr := ⟨_, rfl⟩
    subst hwz
    have HBR := Lib.hid hbr
    have c0 := keepc hbr C0.out
    clear hbr
    by_cases hlt : k < L.length
    rotate_left 1
    · obtain rfl : k = L.length := by omega
      have HE := Lib.hid (show decide (L.map RC.vw = L2.map RC.vw) = true by rw [hal, List.drop_length, show L.length = L2.length from HL.out, List.drop_length]; exact decide_eq_true rfl)
      clear hal
      go_wp2
      go_ret
      exact ⟨by rw [HE.out]; rfl, HBR.out⟩
    have hlt2 : k < L2.length := by have := HL.out; omega
    obtain ⟨b, off, rfl, hbl, hq⟩ := rc_cells HR.out hlt
    obtain ⟨b', off', rfl, hbl', hq'⟩ := rc_cells HR2.out hlt2
    have hcut := map_drop_cons hlt
    have hcut2 := map_drop_cons hlt2
    have hss1 := HS1.out L[k] (List.getElem_mem hlt)
    have hss2 := HS2.out (L2[k]'hlt2) (List.getElem_mem hlt2)
    generalize L[k] = u at hq hcut hss1
    generalize L2[k]'hlt2 = v at hq' hcut2 hss2
    have HAL := Lib.hid (show decide (L.map RC.vw = L2.map RC.vw) = (decide (u.vw = v.vw) && decide ((L.drop (k + 1)).map RC.vw = (L2.drop (k + 1)).map RC.vw)) by
      rw [hal, ← Bool.decide_and, decide_eq_decide, hcut, hcut2, List.cons_eq_cons])
    have HVI := Lib.hid (vw_iff (u := u) (v := v))
    clear hcut hcut2 hal
    obtain ⟨ui, uh, us, un, up, uo⟩ := u
    obtain ⟨vi, vh, vs, vn, vp, vo⟩ := v
    simp only at HVI hss1 hss2
    have p0 := Lib.hid (keepc HBR.out (hq 0 _ (by omega) rfl))
    have p1 := Lib.hid (keepc HBR.out (hq 1 _ (by omega) rfl))
    have p2 := Lib.hid (keepc HBR.out (hq 2 _ (by omega) rfl))
    have p3 := Lib.hid (keepc HBR.out (hq 3 _ (by omega) rfl))
    have p4 := Lib.hid (keepc HBR.out (hq 4 _ (by omega) rfl))
    have p5 := Lib.hid (keepc HBR.out (hq 5 _ (by omega) rfl))
    have q0 := Lib.hid (keepc HBR.out (hq' 0 _ (by omega) rfl))
    have q1 := Lib.hid (keepc HBR.out (hq' 1 _ (by omega) rfl))
    have q2 := Lib.hid (keepc HBR.out (hq' 2 _ (by omega) rfl))
    have q3 := Lib.hid (keepc HBR.out (hq' 3 _ (by omega) rfl))
    have q4 := Lib.hid (keepc HBR.out (hq' 4 _ (by omega) rfl))
    have q5 := Lib.hid (keepc HBR.out (hq' 5 _ (by omega) rfl))
    simp only [Nat.add_zero] at p0 q0
    have hun : un.size ≤ 1000000 := hss1.1
    have hup : up ≤ un.size := hss1.2
    have hvn : vn.size ≤ 1000000 := hss2.1
    have hvp : vp ≤ vn.size := hss2.2
    have K0 := Lib.hid (keepc HBR.out C0.out)
    have K1 := Lib.hid (keepc HBR.out D0.out)
    clear hq hq' hss1 hss2 hbl hbl'
    go_wp2_with fail
    clear c0
    refine wp_region_noPanic ?_
    refine wp_region_held_drew (S := (fun w' => Below wz.heap.size wz w')) (by kernel_rfl) ?_ (fun hHeld => ?_)
    · exact drew_below _
    refine wpAnyH_take (i := 0) (oi := _) (v := ?_) rfl (by kernel_rfl) (by kernel_rfl) (by kernel_rfl) (fun _ _ _ h => h) (Or.inl ⟨by rfl, ?_⟩) (by assumption) ?_
    rotate_left 1
    · (intro w hSw; (try dsimp only at hSw); go_simp; (try with_reducible rfl))
    try simp only [Act.put, List.getElem_toArray, List.getElem_cons_zero, List.setIfInBounds_toArray, List.set_cons_zero, List.set_cons_succ]
    refine wpAnyH_take (i := 1) (oi := _) (v := ?_) rfl (by kernel_rfl) (by kernel_rfl) (by kernel_rfl) (fun _ _ _ h => h) (Or.inl ⟨by rfl, ?_⟩) (by assumption) ?_
    rotate_left 1
    · (intro w hSw; (try dsimp only at hSw); go_simp; (try with_reducible rfl))
    try simp only [Act.put, List.getElem_toArray, List.getElem_cons_succ, List.getElem_cons_zero, List.setIfInBounds_toArray, List.set_cons_zero, List.set_cons_succ]
    refine wpAnyH_take (i := 2) (oi := _) (v := ?_) rfl (by kernel_rfl) (by kernel_rfl) (by kernel_rfl) (fun _ _ _ h => h) (Or.inl ⟨by rfl, ?_⟩) (by assumption) ?_
    rotate_left 1
    · (intro w hSw; (try dsimp only at hSw); go_simp; (try with_reducible rfl))
    try simp only [Act.put, List.getElem_toArray, List.getElem_cons_succ, List.getElem_cons_zero, List.setIfInBounds_toArray, List.set_cons_zero, List.set_cons_succ]
    refine wpAnyH_take (i := 3) (oi := _) (v := ?_) rfl (by kernel_rfl) (by kernel_rfl) (by kernel_rfl) (fun _ _ _ h => h) (Or.inl ⟨by rfl, ?_⟩) (by assumption) ?_
    rotate_left 1
    · (intro w hSw; (try dsimp only at hSw); (have z := keepc hSw K0.out; go_simp); (try with_reducible rfl))
    try simp only [Act.put, List.getElem_toArray, List.getElem_cons_succ, List.getElem_cons_zero, List.setIfInBounds_toArray, List.set_cons_zero, List.set_cons_succ]
    refine wpAnyH_take (i := 4) (oi := _) (v := ?_) rfl (by kernel_rfl) (by kernel_rfl) (by kernel_rfl) (fun _ _ _ h => h) (Or.inl ⟨by rfl, ?_⟩) (by assumption) ?_
    rotate_left 1
    · (intro w hSw; (try dsimp only at hSw); go_simp; (try with_reducible rfl))
    try simp only [Act.put, List.getElem_toArray, List.getElem_cons_succ, List.getElem_cons_zero, List.setIfInBounds_toArray, List.set_cons_zero, List.set_cons_succ]
    refine wpAnyH_take (i := 5) (oi := _) (v := ?_) rfl (by kernel_rfl) (by kernel_rfl) (by kernel_rfl) (fun _ _ _ h => h) (Or.inl ⟨by rfl, ?_⟩) (by assumption) ?_
    rotate_left 1
    · (intro w hSw; (try dsimp only at hSw); go_simp; (try with_reducible rfl))
    try simp only [Act.put, List.getElem_toArray, List.getElem_cons_succ, List.getElem_cons_zero, List.setIfInBounds_toArray, List.set_cons_zero, List.set_cons_succ]
    refine wpAnyH_take (i := 6) (oi := _) (v := ?_) rfl (by kernel_rfl) (by kernel_rfl) (by kernel_rfl) (fun _ _ _ h => h) (Or.inl ⟨by rfl, ?_⟩) (by assumption) ?_
    rotate_left 1
    · (intro w hSw; (try dsimp only at hSw); (have z0 := keepc hSw p0.out; have z1 := keepc hSw p1.out; have z2 := keepc hSw p2.out; have z3 := keepc hSw p3.out; have z4 := keepc hSw p4.out; have z5 := keepc hSw p5.out; go_simp); (try with_reducible rfl))
    try simp only [Act.put, List.getElem_toArray, List.getElem_cons_succ, List.getElem_cons_zero, List.setIfInBounds_toArray, List.set_cons_zero, List.set_cons_succ]
    refine wpAnyH_take (i := 7) (oi := _) (v := ?_) rfl (by kernel_rfl) (by kernel_rfl) (by kernel_rfl) (fun _ _ _ h => h) (Or.inl ⟨by rfl, ?_⟩) (by assumption) ?_
    rotate_left 1
    · (intro w hSw; (try dsimp only at hSw); go_simp; (try with_reducible rfl))
    try simp only [Act.put, List.getElem_toArray, List.getElem_cons_succ, List.getElem_cons_zero, List.setIfInBounds_toArray, List.set_cons_zero, List.set_cons_succ]
    refine wpAnyH_take (i := 8) (oi := _) (v := ?_) rfl (by kernel_rfl) (by kernel_rfl) (by kernel_rfl) (fun _ _ _ h => h) (Or.inl ⟨by rfl, ?_⟩) (by assumption) ?_
    rotate_left 1
    · (intro w hSw; (try dsimp only at hSw); go_simp; (try with_reducible rfl))
    try simp only [Act.put, List.getElem_toArray, List.getElem_cons_succ, List.getElem_cons_zero, List.setIfInBounds_toArray, List.set_cons_zero, List.set_cons_succ]
    refine wpAnyH_take (i := 9) (oi := _) (v := ?_) rfl (by kernel_rfl) (by kernel_rfl) (by kernel_rfl) (fun _ _ _ h => h) (Or.inl ⟨by rfl, ?_⟩) (by assumption) ?_
    rotate_left 1
    · (intro w hSw; (try dsimp only at hSw); go_simp; (try with_reducible rfl))
    try simp only [Act.put, List.getElem_toArray, List.getElem_cons_succ, List.getElem_cons_zero, List.setIfInBounds_toArray, List.set_cons_zero, List.set_cons_succ]
    refine wpAnyH_take (i := 10) (oi := _) (v := ?_) rfl (by kernel_rfl) (by kernel_rfl) (by kernel_rfl) (fun _ _ _ h => h) (Or.inl ⟨by rfl, ?_⟩) (by assumption) ?_
    rotate_left 1
    · (intro w hSw; (try dsimp only at hSw); (have z := keepc hSw K1.out; go_simp); (try with_reducible rfl))
    try simp only [Act.put, List.getElem_toArray, List.getElem_cons_succ, List.getElem_cons_zero, List.setIfInBounds_toArray, List.set_cons_zero, List.set_cons_succ]
    refine wpAnyH_take (i := 11) (oi := _) (v := ?_) rfl (by kernel_rfl) (by kernel_rfl) (by kernel_rfl) (fun _ _ _ h => h) (Or.inl ⟨by rfl, ?_⟩) (by assumption) ?_
    rotate_left 1
    · (intro w hSw; (try dsimp only at hSw); go_simp; (try with_reducible rfl))
    try simp only [Act.put, List.getElem_toArray, List.getElem_cons_succ, List.getElem_cons_zero, List.setIfInBounds_toArray, List.set_cons_zero, List.set_cons_succ]
    refine wpAnyH_take (i := 12) (oi := _) (v := ?_) rfl (by kernel_rfl) (by kernel_rfl) (by kernel_rfl) (fun _ _ _ h => h) (Or.inl ⟨by rfl, ?_⟩) (by assumption) ?_
    rotate_left 1
    · (intro w hSw; (try dsimp only at hSw); go_simp; (try with_reducible rfl))
    try simp only [Act.put, List.getElem_toArray, List.getElem_cons_succ, List.getElem_cons_zero, List.setIfInBounds_toArray, List.set_cons_zero, List.set_cons_succ]
    refine wpAnyH_take (i := 13) (oi := _) (v := ?_) rfl (by kernel_rfl) (by kernel_rfl) (by kernel_rfl) (fun _ _ _ h => h) (Or.inl ⟨by rfl, ?_⟩) (by assumption) ?_
    rotate_left 1
    · (intro w hSw; (try dsimp only at hSw); (have z0 := keepc hSw q0.out; have z1 := keepc hSw q1.out; have z2 := keepc hSw q2.out; have z3 := keepc hSw q3.out; have z4 := keepc hSw q4.out; have z5 := keepc hSw q5.out; go_simp); (try with_reducible rfl))
    try simp only [Act.put, List.getElem_toArray, List.getElem_cons_succ, List.getElem_cons_zero, List.setIfInBounds_toArray, List.set_cons_zero, List.set_cons_succ]
    refine wpAnyH_ready (rs := [14, 15]) (by kernel_rfl) (by simp) ?_
    refine AllReadyH.cons (o := _) rfl (fun K hK => ?_) (AllReadyH.cons (o := _) rfl (fun K hK => ?_) AllReadyH.nil)
    · go_simp
      refine hK.out _ _ ?_ (fun _ => ?_)
      · (first | exact bel1 wz _ | exact bel1d wz _)
      clear hK K
      try simp only [Act.put, List.getElem_toArray, List.getElem_cons_succ, List.getElem_cons_zero, List.setIfInBounds_toArray, List.set_cons_zero, List.set_cons_succ]
      refine wpAnyH_ready (rs := [15]) (by kernel_rfl) (by simp) ?_
      refine AllReadyH.cons (o := _) rfl (fun K hK => ?_) AllReadyH.nil
      go_simp
      refine hK.out _ _ ?_ (fun _ => ?_)
      · (first | exact bel2 wz _ _ | exact bel2d wz _ _)
      clear hK K
      try simp only [Act.put, List.getElem_toArray, List.getElem_cons_succ, List.getElem_cons_zero, List.setIfInBounds_toArray, List.set_cons_zero, List.set_cons_succ]
      refine wpAnyH_ready (rs := [16]) (by kernel_rfl) (by simp) ?_
      refine AllReadyH.cons (o := _) rfl (fun K hK => ?_) AllReadyH.nil
      go_simp
      refine hK.out _ _ ?_ (fun _ => ?_)
      · (first | exact bel2 wz _ _ | exact bel2d wz _ _)
      clear hK K
      try simp only [Act.put, List.getElem_toArray, List.getElem_cons_succ, List.getElem_cons_zero, List.setIfInBounds_toArray, List.set_cons_zero, List.set_cons_succ]
      refine wpAnyH_ready (rs := [17]) (by kernel_rfl) (by simp) ?_
      refine AllReadyH.cons (o := _) rfl (fun K hK => ?_) AllReadyH.nil
      go_simp
      refine hK.out _ _ ?_ (fun _ => ?_)
      · (first | exact bel2 wz _ _ | exact bel2d wz _ _)
      clear hK K
      try simp only [Act.put, List.getElem_toArray, List.getElem_cons_succ, List.getElem_cons_zero, List.setIfInBounds_toArray, List.set_cons_zero, List.set_cons_succ]
      refine wpAnyH_done (by kernel_rfl) ?_ _
      refine NoPanic.normal ?_
      obtain ⟨W2, hW2⟩ : ∃ W, W = ((wz.alloc (.cells #[.int .i64 ui, .string uh, .int .i64 us, .string un, .int .i64 (up : Nat), .string uo] 74)).alloc (.cells #[.int .i64 vi, .string vh, .int .i64 vs, .string vn, .int .i64 (vp : Nat), .string vo] 74)).drew := ⟨_, rfl⟩
      have h1 : W2.heap[wz.heap.size]? = some (.cells #[.int .i64 ui, .string uh, .int .i64 us, .string un, .int .i64 (up : Nat), .string uo] 74 (0, 0)) := by rw [hW2]; exact (Below.heap_alloc _ _ _ (by simp)).trans (heap_alloc_new wz _)
      have h2 : W2.heap[wz.heap.size + 1]? = some (.cells #[.int .i64 vi, .string vh, .int .i64 vs, .string vn, .int .i64 (vp : Nat), .string vo] 74 (0, 0)) := by rw [hW2]; have h := heap_alloc_new (wz.alloc (.cells #[.int .i64 ui, .string uh, .int .i64 us, .string un, .int .i64 (up : Nat), .string uo] 74)) (.cells #[.int .i64 vi, .string vh, .int .i64 vs, .string vn, .int .i64 (vp : Nat), .string vo] 74); rw [World.size_alloc] at h; exact h
      have HB2 := Lib.hid (show Below w.heap.size w W2 by rw [hW2]; exact HBR.out.trans ((bel2d wz _ _).mono HBR.out.size))
      rw [← hW2]
      clear hW2
      have x0 : W2.cell? ⟨wz.heap.size, 0, none⟩ = some (.int .i64 ui) := by rw [cell_of_row _ _ _ _ _ _ h1]; rfl
      have x1 : W2.cell? ⟨wz.heap.size, 1, none⟩ = some (.string uh) := by rw [cell_of_row _ _ _ _ _ _ h1]; rfl
      have x2 : W2.cell? ⟨wz.heap.size, 2, none⟩ = some (.int .i64 us) := by rw [cell_of_row _ _ _ _ _ _ h1]; rfl
      have x3 : W2.cell? ⟨wz.heap.size, 3, none⟩ = some (.string un) := by rw [cell_of_row _ _ _ _ _ _ h1]; rfl
      have x4 : W2.cell? ⟨wz.heap.size, 4, none⟩ = some (.int .i64 (up : Nat)) := by rw [cell_of_row _ _ _ _ _ _ h1]; rfl
      have x5 : W2.cell? ⟨wz.heap.size, 5, none⟩ = some (.string uo) := by rw [cell_of_row _ _ _ _ _ _ h1]; rfl
      have y0 : W2.cell? ⟨wz.heap.size + 1, 0, none⟩ = some (.int .i64 vi) := by rw [cell_of_row _ _ _ _ _ _ h2]; rfl
      have y1 : W2.cell? ⟨wz.heap.size + 1, 1, none⟩ = some (.string vh) := by rw [cell_of_row _ _ _ _ _ _ h2]; rfl
      have y2 : W2.cell? ⟨wz.heap.size + 1, 2, none⟩ = some (.int .i64 vs) := by rw [cell_of_row _ _ _ _ _ _ h2]; rfl
      have y3 : W2.cell? ⟨wz.heap.size + 1, 3, none⟩ = some (.string vn) := by rw [cell_of_row _ _ _ _ _ _ h2]; rfl
      have y4 : W2.cell? ⟨wz.heap.size + 1, 4, none⟩ = some (.int .i64 (vp : Nat)) := by rw [cell_of_row _ _ _ _ _ _ h2]; rfl
      have y5 : W2.cell? ⟨wz.heap.size + 1, 5, none⟩ = some (.string vo) := by rw [cell_of_row _ _ _ _ _ _ h2]; rfl
      clear h1 h2
      by_cases e0 : ui = vi
      rotate_left 1
      · have HS := Lib.hid (decide_eq_false (fun h => e0 (HVI.out.1 h).1))
        have g : (ui != vi) = true := by rw [bne_iff_ne]; exact e0
        clear e0
        go_wp2_with fail
        go_quiet (fail)
        go_wp2
        go_ret
        exact ⟨by rw [HAL.out, HS.out]; rfl, below_drewN HB2.out _⟩
      subst e0
      by_cases e1 : uh = vh
      rotate_left 1
      · have HS := Lib.hid (decide_eq_false (fun h => e1 (HVI.out.1 h).2.1))
        have g := tl_ne e1
        clear e1
        go_wp2_with fail
        go_quiet (fail)
        go_wp2
        go_ret
        exact ⟨by rw [HAL.out, HS.out]; rfl, below_drewN HB2.out _⟩
      subst e1
      by_cases e2 : us = vs
      rotate_left 1
      · have HS := Lib.hid (decide_eq_false (fun h => e2 (HVI.out.1 h).2.2.1))
        have g : (us != vs) = true := by rw [bne_iff_ne]; exact e2
        clear e2
        go_wp2_with fail
        go_quiet (fail)
        go_wp2
        go_ret
        exact ⟨by rw [HAL.out, HS.out]; rfl, below_drewN HB2.out _⟩
      subst e2
      by_cases e3 : uo = vo
      rotate_left 1
      · have HS := Lib.hid (decide_eq_false (fun h => e3 (HVI.out.1 h).2.2.2.1))
        have g := tl_ne e3
        clear e3
        go_wp2_with fail
        go_quiet (fail)
        go_wp2
        go_ret
        exact ⟨by rw [HAL.out, HS.out]; rfl, below_drewN HB2.out _⟩
      subst e3
      by_cases e9 : un.extract up un.size = vn.extract vp vn.size
      rotate_left 1
      · have HS := Lib.hid (decide_eq_false (fun h => e9 (HVI.out.1 h).2.2.2.2))
        have g := tl_ne e9
        clear e9
        go_wp2_with fail
        go_quiet (fail)
        go_wp2
        go_ret
        exact ⟨by rw [HAL.out, HS.out]; rfl, below_drewN HB2.out _⟩
      have HS := Lib.hid (decide_eq_true (HVI.out.2 ⟨rfl, rfl, rfl, rfl, e9⟩))
      go_wp2_with fail
      go_quiet (fail)
      clear e9
      go_wp2
      go_roundw
      case rel => exact ⟨k + 1, by go_num, by omega, below_drewN HB2.out _, by rw [HAL.out, HS.out]; rfl⟩
      case measure => simp [intOf]; omega
    · go_simp
      refine hK.out _ _ ?_ (fun _ => ?_)
      · (first | exact bel1 wz _ | exact bel1d wz _)
      clear hK K
      try simp only [Act.put, List.getElem_toArray, List.getElem_cons_succ, List.getElem_cons_zero, List.setIfInBounds_toArray, List.set_cons_zero, List.set_cons_succ]
      refine wpAnyH_ready (rs := [14]) (by kernel_rfl) (by simp) ?_
      refine AllReadyH.cons (o := _) rfl (fun K hK => ?_) AllReadyH.nil
      go_simp
      refine hK.out _ _ ?_ (fun _ => ?_)
      · (first | exact bel2 wz _ _ | exact bel2d wz _ _)
      clear hK K
      try simp only [Act.put, List.getElem_toArray, List.getElem_cons_succ, List.getElem_cons_zero, List.setIfInBounds_toArray, List.set_cons_zero, List.set_cons_succ]
      refine wpAnyH_ready (rs := [16]) (by kernel_rfl) (by simp) ?_
      refine AllReadyH.cons (o := _) rfl (fun K hK => ?_) AllReadyH.nil
      go_simp
      refine hK.out _ _ ?_ (fun _ => ?_)
      · (first | exact bel2 wz _ _ | exact bel2d wz _ _)
      clear hK K
      try simp only [Act.put, List.getElem_toArray, List.getElem_cons_succ, List.getElem_cons_zero, List.setIfInBounds_toArray, List.set_cons_zero, List.set_cons_succ]
      refine wpAnyH_ready (rs := [17]) (by kernel_rfl) (by simp) ?_
      refine AllReadyH.cons (o := _) rfl (fun K hK => ?_) AllReadyH.nil
      go_simp
      refine hK.out _ _ ?_ (fun _ => ?_)
      · (first | exact bel2 wz _ _ | exact bel2d wz _ _)
      clear hK K
      try simp only [Act.put, List.getElem_toArray, List.getElem_cons_succ, List.getElem_cons_zero, List.setIfInBounds_toArray, List.set_cons_zero, List.set_cons_succ]
      refine wpAnyH_done (by kernel_rfl) ?_ _
      refine NoPanic.normal ?_
      obtain ⟨W2, hW2⟩ : ∃ W, W = ((wz.alloc (.cells #[.int .i64 vi, .string vh, .int .i64 vs, .string vn, .int .i64 (vp : Nat), .string vo] 74)).alloc (.cells #[.int .i64 ui, .string uh, .int .i64 us, .string un, .int .i64 (up : Nat), .string uo] 74)).drew := ⟨_, rfl⟩
      have h1 : W2.heap[wz.heap.size]? = some (.cells #[.int .i64 vi, .string vh, .int .i64 vs, .string vn, .int .i64 (vp : Nat), .string vo] 74 (0, 0)) := by rw [hW2]; exact (Below.heap_alloc _ _ _ (by simp)).trans (heap_alloc_new wz _)
      have h2 : W2.heap[wz.heap.size + 1]? = some (.cells #[.int .i64 ui, .string uh, .int .i64 us, .string un, .int .i64 (up : Nat), .string uo] 74 (0, 0)) := by rw [hW2]; have h := heap_alloc_new (wz.alloc (.cells #[.int .i64 vi, .string vh, .int .i64 vs, .string vn, .int .i64 (vp : Nat), .string vo] 74)) (.cells #[.int .i64 ui, .string uh, .int .i64 us, .string un, .int .i64 (up : Nat), .string uo] 74); rw [World.size_alloc] at h; exact h
      have HB2 := Lib.hid (show Below w.heap.size w W2 by rw [hW2]; exact HBR.out.trans ((bel2d wz _ _).mono HBR.out.size))
      rw [← hW2]
      clear hW2
      have x0 : W2.cell? ⟨wz.heap.size + 1, 0, none⟩ = some (.int .i64 ui) := by rw [cell_of_row _ _ _ _ _ _ h2]; rfl
      have x1 : W2.cell? ⟨wz.heap.size + 1, 1, none⟩ = some (.string uh) := by rw [cell_of_row _ _ _ _ _ _ h2]; rfl
      have x2 : W2.cell? ⟨wz.heap.size + 1, 2, none⟩ = some (.int .i64 us) := by rw [cell_of_row _ _ _ _ _ _ h2]; rfl
      have x3 : W2.cell? ⟨wz.heap.size + 1, 3, none⟩ = some (.string un) := by rw [cell_of_row _ _ _ _ _ _ h2]; rfl
      have x4 : W2.cell? ⟨wz.heap.size + 1, 4, none⟩ = some (.int .i64 (up : Nat)) := by rw [cell_of_row _ _ _ _ _ _ h2]; rfl
      have x5 : W2.cell? ⟨wz.heap.size + 1, 5, none⟩ = some (.string uo) := by rw [cell_of_row _ _ _ _ _ _ h2]; rfl
      have y0 : W2.cell? ⟨wz.heap.size, 0, none⟩ = some (.int .i64 vi) := by rw [cell_of_row _ _ _ _ _ _ h1]; rfl
      have y1 : W2.cell? ⟨wz.heap.size, 1, none⟩ = some (.string vh) := by rw [cell_of_row _ _ _ _ _ _ h1]; rfl
      have y2 : W2.cell? ⟨wz.heap.size, 2, none⟩ = some (.int .i64 vs) := by rw [cell_of_row _ _ _ _ _ _ h1]; rfl
      have y3 : W2.cell? ⟨wz.heap.size, 3, none⟩ = some (.string vn) := by rw [cell_of_row _ _ _ _ _ _ h1]; rfl
      have y4 : W2.cell? ⟨wz.heap.size, 4, none⟩ = some (.int .i64 (vp : Nat)) := by rw [cell_of_row _ _ _ _ _ _ h1]; rfl
      have y5 : W2.cell? ⟨wz.heap.size, 5, none⟩ = some (.string vo) := by rw [cell_of_row _ _ _ _ _ _ h1]; rfl
      clear h1 h2
      by_cases e0 : ui = vi
      rotate_left 1
      · have HS := Lib.hid (decide_eq_false (fun h => e0 (HVI.out.1 h).1))
        have g : (ui != vi) = true := by rw [bne_iff_ne]; exact e0
        clear e0
        go_wp2_with fail
        go_quiet (fail)
        go_wp2
        go_ret
        exact ⟨by rw [HAL.out, HS.out]; rfl, below_drewN HB2.out _⟩
      subst e0
      by_cases e1 : uh = vh
      rotate_left 1
      · have HS := Lib.hid (decide_eq_false (fun h => e1 (HVI.out.1 h).2.1))
        have g := tl_ne e1
        clear e1
        go_wp2_with fail
        go_quiet (fail)
        go_wp2
        go_ret
        exact ⟨by rw [HAL.out, HS.out]; rfl, below_drewN HB2.out _⟩
      subst e1
      by_cases e2 : us = vs
      rotate_left 1
      · have HS := Lib.hid (decide_eq_false (fun h => e2 (HVI.out.1 h).2.2.1))
        have g : (us != vs) = true := by rw [bne_iff_ne]; exact e2
        clear e2
        go_wp2_with fail
        go_quiet (fail)
        go_wp2
        go_ret
        exact ⟨by rw [HAL.out, HS.out]; rfl, below_drewN HB2.out _⟩
      subst e2
      by_cases e3 : uo = vo
      rotate_left 1
      · have HS := Lib.hid (decide_eq_false (fun h => e3 (HVI.out.1 h).2.2.2.1))
        have g := tl_ne e3
        clear e3
        go_wp2_with fail
        go_quiet (fail)
        go_wp2
        go_ret
        exact ⟨by rw [HAL.out, HS.out]; rfl, below_drewN HB2.out _⟩
      subst e3
      by_cases e9 : un.extract up un.size = vn.extract vp vn.size
      rotate_left 1
      · have HS := Lib.hid (decide_eq_false (fun h => e9 (HVI.out.1 h).2.2.2.2))
        have g := tl_ne e9
        clear e9
        go_wp2_with fail
        go_quiet (fail)
        go_wp2
        go_ret
        exact ⟨by rw [HAL.out, HS.out]; rfl, below_drewN HB2.out _⟩
      have HS := Lib.hid (decide_eq_true (HVI.out.2 ⟨rfl, rfl, rfl, rfl, e9⟩))
      go_wp2_with fail
      go_quiet (fail)
      clear e9
      go_wp2
      go_roundw
      case rel => exact ⟨k + 1, by go_num, by omega, below_drewN HB2.out _, by rw [HAL.out, HS.out]; rfl⟩
      case measure => simp [intOf]; omega
end Go.Proofs.Ytepdnmpcccgcaaa
