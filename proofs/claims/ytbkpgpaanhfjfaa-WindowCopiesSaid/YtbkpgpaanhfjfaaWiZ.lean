/- Chapter 18: the program's Same, the reference's Alike: the walks. -/
import Derived.Test.YtbkpgpaanhfjfaaWjS
namespace Go.Proofs.Ytbkpgpaanhfjfaa
open Go.RowKit Go.Sort K
set_option maxHeartbeats 8000000 in
set_option maxRecDepth 100000 in
theorem wsame_any {w : World} {B1 g1 B2 g2 : Nat} {s1 s2 : Cfg} {L1 L2 : List WV} {F1 F2 : List Nat} (h1 : WinIs w B1 g1 s1 L1 F1) (h2 : WinIs w B2 g2 s2 L2 F2) (hl1 : 1 ≤ s1.len) (he : s1.len = s2.len ∧ s1.lat = s2.lat ∧ s1.most = s2.most) :
    Calls Try.prog 22 #[.pointer (some ⟨g1, 0, none⟩), .pointer (some ⟨g2, 0, none⟩)] w fun e w' => e = .returned (.bool (smW s1 L1 s2 L2)) ∧ Below w.heap.size w w' := by
  obtain ⟨M1, es1, k1, p1, o1, rfl⟩ := h1
  obtain ⟨M2, es2, k2, p2, o2, rfl⟩ := h2
  have HN1 := Lib.hid (none_any k1 hl1)
  have HN2 := Lib.hid (none_any k2 (by rw [← he.1]; exact hl1))
  have HE := Lib.hid (fun W (hb : Below w.heap.size w W) => eqf18_any (k1.below hb) p1 o1 (k2.below hb) p2 o2)
  have c0 : w.cell? ⟨g1, 0, none⟩ = some (.int .i64 s1.len) := k1.cell 0 rfl
  have c1 : w.cell? ⟨g1, 1, none⟩ = some (.int .i64 s1.lat) := k1.cell 1 rfl
  have c2 : w.cell? ⟨g1, 2, none⟩ = some (.int .i64 s1.most) := k1.cell 2 rfl
  have c4 : w.cell? ⟨g1, 4, none⟩ = some (.int .i64 s1.floor) := k1.cell 4 rfl
  have c5 : w.cell? ⟨g1, 5, none⟩ = some (.int .i64 s1.mark) := k1.cell 5 rfl
  have c6 : w.cell? ⟨g1, 6, none⟩ = some (.int .i64 s1.cred) := k1.cell 6 rfl
  have c7 : w.cell? ⟨g1, 7, none⟩ = some (.int .i64 s1.late) := k1.cell 7 rfl
  have d0 : w.cell? ⟨g2, 0, none⟩ = some (.int .i64 s2.len) := k2.cell 0 rfl
  have d1 : w.cell? ⟨g2, 1, none⟩ = some (.int .i64 s2.lat) := k2.cell 1 rfl
  have d2 : w.cell? ⟨g2, 2, none⟩ = some (.int .i64 s2.most) := k2.cell 2 rfl
  have d4 : w.cell? ⟨g2, 4, none⟩ = some (.int .i64 s2.floor) := k2.cell 4 rfl
  have d5 : w.cell? ⟨g2, 5, none⟩ = some (.int .i64 s2.mark) := k2.cell 5 rfl
  have d6 : w.cell? ⟨g2, 6, none⟩ = some (.int .i64 s2.cred) := k2.cell 6 rfl
  have d7 : w.cell? ⟨g2, 7, none⟩ = some (.int .i64 s2.late) := k2.cell 7 rfl
  have C3 := Lib.hid (show w.cell? ⟨g1, 3, none⟩ = some (.map (some M1)) from k1.cell 3 rfl)
  have D3 := Lib.hid (show w.cell? ⟨g2, 3, none⟩ = some (.map (some M2)) from k2.cell 3 rfl)
  obtain ⟨ln, lt, mo, fa, ma, ca, la⟩ := s1
  obtain ⟨ln2, lt2, mo2, fb, mb, cb, lb⟩ := s2
  simp only at he c0 c1 c2 c4 c5 c6 c7 d0 d1 d2 d4 d5 d6 d7
  obtain ⟨rfl, rfl, rfl⟩ := he
  clear k1 k2 p1 p2 o1 o2 hl1
  go_enter Try.func22, Try.ntmps22
  go_wp2_with fail
  refine HN1.out.mono ?_
  rintro e w1 ⟨rfl, rfl⟩
  go_wp2_with fail
  refine HN2.out.mono ?_
  rintro e w1 ⟨rfl, rfl⟩
  by_cases hfloor : fa = fb
  rotate_left 1
  · have HS := Lib.hid (smW_f (L := L1) (L2 := L2) (s := ⟨ln, lt, mo, fa, ma, ca, la⟩) (s2 := ⟨ln, lt, mo, fb, mb, cb, lb⟩) (fun e => hfloor (by simp only [Cfg.mk.injEq] at e; exact e.2.2.2.1)))
    obtain ⟨hq1, hq2, hq3⟩ := neq_t hfloor
    clear hfloor
    go_wp2_with fail
    dsimp only [List.append_eq, List.cons_append, List.nil_append]
    go_quiet (fail)
    go_wp2
    go_ret
    exact ⟨by rw [HS.out]; rfl, below_drewN' (Below.refl _ _) _⟩
  subst hfloor
  by_cases hmark : ma = mb
  rotate_left 1
  · have HS := Lib.hid (smW_f (L := L1) (L2 := L2) (s := ⟨ln, lt, mo, fa, ma, ca, la⟩) (s2 := ⟨ln, lt, mo, fa, mb, cb, lb⟩) (fun e => hmark (by simp only [Cfg.mk.injEq] at e; exact e.2.2.2.2.1)))
    obtain ⟨hq1, hq2, hq3⟩ := neq_t hmark
    clear hmark
    go_wp2_with fail
    dsimp only [List.append_eq, List.cons_append, List.nil_append]
    go_quiet (fail)
    go_wp2
    go_ret
    exact ⟨by rw [HS.out]; rfl, below_drewN' (Below.refl _ _) _⟩
  subst hmark
  by_cases hcred : ca = cb
  rotate_left 1
  · have HS := Lib.hid (smW_f (L := L1) (L2 := L2) (s := ⟨ln, lt, mo, fa, ma, ca, la⟩) (s2 := ⟨ln, lt, mo, fa, ma, cb, lb⟩) (fun e => hcred (by simp only [Cfg.mk.injEq] at e; exact e.2.2.2.2.2.1)))
    obtain ⟨hq1, hq2, hq3⟩ := neq_t hcred
    clear hcred
    go_wp2_with fail
    dsimp only [List.append_eq, List.cons_append, List.nil_append]
    go_quiet (fail)
    go_wp2
    go_ret
    exact ⟨by rw [HS.out]; rfl, below_drewN' (Below.refl _ _) _⟩
  subst hcred
  by_cases hlate : la = lb
  rotate_left 1
  · have HS := Lib.hid (smW_f (L := L1) (L2 := L2) (s := ⟨ln, lt, mo, fa, ma, ca, la⟩) (s2 := ⟨ln, lt, mo, fa, ma, ca, lb⟩) (fun e => hlate (by simp only [Cfg.mk.injEq] at e; exact e.2.2.2.2.2.2)))
    obtain ⟨hq1, hq2, hq3⟩ := neq_t hlate
    clear hlate
    go_wp2_with fail
    dsimp only [List.append_eq, List.cons_append, List.nil_append]
    go_quiet (fail)
    go_wp2
    go_ret
    exact ⟨by rw [HS.out]; rfl, below_drewN' (Below.refl _ _) _⟩
  subst hlate
  have HS := Lib.hid (smW_t (s := ⟨ln, lt, mo, fa, ma, ca, la⟩) (L := L1) (L2 := L2))
  go_wp2_with fail
  dsimp only [List.append_eq, List.cons_append, List.nil_append]
  go_quiet (fail)
  go_wp2_with fail
  obtain ⟨W3, hW3⟩ : ∃ V, V = w.drewN nq := ⟨_, rfl⟩
  have HB3 := Lib.hid (show Below w.heap.size w W3 by rw [hW3]; exact below_drewN' (Below.refl _ _) _)
  rw [← hW3]
  clear hW3
  refine wp_region_noPanic ?_
  refine wp_region_held_drew (S := (fun w' => Below w.heap.size w w')) (by kernel_rfl) ?_ (fun hHeld => ?_)
  · exact HB3.out.trans ((drew_below _).mono HB3.out.size)
  refine wpAnyH_take (i := 0) (oi := _) (v := ?_) rfl (by kernel_rfl) (by kernel_rfl) (by kernel_rfl) (fun _ _ _ h => h) (Or.inl ⟨by rfl, ?_⟩) (by assumption) ?_
  rotate_left 1
  · (intro w hSw; (try dsimp only at hSw); go_simp; (try with_reducible rfl))
  try simp only [Act.put, List.getElem_toArray, List.getElem_cons_succ, List.getElem_cons_zero, List.setIfInBounds_toArray, List.set_cons_zero, List.set_cons_succ]
  refine wpAnyH_take (i := 1) (oi := _) (v := ?_) rfl (by kernel_rfl) (by kernel_rfl) (by kernel_rfl) (fun _ _ _ h => h) (Or.inl ⟨by rfl, ?_⟩) (by assumption) ?_
  rotate_left 1
  · (intro w hSw; (try dsimp only at hSw); go_simp; (try with_reducible rfl))
  try simp only [Act.put, List.getElem_toArray, List.getElem_cons_succ, List.getElem_cons_zero, List.setIfInBounds_toArray, List.set_cons_zero, List.set_cons_succ]
  refine wpAnyH_take (i := 2) (oi := _) (v := ?_) rfl (by kernel_rfl) (by kernel_rfl) (by kernel_rfl) (fun _ _ _ h => h) (Or.inl ⟨by rfl, ?_⟩) (by assumption) ?_
  rotate_left 1
  · (intro w hSw; (try dsimp only at hSw); go_simp; (try with_reducible rfl))
  try simp only [Act.put, List.getElem_toArray, List.getElem_cons_succ, List.getElem_cons_zero, List.setIfInBounds_toArray, List.set_cons_zero, List.set_cons_succ]
  refine wpAnyH_take (i := 3) (oi := _) (v := ?_) rfl (by kernel_rfl) (by kernel_rfl) (by kernel_rfl) (fun _ _ _ h => h) (Or.inl ⟨by rfl, ?_⟩) (by assumption) ?_
  rotate_left 1
  · (intro w hSw; (try dsimp only at hSw); (have q := keepc hSw C3.out; go_simp); (try with_reducible rfl))
  try simp only [Act.put, List.getElem_toArray, List.getElem_cons_succ, List.getElem_cons_zero, List.setIfInBounds_toArray, List.set_cons_zero, List.set_cons_succ]
  refine wpAnyH_take (i := 4) (oi := _) (v := ?_) rfl (by kernel_rfl) (by kernel_rfl) (by kernel_rfl) (fun _ _ _ h => h) (Or.inl ⟨by rfl, ?_⟩) (by assumption) ?_
  rotate_left 1
  · (intro w hSw; (try dsimp only at hSw); go_simp; (try with_reducible rfl))
  try simp only [Act.put, List.getElem_toArray, List.getElem_cons_succ, List.getElem_cons_zero, List.setIfInBounds_toArray, List.set_cons_zero, List.set_cons_succ]
  refine wpAnyH_take (i := 5) (oi := _) (v := ?_) rfl (by kernel_rfl) (by kernel_rfl) (by kernel_rfl) (fun _ _ _ h => h) (Or.inl ⟨by rfl, ?_⟩) (by assumption) ?_
  rotate_left 1
  · (intro w hSw; (try dsimp only at hSw); go_simp; (try with_reducible rfl))
  try simp only [Act.put, List.getElem_toArray, List.getElem_cons_succ, List.getElem_cons_zero, List.setIfInBounds_toArray, List.set_cons_zero, List.set_cons_succ]
  refine wpAnyH_take (i := 6) (oi := _) (v := ?_) rfl (by kernel_rfl) (by kernel_rfl) (by kernel_rfl) (fun _ _ _ h => h) (Or.inl ⟨by rfl, ?_⟩) (by assumption) ?_
  rotate_left 1
  · (intro w hSw; (try dsimp only at hSw); go_simp; (try with_reducible rfl))
  try simp only [Act.put, List.getElem_toArray, List.getElem_cons_succ, List.getElem_cons_zero, List.setIfInBounds_toArray, List.set_cons_zero, List.set_cons_succ]
  refine wpAnyH_take (i := 7) (oi := _) (v := ?_) rfl (by kernel_rfl) (by kernel_rfl) (by kernel_rfl) (fun _ _ _ h => h) (Or.inl ⟨by rfl, ?_⟩) (by assumption) ?_
  rotate_left 1
  · (intro w hSw; (try dsimp only at hSw); (have q := keepc hSw D3.out; go_simp); (try with_reducible rfl))
  try simp only [Act.put, List.getElem_toArray, List.getElem_cons_succ, List.getElem_cons_zero, List.setIfInBounds_toArray, List.set_cons_zero, List.set_cons_succ]
  refine wpAnyH_ready (rs := [8]) (by kernel_rfl) (by simp) ?_
  refine AllReadyH.cons (o := _) rfl (fun K hK => ?_) AllReadyH.nil
  go_simp
  refine (HE.out _ hHeld).mono ?_
  rintro e w5 ⟨rfl, hb5⟩
  have HB5 := Lib.hid (hHeld.trans (hb5.mono hHeld.size))
  clear hb5
  go_wp2_with fail
  refine hK.out _ _ ?_ (fun hHeld8 => ?_)
  · exact HB5.out
  clear hK K
  try simp only [Act.put, List.getElem_toArray, List.getElem_cons_succ, List.getElem_cons_zero, List.setIfInBounds_toArray, List.set_cons_zero, List.set_cons_succ]
  refine wpAnyH_take (i := 9) (oi := _) (v := ?_) rfl (by kernel_rfl) (by kernel_rfl) (by kernel_rfl) (fun _ _ _ h => h) (Or.inl ⟨by rfl, ?_⟩) (by assumption) ?_
  rotate_left 1
  · (intro w hSw; (try dsimp only at hSw); go_simp; (try with_reducible rfl))
  try simp only [Act.put, List.getElem_toArray, List.getElem_cons_succ, List.getElem_cons_zero, List.setIfInBounds_toArray, List.set_cons_zero, List.set_cons_succ]
  refine wpAnyH_done (by kernel_rfl) ?_ _
  refine NoPanic.normal ?_
  go_wp2
  go_ret
  exact ⟨by rw [HS.out]; rfl, HB5.out⟩
end Go.Proofs.Ytbkpgpaanhfjfaa
