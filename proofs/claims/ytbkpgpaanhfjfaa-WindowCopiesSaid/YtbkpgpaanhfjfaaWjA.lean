/- Chapter 18: the reference's Alike: the walk. -/
import Derived.Test.YtbkpgpaanhfjfaaWjS
namespace Go.Proofs.Ytbkpgpaanhfjfaa
open Go.RowKit Go.Sort K
set_option maxHeartbeats 8000000 in
set_option maxRecDepth 100000 in
theorem alike_floor {w : World} {B1 r1 B2 r2 : Nat} {s1 s2 : Cfg} {L1 L2 : List WV} {G1 G2 : Nat → Prop} (h1 : RwIs w B1 r1 s1 L1 G1) (h2 : RwIs w B2 r2 s2 L2 G2) (hlen : s1.len = s2.len) (hlat : s1.lat = s2.lat) (hmost : s1.most = s2.most) (hfloor : ¬ s1.floor = s2.floor) :
    Calls Try.prog 23 #[.pointer (some ⟨r1, 0, none⟩), .pointer (some ⟨r2, 0, none⟩)] w fun e w' => e = .returned (.bool (smW s1 L1 s2 L2)) ∧ Below w.heap.size w w' := by
  obtain ⟨a1, x1, hr1, -, hw1, -⟩ := h1
  obtain ⟨a2, x2, hr2, -, hw2, -⟩ := h2
  have c0 : w.cell? ⟨r1, 0, none⟩ = some (.int .i64 s1.len) := by rw [cell_of_row _ _ _ _ _ _ hr1]; rfl
  have c1 : w.cell? ⟨r1, 1, none⟩ = some (.int .i64 s1.lat) := by rw [cell_of_row _ _ _ _ _ _ hr1]; rfl
  have c2 : w.cell? ⟨r1, 2, none⟩ = some (.int .i64 s1.most) := by rw [cell_of_row _ _ _ _ _ _ hr1]; rfl
  have c4 : w.cell? ⟨r1, 4, none⟩ = some (.int .i64 s1.floor) := by rw [cell_of_row _ _ _ _ _ _ hr1]; rfl
  have c5 : w.cell? ⟨r1, 5, none⟩ = some (.int .i64 s1.mark) := by rw [cell_of_row _ _ _ _ _ _ hr1]; rfl
  have c6 : w.cell? ⟨r1, 6, none⟩ = some (.int .i64 s1.cred) := by rw [cell_of_row _ _ _ _ _ _ hr1]; rfl
  have c7 : w.cell? ⟨r1, 7, none⟩ = some (.int .i64 s1.late) := by rw [cell_of_row _ _ _ _ _ _ hr1]; rfl
  have d0 : w.cell? ⟨r2, 0, none⟩ = some (.int .i64 s2.len) := by rw [cell_of_row _ _ _ _ _ _ hr2]; rfl
  have d1 : w.cell? ⟨r2, 1, none⟩ = some (.int .i64 s2.lat) := by rw [cell_of_row _ _ _ _ _ _ hr2]; rfl
  have d2 : w.cell? ⟨r2, 2, none⟩ = some (.int .i64 s2.most) := by rw [cell_of_row _ _ _ _ _ _ hr2]; rfl
  have d4 : w.cell? ⟨r2, 4, none⟩ = some (.int .i64 s2.floor) := by rw [cell_of_row _ _ _ _ _ _ hr2]; rfl
  have d5 : w.cell? ⟨r2, 5, none⟩ = some (.int .i64 s2.mark) := by rw [cell_of_row _ _ _ _ _ _ hr2]; rfl
  have d6 : w.cell? ⟨r2, 6, none⟩ = some (.int .i64 s2.cred) := by rw [cell_of_row _ _ _ _ _ _ hr2]; rfl
  have d7 : w.cell? ⟨r2, 7, none⟩ = some (.int .i64 s2.late) := by rw [cell_of_row _ _ _ _ _ _ hr2]; rfl
  have HS := Lib.hid (smW_f (L := L1) (L2 := L2) (s := s1) (s2 := s2) (fun e => hfloor (by rw [e])))
  rw [← hlen] at d0
  rw [← hlat] at d1
  rw [← hmost] at d2
  obtain ⟨hq1, hq2, hq3⟩ := neq_t hfloor
  generalize s1.len = xlen at c0 d0
  generalize s1.lat = xlat at c1 d1
  generalize s1.most = xmost at c2 d2
  generalize s1.floor = xfloor at c4 hq1 hq2 hq3
  generalize s1.mark = xmark at c5
  generalize s1.cred = xcred at c6
  generalize s1.late = xlate at c7
  generalize s2.floor = yfloor at d4 hq1 hq2 hq3
  generalize s2.mark = ymark at d5
  generalize s2.cred = ycred at d6
  generalize s2.late = ylate at d7
  clear hr1 hr2 hw1 hw2 hfloor hlen hlat hmost
  go_enter Try.func23, Try.ntmps23
  go_wp2_with fail
  dsimp only [List.append_eq, List.cons_append, List.nil_append]
  go_quiet (fail)
  go_wp2
  go_ret
  exact ⟨by rw [HS.out]; rfl, below_drewN' (Below.refl _ _) _⟩
set_option maxHeartbeats 8000000 in
set_option maxRecDepth 100000 in
theorem alike_mark {w : World} {B1 r1 B2 r2 : Nat} {s1 s2 : Cfg} {L1 L2 : List WV} {G1 G2 : Nat → Prop} (h1 : RwIs w B1 r1 s1 L1 G1) (h2 : RwIs w B2 r2 s2 L2 G2) (hlen : s1.len = s2.len) (hlat : s1.lat = s2.lat) (hmost : s1.most = s2.most) (hfloor : s1.floor = s2.floor) (hmark : ¬ s1.mark = s2.mark) :
    Calls Try.prog 23 #[.pointer (some ⟨r1, 0, none⟩), .pointer (some ⟨r2, 0, none⟩)] w fun e w' => e = .returned (.bool (smW s1 L1 s2 L2)) ∧ Below w.heap.size w w' := by
  obtain ⟨a1, x1, hr1, -, hw1, -⟩ := h1
  obtain ⟨a2, x2, hr2, -, hw2, -⟩ := h2
  have c0 : w.cell? ⟨r1, 0, none⟩ = some (.int .i64 s1.len) := by rw [cell_of_row _ _ _ _ _ _ hr1]; rfl
  have c1 : w.cell? ⟨r1, 1, none⟩ = some (.int .i64 s1.lat) := by rw [cell_of_row _ _ _ _ _ _ hr1]; rfl
  have c2 : w.cell? ⟨r1, 2, none⟩ = some (.int .i64 s1.most) := by rw [cell_of_row _ _ _ _ _ _ hr1]; rfl
  have c4 : w.cell? ⟨r1, 4, none⟩ = some (.int .i64 s1.floor) := by rw [cell_of_row _ _ _ _ _ _ hr1]; rfl
  have c5 : w.cell? ⟨r1, 5, none⟩ = some (.int .i64 s1.mark) := by rw [cell_of_row _ _ _ _ _ _ hr1]; rfl
  have c6 : w.cell? ⟨r1, 6, none⟩ = some (.int .i64 s1.cred) := by rw [cell_of_row _ _ _ _ _ _ hr1]; rfl
  have c7 : w.cell? ⟨r1, 7, none⟩ = some (.int .i64 s1.late) := by rw [cell_of_row _ _ _ _ _ _ hr1]; rfl
  have d0 : w.cell? ⟨r2, 0, none⟩ = some (.int .i64 s2.len) := by rw [cell_of_row _ _ _ _ _ _ hr2]; rfl
  have d1 : w.cell? ⟨r2, 1, none⟩ = some (.int .i64 s2.lat) := by rw [cell_of_row _ _ _ _ _ _ hr2]; rfl
  have d2 : w.cell? ⟨r2, 2, none⟩ = some (.int .i64 s2.most) := by rw [cell_of_row _ _ _ _ _ _ hr2]; rfl
  have d4 : w.cell? ⟨r2, 4, none⟩ = some (.int .i64 s2.floor) := by rw [cell_of_row _ _ _ _ _ _ hr2]; rfl
  have d5 : w.cell? ⟨r2, 5, none⟩ = some (.int .i64 s2.mark) := by rw [cell_of_row _ _ _ _ _ _ hr2]; rfl
  have d6 : w.cell? ⟨r2, 6, none⟩ = some (.int .i64 s2.cred) := by rw [cell_of_row _ _ _ _ _ _ hr2]; rfl
  have d7 : w.cell? ⟨r2, 7, none⟩ = some (.int .i64 s2.late) := by rw [cell_of_row _ _ _ _ _ _ hr2]; rfl
  have HS := Lib.hid (smW_f (L := L1) (L2 := L2) (s := s1) (s2 := s2) (fun e => hmark (by rw [e])))
  rw [← hlen] at d0
  rw [← hlat] at d1
  rw [← hmost] at d2
  rw [← hfloor] at d4
  obtain ⟨hq1, hq2, hq3⟩ := neq_t hmark
  generalize s1.len = xlen at c0 d0
  generalize s1.lat = xlat at c1 d1
  generalize s1.most = xmost at c2 d2
  generalize s1.floor = xfloor at c4 d4
  generalize s1.mark = xmark at c5 hq1 hq2 hq3
  generalize s1.cred = xcred at c6
  generalize s1.late = xlate at c7
  generalize s2.mark = ymark at d5 hq1 hq2 hq3
  generalize s2.cred = ycred at d6
  generalize s2.late = ylate at d7
  clear hr1 hr2 hw1 hw2 hmark hlen hlat hmost hfloor
  go_enter Try.func23, Try.ntmps23
  go_wp2_with fail
  dsimp only [List.append_eq, List.cons_append, List.nil_append]
  go_quiet (fail)
  go_wp2
  go_ret
  exact ⟨by rw [HS.out]; rfl, below_drewN' (Below.refl _ _) _⟩
set_option maxHeartbeats 8000000 in
set_option maxRecDepth 100000 in
theorem alike_cred {w : World} {B1 r1 B2 r2 : Nat} {s1 s2 : Cfg} {L1 L2 : List WV} {G1 G2 : Nat → Prop} (h1 : RwIs w B1 r1 s1 L1 G1) (h2 : RwIs w B2 r2 s2 L2 G2) (hlen : s1.len = s2.len) (hlat : s1.lat = s2.lat) (hmost : s1.most = s2.most) (hfloor : s1.floor = s2.floor) (hmark : s1.mark = s2.mark) (hcred : ¬ s1.cred = s2.cred) :
    Calls Try.prog 23 #[.pointer (some ⟨r1, 0, none⟩), .pointer (some ⟨r2, 0, none⟩)] w fun e w' => e = .returned (.bool (smW s1 L1 s2 L2)) ∧ Below w.heap.size w w' := by
  obtain ⟨a1, x1, hr1, -, hw1, -⟩ := h1
  obtain ⟨a2, x2, hr2, -, hw2, -⟩ := h2
  have c0 : w.cell? ⟨r1, 0, none⟩ = some (.int .i64 s1.len) := by rw [cell_of_row _ _ _ _ _ _ hr1]; rfl
  have c1 : w.cell? ⟨r1, 1, none⟩ = some (.int .i64 s1.lat) := by rw [cell_of_row _ _ _ _ _ _ hr1]; rfl
  have c2 : w.cell? ⟨r1, 2, none⟩ = some (.int .i64 s1.most) := by rw [cell_of_row _ _ _ _ _ _ hr1]; rfl
  have c4 : w.cell? ⟨r1, 4, none⟩ = some (.int .i64 s1.floor) := by rw [cell_of_row _ _ _ _ _ _ hr1]; rfl
  have c5 : w.cell? ⟨r1, 5, none⟩ = some (.int .i64 s1.mark) := by rw [cell_of_row _ _ _ _ _ _ hr1]; rfl
  have c6 : w.cell? ⟨r1, 6, none⟩ = some (.int .i64 s1.cred) := by rw [cell_of_row _ _ _ _ _ _ hr1]; rfl
  have c7 : w.cell? ⟨r1, 7, none⟩ = some (.int .i64 s1.late) := by rw [cell_of_row _ _ _ _ _ _ hr1]; rfl
  have d0 : w.cell? ⟨r2, 0, none⟩ = some (.int .i64 s2.len) := by rw [cell_of_row _ _ _ _ _ _ hr2]; rfl
  have d1 : w.cell? ⟨r2, 1, none⟩ = some (.int .i64 s2.lat) := by rw [cell_of_row _ _ _ _ _ _ hr2]; rfl
  have d2 : w.cell? ⟨r2, 2, none⟩ = some (.int .i64 s2.most) := by rw [cell_of_row _ _ _ _ _ _ hr2]; rfl
  have d4 : w.cell? ⟨r2, 4, none⟩ = some (.int .i64 s2.floor) := by rw [cell_of_row _ _ _ _ _ _ hr2]; rfl
  have d5 : w.cell? ⟨r2, 5, none⟩ = some (.int .i64 s2.mark) := by rw [cell_of_row _ _ _ _ _ _ hr2]; rfl
  have d6 : w.cell? ⟨r2, 6, none⟩ = some (.int .i64 s2.cred) := by rw [cell_of_row _ _ _ _ _ _ hr2]; rfl
  have d7 : w.cell? ⟨r2, 7, none⟩ = some (.int .i64 s2.late) := by rw [cell_of_row _ _ _ _ _ _ hr2]; rfl
  have HS := Lib.hid (smW_f (L := L1) (L2 := L2) (s := s1) (s2 := s2) (fun e => hcred (by rw [e])))
  rw [← hlen] at d0
  rw [← hlat] at d1
  rw [← hmost] at d2
  rw [← hfloor] at d4
  rw [← hmark] at d5
  obtain ⟨hq1, hq2, hq3⟩ := neq_t hcred
  generalize s1.len = xlen at c0 d0
  generalize s1.lat = xlat at c1 d1
  generalize s1.most = xmost at c2 d2
  generalize s1.floor = xfloor at c4 d4
  generalize s1.mark = xmark at c5 d5
  generalize s1.cred = xcred at c6 hq1 hq2 hq3
  generalize s1.late = xlate at c7
  generalize s2.cred = ycred at d6 hq1 hq2 hq3
  generalize s2.late = ylate at d7
  clear hr1 hr2 hw1 hw2 hcred hlen hlat hmost hfloor hmark
  go_enter Try.func23, Try.ntmps23
  go_wp2_with fail
  dsimp only [List.append_eq, List.cons_append, List.nil_append]
  go_quiet (fail)
  go_wp2
  go_ret
  exact ⟨by rw [HS.out]; rfl, below_drewN' (Below.refl _ _) _⟩
set_option maxHeartbeats 8000000 in
set_option maxRecDepth 100000 in
theorem alike_late {w : World} {B1 r1 B2 r2 : Nat} {s1 s2 : Cfg} {L1 L2 : List WV} {G1 G2 : Nat → Prop} (h1 : RwIs w B1 r1 s1 L1 G1) (h2 : RwIs w B2 r2 s2 L2 G2) (hlen : s1.len = s2.len) (hlat : s1.lat = s2.lat) (hmost : s1.most = s2.most) (hfloor : s1.floor = s2.floor) (hmark : s1.mark = s2.mark) (hcred : s1.cred = s2.cred) (hlate : ¬ s1.late = s2.late) :
    Calls Try.prog 23 #[.pointer (some ⟨r1, 0, none⟩), .pointer (some ⟨r2, 0, none⟩)] w fun e w' => e = .returned (.bool (smW s1 L1 s2 L2)) ∧ Below w.heap.size w w' := by
  obtain ⟨a1, x1, hr1, -, hw1, -⟩ := h1
  obtain ⟨a2, x2, hr2, -, hw2, -⟩ := h2
  have c0 : w.cell? ⟨r1, 0, none⟩ = some (.int .i64 s1.len) := by rw [cell_of_row _ _ _ _ _ _ hr1]; rfl
  have c1 : w.cell? ⟨r1, 1, none⟩ = some (.int .i64 s1.lat) := by rw [cell_of_row _ _ _ _ _ _ hr1]; rfl
  have c2 : w.cell? ⟨r1, 2, none⟩ = some (.int .i64 s1.most) := by rw [cell_of_row _ _ _ _ _ _ hr1]; rfl
  have c4 : w.cell? ⟨r1, 4, none⟩ = some (.int .i64 s1.floor) := by rw [cell_of_row _ _ _ _ _ _ hr1]; rfl
  have c5 : w.cell? ⟨r1, 5, none⟩ = some (.int .i64 s1.mark) := by rw [cell_of_row _ _ _ _ _ _ hr1]; rfl
  have c6 : w.cell? ⟨r1, 6, none⟩ = some (.int .i64 s1.cred) := by rw [cell_of_row _ _ _ _ _ _ hr1]; rfl
  have c7 : w.cell? ⟨r1, 7, none⟩ = some (.int .i64 s1.late) := by rw [cell_of_row _ _ _ _ _ _ hr1]; rfl
  have d0 : w.cell? ⟨r2, 0, none⟩ = some (.int .i64 s2.len) := by rw [cell_of_row _ _ _ _ _ _ hr2]; rfl
  have d1 : w.cell? ⟨r2, 1, none⟩ = some (.int .i64 s2.lat) := by rw [cell_of_row _ _ _ _ _ _ hr2]; rfl
  have d2 : w.cell? ⟨r2, 2, none⟩ = some (.int .i64 s2.most) := by rw [cell_of_row _ _ _ _ _ _ hr2]; rfl
  have d4 : w.cell? ⟨r2, 4, none⟩ = some (.int .i64 s2.floor) := by rw [cell_of_row _ _ _ _ _ _ hr2]; rfl
  have d5 : w.cell? ⟨r2, 5, none⟩ = some (.int .i64 s2.mark) := by rw [cell_of_row _ _ _ _ _ _ hr2]; rfl
  have d6 : w.cell? ⟨r2, 6, none⟩ = some (.int .i64 s2.cred) := by rw [cell_of_row _ _ _ _ _ _ hr2]; rfl
  have d7 : w.cell? ⟨r2, 7, none⟩ = some (.int .i64 s2.late) := by rw [cell_of_row _ _ _ _ _ _ hr2]; rfl
  have HS := Lib.hid (smW_f (L := L1) (L2 := L2) (s := s1) (s2 := s2) (fun e => hlate (by rw [e])))
  rw [← hlen] at d0
  rw [← hlat] at d1
  rw [← hmost] at d2
  rw [← hfloor] at d4
  rw [← hmark] at d5
  rw [← hcred] at d6
  obtain ⟨hq1, hq2, hq3⟩ := neq_t hlate
  generalize s1.len = xlen at c0 d0
  generalize s1.lat = xlat at c1 d1
  generalize s1.most = xmost at c2 d2
  generalize s1.floor = xfloor at c4 d4
  generalize s1.mark = xmark at c5 d5
  generalize s1.cred = xcred at c6 d6
  generalize s1.late = xlate at c7 hq1 hq2 hq3
  generalize s2.late = ylate at d7 hq1 hq2 hq3
  clear hr1 hr2 hw1 hw2 hlate hlen hlat hmost hfloor hmark hcred
  go_enter Try.func23, Try.ntmps23
  go_wp2_with fail
  dsimp only [List.append_eq, List.cons_append, List.nil_append]
  go_quiet (fail)
  go_wp2
  go_ret
  exact ⟨by rw [HS.out]; rfl, below_drewN' (Below.refl _ _) _⟩
set_option maxHeartbeats 8000000 in
set_option maxRecDepth 100000 in
theorem alike_all {w : World} {B1 r1 B2 r2 : Nat} {s1 s2 : Cfg} {L1 L2 : List WV} {G1 G2 : Nat → Prop} (h1 : RwIs w B1 r1 s1 L1 G1) (h2 : RwIs w B2 r2 s2 L2 G2) (he : s1 = s2) (b1 : WBd L1) (b2 : WBd L2) :
    Calls Try.prog 23 #[.pointer (some ⟨r1, 0, none⟩), .pointer (some ⟨r2, 0, none⟩)] w fun e w' => e = .returned (.bool (smW s1 L1 s2 L2)) ∧ Below w.heap.size w w' := by
  subst he
  obtain ⟨a1, x1, hr1, -, hw1, -⟩ := h1
  obtain ⟨a2, x2, hr2, -, hw2, -⟩ := h2
  have HSW := Lib.hid (fun W (hb : Below w.heap.size w W) => samewin_any (c1 := x1) (c2 := x2) (hw1.new hb) (hw2.new hb) b1.len b2.len (fun v hv => (b1.crs v hv).1) (fun v hv => (b2.crs v hv).1))
  have c0 : w.cell? ⟨r1, 0, none⟩ = some (.int .i64 s1.len) := by rw [cell_of_row _ _ _ _ _ _ hr1]; rfl
  have c1 : w.cell? ⟨r1, 1, none⟩ = some (.int .i64 s1.lat) := by rw [cell_of_row _ _ _ _ _ _ hr1]; rfl
  have c2 : w.cell? ⟨r1, 2, none⟩ = some (.int .i64 s1.most) := by rw [cell_of_row _ _ _ _ _ _ hr1]; rfl
  have c4 : w.cell? ⟨r1, 4, none⟩ = some (.int .i64 s1.floor) := by rw [cell_of_row _ _ _ _ _ _ hr1]; rfl
  have c5 : w.cell? ⟨r1, 5, none⟩ = some (.int .i64 s1.mark) := by rw [cell_of_row _ _ _ _ _ _ hr1]; rfl
  have c6 : w.cell? ⟨r1, 6, none⟩ = some (.int .i64 s1.cred) := by rw [cell_of_row _ _ _ _ _ _ hr1]; rfl
  have c7 : w.cell? ⟨r1, 7, none⟩ = some (.int .i64 s1.late) := by rw [cell_of_row _ _ _ _ _ _ hr1]; rfl
  have d0 : w.cell? ⟨r2, 0, none⟩ = some (.int .i64 s1.len) := by rw [cell_of_row _ _ _ _ _ _ hr2]; rfl
  have d1 : w.cell? ⟨r2, 1, none⟩ = some (.int .i64 s1.lat) := by rw [cell_of_row _ _ _ _ _ _ hr2]; rfl
  have d2 : w.cell? ⟨r2, 2, none⟩ = some (.int .i64 s1.most) := by rw [cell_of_row _ _ _ _ _ _ hr2]; rfl
  have d4 : w.cell? ⟨r2, 4, none⟩ = some (.int .i64 s1.floor) := by rw [cell_of_row _ _ _ _ _ _ hr2]; rfl
  have d5 : w.cell? ⟨r2, 5, none⟩ = some (.int .i64 s1.mark) := by rw [cell_of_row _ _ _ _ _ _ hr2]; rfl
  have d6 : w.cell? ⟨r2, 6, none⟩ = some (.int .i64 s1.cred) := by rw [cell_of_row _ _ _ _ _ _ hr2]; rfl
  have d7 : w.cell? ⟨r2, 7, none⟩ = some (.int .i64 s1.late) := by rw [cell_of_row _ _ _ _ _ _ hr2]; rfl
  have C3 := Lib.hid (show w.cell? ⟨r1, 3, none⟩ = some (.slice a1 L1.length x1) by rw [cell_of_row _ _ _ _ _ _ hr1]; rfl)
  have D3 := Lib.hid (show w.cell? ⟨r2, 3, none⟩ = some (.slice a2 L2.length x2) by rw [cell_of_row _ _ _ _ _ _ hr2]; rfl)
  have HS := Lib.hid (smW_t (s := s1) (L := L1) (L2 := L2))
  generalize s1.len = xlen at c0 d0
  generalize s1.lat = xlat at c1 d1
  generalize s1.most = xmost at c2 d2
  generalize s1.floor = xfloor at c4 d4
  generalize s1.mark = xmark at c5 d5
  generalize s1.cred = xcred at c6 d6
  generalize s1.late = xlate at c7 d7
  have C0 := Lib.hid c0
  have D0 := Lib.hid d0
  have C1 := Lib.hid c1
  have D1 := Lib.hid d1
  have C2 := Lib.hid c2
  have D2 := Lib.hid d2
  have C4 := Lib.hid c4
  have D4 := Lib.hid d4
  have C5 := Lib.hid c5
  have D5 := Lib.hid d5
  have C6 := Lib.hid c6
  have D6 := Lib.hid d6
  have C7 := Lib.hid c7
  have D7 := Lib.hid d7
  clear hr1 hr2 hw1 hw2 b1 b2 c0 d0 c1 d1 c2 d2 c4 d4 c5 d5 c6 d6 c7 d7
  go_enter Try.func23, Try.ntmps23
  go_wp2_with fail
  dsimp only [List.append_eq, List.cons_append, List.nil_append]
  refine wp_region_noPanic ?_
  refine wp_region_held_drew (S := (fun w' => Below w.heap.size w w')) (by kernel_rfl) ?_ (fun hHeld => ?_)
  · exact drew_below _
  refine wpAnyH_take (i := 0) (oi := _) (v := ?_) rfl (by kernel_rfl) (by kernel_rfl) (by kernel_rfl) (fun _ _ _ h => h) (Or.inl ⟨by rfl, ?_⟩) (by assumption) ?_
  rotate_left 1
  · (intro w hSw; (try dsimp only at hSw); go_simp; (try with_reducible rfl))
  try simp only [Act.put, List.getElem_toArray, List.getElem_cons_succ, List.getElem_cons_zero, List.setIfInBounds_toArray, List.set_cons_zero, List.set_cons_succ]
  refine wpAnyH_take (i := 1) (oi := _) (v := ?_) rfl (by kernel_rfl) (by kernel_rfl) (by kernel_rfl) (fun _ _ _ h => h) (Or.inl ⟨by rfl, ?_⟩) (by assumption) ?_
  rotate_left 1
  · (intro w hSw; (try dsimp only at hSw); go_simp; (try with_reducible rfl))
  try simp only [Act.put, List.getElem_toArray, List.getElem_cons_succ, List.getElem_cons_zero, List.setIfInBounds_toArray, List.set_cons_zero, List.set_cons_succ]
  refine wpAnyH_take (i := 2) (oi := _) (v := ?_) rfl (by kernel_rfl) (by kernel_rfl) (by kernel_rfl) (fun _ _ _ h => h) (Or.inl ⟨by rfl, ?_⟩) (by assumption) ?_
  rotate_left 1
  · (intro w hSw; (try dsimp only at hSw); go_simp; (try with_reducible rfl))
  try simp only [Act.put, List.getElem_toArray, List.getElem_cons_succ, List.getElem_cons_zero, List.setIfInBounds_toArray, List.set_cons_zero, List.set_cons_succ]
  refine wpAnyH_take (i := 3) (oi := _) (v := ?_) rfl (by kernel_rfl) (by kernel_rfl) (by kernel_rfl) (fun _ _ _ h => h) (Or.inl ⟨by rfl, ?_⟩) (by assumption) ?_
  rotate_left 1
  · (intro w hSw; (try dsimp only at hSw); (have q := keepc hSw C0.out; go_simp); (try with_reducible rfl))
  try simp only [Act.put, List.getElem_toArray, List.getElem_cons_succ, List.getElem_cons_zero, List.setIfInBounds_toArray, List.set_cons_zero, List.set_cons_succ]
  refine wpAnyH_take (i := 4) (oi := _) (v := ?_) rfl (by kernel_rfl) (by kernel_rfl) (by kernel_rfl) (fun _ _ _ h => h) (Or.inl ⟨by rfl, ?_⟩) (by assumption) ?_
  rotate_left 1
  · (intro w hSw; (try dsimp only at hSw); go_simp; (try with_reducible rfl))
  try simp only [Act.put, List.getElem_toArray, List.getElem_cons_succ, List.getElem_cons_zero, List.setIfInBounds_toArray, List.set_cons_zero, List.set_cons_succ]
  refine wpAnyH_take (i := 5) (oi := _) (v := ?_) rfl (by kernel_rfl) (by kernel_rfl) (by kernel_rfl) (fun _ _ _ h => h) (Or.inl ⟨by rfl, ?_⟩) (by assumption) ?_
  rotate_left 1
  · (intro w hSw; (try dsimp only at hSw); go_simp; (try with_reducible rfl))
  try simp only [Act.put, List.getElem_toArray, List.getElem_cons_succ, List.getElem_cons_zero, List.setIfInBounds_toArray, List.set_cons_zero, List.set_cons_succ]
  refine wpAnyH_take (i := 6) (oi := _) (v := ?_) rfl (by kernel_rfl) (by kernel_rfl) (by kernel_rfl) (fun _ _ _ h => h) (Or.inl ⟨by rfl, ?_⟩) (by assumption) ?_
  rotate_left 1
  · (intro w hSw; (try dsimp only at hSw); go_simp; (try with_reducible rfl))
  try simp only [Act.put, List.getElem_toArray, List.getElem_cons_succ, List.getElem_cons_zero, List.setIfInBounds_toArray, List.set_cons_zero, List.set_cons_succ]
  refine wpAnyH_take (i := 7) (oi := _) (v := ?_) rfl (by kernel_rfl) (by kernel_rfl) (by kernel_rfl) (fun _ _ _ h => h) (Or.inl ⟨by rfl, ?_⟩) (by assumption) ?_
  rotate_left 1
  · (intro w hSw; (try dsimp only at hSw); (have q := keepc hSw D0.out; go_simp); (try with_reducible rfl))
  try simp only [Act.put, List.getElem_toArray, List.getElem_cons_succ, List.getElem_cons_zero, List.setIfInBounds_toArray, List.set_cons_zero, List.set_cons_succ]
  refine wpAnyH_take (i := 8) (oi := _) (v := ?_) rfl (by kernel_rfl) (by kernel_rfl) (by kernel_rfl) (fun _ _ _ h => h) (Or.inl ⟨by rfl, ?_⟩) (by assumption) ?_
  rotate_left 1
  · (intro w hSw; (try dsimp only at hSw); go_simp; (try with_reducible rfl))
  try simp only [Act.put, List.getElem_toArray, List.getElem_cons_succ, List.getElem_cons_zero, List.setIfInBounds_toArray, List.set_cons_zero, List.set_cons_succ]
  refine wpAnyH_take (i := 9) (oi := _) (v := ?_) rfl (by kernel_rfl) (by kernel_rfl) (by kernel_rfl) (fun _ _ _ h => h) (Or.inl ⟨by rfl, ?_⟩) (by assumption) ?_
  rotate_left 1
  · (intro w hSw; (try dsimp only at hSw); go_simp; (try with_reducible rfl))
  try simp only [Act.put, List.getElem_toArray, List.getElem_cons_succ, List.getElem_cons_zero, List.setIfInBounds_toArray, List.set_cons_zero, List.set_cons_succ]
  refine wpAnyH_take (i := 10) (oi := _) (v := ?_) rfl (by kernel_rfl) (by kernel_rfl) (by kernel_rfl) (fun _ _ _ h => h) (Or.inl ⟨by rfl, ?_⟩) (by assumption) ?_
  rotate_left 1
  · (intro w hSw; (try dsimp only at hSw); go_simp; (try with_reducible rfl))
  try simp only [Act.put, List.getElem_toArray, List.getElem_cons_succ, List.getElem_cons_zero, List.setIfInBounds_toArray, List.set_cons_zero, List.set_cons_succ]
  refine wpAnyH_take (i := 11) (oi := _) (v := ?_) rfl (by kernel_rfl) (by kernel_rfl) (by kernel_rfl) (fun _ _ _ h => h) (Or.inl ⟨by rfl, ?_⟩) (by assumption) ?_
  rotate_left 1
  · (intro w hSw; (try dsimp only at hSw); go_simp; (try with_reducible rfl))
  try simp only [Act.put, List.getElem_toArray, List.getElem_cons_succ, List.getElem_cons_zero, List.setIfInBounds_toArray, List.set_cons_zero, List.set_cons_succ]
  refine wpAnyH_take (i := 12) (oi := _) (v := ?_) rfl (by kernel_rfl) (by kernel_rfl) (by kernel_rfl) (fun _ _ _ h => h) (Or.inl ⟨by rfl, ?_⟩) (by assumption) ?_
  rotate_left 1
  · (intro w hSw; (try dsimp only at hSw); go_simp; (try with_reducible rfl))
  try simp only [Act.put, List.getElem_toArray, List.getElem_cons_succ, List.getElem_cons_zero, List.setIfInBounds_toArray, List.set_cons_zero, List.set_cons_succ]
  refine wpAnyH_take (i := 13) (oi := _) (v := ?_) rfl (by kernel_rfl) (by kernel_rfl) (by kernel_rfl) (fun _ _ _ h => h) (Or.inl ⟨by rfl, ?_⟩) (by assumption) ?_
  rotate_left 1
  · (intro w hSw; (try dsimp only at hSw); (have q := keepc hSw C1.out; go_simp); (try with_reducible rfl))
  try simp only [Act.put, List.getElem_toArray, List.getElem_cons_succ, List.getElem_cons_zero, List.setIfInBounds_toArray, List.set_cons_zero, List.set_cons_succ]
  refine wpAnyH_take (i := 14) (oi := _) (v := ?_) rfl (by kernel_rfl) (by kernel_rfl) (by kernel_rfl) (fun _ _ _ h => h) (Or.inl ⟨by rfl, ?_⟩) (by assumption) ?_
  rotate_left 1
  · (intro w hSw; (try dsimp only at hSw); go_simp; (try with_reducible rfl))
  try simp only [Act.put, List.getElem_toArray, List.getElem_cons_succ, List.getElem_cons_zero, List.setIfInBounds_toArray, List.set_cons_zero, List.set_cons_succ]
  refine wpAnyH_take (i := 15) (oi := _) (v := ?_) rfl (by kernel_rfl) (by kernel_rfl) (by kernel_rfl) (fun _ _ _ h => h) (Or.inl ⟨by rfl, ?_⟩) (by assumption) ?_
  rotate_left 1
  · (intro w hSw; (try dsimp only at hSw); go_simp; (try with_reducible rfl))
  try simp only [Act.put, List.getElem_toArray, List.getElem_cons_succ, List.getElem_cons_zero, List.setIfInBounds_toArray, List.set_cons_zero, List.set_cons_succ]
  refine wpAnyH_take (i := 16) (oi := _) (v := ?_) rfl (by kernel_rfl) (by kernel_rfl) (by kernel_rfl) (fun _ _ _ h => h) (Or.inl ⟨by rfl, ?_⟩) (by assumption) ?_
  rotate_left 1
  · (intro w hSw; (try dsimp only at hSw); go_simp; (try with_reducible rfl))
  try simp only [Act.put, List.getElem_toArray, List.getElem_cons_succ, List.getElem_cons_zero, List.setIfInBounds_toArray, List.set_cons_zero, List.set_cons_succ]
  refine wpAnyH_take (i := 17) (oi := _) (v := ?_) rfl (by kernel_rfl) (by kernel_rfl) (by kernel_rfl) (fun _ _ _ h => h) (Or.inl ⟨by rfl, ?_⟩) (by assumption) ?_
  rotate_left 1
  · (intro w hSw; (try dsimp only at hSw); (have q := keepc hSw D1.out; go_simp); (try with_reducible rfl))
  try simp only [Act.put, List.getElem_toArray, List.getElem_cons_succ, List.getElem_cons_zero, List.setIfInBounds_toArray, List.set_cons_zero, List.set_cons_succ]
  refine wpAnyH_take (i := 18) (oi := _) (v := ?_) rfl (by kernel_rfl) (by kernel_rfl) (by kernel_rfl) (fun _ _ _ h => h) (Or.inl ⟨by rfl, ?_⟩) (by assumption) ?_
  rotate_left 1
  · (intro w hSw; (try dsimp only at hSw); go_simp; (try with_reducible rfl))
  try simp only [Act.put, List.getElem_toArray, List.getElem_cons_succ, List.getElem_cons_zero, List.setIfInBounds_toArray, List.set_cons_zero, List.set_cons_succ]
  refine wpAnyH_take (i := 19) (oi := _) (v := ?_) rfl (by kernel_rfl) (by kernel_rfl) (by kernel_rfl) (fun _ _ _ h => h) (Or.inl ⟨by rfl, ?_⟩) (by assumption) ?_
  rotate_left 1
  · (intro w hSw; (try dsimp only at hSw); go_simp; (try with_reducible rfl))
  try simp only [Act.put, List.getElem_toArray, List.getElem_cons_succ, List.getElem_cons_zero, List.setIfInBounds_toArray, List.set_cons_zero, List.set_cons_succ]
  refine wpAnyH_take (i := 20) (oi := _) (v := ?_) rfl (by kernel_rfl) (by kernel_rfl) (by kernel_rfl) (fun _ _ _ h => h) (Or.inl ⟨by rfl, ?_⟩) (by assumption) ?_
  rotate_left 1
  · (intro w hSw; (try dsimp only at hSw); go_simp; (try with_reducible rfl))
  try simp only [Act.put, List.getElem_toArray, List.getElem_cons_succ, List.getElem_cons_zero, List.setIfInBounds_toArray, List.set_cons_zero, List.set_cons_succ]
  refine wpAnyH_take (i := 21) (oi := _) (v := ?_) rfl (by kernel_rfl) (by kernel_rfl) (by kernel_rfl) (fun _ _ _ h => h) (Or.inl ⟨by rfl, ?_⟩) (by assumption) ?_
  rotate_left 1
  · (intro w hSw; (try dsimp only at hSw); go_simp; (try with_reducible rfl))
  try simp only [Act.put, List.getElem_toArray, List.getElem_cons_succ, List.getElem_cons_zero, List.setIfInBounds_toArray, List.set_cons_zero, List.set_cons_succ]
  refine wpAnyH_take (i := 22) (oi := _) (v := ?_) rfl (by kernel_rfl) (by kernel_rfl) (by kernel_rfl) (fun _ _ _ h => h) (Or.inl ⟨by rfl, ?_⟩) (by assumption) ?_
  rotate_left 1
  · (intro w hSw; (try dsimp only at hSw); go_simp; (try with_reducible rfl))
  try simp only [Act.put, List.getElem_toArray, List.getElem_cons_succ, List.getElem_cons_zero, List.setIfInBounds_toArray, List.set_cons_zero, List.set_cons_succ]
  refine wpAnyH_take (i := 23) (oi := _) (v := ?_) rfl (by kernel_rfl) (by kernel_rfl) (by kernel_rfl) (fun _ _ _ h => h) (Or.inl ⟨by rfl, ?_⟩) (by assumption) ?_
  rotate_left 1
  · (intro w hSw; (try dsimp only at hSw); go_simp; (try with_reducible rfl))
  try simp only [Act.put, List.getElem_toArray, List.getElem_cons_succ, List.getElem_cons_zero, List.setIfInBounds_toArray, List.set_cons_zero, List.set_cons_succ]
  refine wpAnyH_take (i := 24) (oi := _) (v := ?_) rfl (by kernel_rfl) (by kernel_rfl) (by kernel_rfl) (fun _ _ _ h => h) (Or.inl ⟨by rfl, ?_⟩) (by assumption) ?_
  rotate_left 1
  · (intro w hSw; (try dsimp only at hSw); (have q := keepc hSw C2.out; go_simp); (try with_reducible rfl))
  try simp only [Act.put, List.getElem_toArray, List.getElem_cons_succ, List.getElem_cons_zero, List.setIfInBounds_toArray, List.set_cons_zero, List.set_cons_succ]
  refine wpAnyH_take (i := 25) (oi := _) (v := ?_) rfl (by kernel_rfl) (by kernel_rfl) (by kernel_rfl) (fun _ _ _ h => h) (Or.inl ⟨by rfl, ?_⟩) (by assumption) ?_
  rotate_left 1
  · (intro w hSw; (try dsimp only at hSw); go_simp; (try with_reducible rfl))
  try simp only [Act.put, List.getElem_toArray, List.getElem_cons_succ, List.getElem_cons_zero, List.setIfInBounds_toArray, List.set_cons_zero, List.set_cons_succ]
  refine wpAnyH_take (i := 26) (oi := _) (v := ?_) rfl (by kernel_rfl) (by kernel_rfl) (by kernel_rfl) (fun _ _ _ h => h) (Or.inl ⟨by rfl, ?_⟩) (by assumption) ?_
  rotate_left 1
  · (intro w hSw; (try dsimp only at hSw); go_simp; (try with_reducible rfl))
  try simp only [Act.put, List.getElem_toArray, List.getElem_cons_succ, List.getElem_cons_zero, List.setIfInBounds_toArray, List.set_cons_zero, List.set_cons_succ]
  refine wpAnyH_take (i := 27) (oi := _) (v := ?_) rfl (by kernel_rfl) (by kernel_rfl) (by kernel_rfl) (fun _ _ _ h => h) (Or.inl ⟨by rfl, ?_⟩) (by assumption) ?_
  rotate_left 1
  · (intro w hSw; (try dsimp only at hSw); go_simp; (try with_reducible rfl))
  try simp only [Act.put, List.getElem_toArray, List.getElem_cons_succ, List.getElem_cons_zero, List.setIfInBounds_toArray, List.set_cons_zero, List.set_cons_succ]
  refine wpAnyH_take (i := 28) (oi := _) (v := ?_) rfl (by kernel_rfl) (by kernel_rfl) (by kernel_rfl) (fun _ _ _ h => h) (Or.inl ⟨by rfl, ?_⟩) (by assumption) ?_
  rotate_left 1
  · (intro w hSw; (try dsimp only at hSw); (have q := keepc hSw D2.out; go_simp); (try with_reducible rfl))
  try simp only [Act.put, List.getElem_toArray, List.getElem_cons_succ, List.getElem_cons_zero, List.setIfInBounds_toArray, List.set_cons_zero, List.set_cons_succ]
  refine wpAnyH_take (i := 29) (oi := _) (v := ?_) rfl (by kernel_rfl) (by kernel_rfl) (by kernel_rfl) (fun _ _ _ h => h) (Or.inl ⟨by rfl, ?_⟩) (by assumption) ?_
  rotate_left 1
  · (intro w hSw; (try dsimp only at hSw); go_simp; (try with_reducible rfl))
  try simp only [Act.put, List.getElem_toArray, List.getElem_cons_succ, List.getElem_cons_zero, List.setIfInBounds_toArray, List.set_cons_zero, List.set_cons_succ]
  refine wpAnyH_take (i := 30) (oi := _) (v := ?_) rfl (by kernel_rfl) (by kernel_rfl) (by kernel_rfl) (fun _ _ _ h => h) (Or.inl ⟨by rfl, ?_⟩) (by assumption) ?_
  rotate_left 1
  · (intro w hSw; (try dsimp only at hSw); go_simp; (try with_reducible rfl))
  try simp only [Act.put, List.getElem_toArray, List.getElem_cons_succ, List.getElem_cons_zero, List.setIfInBounds_toArray, List.set_cons_zero, List.set_cons_succ]
  refine wpAnyH_take (i := 31) (oi := _) (v := ?_) rfl (by kernel_rfl) (by kernel_rfl) (by kernel_rfl) (fun _ _ _ h => h) (Or.inl ⟨by rfl, ?_⟩) (by assumption) ?_
  rotate_left 1
  · (intro w hSw; (try dsimp only at hSw); go_simp; (try with_reducible rfl))
  try simp only [Act.put, List.getElem_toArray, List.getElem_cons_succ, List.getElem_cons_zero, List.setIfInBounds_toArray, List.set_cons_zero, List.set_cons_succ]
  refine wpAnyH_take (i := 32) (oi := _) (v := ?_) rfl (by kernel_rfl) (by kernel_rfl) (by kernel_rfl) (fun _ _ _ h => h) (Or.inl ⟨by rfl, ?_⟩) (by assumption) ?_
  rotate_left 1
  · (intro w hSw; (try dsimp only at hSw); go_simp; (try with_reducible rfl))
  try simp only [Act.put, List.getElem_toArray, List.getElem_cons_succ, List.getElem_cons_zero, List.setIfInBounds_toArray, List.set_cons_zero, List.set_cons_succ]
  refine wpAnyH_take (i := 33) (oi := _) (v := ?_) rfl (by kernel_rfl) (by kernel_rfl) (by kernel_rfl) (fun _ _ _ h => h) (Or.inl ⟨by rfl, ?_⟩) (by assumption) ?_
  rotate_left 1
  · (intro w hSw; (try dsimp only at hSw); go_simp; (try with_reducible rfl))
  try simp only [Act.put, List.getElem_toArray, List.getElem_cons_succ, List.getElem_cons_zero, List.setIfInBounds_toArray, List.set_cons_zero, List.set_cons_succ]
  refine wpAnyH_take (i := 34) (oi := _) (v := ?_) rfl (by kernel_rfl) (by kernel_rfl) (by kernel_rfl) (fun _ _ _ h => h) (Or.inl ⟨by rfl, ?_⟩) (by assumption) ?_
  rotate_left 1
  · (intro w hSw; (try dsimp only at hSw); go_simp; (try with_reducible rfl))
  try simp only [Act.put, List.getElem_toArray, List.getElem_cons_succ, List.getElem_cons_zero, List.setIfInBounds_toArray, List.set_cons_zero, List.set_cons_succ]
  refine wpAnyH_take (i := 35) (oi := _) (v := ?_) rfl (by kernel_rfl) (by kernel_rfl) (by kernel_rfl) (fun _ _ _ h => h) (Or.inl ⟨by rfl, ?_⟩) (by assumption) ?_
  rotate_left 1
  · (intro w hSw; (try dsimp only at hSw); (have q := keepc hSw C4.out; go_simp); (try with_reducible rfl))
  try simp only [Act.put, List.getElem_toArray, List.getElem_cons_succ, List.getElem_cons_zero, List.setIfInBounds_toArray, List.set_cons_zero, List.set_cons_succ]
  refine wpAnyH_take (i := 36) (oi := _) (v := ?_) rfl (by kernel_rfl) (by kernel_rfl) (by kernel_rfl) (fun _ _ _ h => h) (Or.inl ⟨by rfl, ?_⟩) (by assumption) ?_
  rotate_left 1
  · (intro w hSw; (try dsimp only at hSw); go_simp; (try with_reducible rfl))
  try simp only [Act.put, List.getElem_toArray, List.getElem_cons_succ, List.getElem_cons_zero, List.setIfInBounds_toArray, List.set_cons_zero, List.set_cons_succ]
  refine wpAnyH_take (i := 37) (oi := _) (v := ?_) rfl (by kernel_rfl) (by kernel_rfl) (by kernel_rfl) (fun _ _ _ h => h) (Or.inl ⟨by rfl, ?_⟩) (by assumption) ?_
  rotate_left 1
  · (intro w hSw; (try dsimp only at hSw); go_simp; (try with_reducible rfl))
  try simp only [Act.put, List.getElem_toArray, List.getElem_cons_succ, List.getElem_cons_zero, List.setIfInBounds_toArray, List.set_cons_zero, List.set_cons_succ]
  refine wpAnyH_take (i := 38) (oi := _) (v := ?_) rfl (by kernel_rfl) (by kernel_rfl) (by kernel_rfl) (fun _ _ _ h => h) (Or.inl ⟨by rfl, ?_⟩) (by assumption) ?_
  rotate_left 1
  · (intro w hSw; (try dsimp only at hSw); go_simp; (try with_reducible rfl))
  try simp only [Act.put, List.getElem_toArray, List.getElem_cons_succ, List.getElem_cons_zero, List.setIfInBounds_toArray, List.set_cons_zero, List.set_cons_succ]
  refine wpAnyH_take (i := 39) (oi := _) (v := ?_) rfl (by kernel_rfl) (by kernel_rfl) (by kernel_rfl) (fun _ _ _ h => h) (Or.inl ⟨by rfl, ?_⟩) (by assumption) ?_
  rotate_left 1
  · (intro w hSw; (try dsimp only at hSw); (have q := keepc hSw D4.out; go_simp); (try with_reducible rfl))
  try simp only [Act.put, List.getElem_toArray, List.getElem_cons_succ, List.getElem_cons_zero, List.setIfInBounds_toArray, List.set_cons_zero, List.set_cons_succ]
  refine wpAnyH_take (i := 40) (oi := _) (v := ?_) rfl (by kernel_rfl) (by kernel_rfl) (by kernel_rfl) (fun _ _ _ h => h) (Or.inl ⟨by rfl, ?_⟩) (by assumption) ?_
  rotate_left 1
  · (intro w hSw; (try dsimp only at hSw); go_simp; (try with_reducible rfl))
  try simp only [Act.put, List.getElem_toArray, List.getElem_cons_succ, List.getElem_cons_zero, List.setIfInBounds_toArray, List.set_cons_zero, List.set_cons_succ]
  refine wpAnyH_take (i := 41) (oi := _) (v := ?_) rfl (by kernel_rfl) (by kernel_rfl) (by kernel_rfl) (fun _ _ _ h => h) (Or.inl ⟨by rfl, ?_⟩) (by assumption) ?_
  rotate_left 1
  · (intro w hSw; (try dsimp only at hSw); go_simp; (try with_reducible rfl))
  try simp only [Act.put, List.getElem_toArray, List.getElem_cons_succ, List.getElem_cons_zero, List.setIfInBounds_toArray, List.set_cons_zero, List.set_cons_succ]
  refine wpAnyH_take (i := 42) (oi := _) (v := ?_) rfl (by kernel_rfl) (by kernel_rfl) (by kernel_rfl) (fun _ _ _ h => h) (Or.inl ⟨by rfl, ?_⟩) (by assumption) ?_
  rotate_left 1
  · (intro w hSw; (try dsimp only at hSw); go_simp; (try with_reducible rfl))
  try simp only [Act.put, List.getElem_toArray, List.getElem_cons_succ, List.getElem_cons_zero, List.setIfInBounds_toArray, List.set_cons_zero, List.set_cons_succ]
  refine wpAnyH_take (i := 43) (oi := _) (v := ?_) rfl (by kernel_rfl) (by kernel_rfl) (by kernel_rfl) (fun _ _ _ h => h) (Or.inl ⟨by rfl, ?_⟩) (by assumption) ?_
  rotate_left 1
  · (intro w hSw; (try dsimp only at hSw); go_simp; (try with_reducible rfl))
  try simp only [Act.put, List.getElem_toArray, List.getElem_cons_succ, List.getElem_cons_zero, List.setIfInBounds_toArray, List.set_cons_zero, List.set_cons_succ]
  refine wpAnyH_take (i := 44) (oi := _) (v := ?_) rfl (by kernel_rfl) (by kernel_rfl) (by kernel_rfl) (fun _ _ _ h => h) (Or.inl ⟨by rfl, ?_⟩) (by assumption) ?_
  rotate_left 1
  · (intro w hSw; (try dsimp only at hSw); go_simp; (try with_reducible rfl))
  try simp only [Act.put, List.getElem_toArray, List.getElem_cons_succ, List.getElem_cons_zero, List.setIfInBounds_toArray, List.set_cons_zero, List.set_cons_succ]
  refine wpAnyH_take (i := 45) (oi := _) (v := ?_) rfl (by kernel_rfl) (by kernel_rfl) (by kernel_rfl) (fun _ _ _ h => h) (Or.inl ⟨by rfl, ?_⟩) (by assumption) ?_
  rotate_left 1
  · (intro w hSw; (try dsimp only at hSw); go_simp; (try with_reducible rfl))
  try simp only [Act.put, List.getElem_toArray, List.getElem_cons_succ, List.getElem_cons_zero, List.setIfInBounds_toArray, List.set_cons_zero, List.set_cons_succ]
  refine wpAnyH_take (i := 46) (oi := _) (v := ?_) rfl (by kernel_rfl) (by kernel_rfl) (by kernel_rfl) (fun _ _ _ h => h) (Or.inl ⟨by rfl, ?_⟩) (by assumption) ?_
  rotate_left 1
  · (intro w hSw; (try dsimp only at hSw); (have q := keepc hSw C5.out; go_simp); (try with_reducible rfl))
  try simp only [Act.put, List.getElem_toArray, List.getElem_cons_succ, List.getElem_cons_zero, List.setIfInBounds_toArray, List.set_cons_zero, List.set_cons_succ]
  refine wpAnyH_take (i := 47) (oi := _) (v := ?_) rfl (by kernel_rfl) (by kernel_rfl) (by kernel_rfl) (fun _ _ _ h => h) (Or.inl ⟨by rfl, ?_⟩) (by assumption) ?_
  rotate_left 1
  · (intro w hSw; (try dsimp only at hSw); go_simp; (try with_reducible rfl))
  try simp only [Act.put, List.getElem_toArray, List.getElem_cons_succ, List.getElem_cons_zero, List.setIfInBounds_toArray, List.set_cons_zero, List.set_cons_succ]
  refine wpAnyH_take (i := 48) (oi := _) (v := ?_) rfl (by kernel_rfl) (by kernel_rfl) (by kernel_rfl) (fun _ _ _ h => h) (Or.inl ⟨by rfl, ?_⟩) (by assumption) ?_
  rotate_left 1
  · (intro w hSw; (try dsimp only at hSw); go_simp; (try with_reducible rfl))
  try simp only [Act.put, List.getElem_toArray, List.getElem_cons_succ, List.getElem_cons_zero, List.setIfInBounds_toArray, List.set_cons_zero, List.set_cons_succ]
  refine wpAnyH_take (i := 49) (oi := _) (v := ?_) rfl (by kernel_rfl) (by kernel_rfl) (by kernel_rfl) (fun _ _ _ h => h) (Or.inl ⟨by rfl, ?_⟩) (by assumption) ?_
  rotate_left 1
  · (intro w hSw; (try dsimp only at hSw); go_simp; (try with_reducible rfl))
  try simp only [Act.put, List.getElem_toArray, List.getElem_cons_succ, List.getElem_cons_zero, List.setIfInBounds_toArray, List.set_cons_zero, List.set_cons_succ]
  refine wpAnyH_take (i := 50) (oi := _) (v := ?_) rfl (by kernel_rfl) (by kernel_rfl) (by kernel_rfl) (fun _ _ _ h => h) (Or.inl ⟨by rfl, ?_⟩) (by assumption) ?_
  rotate_left 1
  · (intro w hSw; (try dsimp only at hSw); (have q := keepc hSw D5.out; go_simp); (try with_reducible rfl))
  try simp only [Act.put, List.getElem_toArray, List.getElem_cons_succ, List.getElem_cons_zero, List.setIfInBounds_toArray, List.set_cons_zero, List.set_cons_succ]
  refine wpAnyH_take (i := 51) (oi := _) (v := ?_) rfl (by kernel_rfl) (by kernel_rfl) (by kernel_rfl) (fun _ _ _ h => h) (Or.inl ⟨by rfl, ?_⟩) (by assumption) ?_
  rotate_left 1
  · (intro w hSw; (try dsimp only at hSw); go_simp; (try with_reducible rfl))
  try simp only [Act.put, List.getElem_toArray, List.getElem_cons_succ, List.getElem_cons_zero, List.setIfInBounds_toArray, List.set_cons_zero, List.set_cons_succ]
  refine wpAnyH_take (i := 52) (oi := _) (v := ?_) rfl (by kernel_rfl) (by kernel_rfl) (by kernel_rfl) (fun _ _ _ h => h) (Or.inl ⟨by rfl, ?_⟩) (by assumption) ?_
  rotate_left 1
  · (intro w hSw; (try dsimp only at hSw); go_simp; (try with_reducible rfl))
  try simp only [Act.put, List.getElem_toArray, List.getElem_cons_succ, List.getElem_cons_zero, List.setIfInBounds_toArray, List.set_cons_zero, List.set_cons_succ]
  refine wpAnyH_take (i := 53) (oi := _) (v := ?_) rfl (by kernel_rfl) (by kernel_rfl) (by kernel_rfl) (fun _ _ _ h => h) (Or.inl ⟨by rfl, ?_⟩) (by assumption) ?_
  rotate_left 1
  · (intro w hSw; (try dsimp only at hSw); go_simp; (try with_reducible rfl))
  try simp only [Act.put, List.getElem_toArray, List.getElem_cons_succ, List.getElem_cons_zero, List.setIfInBounds_toArray, List.set_cons_zero, List.set_cons_succ]
  refine wpAnyH_take (i := 54) (oi := _) (v := ?_) rfl (by kernel_rfl) (by kernel_rfl) (by kernel_rfl) (fun _ _ _ h => h) (Or.inl ⟨by rfl, ?_⟩) (by assumption) ?_
  rotate_left 1
  · (intro w hSw; (try dsimp only at hSw); go_simp; (try with_reducible rfl))
  try simp only [Act.put, List.getElem_toArray, List.getElem_cons_succ, List.getElem_cons_zero, List.setIfInBounds_toArray, List.set_cons_zero, List.set_cons_succ]
  refine wpAnyH_take (i := 55) (oi := _) (v := ?_) rfl (by kernel_rfl) (by kernel_rfl) (by kernel_rfl) (fun _ _ _ h => h) (Or.inl ⟨by rfl, ?_⟩) (by assumption) ?_
  rotate_left 1
  · (intro w hSw; (try dsimp only at hSw); go_simp; (try with_reducible rfl))
  try simp only [Act.put, List.getElem_toArray, List.getElem_cons_succ, List.getElem_cons_zero, List.setIfInBounds_toArray, List.set_cons_zero, List.set_cons_succ]
  refine wpAnyH_take (i := 56) (oi := _) (v := ?_) rfl (by kernel_rfl) (by kernel_rfl) (by kernel_rfl) (fun _ _ _ h => h) (Or.inl ⟨by rfl, ?_⟩) (by assumption) ?_
  rotate_left 1
  · (intro w hSw; (try dsimp only at hSw); go_simp; (try with_reducible rfl))
  try simp only [Act.put, List.getElem_toArray, List.getElem_cons_succ, List.getElem_cons_zero, List.setIfInBounds_toArray, List.set_cons_zero, List.set_cons_succ]
  refine wpAnyH_take (i := 57) (oi := _) (v := ?_) rfl (by kernel_rfl) (by kernel_rfl) (by kernel_rfl) (fun _ _ _ h => h) (Or.inl ⟨by rfl, ?_⟩) (by assumption) ?_
  rotate_left 1
  · (intro w hSw; (try dsimp only at hSw); (have q := keepc hSw C6.out; go_simp); (try with_reducible rfl))
  try simp only [Act.put, List.getElem_toArray, List.getElem_cons_succ, List.getElem_cons_zero, List.setIfInBounds_toArray, List.set_cons_zero, List.set_cons_succ]
  refine wpAnyH_take (i := 58) (oi := _) (v := ?_) rfl (by kernel_rfl) (by kernel_rfl) (by kernel_rfl) (fun _ _ _ h => h) (Or.inl ⟨by rfl, ?_⟩) (by assumption) ?_
  rotate_left 1
  · (intro w hSw; (try dsimp only at hSw); go_simp; (try with_reducible rfl))
  try simp only [Act.put, List.getElem_toArray, List.getElem_cons_succ, List.getElem_cons_zero, List.setIfInBounds_toArray, List.set_cons_zero, List.set_cons_succ]
  refine wpAnyH_take (i := 59) (oi := _) (v := ?_) rfl (by kernel_rfl) (by kernel_rfl) (by kernel_rfl) (fun _ _ _ h => h) (Or.inl ⟨by rfl, ?_⟩) (by assumption) ?_
  rotate_left 1
  · (intro w hSw; (try dsimp only at hSw); go_simp; (try with_reducible rfl))
  try simp only [Act.put, List.getElem_toArray, List.getElem_cons_succ, List.getElem_cons_zero, List.setIfInBounds_toArray, List.set_cons_zero, List.set_cons_succ]
  refine wpAnyH_take (i := 60) (oi := _) (v := ?_) rfl (by kernel_rfl) (by kernel_rfl) (by kernel_rfl) (fun _ _ _ h => h) (Or.inl ⟨by rfl, ?_⟩) (by assumption) ?_
  rotate_left 1
  · (intro w hSw; (try dsimp only at hSw); go_simp; (try with_reducible rfl))
  try simp only [Act.put, List.getElem_toArray, List.getElem_cons_succ, List.getElem_cons_zero, List.setIfInBounds_toArray, List.set_cons_zero, List.set_cons_succ]
  refine wpAnyH_take (i := 61) (oi := _) (v := ?_) rfl (by kernel_rfl) (by kernel_rfl) (by kernel_rfl) (fun _ _ _ h => h) (Or.inl ⟨by rfl, ?_⟩) (by assumption) ?_
  rotate_left 1
  · (intro w hSw; (try dsimp only at hSw); (have q := keepc hSw D6.out; go_simp); (try with_reducible rfl))
  try simp only [Act.put, List.getElem_toArray, List.getElem_cons_succ, List.getElem_cons_zero, List.setIfInBounds_toArray, List.set_cons_zero, List.set_cons_succ]
  refine wpAnyH_take (i := 62) (oi := _) (v := ?_) rfl (by kernel_rfl) (by kernel_rfl) (by kernel_rfl) (fun _ _ _ h => h) (Or.inl ⟨by rfl, ?_⟩) (by assumption) ?_
  rotate_left 1
  · (intro w hSw; (try dsimp only at hSw); go_simp; (try with_reducible rfl))
  try simp only [Act.put, List.getElem_toArray, List.getElem_cons_succ, List.getElem_cons_zero, List.setIfInBounds_toArray, List.set_cons_zero, List.set_cons_succ]
  refine wpAnyH_take (i := 63) (oi := _) (v := ?_) rfl (by kernel_rfl) (by kernel_rfl) (by kernel_rfl) (fun _ _ _ h => h) (Or.inl ⟨by rfl, ?_⟩) (by assumption) ?_
  rotate_left 1
  · (intro w hSw; (try dsimp only at hSw); go_simp; (try with_reducible rfl))
  try simp only [Act.put, List.getElem_toArray, List.getElem_cons_succ, List.getElem_cons_zero, List.setIfInBounds_toArray, List.set_cons_zero, List.set_cons_succ]
  refine wpAnyH_take (i := 64) (oi := _) (v := ?_) rfl (by kernel_rfl) (by kernel_rfl) (by kernel_rfl) (fun _ _ _ h => h) (Or.inl ⟨by rfl, ?_⟩) (by assumption) ?_
  rotate_left 1
  · (intro w hSw; (try dsimp only at hSw); go_simp; (try with_reducible rfl))
  try simp only [Act.put, List.getElem_toArray, List.getElem_cons_succ, List.getElem_cons_zero, List.setIfInBounds_toArray, List.set_cons_zero, List.set_cons_succ]
  refine wpAnyH_take (i := 65) (oi := _) (v := ?_) rfl (by kernel_rfl) (by kernel_rfl) (by kernel_rfl) (fun _ _ _ h => h) (Or.inl ⟨by rfl, ?_⟩) (by assumption) ?_
  rotate_left 1
  · (intro w hSw; (try dsimp only at hSw); go_simp; (try with_reducible rfl))
  try simp only [Act.put, List.getElem_toArray, List.getElem_cons_succ, List.getElem_cons_zero, List.setIfInBounds_toArray, List.set_cons_zero, List.set_cons_succ]
  refine wpAnyH_take (i := 66) (oi := _) (v := ?_) rfl (by kernel_rfl) (by kernel_rfl) (by kernel_rfl) (fun _ _ _ h => h) (Or.inl ⟨by rfl, ?_⟩) (by assumption) ?_
  rotate_left 1
  · (intro w hSw; (try dsimp only at hSw); go_simp; (try with_reducible rfl))
  try simp only [Act.put, List.getElem_toArray, List.getElem_cons_succ, List.getElem_cons_zero, List.setIfInBounds_toArray, List.set_cons_zero, List.set_cons_succ]
  refine wpAnyH_take (i := 67) (oi := _) (v := ?_) rfl (by kernel_rfl) (by kernel_rfl) (by kernel_rfl) (fun _ _ _ h => h) (Or.inl ⟨by rfl, ?_⟩) (by assumption) ?_
  rotate_left 1
  · (intro w hSw; (try dsimp only at hSw); go_simp; (try with_reducible rfl))
  try simp only [Act.put, List.getElem_toArray, List.getElem_cons_succ, List.getElem_cons_zero, List.setIfInBounds_toArray, List.set_cons_zero, List.set_cons_succ]
  refine wpAnyH_take (i := 68) (oi := _) (v := ?_) rfl (by kernel_rfl) (by kernel_rfl) (by kernel_rfl) (fun _ _ _ h => h) (Or.inl ⟨by rfl, ?_⟩) (by assumption) ?_
  rotate_left 1
  · (intro w hSw; (try dsimp only at hSw); (have q := keepc hSw C7.out; go_simp); (try with_reducible rfl))
  try simp only [Act.put, List.getElem_toArray, List.getElem_cons_succ, List.getElem_cons_zero, List.setIfInBounds_toArray, List.set_cons_zero, List.set_cons_succ]
  refine wpAnyH_take (i := 69) (oi := _) (v := ?_) rfl (by kernel_rfl) (by kernel_rfl) (by kernel_rfl) (fun _ _ _ h => h) (Or.inl ⟨by rfl, ?_⟩) (by assumption) ?_
  rotate_left 1
  · (intro w hSw; (try dsimp only at hSw); go_simp; (try with_reducible rfl))
  try simp only [Act.put, List.getElem_toArray, List.getElem_cons_succ, List.getElem_cons_zero, List.setIfInBounds_toArray, List.set_cons_zero, List.set_cons_succ]
  refine wpAnyH_take (i := 70) (oi := _) (v := ?_) rfl (by kernel_rfl) (by kernel_rfl) (by kernel_rfl) (fun _ _ _ h => h) (Or.inl ⟨by rfl, ?_⟩) (by assumption) ?_
  rotate_left 1
  · (intro w hSw; (try dsimp only at hSw); go_simp; (try with_reducible rfl))
  try simp only [Act.put, List.getElem_toArray, List.getElem_cons_succ, List.getElem_cons_zero, List.setIfInBounds_toArray, List.set_cons_zero, List.set_cons_succ]
  refine wpAnyH_take (i := 71) (oi := _) (v := ?_) rfl (by kernel_rfl) (by kernel_rfl) (by kernel_rfl) (fun _ _ _ h => h) (Or.inl ⟨by rfl, ?_⟩) (by assumption) ?_
  rotate_left 1
  · (intro w hSw; (try dsimp only at hSw); go_simp; (try with_reducible rfl))
  try simp only [Act.put, List.getElem_toArray, List.getElem_cons_succ, List.getElem_cons_zero, List.setIfInBounds_toArray, List.set_cons_zero, List.set_cons_succ]
  refine wpAnyH_take (i := 72) (oi := _) (v := ?_) rfl (by kernel_rfl) (by kernel_rfl) (by kernel_rfl) (fun _ _ _ h => h) (Or.inl ⟨by rfl, ?_⟩) (by assumption) ?_
  rotate_left 1
  · (intro w hSw; (try dsimp only at hSw); (have q := keepc hSw D7.out; go_simp); (try with_reducible rfl))
  try simp only [Act.put, List.getElem_toArray, List.getElem_cons_succ, List.getElem_cons_zero, List.setIfInBounds_toArray, List.set_cons_zero, List.set_cons_succ]
  refine wpAnyH_take (i := 73) (oi := _) (v := ?_) rfl (by kernel_rfl) (by kernel_rfl) (by kernel_rfl) (fun _ _ _ h => h) (Or.inl ⟨by rfl, ?_⟩) (by assumption) ?_
  rotate_left 1
  · (intro w hSw; (try dsimp only at hSw); go_simp; (try with_reducible rfl))
  try simp only [Act.put, List.getElem_toArray, List.getElem_cons_succ, List.getElem_cons_zero, List.setIfInBounds_toArray, List.set_cons_zero, List.set_cons_succ]
  refine wpAnyH_take (i := 74) (oi := _) (v := ?_) rfl (by kernel_rfl) (by kernel_rfl) (by kernel_rfl) (fun _ _ _ h => h) (Or.inl ⟨by rfl, ?_⟩) (by assumption) ?_
  rotate_left 1
  · (intro w hSw; (try dsimp only at hSw); go_simp; (try with_reducible rfl))
  try simp only [Act.put, List.getElem_toArray, List.getElem_cons_succ, List.getElem_cons_zero, List.setIfInBounds_toArray, List.set_cons_zero, List.set_cons_succ]
  refine wpAnyH_take (i := 75) (oi := _) (v := ?_) rfl (by kernel_rfl) (by kernel_rfl) (by kernel_rfl) (fun _ _ _ h => h) (Or.inl ⟨by rfl, ?_⟩) (by assumption) ?_
  rotate_left 1
  · (intro w hSw; (try dsimp only at hSw); go_simp; (try with_reducible rfl))
  try simp only [Act.put, List.getElem_toArray, List.getElem_cons_succ, List.getElem_cons_zero, List.setIfInBounds_toArray, List.set_cons_zero, List.set_cons_succ]
  refine wpAnyH_take (i := 76) (oi := _) (v := ?_) rfl (by kernel_rfl) (by kernel_rfl) (by kernel_rfl) (fun _ _ _ h => h) (Or.inl ⟨by rfl, ?_⟩) (by assumption) ?_
  rotate_left 1
  · (intro w hSw; (try dsimp only at hSw); go_simp; (try with_reducible rfl))
  try simp only [Act.put, List.getElem_toArray, List.getElem_cons_succ, List.getElem_cons_zero, List.setIfInBounds_toArray, List.set_cons_zero, List.set_cons_succ]
  refine wpAnyH_take (i := 77) (oi := _) (v := ?_) rfl (by kernel_rfl) (by kernel_rfl) (by kernel_rfl) (fun _ _ _ h => h) (Or.inl ⟨by rfl, ?_⟩) (by assumption) ?_
  rotate_left 1
  · (intro w hSw; (try dsimp only at hSw); go_simp; (try with_reducible rfl))
  try simp only [Act.put, List.getElem_toArray, List.getElem_cons_succ, List.getElem_cons_zero, List.setIfInBounds_toArray, List.set_cons_zero, List.set_cons_succ]
  refine wpAnyH_take (i := 78) (oi := _) (v := ?_) rfl (by kernel_rfl) (by kernel_rfl) (by kernel_rfl) (fun _ _ _ h => h) (Or.inl ⟨by rfl, ?_⟩) (by assumption) ?_
  rotate_left 1
  · (intro w hSw; (try dsimp only at hSw); go_simp; (try with_reducible rfl))
  try simp only [Act.put, List.getElem_toArray, List.getElem_cons_succ, List.getElem_cons_zero, List.setIfInBounds_toArray, List.set_cons_zero, List.set_cons_succ]
  refine wpAnyH_take (i := 79) (oi := _) (v := ?_) rfl (by kernel_rfl) (by kernel_rfl) (by kernel_rfl) (fun _ _ _ h => h) (Or.inl ⟨by rfl, ?_⟩) (by assumption) ?_
  rotate_left 1
  · (intro w hSw; (try dsimp only at hSw); (have q := keepc hSw C3.out; go_simp); (try with_reducible rfl))
  try simp only [Act.put, List.getElem_toArray, List.getElem_cons_succ, List.getElem_cons_zero, List.setIfInBounds_toArray, List.set_cons_zero, List.set_cons_succ]
  refine wpAnyH_take (i := 80) (oi := _) (v := ?_) rfl (by kernel_rfl) (by kernel_rfl) (by kernel_rfl) (fun _ _ _ h => h) (Or.inl ⟨by rfl, ?_⟩) (by assumption) ?_
  rotate_left 1
  · (intro w hSw; (try dsimp only at hSw); go_simp; (try with_reducible rfl))
  try simp only [Act.put, List.getElem_toArray, List.getElem_cons_succ, List.getElem_cons_zero, List.setIfInBounds_toArray, List.set_cons_zero, List.set_cons_succ]
  refine wpAnyH_take (i := 81) (oi := _) (v := ?_) rfl (by kernel_rfl) (by kernel_rfl) (by kernel_rfl) (fun _ _ _ h => h) (Or.inl ⟨by rfl, ?_⟩) (by assumption) ?_
  rotate_left 1
  · (intro w hSw; (try dsimp only at hSw); go_simp; (try with_reducible rfl))
  try simp only [Act.put, List.getElem_toArray, List.getElem_cons_succ, List.getElem_cons_zero, List.setIfInBounds_toArray, List.set_cons_zero, List.set_cons_succ]
  refine wpAnyH_take (i := 82) (oi := _) (v := ?_) rfl (by kernel_rfl) (by kernel_rfl) (by kernel_rfl) (fun _ _ _ h => h) (Or.inl ⟨by rfl, ?_⟩) (by assumption) ?_
  rotate_left 1
  · (intro w hSw; (try dsimp only at hSw); go_simp; (try with_reducible rfl))
  try simp only [Act.put, List.getElem_toArray, List.getElem_cons_succ, List.getElem_cons_zero, List.setIfInBounds_toArray, List.set_cons_zero, List.set_cons_succ]
  refine wpAnyH_take (i := 83) (oi := _) (v := ?_) rfl (by kernel_rfl) (by kernel_rfl) (by kernel_rfl) (fun _ _ _ h => h) (Or.inl ⟨by rfl, ?_⟩) (by assumption) ?_
  rotate_left 1
  · (intro w hSw; (try dsimp only at hSw); (have q := keepc hSw D3.out; go_simp); (try with_reducible rfl))
  try simp only [Act.put, List.getElem_toArray, List.getElem_cons_succ, List.getElem_cons_zero, List.setIfInBounds_toArray, List.set_cons_zero, List.set_cons_succ]
  refine wpAnyH_ready (rs := [84]) (by kernel_rfl) (by simp) ?_
  refine AllReadyH.cons (o := _) rfl (fun K hK => ?_) AllReadyH.nil
  go_simp
  refine (HSW.out _ hHeld).mono ?_
  rintro e w5 ⟨rfl, hb5⟩
  have HB5 := Lib.hid (hHeld.trans (hb5.mono hHeld.size))
  clear hb5
  go_wp2_with fail
  refine hK.out _ _ ?_ (fun hHeld84 => ?_)
  · exact HB5.out
  clear hK K
  try simp only [Act.put, List.getElem_toArray, List.getElem_cons_succ, List.getElem_cons_zero, List.setIfInBounds_toArray, List.set_cons_zero, List.set_cons_succ]
  refine wpAnyH_take (i := 85) (oi := _) (v := ?_) rfl (by kernel_rfl) (by kernel_rfl) (by kernel_rfl) (fun _ _ _ h => h) (Or.inl ⟨by rfl, ?_⟩) (by assumption) ?_
  rotate_left 1
  · (intro w hSw; (try dsimp only at hSw); go_simp; (try with_reducible rfl))
  try simp only [Act.put, List.getElem_toArray, List.getElem_cons_succ, List.getElem_cons_zero, List.setIfInBounds_toArray, List.set_cons_zero, List.set_cons_succ]
  refine wpAnyH_take (i := 86) (oi := _) (v := ?_) rfl (by kernel_rfl) (by kernel_rfl) (by kernel_rfl) (fun _ _ _ h => h) (Or.inl ⟨by rfl, ?_⟩) (by assumption) ?_
  rotate_left 1
  · (intro w hSw; (try dsimp only at hSw); go_simp; (try with_reducible rfl))
  try simp only [Act.put, List.getElem_toArray, List.getElem_cons_succ, List.getElem_cons_zero, List.setIfInBounds_toArray, List.set_cons_zero, List.set_cons_succ]
  refine wpAnyH_done (by kernel_rfl) ?_ _
  refine NoPanic.normal ?_
  go_wp2
  go_ret
  exact ⟨by rw [HS.out]; rfl, HB5.out⟩
theorem alike_any {w : World} {B1 r1 B2 r2 : Nat} {s1 s2 : Cfg} {L1 L2 : List WV} {G1 G2 : Nat → Prop} (h1 : RwIs w B1 r1 s1 L1 G1) (h2 : RwIs w B2 r2 s2 L2 G2) (he : s1.len = s2.len ∧ s1.lat = s2.lat ∧ s1.most = s2.most) (b1 : WBd L1) (b2 : WBd L2) :
    Calls Try.prog 23 #[.pointer (some ⟨r1, 0, none⟩), .pointer (some ⟨r2, 0, none⟩)] w fun e w' => e = .returned (.bool (smW s1 L1 s2 L2)) ∧ Below w.heap.size w w' := by
  obtain ⟨e1, e2, e3⟩ := he
  by_cases h4 : s1.floor = s2.floor
  rotate_left 1
  · exact alike_floor h1 h2 e1 e2 e3 h4
  by_cases h5 : s1.mark = s2.mark
  rotate_left 1
  · exact alike_mark h1 h2 e1 e2 e3 h4 h5
  by_cases h6 : s1.cred = s2.cred
  rotate_left 1
  · exact alike_cred h1 h2 e1 e2 e3 h4 h5 h6
  by_cases h7 : s1.late = s2.late
  rotate_left 1
  · exact alike_late h1 h2 e1 e2 e3 h4 h5 h6 h7
  refine alike_all h1 h2 ?_ b1 b2
  obtain ⟨ln, lt, mo, fa, ma, ca, la⟩ := s1
  obtain ⟨ln2, lt2, mo2, fb, mb, cb, lb⟩ := s2
  simp only at e1 e2 e3 h4 h5 h6 h7
  rw [e1, e2, e3, h4, h5, h6, h7]
end Go.Proofs.Ytbkpgpaanhfjfaa
