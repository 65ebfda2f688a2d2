/- The walk over the chapter's row, known(): it answers true. -/
import Derived.Test.YthademifhnkbiaaDlL
namespace Go.Proofs.Ythademifhnkbiaa
open Go.RowKit K
def arrV : Obj := .cells #[.int .i64 5, .int .i64 9, .int .i64 2, .int .i64 4] 2 (0, 0)
def arrW : Obj := .cells #[.int .i64 0, .int .i64 4, .int .i64 2, .int .i64 2] 2 (0, 0)
def stK : Nat → Option (Int × Int)
  | 0 => none
  | 1 => some (5, 0)
  | 2 => some (9, 1)
  | 3 => some (2, 2)
  | _ => some (4, 3)
def talK : Nat → Tal
  | 0 => ⟨0, 0, 0, 0, 0, 0, 0⟩
  | 1 => ⟨1, 1, 0, 0, 0, 0, 0⟩
  | 2 => ⟨2, 2, 0, 0, 0, 1, 0⟩
  | 3 => ⟨3, 3, 0, 0, 0, 2, 1⟩
  | _ => ⟨4, 4, 0, 0, 0, 3, 1⟩
theorem talK_b (k : Nat) : TB 100 (talK k) := by
  unfold talK
  split <;> (unfold TB; simp)
theorem gK0 : gA (stK 0) 5 0 = [] := by first | (simp [gA, stK]; done) | (simp [gA, stK, gainV, subV]; rfl)
theorem tK0 : tA (stK 0) 5 (talK 0) = talK 1 := by simp [tA, stK, talK, Tal.par, Tal.one]
theorem gK1 : gA (stK 1) 9 1 = [⟨nameA, 1, 4, false⟩] := by first | (simp [gA, stK, gainV, subV]; done) | (simp [gA, stK, gainV, subV]; rfl)
theorem tK1 : tA (stK 1) 9 (talK 1) = talK 2 := by simp [tA, stK, talK, gainV, subV, Tal.par, Tal.one, Tal.gain]
theorem gK2 : gA (stK 2) 2 2 = [⟨nameA, 2, 2, true⟩] := by first | (simp [gA, stK, gainV]; done) | (simp [gA, stK, gainV]; rfl)
theorem tK2 : tA (stK 2) 2 (talK 2) = talK 3 := by simp [tA, stK, talK, gainV, Tal.par, Tal.one, Tal.gain]
theorem gK3 : gA (stK 3) 4 3 = [⟨nameA, 3, 2, false⟩] := by first | (simp [gA, stK, gainV, subV]; done) | (simp [gA, stK, gainV, subV]; rfl)
theorem tK3 : tA (stK 3) 4 (talK 3) = talK 4 := by simp [tA, stK, talK, gainV, subV, Tal.par, Tal.one, Tal.gain]
theorem stK_ok (k : Nat) (p : Int × Int) (h : stK k = some p) (hk : k ≤ 4) : I64 p.1 ∧ p.2 < k := by
  have hc : k = 0 ∨ k = 1 ∨ k = 2 ∨ k = 3 ∨ k = 4 := by omega
  rcases hc with rfl | rfl | rfl | rfl | rfl <;> simp [stK] at h <;> subst h <;> exact ⟨⟨by simp, by simp⟩, by simp⟩
theorem gain_row {w : World} {a : Option Addr} {g : Gn} (hr : Rd w a (gnf [g])) : ∃ b off, a = some ⟨b, off, none⟩ ∧ b < w.heap.size ∧ w.cell? ⟨b, off + 2, none⟩ = some (.int .i64 g.inc) ∧ w.cell? ⟨b, off + 3, none⟩ = some (.bool g.reset) := by
  obtain ⟨b, off, rfl, hb, q0⟩ := hr.at (k := 0) (v := .string g.name) rfl
  refine ⟨b, off, rfl, hb, ?_, ?_⟩
  · obtain ⟨b', off', he, hc⟩ := hr 2 (.int .i64 g.inc) rfl
    cases he
    exact hc
  · obtain ⟨b', off', he, hc⟩ := hr 3 (.bool g.reset) rfl
    cases he
    exact hc
set_option maxHeartbeats 4000000 in
set_option maxRecDepth 100000 in
theorem known_any (w : World) :
    Calls Try.prog 8 #[] w fun e w' => e = .returned (.bool true) ∧ Below w.heap.size w w' := by
  go_enter Try.func8, Try.ntmps8
  go_wp2_with fail
  refine (anew_lv w 3).mono ?_
  rintro e w1 ⟨m, rfl, h1⟩
  have H1 := Lib.hid h1
  clear h1
  go_wp2_with fail
  have h2 := (H1.out.alloc arrV).alloc arrW
  rw [World.size_alloc] at h2
  obtain ⟨b1, hb1⟩ : ∃ b1, b1 = w1.heap.size := ⟨_, rfl⟩
  rw [← hb1] at h2
  have H2 := Lib.hid (show MLv w [(b1 + 1, arrW), (b1, arrV)] ((w1.alloc arrV).alloc arrW) m 3 (stK 0) (talK 0) from h2)
  clear h2
  simp only [← hb1]
  clear hb1
  go_loopw [4] (fun i wr => ∃ k : Nat, k ≤ 4 ∧ i = .int .i64 k ∧ MLv w [(b1 + 1, arrW), (b1, arrV)] wr m 3 (stK k) (talK k)) (fun i _ => 4 - (intOf i).toNat)
  case atStart => exact ⟨0, by omega, rfl, H2.out⟩
  case round =>
    obtain ⟨k, hk, rfl, hl⟩ := hrel
    have HV := Lib.hid (hl.keeps (p := (b1, arrV)) (by simp))
    have HL := Lib.hid hl
    clear hl
    have hc : k = 0 ∨ k = 1 ∨ k = 2 ∨ k = 3 ∨ k = 4 := by omega
    rcases hc with rfl | rfl | rfl | rfl | rfl
    · have c1 : wr.cell? ⟨b1, 0, none⟩ = some (.int .i64 5) := by rw [cell_of_row _ _ _ _ _ _ HV.out]; rfl
      go_wp2_with fail
      have hp := aput_lv (HL.out.alloc (.cells (smpA 5 0).cells 31 (0, 0))) (by omega) 5 0 ⟨by omega, by omega⟩ (fun p hp => stK_ok 0 p hp (by omega)) wr.heap.size 1 (by simp) 100 (talK_b 0) (by omega)
      refine hp.mono ?_
      clear hp
      rintro e w4 ⟨a1, ca1, a2, ca2, rfl, hr2, hl4⟩
      rw [gK0] at hr2 ⊢
      rw [tK0] at hl4
      have hl5 : MLv w [(b1 + 1, arrW), (b1, arrV)] w4 m 3 (stK 1) (talK 1) := by
        obtain ⟨s, F, k1, k2, k3⟩ := hl4
        exact ⟨s, F, k1, k2, fun p hp => k3 p (List.mem_cons_of_mem _ hp)⟩
      have HL5 := Lib.hid hl5
      have HW := Lib.hid (hl5.keeps (p := (b1 + 1, arrW)) (by simp))
      clear hl4 hl5
      clear hr2
      go_wp2
      go_quiet (fail)
      go_wp2
      go_roundw
      case rel => exact ⟨1, by omega, by go_num, HL5.out.step (below_drewN (Below.refl _ _) _)⟩
      case measure => simp [intOf]
    · have c1 : wr.cell? ⟨b1, 1, none⟩ = some (.int .i64 9) := by rw [cell_of_row _ _ _ _ _ _ HV.out]; rfl
      go_wp2_with fail
      have hp := aput_lv (HL.out.alloc (.cells (smpA 9 1).cells 31 (0, 0))) (by omega) 9 1 ⟨by omega, by omega⟩ (fun p hp => stK_ok 1 p hp (by omega)) wr.heap.size 1 (by simp) 100 (talK_b 1) (by omega)
      refine hp.mono ?_
      clear hp
      rintro e w4 ⟨a1, ca1, a2, ca2, rfl, hr2, hl4⟩
      rw [gK1] at hr2 ⊢
      rw [tK1] at hl4
      have hl5 : MLv w [(b1 + 1, arrW), (b1, arrV)] w4 m 3 (stK 2) (talK 2) := by
        obtain ⟨s, F, k1, k2, k3⟩ := hl4
        exact ⟨s, F, k1, k2, fun p hp => k3 p (List.mem_cons_of_mem _ hp)⟩
      have HL5 := Lib.hid hl5
      have HW := Lib.hid (hl5.keeps (p := (b1 + 1, arrW)) (by simp))
      clear hl4 hl5
      obtain ⟨bg, og, rfl, hbg, q2, q3⟩ := gain_row hr2
      simp only [] at q2 q3
      have c2 : w4.cell? ⟨b1 + 1, 1, none⟩ = some (.int .i64 4) := by rw [cell_of_row _ _ _ _ _ _ HW.out]; rfl
      clear hr2
      go_wp2
      go_quiet (fail)
      go_wp2
      go_roundw
      case rel => exact ⟨2, by omega, by go_num, HL5.out.step (below_drewN (Below.refl _ _) _)⟩
      case measure => simp [intOf]
    · have c1 : wr.cell? ⟨b1, 2, none⟩ = some (.int .i64 2) := by rw [cell_of_row _ _ _ _ _ _ HV.out]; rfl
      go_wp2_with fail
      have hp := aput_lv (HL.out.alloc (.cells (smpA 2 2).cells 31 (0, 0))) (by omega) 2 2 ⟨by omega, by omega⟩ (fun p hp => stK_ok 2 p hp (by omega)) wr.heap.size 1 (by simp) 100 (talK_b 2) (by omega)
      refine hp.mono ?_
      clear hp
      rintro e w4 ⟨a1, ca1, a2, ca2, rfl, hr2, hl4⟩
      rw [gK2] at hr2 ⊢
      rw [tK2] at hl4
      have hl5 : MLv w [(b1 + 1, arrW), (b1, arrV)] w4 m 3 (stK 3) (talK 3) := by
        obtain ⟨s, F, k1, k2, k3⟩ := hl4
        exact ⟨s, F, k1, k2, fun p hp => k3 p (List.mem_cons_of_mem _ hp)⟩
      have HL5 := Lib.hid hl5
      have HW := Lib.hid (hl5.keeps (p := (b1 + 1, arrW)) (by simp))
      clear hl4 hl5
      obtain ⟨bg, og, rfl, hbg, q2, q3⟩ := gain_row hr2
      simp only [] at q2 q3
      have c2 : w4.cell? ⟨b1 + 1, 2, none⟩ = some (.int .i64 2) := by rw [cell_of_row _ _ _ _ _ _ HW.out]; rfl
      clear hr2
      go_wp2
      go_quiet (fail)
      go_wp2
      go_roundw
      case rel => exact ⟨3, by omega, by go_num, HL5.out.step (below_drewN (Below.refl _ _) _)⟩
      case measure => simp [intOf]
    · have c1 : wr.cell? ⟨b1, 3, none⟩ = some (.int .i64 4) := by rw [cell_of_row _ _ _ _ _ _ HV.out]; rfl
      go_wp2_with fail
      have hp := aput_lv (HL.out.alloc (.cells (smpA 4 3).cells 31 (0, 0))) (by omega) 4 3 ⟨by omega, by omega⟩ (fun p hp => stK_ok 3 p hp (by omega)) wr.heap.size 1 (by simp) 100 (talK_b 3) (by omega)
      refine hp.mono ?_
      clear hp
      rintro e w4 ⟨a1, ca1, a2, ca2, rfl, hr2, hl4⟩
      rw [gK3] at hr2 ⊢
      rw [tK3] at hl4
      have hl5 : MLv w [(b1 + 1, arrW), (b1, arrV)] w4 m 3 (stK 4) (talK 4) := by
        obtain ⟨s, F, k1, k2, k3⟩ := hl4
        exact ⟨s, F, k1, k2, fun p hp => k3 p (List.mem_cons_of_mem _ hp)⟩
      have HL5 := Lib.hid hl5
      have HW := Lib.hid (hl5.keeps (p := (b1 + 1, arrW)) (by simp))
      clear hl4 hl5
      obtain ⟨bg, og, rfl, hbg, q2, q3⟩ := gain_row hr2
      simp only [] at q2 q3
      have c2 : w4.cell? ⟨b1 + 1, 3, none⟩ = some (.int .i64 2) := by rw [cell_of_row _ _ _ _ _ _ HW.out]; rfl
      clear hr2
      go_wp2
      go_quiet (fail)
      go_wp2
      go_roundw
      case rel => exact ⟨4, by omega, by go_num, HL5.out.step (below_drewN (Below.refl _ _) _)⟩
      case measure => simp [intOf]
    · go_wp2_with fail
      refine (atally_lv HL.out).mono ?_
      rintro e w5 ⟨rfl, hb⟩
      have HB := Lib.hid hb
      clear hb
      simp only [talK]
      go_wp2
      go_ret
      exact ⟨rfl, HB.out⟩
end Go.Proofs.Ythademifhnkbiaa
