/- How long a frame is let alone: the walks over the queue's wait and the reference's Wait. -/
import Derived.Test.YtdomnjakhecbaaaQuB
namespace Go.Proofs.Ytdomnjakhecbaaa
open Go.RowKit K
def dbl (longest : Int) : Nat → Int → Int
  | 0, m => min m longest
  | k + 1, m => if longest / 2 < m then longest else dbl longest k (m * 2)
theorem dbl_succ (longest : Int) (k : Nat) (m : Int) : dbl longest (k + 1) m = if longest / 2 < m then longest else dbl longest k (m * 2) := rfl
theorem dbl_zero (longest m : Int) : dbl longest 0 m = min m longest := rfl
theorem dbl_top (longest : Int) (h : 1 ≤ longest) : ∀ k, dbl longest k longest = longest
  | 0 => by simp [dbl]
  | k + 1 => by
    unfold dbl
    rw [if_pos (by omega)]
set_option maxHeartbeats 1000000 in
theorem wait_any (w : World) (g : Nat) (v : Value) (s : QR) (h : QBox w g v s) (t : Nat) (ht : s.tries = t) (ht2 : t ≤ 9223372036854775806) (hb1 : 1 ≤ s.base) (hb2 : s.base ≤ s.longest) (hl : s.longest ≤ 9223372036854775807) :
    Calls Try.prog 37 #[.pointer (some ⟨g, 0, none⟩)] w fun e w' => e = .returned (.int .i64 (dbl s.longest t s.base)) ∧ w = w' := by
  obtain ⟨most, base, longest, put, acked, dropped, sink, time, tries⟩ := s
  simp only [] at ht hb1 hb2 hl
  subst ht
  have c2 : w.cell? ⟨g, 2, none⟩ = some (.int .i64 base) := h.cell 2
  have c3 : w.cell? ⟨g, 3, none⟩ = some (.int .i64 longest) := h.cell 3
  have c9 : w.cell? ⟨g, 9, none⟩ = some (.int .i64 t) := h.cell 9
  clear h
  go_enter Try.func37, Try.ntmps37
  go_wp2
  go_loop [3, 12] (fun x i => ∃ (k : Nat) (m : Int), k ≤ t ∧ i = .int .i64 k ∧ x = .int .i64 m ∧ 1 ≤ m ∧ m ≤ longest ∧ dbl longest (t - k) m = dbl longest t base) (fun _ i => t - (intOf i).toNat)
  case atStart => exact ⟨0, base, by omega, rfl, rfl, hb1, hb2, rfl⟩
  case round =>
    obtain ⟨k, m, hk, rfl, rfl, hm1, hm2, hd⟩ := hrel
    by_cases hlt : k < t
    · have hs : t - k = (t - (k + 1)) + 1 := by omega
      rw [hs] at hd
      rw [dbl_succ] at hd
      by_cases hc : longest / 2 < m
      · rw [if_pos hc] at hd
        have HD := Lib.hid hd
        clear hd hs
        go_wp2
        go_ret
        exact ⟨by rw [← HD.out]; rfl, rfl⟩
      · rw [if_neg hc] at hd
        have HD := Lib.hid hd
        clear hd hs
        go_wp2
        go_round
        case rel => exact ⟨k + 1, m * 2, by omega, by go_num, by go_num, by omega, by omega, HD.out⟩
        case measure => simp [intOf]; omega
    · obtain rfl : k = t := by omega
      rw [Nat.sub_self] at hd
      have HD := Lib.hid (show m = dbl longest k base by rw [← hd, dbl_zero]; omega)
      clear hd
      go_wp2
      all_goals
        go_ret
        refine ⟨?_, rfl⟩
        rw [← HD.out]
        try rfl
end Go.Proofs.Ytdomnjakhecbaaa
