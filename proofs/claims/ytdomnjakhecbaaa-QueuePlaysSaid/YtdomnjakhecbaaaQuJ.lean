/- The walk over the chapter's rows. -/
import Derived.Test.YtdomnjakhecbaaaQuI
import Derived.Test.YtdomnjakhecbaaaRRh
namespace Go.Proofs.Ytdomnjakhecbaaa
open Go.RowKit K
def tmK : Nat → Int
  | 0 => once
  | 1 => 10
  | 2 => 30
  | _ => 55
def nowK : Nat → Int
  | 0 => 0
  | 1 => 10
  | 2 => 30
  | _ => 55
def sK (k : Nat) : QR := ⟨2, 10, 25, 1, 0, 0, false, tmK k, k⟩
def fK : Frm := ⟨1, 3, [recA 3]⟩
def arrT : Obj := .cells #[.int .i64 10, .int .i64 30, .int .i64 55] 2 (0, 0)
def KnI (w0 : World) (g T k : Nat) (wr : World) : Prop := QLv w0 [(T, arrT)] g (sK k) [fK] wr
theorem tmK_le (k : Nat) (h : k < 3) : tmK k ≤ nowK k := by
  have h3 : k = 0 ∨ k = 1 ∨ k = 2 := by omega
  rcases h3 with rfl | rfl | rfl <;> decide
theorem nowK_b (k : Nat) : 0 ≤ nowK k ∧ nowK k ≤ 55 := by
  have h3 : k = 0 ∨ k = 1 ∨ k = 2 ∨ 3 ≤ k := by omega
  rcases h3 with rfl | rfl | rfl | h
  · decide
  · decide
  · decide
  · obtain ⟨m, rfl⟩ : ∃ m, k = m + 3 := ⟨k - 3, by omega⟩
    exact ⟨(show (0 : Int) ≤ 55 by omega), (show (55 : Int) ≤ 55 by omega)⟩
theorem sK_next (k : Nat) (h : k < 3) : ({ ({ sK k with sink := true } : QR) with sink := false, time := if nowK k ≤ 9223372036854775807 - dbl 25 (k : Int).toNat 10 then nowK k + dbl 25 (k : Int).toNat 10 else 9223372036854775807, tries := (k : Int) + 1 } : QR) = sK (k + 1) := by
  have h3 : k = 0 ∨ k = 1 ∨ k = 2 := by omega
  rcases h3 with rfl | rfl | rfl <;> rfl
theorem tmK_now (k : Nat) (h : k < 3) : tmK (k + 1) = nowK (k + 1) := by
  have h3 : k = 0 ∨ k = 1 ∨ k = 2 := by omega
  rcases h3 with rfl | rfl | rfl <;> rfl
theorem arrT_at (k : Nat) (h : k < 3) {w : World} {T : Nat} (hw : w.heap[T]? = some arrT) : w.cell? ⟨T, k, none⟩ = some (.int .i64 (nowK (k + 1))) := by
  rw [cell_of_row _ _ _ _ _ _ hw]
  have h3 : k = 0 ∨ k = 1 ∨ k = 2 := by omega
  rcases h3 with rfl | rfl | rfl <;> rfl
theorem nextK (k : Nat) (h : k < 3) : nextV 1 (sK (k + 1)) = .tuple #[.int .i64 (nowK (k + 1)), .bool true] := by
  unfold nextV
  rw [if_neg (by simp [sK])]
  show Value.tuple #[.int .i64 (tmK (k + 1)), .bool true] = _
  rw [tmK_now k h]
set_option maxHeartbeats 2000000 in
set_option maxRecDepth 100000 in
theorem known_any (w : World) :
    Calls Try.prog 7 #[] w fun e w' => e = .returned (.bool true) ∧ Below w.heap.size w w' := by
  go_enter Try.func7, Try.ntmps7
  go_wp2_with fail
  refine (lnew w 2 10 25).mono ?_
  rintro e w1 ⟨rfl, h1⟩
  go_wp2_with fail
  refine (record_any w1 3).mono ?_
  rintro e w2 ⟨b, rfl, hb, hr2, hbl⟩
  have h2 := h1.step hbl
  have HP := Lib.hid (lput h2 3 (some ⟨b, 0, none⟩) 1 [recA 3] (by simp) (by omega) (by simp) (by simp) hr2 (fun x hx => by simp at hx; subst hx; exact (recA_fit 3 (by omega)).1) (by decide) (by decide) (by decide))
  have hpr : putR (newQ 2 10 25) [] 3 [recA 3] = ((1, 0), sK 0, [fK]) := by
    unfold putR
    rw [if_neg (by rw [show (newQ 2 10 25).put + 1 = 1 from rfl, recA_may 1 3 (by omega)]; simp), if_neg (by decide)]
    rfl
  rw [hpr] at HP
  clear h1 hbl h2 hr2 hpr hb
  go_wp2_with fail
  refine HP.out.mono ?_
  rintro e w3 ⟨rfl, h3⟩
  go_wp2_with fail
  have h4 := h3.alloc arrT
  obtain ⟨T, hT⟩ : ∃ T, T = w3.heap.size := ⟨_, rfl⟩
  rw [← hT] at h4 ⊢
  have H4 := Lib.hid (show KnI w w.heap.size T 0 (w3.alloc arrT) from h4)
  clear h3 h4 hT HP
  go_loopw [5, 6] (fun nw i wr => ∃ k : Nat, k ≤ 3 ∧ i = .int .i64 k ∧ nw = .int .i64 (nowK k) ∧ KnI w w.heap.size T k wr) (fun _ i _ => 3 - (intOf i).toNat)
  case atStart => exact ⟨0, by omega, rfl, rfl, H4.out⟩
  case round =>
    obtain ⟨k, hk, rfl, rfl, hI⟩ := hrel
    have HI := Lib.hid hI
    have HBEL := Lib.hid hI.bel
    clear hI H4
    by_cases hlt : k < 3
    · have hnb := nowK_b k
      have hnb2 := nowK_b (k + 1)
      obtain ⟨nw, hnw⟩ : ∃ nw, nw = nowK k := ⟨_, rfl⟩
      obtain ⟨nx, hnx⟩ : ∃ nx, nx = nowK (k + 1) := ⟨_, rfl⟩
      rw [← hnw] at hnb ⊢
      rw [← hnx] at hnb2
      have HNW := Lib.hid hnw
      have HNX := Lib.hid hnx
      have HH := Lib.hid (lhand HI.out nw (fun x hx => by simp at hx; subst hx; exact frmA_ok 1 3 (by omega) (by omega) (by omega)) (by simp) rfl (by rw [hnw]; exact tmK_le k hlt))
      clear hnw hnx
      go_wp2_with fail
      refine HH.out.mono ?_
      rintro e w5 ⟨a, c, rfl, hc1, hc2, hrd, h5⟩
      have HD := Lib.hid (rdecode_ok w5 1 3 a c [recA 3] _ rfl (by omega) (by omega) (by omega) (fun x hx => by simp at hx; subst hx; exact recA_fit 3 (by omega)) (recA_may 1 3 (by omega)) hc1 hc2 hrd)
      have H5 := Lib.hid h5
      clear hc1 hc2 hrd h5 HH
      go_wp2_with fail
      refine HD.out.mono ?_
      rintro e w6 ⟨a2, c2, rfl, hrd2, hb6⟩
      unfold frv
      have h6 := H5.out.step hb6
      have h7 := h6.step ((Below.refl _ w6).alloc (Nat.le_refl _) (.cells #[.int .u64 1, .int .i64 3, .slice a2 1 c2] 38))
      have HA := Lib.hid (lanswer_off h7 nw rfl (show (1 : Int) ≤ 10 by omega) (show (10 : Int) ≤ 25 by omega) (show (25 : Int) ≤ 9223372036854775807 by omega) (by omega) k rfl (by omega))
      clear h6 h7 H5 HD hrd2 hb6
      go_wp2_with fail
      refine HA.out.mono ?_
      rintro e w8 ⟨rfl, h8⟩
      have h9 : KnI w w.heap.size T (k + 1) w8 := by
        unfold KnI
        rw [← sK_next k hlt, ← HNW.out]
        exact h8
      have HNE := Lib.hid (show Calls Try.prog 11 #[.pointer (some ⟨w.heap.size, 0, none⟩)] w8 fun e w' => e = .returned (.tuple #[.int .i64 nx, .bool true]) ∧ w8 = w' by
        have hh := lnext h9
        rw [show [fK].length = 1 from rfl, nextK k hlt, ← HNX.out] at hh
        exact hh)
      have hT8 : w8.cell? ⟨T, k, none⟩ = some (.int .i64 nx) := by
        rw [HNX.out]
        exact arrT_at k hlt (h9.keeps (p := (T, arrT)) (by simp))
      have H9 := Lib.hid h9
      clear h8 h9 HA
      go_wp2_with fail
      refine HNE.out.mono ?_
      rintro e w9 ⟨rfl, rfl⟩
      go_wp2
      go_roundw
      case rel => exact ⟨k + 1, by omega, by go_num, by rw [← HNX.out], H9.out⟩
      case measure => simp [intOf]; omega
    · obtain rfl : k = 3 := by omega
      have HT := Lib.hid (show Calls Try.prog 26 #[.pointer (some ⟨w.heap.size, 0, none⟩)] wr fun e w' => e = .returned (.int .i64 3) ∧ wr = w' from ltries HI.out)
      have HW := Lib.hid (show Calls Try.prog 16 #[.pointer (some ⟨w.heap.size, 0, none⟩)] wr fun e w' => e = .returned (.int .i64 1) ∧ wr = w' from lwaiting HI.out)
      go_wp2_with fail
      refine HT.out.mono ?_
      rintro e w5 ⟨rfl, rfl⟩
      go_wp2_with fail
      refine HW.out.mono ?_
      rintro e w5 ⟨rfl, rfl⟩
      go_wp2
      go_ret
      exact ⟨rfl, HBEL.out⟩
end Go.Proofs.Ytdomnjakhecbaaa
