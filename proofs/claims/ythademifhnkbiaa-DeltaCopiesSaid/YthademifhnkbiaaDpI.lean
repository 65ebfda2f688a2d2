/- The walks over the reference's SameSeen and SameGains at equal lists, and over its meter's New. -/
import Derived.Test.YthademifhnkbiaaDpH
import Derived.Test.YthademifhnkbiaaDlH
namespace Go.Proofs.Ythademifhnkbiaa
open Go.RowKit K
set_option maxHeartbeats 1000000 in
theorem sameSeen_any (w : World) (a b : Option Addr) (c d : Nat) (l : List Sn) (hl : l.length ≤ 1000000) (h1 : Rd w a (snf l)) (h2 : Rd w b (snf l)) :
    Calls Try.prog 29 #[.slice a l.length c, .slice b l.length d] w fun e w' => e = .returned (.bool true) ∧ ∃ n, w' = w.drewN n := by
  have H1 := Lib.hid h1
  have H2 := Lib.hid h2
  clear h1 h2
  go_enter Try.func29, Try.ntmps29
  go_wp2
  go_loopw [5] (fun i wr => ∃ k m : Nat, k ≤ l.length ∧ i = .int .i64 k ∧ wr = w.drewN m) (fun i _ => l.length - (intOf i).toNat)
  case atStart => exact ⟨0, 0, by omega, rfl, rfl⟩
  case round =>
    obtain ⟨k, m, hk, rfl, rfl⟩ := hrel
    by_cases hlt : k < l.length
    · obtain ⟨b1, o1, rfl, hb1, hq1⟩ := seen_cells H1.out hlt
      obtain ⟨b2, o2, rfl, hb2, hq2⟩ := seen_cells H2.out hlt
      generalize l[k] = x at hq1 hq2
      obtain ⟨⟨n, v, t, cc⟩, vd, ch, ahd⟩ := x
      have p0 := hq1 0 _ (by omega) rfl
      have p1 := hq1 1 _ (by omega) rfl
      have p2 := hq1 2 _ (by omega) rfl
      have p3 := hq1 3 _ (by omega) rfl
      have p4 := hq1 4 _ (by omega) rfl
      have p5 := hq1 5 _ (by omega) rfl
      have p6 := hq1 6 _ (by omega) rfl
      have q0 := hq2 0 _ (by omega) rfl
      have q1 := hq2 1 _ (by omega) rfl
      have q2 := hq2 2 _ (by omega) rfl
      have q3 := hq2 3 _ (by omega) rfl
      have q4 := hq2 4 _ (by omega) rfl
      have q5 := hq2 5 _ (by omega) rfl
      have q6 := hq2 6 _ (by omega) rfl
      simp only [Nat.add_zero] at p0 q0
      clear hq1 hq2
      go_wp2_with fail
      go_quiet (fail)
      go_wp2
      go_roundw
      case rel => exact ⟨k + 1, _, by omega, by go_num, rfl⟩
      case measure => simp [intOf]; omega
    · obtain rfl : k = l.length := by omega
      go_wp2
      go_ret
      exact ⟨rfl, _, rfl⟩
theorem gnf_get {l : List Gn} {i j : Nat} (h : i < l.length) (hj : j < 4) : (gnf l)[4 * i + j]? = l[i].cells.toList[j]? := flat_get _ 4 (fun _ => rfl) l i j _ (by simp [h]) hj
theorem gain_cells {w : World} {a : Option Addr} {l : List Gn} (hr : Rd w a (gnf l)) {k : Nat} (h : k < l.length) : ∃ b off, a = some ⟨b, off, none⟩ ∧ b < w.heap.size ∧ ∀ j v, j < 4 → l[k].cells.toList[j]? = some v → w.cell? ⟨b, off + k * 4 + j, none⟩ = some v := by
  obtain ⟨b, off, rfl, hb, q0⟩ := hr.at (gnf_get (j := 0) h (by omega))
  refine ⟨b, off, rfl, hb, fun j v hj hv => ?_⟩
  obtain ⟨b', off', he, hc⟩ := hr _ _ ((gnf_get h hj).trans hv)
  cases he
  rw [← hc]
  congr 2
  omega
set_option maxHeartbeats 1000000 in
theorem sameGains_any (w : World) (a b : Option Addr) (c d : Nat) (l : List Gn) (hl : l.length ≤ 1000000) (h1 : Rd w a (gnf l)) (h2 : Rd w b (gnf l)) :
    Calls Try.prog 30 #[.slice a l.length c, .slice b l.length d] w fun e w' => e = .returned (.bool true) ∧ ∃ n, w' = w.drewN n := by
  have H1 := Lib.hid h1
  have H2 := Lib.hid h2
  clear h1 h2
  go_enter Try.func30, Try.ntmps30
  go_wp2
  go_loopw [5] (fun i wr => ∃ k m : Nat, k ≤ l.length ∧ i = .int .i64 k ∧ wr = w.drewN m) (fun i _ => l.length - (intOf i).toNat)
  case atStart => exact ⟨0, 0, by omega, rfl, rfl⟩
  case round =>
    obtain ⟨k, m, hk, rfl, rfl⟩ := hrel
    by_cases hlt : k < l.length
    · obtain ⟨b1, o1, rfl, hb1, hq1⟩ := gain_cells H1.out hlt
      obtain ⟨b2, o2, rfl, hb2, hq2⟩ := gain_cells H2.out hlt
      generalize l[k] = x at hq1 hq2
      obtain ⟨n, t, inc, rs⟩ := x
      have p0 := hq1 0 _ (by omega) rfl
      have p1 := hq1 1 _ (by omega) rfl
      have p2 := hq1 2 _ (by omega) rfl
      have p3 := hq1 3 _ (by omega) rfl
      have q0 := hq2 0 _ (by omega) rfl
      have q1 := hq2 1 _ (by omega) rfl
      have q2 := hq2 2 _ (by omega) rfl
      have q3 := hq2 3 _ (by omega) rfl
      simp only [Nat.add_zero] at p0 q0
      clear hq1 hq2
      go_wp2_with fail
      go_quiet (fail)
      go_wp2
      go_roundw
      case rel => exact ⟨k + 1, _, by omega, by go_num, rfl⟩
      case measure => simp [intOf]; omega
    · obtain rfl : k = l.length := by omega
      go_wp2
      go_ret
      exact ⟨rfl, _, rfl⟩
/-- The reference's meter. -/
def RmIs (w : World) (B m r : Nat) (most : Int) (L : List SV) (G : Nat → Prop) (tal : Tal) : Prop :=
  w.heap[m]? = some (.cells (mcells r tal) 57 (0, 0)) ∧ RsIs w B r most L G ∧ ¬ G m ∧ B ≤ m
def RmNew (w : World) (x : Int) (e : Ending) (w' : World) : Prop := ∃ m r G, e = .returned (.pointer (some ⟨m, 0, none⟩)) ∧ RmIs w' w.heap.size m r (max x 0) [] G tal0 ∧ Below w.heap.size w w'
set_option maxHeartbeats 1000000 in
theorem rmnew_any (w : World) (x : Int) :
    Calls Try.prog 14 #[.int .i64 x] w (RmNew w x) := by
  go_enter Try.func14, Try.ntmps14
  go_wp2_with fail
  refine (rsnew_any w w.heap.size (Nat.le_refl _) x).mono ?_
  rintro e w1 ⟨r, G, rfl, h1, h2, h3⟩
  have HP := Lib.hid (show RmNew w x (.returned (.pointer (some ⟨w1.heap.size, 0, none⟩))) (w1.alloc (.cells (mcells r tal0) 57)) from
    ⟨_, r, G, rfl, ⟨heap_alloc_new w1 _, h1.new ((Below.refl _ _).alloc (Nat.le_refl _) _), fun h => by have := h1.lt _ h; omega, h2.size⟩, h2.alloc h2.size _⟩)
  clear h1 h2 h3
  go_wp2
  go_ret
  exact HP.out
end Go.Proofs.Ythademifhnkbiaa
