/- The walks over the references' Same. -/
import Derived.Test.YtdomnjakhecbaaaFrB
namespace Go.Proofs.Ytdomnjakhecbaaa
open Go.RowKit K
theorem run_neq_rec (w : World) (x y : Rec) : (binOp .neq 70 (.agg #[.string x.name, .int .i64 x.win, .int .i64 x.inc, .int .i64 x.rate, .bool x.over]) (.agg #[.string y.name, .int .i64 y.win, .int .i64 y.inc, .int .i64 y.rate, .bool y.over])).run Try.prog w = .ok (.bool (!recEq x y)) w := by
  obtain ⟨a, b, c, d, o⟩ := x
  obtain ⟨a2, b2, c2, d2, o2⟩ := y
  simp only [recEq]
  go_simp
  repeat' split
  all_goals simp_all
set_option maxHeartbeats 2000000 in
theorem rsame_any (w : World) (a1 a2 : Option Addr) (c1 c2 : Nat) (xs ys : List Rec) (h1 : xs.length ≤ 1000000) (_h2 : ys.length ≤ 1000000) (hr1 : Rd w a1 (rcf xs)) (hr2 : Rd w a2 (rcf ys)) :
    Calls Try.prog 56 #[.slice a1 xs.length c1, .slice a2 ys.length c2] w fun e w' => e = .returned (.bool (recsEq xs ys)) ∧ Below w.heap.size w w' := by
  have HR1 := Lib.hid hr1
  have HR2 := Lib.hid hr2
  clear hr1 hr2
  by_cases hl : xs.length = ys.length
  · have HLL := Lib.hid hl
    have hne : ((xs.length : Int) != (ys.length : Int)) = false := by rw [bne_eq_false_iff_eq]; omega
    clear hl
    go_enter Try.func56, Try.ntmps56
    go_wp2
    go_loopw [5] (fun i wr => ∃ k : Nat, k ≤ xs.length ∧ i = .int .i64 k ∧ Below w.heap.size w wr ∧ recsEq (xs.take k) (ys.take k) = true) (fun i _ => xs.length - (intOf i).toNat)
    case atStart => exact ⟨0, by omega, rfl, Below.refl _ _, rfl⟩
    case round =>
      obtain ⟨k, hk, rfl, hb, ht⟩ := hrel
      have HB := Lib.hid hb
      have HT := Lib.hid ht
      clear hb ht
      by_cases hlt : k < xs.length
      · have hlt2 : k < ys.length := by have := HLL.out; omega
        obtain ⟨b, off, rfl, hbl, hq⟩ := rec_cells (HR1.out.below HB.out (Nat.le_refl _)) hlt
        obtain ⟨b', off', rfl, hbl', hq'⟩ := rec_cells (HR2.out.below HB.out (Nat.le_refl _)) hlt2
        have HF := Lib.hid (recsEq_take xs ys k hlt hlt2 HLL.out HT.out)
        have HS := Lib.hid (recsEq_succ xs ys k hlt hlt2 HT.out)
        generalize xs[k] = x at hq HF HS
        generalize ys[k]'hlt2 = y at hq' HF HS
        have q0 := hq 0 _ (by omega) rfl
        have q1 := hq 1 _ (by omega) rfl
        have q2 := hq 2 _ (by omega) rfl
        have q3 := hq 3 _ (by omega) rfl
        have q4 := hq 4 _ (by omega) rfl
        have p0 := hq' 0 _ (by omega) rfl
        have p1 := hq' 1 _ (by omega) rfl
        have p2 := hq' 2 _ (by omega) rfl
        have p3 := hq' 3 _ (by omega) rfl
        have p4 := hq' 4 _ (by omega) rfl
        simp only [Nat.add_zero] at q0 p0
        have hrun := fun w => run_neq_rec w x y
        clear hq hq'
        have i1 : (0 : Int) ≤ (k : Int) := by omega
        have i2 : (k : Int) < xs.length := by omega
        have i3 : (k : Int) < ys.length := by omega
        cases he : recEq x y with
        | false =>
          have HFF := Lib.hid (HF.out he)
          rw [he] at hrun
          clear he
          go_wp2
          go_quiet (fail)
          clear q0 q1 q2 q3 q4 p0 p1 p2 p3 p4 hrun
          go_wp2
          go_ret
          exact ⟨by rw [HFF.out]; rfl, below_drewN HB.out _⟩
        | true =>
          have HSS := Lib.hid (HS.out he)
          rw [he] at hrun
          clear he
          go_wp2
          go_quiet (fail)
          clear q0 q1 q2 q3 q4 p0 p1 p2 p3 p4 hrun
          go_wp2
          go_roundw
          case rel => exact ⟨k + 1, by omega, by go_num, below_drewN HB.out _, HSS.out⟩
          case measure => simp [intOf]; omega
      · obtain rfl : k = xs.length := by omega
        have HE := Lib.hid (show recsEq xs ys = true from by
          have := HT.out
          rw [List.take_length, HLL.out, List.take_length] at this
          exact this)
        go_wp2
        go_ret
        exact ⟨by rw [HE.out]; rfl, HB.out⟩
  · have HE := Lib.hid (recsEq_len xs ys hl)
    have hne : ((xs.length : Int) != (ys.length : Int)) = true := by rw [bne_iff_ne]; omega
    go_enter Try.func56, Try.ntmps56
    go_wp2
    go_ret
    exact ⟨by rw [HE.out]; rfl, Below.refl _ _⟩
set_option maxHeartbeats 1000000 in
theorem rfsame_any (w : World) (q win q2 win2 : Int) (a1 a2 : Option Addr) (c1 c2 : Nat) (xs ys : List Rec) (h1 : xs.length ≤ 1000000) (h2 : ys.length ≤ 1000000) (hr1 : Rd w a1 (rcf xs)) (hr2 : Rd w a2 (rcf ys)) :
    Calls Try.prog 42 #[frv q win (.slice a1 xs.length c1), frv q2 win2 (.slice a2 ys.length c2)] w fun e w' => e = .returned (.bool (frEq q win xs q2 win2 ys)) ∧ Below w.heap.size w w' := by
  have HR1 := Lib.hid hr1
  have HR2 := Lib.hid hr2
  clear hr1 hr2
  unfold frv frEq
  by_cases hq : q = q2
  · subst hq
    by_cases hw : win = win2
    · subst hw
      go_enter Try.func42, Try.ntmps42
      go_wp2_with fail
      have hb : ∀ o1 o2, Below w.heap.size w ((w.alloc o1).alloc o2) := fun o1 o2 => ((Below.refl _ _).alloc (Nat.le_refl _) _).alloc (by simp) _
      refine (rsame_any _ _ _ _ _ xs ys h1 h2 (HR1.out.below (hb _ _) (Nat.le_refl _)) (HR2.out.below (hb _ _) (Nat.le_refl _))).mono ?_
      rintro e w2 ⟨rfl, hb2⟩
      have HB := Lib.hid ((hb _ _).trans (hb2.mono (by simp; omega)))
      clear hb2 hb
      go_wp2
      go_ret
      exact ⟨by simp, HB.out⟩
    · have hw2 : (win == win2) = false := by simpa using hw
      go_enter Try.func42, Try.ntmps42
      go_wp2
      go_ret
      exact ⟨by simp [hw2], ((Below.refl _ _).alloc (Nat.le_refl _) _).alloc (by simp) _⟩
  · have hq2 : (q == q2) = false := by simpa using hq
    go_enter Try.func42, Try.ntmps42
    go_wp2
    go_ret
    exact ⟨by simp [hq2], ((Below.refl _ _).alloc (Nat.le_refl _) _).alloc (by simp) _⟩
end Go.Proofs.Ytdomnjakhecbaaa
