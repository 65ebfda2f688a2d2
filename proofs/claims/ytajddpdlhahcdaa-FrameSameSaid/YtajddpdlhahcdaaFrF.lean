/- The walk over slices.EqualFunc at records. -/
import Derived.Test.YtajddpdlhahcdaaFrE
namespace Go.Proofs.Ytajddpdlhahcdaa
open Go.RowKit K
def fnRec : Value := .func (Fn.func 11) #[] #[]
set_option maxHeartbeats 2000000 in
theorem equalFunc_any (w : World) (a1 a2 : Option Addr) (c1 c2 : Nat) (xs ys : List Rec) (h1 : xs.length ≤ 1000000) (h2 : ys.length ≤ 1000000) (hr1 : Rd w a1 (rcf xs)) (hr2 : Rd w a2 (rcf ys)) :
    Calls Try.prog 10 #[.slice a1 xs.length c1, .slice a2 ys.length c2, .func (Fn.func 11) #[] #[]] w fun e w' => e = .returned (.bool (recsEq xs ys)) ∧ Below w.heap.size w w' := by
  have HR1 := Lib.hid hr1
  have HR2 := Lib.hid hr2
  clear hr1 hr2
  by_cases hl : xs.length = ys.length
  · have HLL := Lib.hid hl
    have hne : ((xs.length : Int) != (ys.length : Int)) = false := by rw [bne_eq_false_iff_eq]; omega
    clear hl
    go_enter Try.func10, Try.ntmps10
    go_wp2
    go_loopw [17] (fun i wr => ∃ k : Nat, k ≤ xs.length ∧ i = .int .i64 k ∧ Below w.heap.size w wr ∧ recsEq (xs.take k) (ys.take k) = true) (fun i _ => xs.length - (intOf i).toNat)
    case atStart => exact ⟨0, by omega, rfl, Below.refl _ _, rfl⟩
    case round =>
      obtain ⟨k, hk, rfl, hb, ht⟩ := hrel
      have HB := Lib.hid hb
      have HT := Lib.hid ht
      clear hb ht
      by_cases hlt : k < xs.length
      · have hlt2 : k < ys.length := by have := HLL.out; omega
        obtain ⟨b, off, rfl, hbl, hq⟩ := rec_cells (HR1.out.below HB.out (Nat.le_refl _)) hlt
        obtain ⟨b', off', rfl, hbl', hq'⟩ := rec_cells (HR2.out.below HB.out (Nat.le_refl _)) (show k < ys.length by have := HLL.out; omega)
        have HF := Lib.hid (recsEq_take xs ys k hlt hlt2 HLL.out HT.out)
        have HS := Lib.hid (recsEq_succ xs ys k hlt hlt2 HT.out)
        generalize xs[k] = x at hq HF HS
        generalize ys[k]'hlt2 = y at hq' HF HS
        have q0 := hq 0 _ (by omega) rfl
        have q1 := hq 1 _ (by omega) rfl
        have q2 := hq 2 _ (by omega) rfl
        have q3 := hq 3 _ (by omega) rfl
        have q4 := hq 4 _ (by omega) rfl
        have p0 := hq' 0 _ (by omega) rfl
        have p1 := hq' 1 _ (by omega) rfl
        have p2 := hq' 2 _ (by omega) rfl
        have p3 := hq' 3 _ (by omega) rfl
        have p4 := hq' 4 _ (by omega) rfl
        simp only [Nat.add_zero] at q0 p0
        have hb1 : b' < wr.heap.size + 1 := by omega
        clear hq hq'
        go_wp2_with fail
        refine (sameRec_any _ x y).mono ?_
        rintro e w2 ⟨rfl, hb2⟩
        have HB2 := Lib.hid (show Below w.heap.size w w2 from HB.out.trans ((((Below.refl wr.heap.size wr).alloc (Nat.le_refl _) _).alloc (by simp) _).trans (hb2.mono (by simp; omega)) |>.mono HB.out.size))
        clear hb2
        cases he : recEq x y with
        | false =>
          have HFF := Lib.hid (HF.out he)
          clear he
          go_wp2
          go_ret
          exact ⟨by rw [HFF.out]; rfl, HB2.out⟩
        | true =>
          have HSS := Lib.hid (HS.out he)
          clear he
          go_wp2
          go_roundw
          case rel => exact ⟨k + 1, by omega, by go_num, HB2.out, HSS.out⟩
          case measure => simp [intOf]; omega
      · obtain rfl : k = xs.length := by omega
        have HE := Lib.hid (show recsEq xs ys = true from by
          have := HT.out
          rw [List.take_length, HLL.out, List.take_length] at this
          exact this)
        go_wp2
        go_ret
        exact ⟨by rw [HE.out]; rfl, HB.out⟩
  · have HE := Lib.hid (recsEq_len xs ys hl)
    have hne : ((xs.length : Int) != (ys.length : Int)) = true := by rw [bne_iff_ne]; omega
    go_enter Try.func10, Try.ntmps10
    go_wp2
    go_ret
    exact ⟨by rw [HE.out]; rfl, Below.refl _ _⟩
end Go.Proofs.Ytajddpdlhahcdaa
