/- The walk over the reference's sum: four bytes. -/
import Derived.Test.YtdomnjakhecbaaaRSum
import Derived.Test.YtdomnjakhecbaaaFrP
namespace Go.Proofs.Ytdomnjakhecbaaa
open Go.RowKit K
theorem bv_sum4 (s : Nat) (h : s < 4294967296) : bv (sum4 s) = [.int .u8 ((s : Int) / 16777216), .int .u8 ((s : Int) / 65536 % 256), .int .u8 ((s : Int) / 256 % 256), .int .u8 ((s : Int) % 256)] := sum4_bv s h
set_option maxHeartbeats 400000 in
theorem rsum4_any (a : Option Addr) (c : Nat) (l : List UInt8) (w : World) (hl : l.length ≤ 140737488355328) (hr : Rd w a (bv l)) :
    Calls Try.prog 34 #[.slice a l.length c] w fun e w' => e = .returned (.slice (some ⟨w.heap.size, 0, none⟩) 4 4) ∧ Rd w' (some ⟨w.heap.size, 0, none⟩) (bv (sum4 (sumOf l))) ∧ Below w.heap.size w w' := by
  have hc := rsum_any a c l w hl hr
  have HC := Lib.hid hc
  clear hc hr
  go_enter Try.func34, Try.ntmps34
  go_wp2_with fail
  refine HC.out.mono ?_
  rintro e w1 ⟨rfl, rfl⟩
  have hs4 : sumOf l < 4294967296 := sumOf_lt l
  have HB := Lib.hid (bv_sum4 (sumOf l) hs4)
  obtain ⟨s, hs⟩ : ∃ s, s = sumOf l := ⟨_, rfl⟩
  have HSS := Lib.hid hs
  rw [← hs] at hs4 HB ⊢
  clear hs HC
  go_wp2
  go_ret
  refine ⟨rfl, ?_, ?_⟩
  · rw [← HSS.out, HB.out]
    exact Rd.new _ _ _ _ _ (fun k v h => by simpa using h)
  · go_grown
end Go.Proofs.Ytdomnjakhecbaaa
