/- The walks over fix.Sub and delta.Gain. -/
import Derived.Test.YthademifhnkbiaaDlC
namespace Go.Proofs.Ythademifhnkbiaa
open Go.RowKit K
def I64 (x : Int) : Prop := -9223372036854775808 ≤ x ∧ x ≤ 9223372036854775807
def subV (a b : Int) : Int := if 9223372036854775807 < a - b then 9223372036854775807 else a - b
set_option maxHeartbeats 1000000 in
theorem sub_any (w : World) (a b : Int) (ha : I64 a) (hb : I64 b) (hab : b ≤ a) :
    ∃ o, Calls Try.prog 26 #[.int .i64 a, .int .i64 b] w fun e w' => e = .returned (.tuple #[.int .i64 (subV a b), .bool o]) ∧ w' = w := by
  unfold subV
  unfold I64 at ha hb
  by_cases h : 9223372036854775807 < a - b
  · refine ⟨true, ?_⟩
    rw [if_pos h]
    have h1 : IntKind.wrap .i64 (a - b) = a - b - 18446744073709551616 := by
      rw [IntKind.wrap_i64]; omega
    go_enter Try.func26, Try.ntmps26
    go_wp2
    go_ret2
    exact ⟨rfl, rfl⟩
  · refine ⟨false, ?_⟩
    rw [if_neg h]
    go_enter Try.func26, Try.ntmps26
    go_wp2
    all_goals (go_ret2; exact ⟨rfl, rfl⟩)
def gainV (ahead value : Int) : Int × Bool := if value < ahead then (max value 0, true) else (subV value ahead, false)
theorem subV_nonneg {a b : Int} (h : b ≤ a) : 0 ≤ subV a b := by unfold subV; split <;> omega
set_option maxHeartbeats 1000000 in
theorem gain_any (w : World) (ahead value : Int) (ha : I64 ahead) (hv : I64 value) :
    Calls Try.prog 11 #[.int .i64 ahead, .int .i64 value] w fun e w' => e = .returned (.tuple #[.int .i64 (gainV ahead value).1, .bool (gainV ahead value).2]) ∧ w' = w := by
  unfold gainV
  by_cases h : value < ahead
  · rw [if_pos h]
    simp only
    obtain ⟨mx, hmx⟩ : ∃ mx, max value 0 = mx := ⟨_, rfl⟩
    rw [hmx]
    have HM := Lib.hid hmx
    clear hmx
    go_enter Try.func11, Try.ntmps11
    go_wp2_with (first | (with_reducible refine step_max rfl _ _ _ rfl value 0 rfl rfl mx HM.out ?_) | fail)
    go_ret2
    exact ⟨rfl, rfl⟩
  · rw [if_neg h]
    simp only
    obtain ⟨o, hs⟩ := sub_any w value ahead hv ha (by omega)
    have hn := subV_nonneg (a := value) (b := ahead) (by omega)
    generalize subV value ahead = d at hs hn
    have HM := Lib.hid (show max d 0 = d by omega)
    have HS := Lib.hid hs
    clear hs hn
    go_enter Try.func11, Try.ntmps11
    go_wp2_with fail
    refine HS.out.mono ?_
    rintro e w' ⟨rfl, rfl⟩
    go_wp2_with (first | (with_reducible refine step_max rfl _ _ _ rfl d 0 rfl rfl d HM.out ?_) | fail)
    go_ret2
    exact ⟨rfl, rfl⟩
end Go.Proofs.Ythademifhnkbiaa
