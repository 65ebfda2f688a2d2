/- The walk over the law DeltaGain. -/
import Derived.Test.YthademifhnkbiaaDlK
namespace Go.Proofs.Ythademifhnkbiaa
open Go.RowKit K
set_option maxHeartbeats 1000000 in
theorem refGain_any (w : World) (ahead value : Int) (ha : I64 ahead) (hv : I64 value) :
    Calls Try.prog 12 #[.int .i64 ahead, .int .i64 value] w fun e w' => e = .returned (.tuple #[.int .i64 (gainV ahead value).1, .bool (gainV ahead value).2]) ∧ w' = w := by
  unfold gainV subV
  unfold I64 at ha hv
  by_cases h : value < ahead
  · rw [if_pos h]
    simp only
    by_cases h0 : value < 0
    · rw [show max value 0 = 0 by omega]
      go_enter Try.func12, Try.ntmps12
      go_wp2
      go_ret2
      exact ⟨rfl, rfl⟩
    · rw [show max value 0 = value by omega]
      go_enter Try.func12, Try.ntmps12
      go_wp2
      go_ret2
      exact ⟨rfl, rfl⟩
  · rw [if_neg h]
    simp only
    by_cases h0 : 9223372036854775807 < value - ahead
    · rw [if_pos h0]
      have h1 : IntKind.wrap .i64 (value - ahead) = value - ahead - 18446744073709551616 := by
        rw [IntKind.wrap_i64]; omega
      go_enter Try.func12, Try.ntmps12
      go_wp2
      go_ret2
      exact ⟨rfl, rfl⟩
    · rw [if_neg h0]
      go_enter Try.func12, Try.ntmps12
      go_wp2
      go_ret2
      exact ⟨rfl, rfl⟩
theorem gainV_nonneg (ahead value : Int) : 0 ≤ (gainV ahead value).1 := by
  unfold gainV
  split
  · simp only; omega
  · exact subV_nonneg (by omega)
set_option maxHeartbeats 1000000 in
theorem deltaGain_any (w : World) (ahead value : Int) (ha : I64 ahead) (hv : I64 value) :
    Calls Try.prog 4 #[.int .i64 ahead, .int .i64 value] w fun e w' => e = .returned (.bool true) ∧ Below w.heap.size w w' := by
  have hg := gain_any w ahead value ha hv
  have hr := refGain_any w ahead value ha hv
  have hn := gainV_nonneg ahead value
  generalize gainV ahead value = gp at hg hr hn
  obtain ⟨n, r⟩ := gp
  simp only at hg hr hn
  have HG := Lib.hid hg
  have HR := Lib.hid hr
  clear hg hr
  go_enter Try.func4, Try.ntmps4
  go_wp2_with fail
  refine HG.out.mono ?_
  rintro e w1 ⟨rfl, hw1⟩
  rw [hw1]
  clear hw1
  go_wp2_with fail
  refine HR.out.mono ?_
  rintro e w1 ⟨rfl, hw1⟩
  rw [hw1]
  clear hw1
  go_wp2_with fail
  refine (known_any w).mono ?_
  rintro e w2 ⟨rfl, hb2⟩
  go_wp2
  go_ret
  exact ⟨rfl, hb2⟩
end Go.Proofs.Ythademifhnkbiaa
