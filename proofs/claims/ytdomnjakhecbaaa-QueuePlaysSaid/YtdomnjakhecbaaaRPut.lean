/- The walks over the reference's Put and Signed. -/
import Derived.Test.YtdomnjakhecbaaaPutV
namespace Go.Proofs.Ytdomnjakhecbaaa
open Go.RowKit
set_option maxHeartbeats 400000 in
set_option maxRecDepth 100000 in
theorem rput_any (n : Nat) (w : World) (hn : n < 18446744073709551616) :
    Calls Try.prog 57 #[.int .u64 n] w fun e w' =>
      ∃ v, e = .returned v ∧ w'.ownsRow w.heap.size 5 1 v (putU n).length (K.bv (putU n)) ∧ Below w.heap.size w w' := by
  obtain ⟨i0, hi, hz0, hz1, hz2⟩ := info_parts info_byte
  go_enter Try.func57, Try.ntmps57
  go_wp2
  go_loopw [3, 0] (fun v x wr => ∃ (k m : Nat) (pre : List UInt8), pre.length + k = 9 ∧ x = .int .u64 m ∧ m < 128 ^ (k + 1) ∧ m < 18446744073709551616 ∧ pre ++ putF k m = putU n ∧ K.App wr w.heap.size 5 1 v pre.length (K.bv pre) ∧ Below w.heap.size w wr) (fun _ x _ => (intOf x).toNat)
  case atStart => exact ⟨9, n, [], rfl, rfl, by omega, hn, rfl, .inl (World.ownsRow_nil _ _ _ _), Below.refl _ _⟩
  case round =>
    obtain ⟨k, m, pre, hk, rfl, hm, hm2, hp, hap, hb⟩ := hrel
    have HP := Lib.hid hp
    have HAP := Lib.hid hap
    clear hp hap
    by_cases hlt : 128 ≤ m
    · cases k with
      | zero => exact absurd hm (by omega)
      | succ k =>
        have hbyte : Value.int .u8 ((m : Int) % 128 + 128) = .int .u8 ((UInt8.ofNat (m % 128 + 128)).toNat : Int) := by
          congr 1
          simp
          omega
        have HB := Lib.hid hbyte
        clear hbyte
        have hpl : pre.length ≤ 9 := by omega
        go_wp2_with (first
          | (at_builtin; refine K.step_append_app _ rfl _ _ 34 rfl w.heap.size 5 i0 (.int .u8 0) 1 1 Try.underlying34 hi hz0 hz1 hz2 rfl (by decide) _ _ _ rfl (HAP.out.alloc _) ⟨wr.heap.size, 0, none⟩ 1 1 [.int .u8 ((m : Int) % 128 + 128)] rfl rfl (K.one_new _ _ _) ?c1 (by decide) ?c2 ?c3 ?c4 ?_)
          | fail)
        case c1 => first | (intro u hu; simp at hu; subst hu; rfl) | rfl
        case c2 => unfold maxLen; omega
        case c3 => omega
        case c4 => have := hb.size; simp; omega
        intro v' w2 hown hb2
        go_wp2
        go_roundw
        case rel =>
          refine ⟨k, m / 128, pre ++ [UInt8.ofNat (m % 128 + 128)], by simp; omega, by go_num, ?_, by omega, ?_, ?_, ?_⟩
          · rw [Nat.pow_succ] at hm; omega
          · rw [← HP.out]
            have : ¬ m < 128 := by omega
            simp [putF, this]
          · refine .inl ?_
            rw [HB.out] at hown
            rw [bv_append]
            have e : (pre ++ [UInt8.ofNat (m % 128 + 128)]).length = pre.length + 1 := by simp
            rw [e]
            exact hown
          · exact (hb.alloc (by have := hb.size; omega) _).trans (hb2.mono (Nat.le_refl _))
        case measure => simp [intOf]; omega
    · have hbyte : Value.int .u8 (m : Int) = .int .u8 ((UInt8.ofNat m).toNat : Int) := by
        congr 1
        simp
        omega
      have HB := Lib.hid hbyte
      clear hbyte
      have hpl : pre.length ≤ 9 := by omega
      go_wp2_with (first
        | (at_builtin; refine K.step_append_app _ rfl _ _ 34 rfl w.heap.size 5 i0 (.int .u8 0) 1 1 Try.underlying34 hi hz0 hz1 hz2 rfl (by decide) _ _ _ rfl (HAP.out.alloc _) ⟨wr.heap.size, 0, none⟩ 1 1 [.int .u8 (m : Int)] rfl rfl (K.one_new _ _ _) ?d1 (by decide) ?d2 ?d3 ?d4 ?_)
        | fail)
      case d1 => first | (intro u hu; simp at hu; subst hu; rfl) | rfl
      case d2 => unfold maxLen; omega
      case d3 => omega
      case d4 => have := hb.size; simp; omega
      intro v' w2 hown hb2
      go_wp2
      go_ret
      refine ⟨_, rfl, ?_, (hb.alloc (by have := hb.size; omega) _).trans hb2⟩
      rw [HB.out] at hown
      rw [← HP.out, putF_small k m (by omega), bv_append]
      have e : (pre ++ [UInt8.ofNat m]).length = pre.length + 1 := by simp
      rw [e]
      exact hown
set_option maxHeartbeats 400000 in
theorem rsigned_any (n : Int) (w : World) (hn : -9223372036854775808 ≤ n) (hn2 : n ≤ 9223372036854775807) :
    Calls Try.prog 58 #[.int .i64 n] w fun e w' => e = .returned (.int .u64 (zig n : Nat)) ∧ w = w' := by
  by_cases h : 0 ≤ n
  · have e1 : ((zig n : Nat) : Int) = 2 * n := by unfold zig; rw [if_pos h]; omega
    rw [e1]
    have hw : IntKind.u64.wrap n = n := by rw [IntKind.wrap_u64]; omega
    have hw2 : IntKind.u64.wrap (2 * n) = 2 * n := by rw [IntKind.wrap_u64]; omega
    clear e1
    go_enter Try.func58, Try.ntmps58
    go_wp2
    go_ret
    exact ⟨rfl, rfl⟩
  · have e1 : ((zig n : Nat) : Int) = 2 * (-(n + 1)) + 1 := by unfold zig; rw [if_neg h]; omega
    rw [e1]
    clear e1
    go_enter Try.func58, Try.ntmps58
    go_wp2
    go_ret
    exact ⟨rfl, rfl⟩
end Go.Proofs.Ytdomnjakhecbaaa
