/- The walks over slices.Clip, pack.PutUvarint, pack.PutVarint: a number's bytes behind a row's, in new memory. -/
import Derived.Test.YtdomnjakhecbaaaSm
namespace Go.Proofs.Ytdomnjakhecbaaa
open Go.RowKit
def putF : Nat → Nat → List UInt8
  | 0, n => [UInt8.ofNat n]
  | k + 1, n => if n < 128 then [UInt8.ofNat n] else UInt8.ofNat (n % 128 + 128) :: putF k (n / 128)
/-- A number's bytes. -/
def putU (n : Nat) : List UInt8 := putF 9 n
theorem putF_length (k : Nat) : ∀ n, (putF k n).length ≤ k + 1 := by
  induction k with
  | zero => intro n; simp [putF]
  | succ k ih =>
    intro n
    unfold putF
    split
    · simp
    · have := ih (n / 128); simp; omega
theorem putF_small (k n : Nat) (h : n < 128) : putF k n = [UInt8.ofNat n] := by
  cases k with
  | zero => rfl
  | succ k => simp [putF, h]
theorem bv_append (l m : List UInt8) : K.bv (l ++ m) = K.bv l ++ K.bv m := by simp [K.bv]
theorem clip_any (a : Option Addr) (n c : Nat) (w : World) (_hn : n ≤ c) (_hc : c ≤ 9223372036854775807) :
    Calls Try.prog 61 #[.slice a n c] w fun e w' => e = .returned (.slice a n n) ∧ w = w' := by
  go_enter Try.func61, Try.ntmps61
  go_wp2
  go_ret
  exact ⟨rfl, rfl⟩
theorem info_byte : (Try.prog.info? 5).map (fun i => (i.zero, i.size, i.bytes)) = some (some (.int .u8 0), 1, 1) := by kernel_rfl
theorem u8_wrap (n : Nat) : (n : Int) % 256 = ((UInt8.ofNat n).toNat : Int) := by simp
theorem or128 (x : Nat) (_h : x < 256) : x ||| 128 = x % 128 + 128 := by
  have h2 : x % 128 ||| 128 = x % 128 + 128 := by
    rw [Nat.or_comm, nat_join 7 128 (x % 128) (by decide) (by omega)]; omega
  rw [← h2]
  apply Nat.eq_of_testBit_eq
  intro i
  rw [Nat.testBit_or, Nat.testBit_or, show (128 : Nat) = 2 ^ 7 from rfl, Nat.testBit_mod_two_pow]
  by_cases hi : i < 7
  · simp [hi]
  · by_cases h7 : i = 7
    · subst h7; intros; simp [show Nat.testBit 128 7 = true from by decide]
    · have : x.testBit i = false := Nat.testBit_lt_two_pow (Nat.lt_of_lt_of_le _h (Nat.pow_le_pow_right (n := 2) (i := 8) (by omega) (by omega)))
      simp [this]
set_option maxHeartbeats 400000 in
set_option maxRecDepth 100000 in
theorem putUvarint_any (a : Option Addr) (c : Nat) (l : List UInt8) (n : Nat) (w : World) (hn : n < 18446744073709551616) (hc : l.length ≤ c) (hc2 : c ≤ 9223372036854775807) (hl : l.length ≤ 70368744177664) (ha : a = none → c = 0) (hr : K.Rd w a (K.bv l)) :
    Calls Try.prog 51 #[.slice a l.length c, .int .u64 n] w fun e w' =>
      ∃ v, e = .returned v ∧ w'.ownsRow w.heap.size 5 1 v (l ++ putU n).length (K.bv (l ++ putU n)) ∧ Below w.heap.size w w' := by
  have h0 : K.App w w.heap.size 5 1 (.slice a l.length l.length) (l ++ []).length (K.bv (l ++ [])) := by
    simp only [List.append_nil]
    cases a with
    | none =>
      have := ha rfl
      have e : l = [] := List.eq_nil_of_length_eq_zero (by omega)
      subst e
      exact .inl (World.ownsRow_nil _ _ _ _)
    | some ad =>
      refine .inr ⟨by simp [K.bv], ad, rfl, fun j u hu => ?_⟩
      obtain ⟨b, off, hab, hcl⟩ := hr j u hu
      cases hab
      rw [Addr.add_lit]
      exact hcl
  have H0 := Lib.hid h0
  clear h0 hr ha
  obtain ⟨i0, hi, hz0, hz1, hz2⟩ := info_parts info_byte
  go_enter Try.func51, Try.ntmps51
  go_wp2_with fail
  refine (clip_any _ _ _ _ hc hc2).mono ?_
  rintro e w1 ⟨rfl, rfl⟩
  go_wp2
  go_loopw [0, 1] (fun v x wr => ∃ (k m : Nat) (pre : List UInt8), pre.length + k = 9 ∧ x = .int .u64 m ∧ m < 128 ^ (k + 1) ∧ m < 18446744073709551616 ∧ pre ++ putF k m = putU n ∧ K.App wr w.heap.size 5 1 v (l ++ pre).length (K.bv (l ++ pre)) ∧ Below w.heap.size w wr) (fun _ x _ => (intOf x).toNat)
  case atStart => exact ⟨9, n, [], rfl, rfl, by omega, hn, rfl, H0.out, Below.refl _ _⟩
  case round =>
    obtain ⟨k, m, pre, hk, rfl, hm, hm2, hp, hap, hb⟩ := hrel
    have HP := Lib.hid hp
    have HAP := Lib.hid hap
    clear hp hap
    by_cases hlt : 127 < m
    · cases k with
      | zero => exact absurd hm (by omega)
      | succ k =>
        have hbyte : Value.int .u8 (bits .or .u8 ((m : Int) % 256) 128) = .int .u8 ((UInt8.ofNat (m % 128 + 128)).toNat : Int) := by
          have h1 := u8_or_nat (m % 256) 128 (by omega) (by omega)
          have h2 : (m % 256) ||| 128 = m % 128 + 128 := or128 (m % 256) (by omega) ▸ (by omega)
          rw [h2] at h1
          have h3 : ((m % 256 : Nat) : Int) = (m : Int) % 256 := by omega
          rw [h3] at h1
          rw [show (128 : Int) = ((128 : Nat) : Int) from rfl, h1]
          simp
          omega
        have HB := Lib.hid hbyte
        clear hbyte
        have hpl : (l ++ pre).length ≤ l.length + 9 := by simp; omega
        go_wp2_with (first
          | (at_builtin; refine K.step_append_app _ rfl _ _ 34 rfl w.heap.size 5 i0 (.int .u8 0) 1 1 Try.underlying34 hi hz0 hz1 hz2 rfl (by decide) _ _ _ rfl (HAP.out.alloc _) ⟨wr.heap.size, 0, none⟩ 1 1 [.int .u8 (bits .or .u8 ((m : Int) % 256) 128)] rfl rfl (K.one_new _ _ _) ?c1 (by decide) ?c2 ?c3 ?c4 ?_)
          | go_in)
        case c1 => intro u hu; simp at hu; subst hu; rfl
        case c2 => unfold maxLen; omega
        case c3 => omega
        case c4 => have := hb.size; simp; omega
        intro v' w2 hown hb2
        go_wp2
        go_roundw
        case rel =>
          refine ⟨k, m / 128, pre ++ [UInt8.ofNat (m % 128 + 128)], by simp; omega, by go_num, ?_, by omega, ?_, ?_, ?_⟩
          · rw [Nat.pow_succ] at hm; omega
          · rw [← HP.out]
            have : ¬ m < 128 := by omega
            simp [putF, this]
          · refine .inl ?_
            rw [HB.out] at hown
            rw [← List.append_assoc, bv_append]
            have e : (l ++ pre ++ [UInt8.ofNat (m % 128 + 128)]).length = l.length + pre.length + 1 := by simp; omega
            rw [e]
            exact hown
          · exact (hb.alloc (by have := hb.size; omega) _).trans (hb2.mono (Nat.le_refl _))
        case measure => simp [intOf]; omega
    · have hbyte : Value.int .u8 (m : Int) = .int .u8 ((UInt8.ofNat m).toNat : Int) := by
        congr 1
        simp
        omega
      have HB := Lib.hid hbyte
      clear hbyte
      have hpl : (l ++ pre).length ≤ l.length + 9 := by simp; omega
      go_wp2_with (first
        | (at_builtin; refine K.step_append_app _ rfl _ _ 34 rfl w.heap.size 5 i0 (.int .u8 0) 1 1 Try.underlying34 hi hz0 hz1 hz2 rfl (by decide) _ _ _ rfl (HAP.out.alloc _) ⟨wr.heap.size, 0, none⟩ 1 1 [.int .u8 (m : Int)] rfl rfl (K.one_new _ _ _) ?c1 (by decide) ?c2 ?c3 ?c4 ?_)
        | go_in)
      case c1 => intro u hu; simp at hu; subst hu; rfl
      case c2 => unfold maxLen; omega
      case c3 => omega
      case c4 => have := hb.size; simp; omega
      intro v' w2 hown hb2
      go_wp2
      go_ret
      refine ⟨_, rfl, ?_, (hb.alloc (by have := hb.size; omega) _).trans hb2⟩
      rw [HB.out] at hown
      rw [← HP.out, putF_small k m (by omega), ← List.append_assoc, bv_append]
      have e : (l ++ pre ++ [UInt8.ofNat m]).length = l.length + pre.length + 1 := by simp; omega
      rw [e]
      exact hown
end Go.Proofs.Ytdomnjakhecbaaa
