/- What was put is read as it was, in plain. -/
import Derived.Test.YtajddpdlhahcdaaDoorUx
import Derived.Test.YtajddpdlhahcdaaDoorRPut
import Derived.Test.YtajddpdlhahcdaaDoorPutO
namespace Go.Proofs.YtajddpdlhahcdaaDoor
open Go.RowKit K
theorem readF_putF (r : List UInt8) : ∀ (k i acc m : Nat), i + k = 9 → (0 < i → 0 < m) → m * 128 ^ i < 18446744073709551616 → readF i acc (putF k m ++ r) = (acc + m * 128 ^ i, i + (putF k m).length, 0)
  | 0, i, acc, m, hi, h0, hm => by
    obtain rfl : i = 9 := by omega
    have e9 : (128 : Nat) ^ 9 = 9223372036854775808 := by decide
    have h2 : m < 2 := by
      rw [e9] at hm
      omega
    have hx : (UInt8.ofNat m).toNat = m := K.u8_of (by omega)
    have h1 := h0 (by omega)
    simp only [putF, List.cons_append, List.nil_append, readF, hx]
    rw [if_neg (by omega), if_pos (by omega)]
    rfl
  | k + 1, i, acc, m, hi, h0, hm => by
    unfold putF
    by_cases h : m < 128
    · rw [if_pos h]
      have hx : (UInt8.ofNat m).toNat = m := K.u8_of (by omega)
      simp only [List.cons_append, List.nil_append, readF, hx]
      rw [if_neg (by omega), if_pos (by omega)]
      rfl
    · rw [if_neg h]
      have hx : (UInt8.ofNat (m % 128 + 128)).toNat = m % 128 + 128 := K.u8_of (by omega)
      simp only [List.cons_append, readF, hx]
      rw [if_neg (by omega), if_neg (by omega)]
      have hP : 128 ^ (i + 1) = 128 * 128 ^ i := by rw [Nat.pow_succ, Nat.mul_comm]
      have hs : m / 128 * 128 ^ (i + 1) + m % 128 * 128 ^ i = m * 128 ^ i := by
        rw [hP, ← Nat.mul_assoc, ← Nat.add_mul]
        congr 1
        omega
      rw [readF_putF r k (i + 1) _ (m / 128) (by omega) (fun _ => by omega) (by omega)]
      have e1 : m % 128 + 128 - 128 = m % 128 := by omega
      rw [e1, List.length_cons, Prod.mk.injEq, Prod.mk.injEq]
      generalize m / 128 * 128 ^ (i + 1) = A at hs ⊢
      generalize m % 128 * 128 ^ i = B at hs ⊢
      generalize m * 128 ^ i = C at hs ⊢
      exact ⟨by omega, by omega, rfl⟩
theorem readU_putU (n : Nat) (r : List UInt8) (hn : n < 18446744073709551616) : readU (putU n ++ r) = (n, (putU n).length, 0) := by
  unfold readU putU
  rw [readF_putF r 9 0 0 n (by omega) (by omega) (by omega)]
  simp
theorem zag_zig (m : Int) : zag (zig m) = m := by
  unfold zag zig
  by_cases h : 0 ≤ m
  · rw [if_pos h, if_pos (by omega)]; omega
  · rw [if_neg h, if_neg (by omega)]; omega
theorem textU_put (s : ByteArray) (r : List UInt8) (most : Int) (hs : s.size < 18446744073709551616) (hm : (s.size : Int) ≤ most) : textU (putU s.size ++ s.data.toList ++ r) most = (s.data.toList, (putU s.size).length + s.size, 0) := by
  unfold textU
  rw [List.append_assoc, readU_putU s.size _ hs]
  have e : s.data.toList.length = s.size := rfl
  rw [if_neg (by simp), if_neg (by simp only; omega), if_neg (by simp only [List.length_append]; omega)]
  simp only [List.drop_left']
  rw [List.take_append_of_le_length (by omega), List.take_of_length_le (by omega)]
theorem rput_to (n : Nat) (l' : List UInt8) (w : World) (hl' : l' = putU n) (hn : n < 18446744073709551616) :
    Calls Tryd.prog 19 #[.int .u64 n] w fun e w' => OwnB w w' l' e := by
  refine (rput_any n w hn).mono ?_
  rintro e w' ⟨v, rfl, ho, hb⟩
  rw [← hl'] at ho
  obtain ⟨a1, c1, rfl, h1, h2, h3, h4⟩ := own_slice ho
  exact ⟨a1, c1, rfl, h1, h2, h3, h4, ho, hb⟩
end Go.Proofs.YtajddpdlhahcdaaDoor
