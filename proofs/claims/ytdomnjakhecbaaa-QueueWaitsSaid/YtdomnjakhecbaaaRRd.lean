/- The walk over the reference's Read at a number's own bytes. -/
import Derived.Test.YtdomnjakhecbaaaRPut
namespace Go.Proofs.Ytdomnjakhecbaaa
open Go.RowKit K
/-- The number of bytes of seven bits each, the lowest first. -/
def valF : List UInt8 → Nat
  | [] => 0
  | x :: r => x.toNat % 128 + 128 * valF r
theorem valF_putF : ∀ k n, n < 128 ^ (k + 1) → valF (putF k n) = n
  | 0, n, h => by
    have e : (UInt8.ofNat n).toNat = n := K.u8_of (by omega)
    simp only [putF, valF, e]
    omega
  | k + 1, n, h => by
    unfold putF
    by_cases hs : n < 128
    · have e : (UInt8.ofNat n).toNat = n := K.u8_of (by omega)
      simp only [if_pos hs, valF, e]
      omega
    · have e : (UInt8.ofNat (n % 128 + 128)).toNat = n % 128 + 128 := K.u8_of (by omega)
      have ih := valF_putF k (n / 128) (by rw [Nat.pow_succ] at h; omega)
      simp only [if_neg hs, valF, e, ih]
      omega
theorem putF_hi : ∀ k n i (h : i + 1 < (putF k n).length), 128 ≤ ((putF k n)[i]).toNat
  | 0, n, i, h => by simp [putF] at h
  | k + 1, n, i, h => by
    by_cases hs : n < 128
    · have e : putF (k + 1) n = [UInt8.ofNat n] := by simp [putF, hs]
      rw [e] at h
      simp at h
    · have e : putF (k + 1) n = UInt8.ofNat (n % 128 + 128) :: putF k (n / 128) := by simp [putF, hs]
      have e2 : (UInt8.ofNat (n % 128 + 128)).toNat = n % 128 + 128 := K.u8_of (by omega)
      cases i with
      | zero => simp only [e, List.getElem_cons_zero, e2]; omega
      | succ i =>
        simp only [e, List.getElem_cons_succ]
        exact putF_hi k (n / 128) i (by rw [e] at h; simpa using h)
theorem putF_pos' (k n : Nat) : 0 < (putF k n).length := by
  cases k with
  | zero => simp [putF]
  | succ k => unfold putF; split <;> simp
theorem putF_one (k n : Nat) (h : 1 < (putF k n).length) : 128 ≤ n := by
  cases k with
  | zero => simp [putF] at h
  | succ k =>
    unfold putF at h
    split at h
    · simp at h
    · omega
theorem putF_last : ∀ k n, n < 128 ^ (k + 1) → ∃ x : Nat, x < 128 ∧ (0 < n → 0 < x) ∧ (putF k n)[(putF k n).length - 1]? = some (UInt8.ofNat x) ∧ x * 128 ^ ((putF k n).length - 1) ≤ n
  | 0, n, h => ⟨n, by omega, fun h => h, by simp [putF], by simp [putF]⟩
  | k + 1, n, h => by
    by_cases hs : n < 128
    · have e : putF (k + 1) n = [UInt8.ofNat n] := by simp [putF, hs]
      rw [e]
      exact ⟨n, by omega, fun h => h, by simp, by simp⟩
    · have e : putF (k + 1) n = UInt8.ofNat (n % 128 + 128) :: putF k (n / 128) := by simp [putF, hs]
      obtain ⟨x, h1, h2, h3, h4⟩ := putF_last k (n / 128) (by rw [Nat.pow_succ] at h; omega)
      have hp := putF_pos' k (n / 128)
      have e3 : (putF k (n / 128)).length = ((putF k (n / 128)).length - 1) + 1 := by omega
      refine ⟨x, h1, fun _ => h2 (by omega), ?_, ?_⟩
      · rw [e, List.length_cons, Nat.add_sub_cancel, e3, List.getElem?_cons_succ]
        exact h3
      · rw [e, List.length_cons, Nat.add_sub_cancel, e3, Nat.pow_succ, ← Nat.mul_assoc]
        generalize x * 128 ^ ((putF k (n / 128)).length - 1) = A at h4 ⊢
        omega
theorem valF_drop (p : List UInt8) (i : Nat) (h : i < p.length) : valF (p.drop i) = p[i].toNat % 128 + 128 * valF (p.drop (i + 1)) := by
  rw [List.drop_eq_getElem_cons h]
  rfl
theorem valF_drop_le : ∀ (p : List UInt8) (i : Nat), valF (p.drop i) ≤ valF p
  | [], i => by simp
  | x :: r, 0 => by simp
  | x :: r, i + 1 => by
    have := valF_drop_le r i
    simp only [List.drop_succ_cons, valF]
    omega
/-- A number's bytes, seen from outside. -/
theorem putU_shape (n : Nat) (h : n < 18446744073709551616) : ∃ m : Nat, (putU n).length = m + 1 ∧ m ≤ 9 ∧ valF (putU n) = n ∧ (∀ i (hi : i < (putU n).length), i < m → 128 ≤ ((putU n)[i]).toNat) ∧ ∃ x, x < 128 ∧ (putU n)[m]? = some (UInt8.ofNat x) ∧ (0 < m → 0 < x) ∧ (m = 9 → x ≤ 1) := by
  have h10 : n < 128 ^ (9 + 1) := by omega
  obtain ⟨x, h1, h2, h3, h4⟩ := putF_last 9 n h10
  have hp := putF_pos' 9 n
  have hl := putF_length 9 n
  unfold putU
  refine ⟨(putF 9 n).length - 1, by omega, by omega, valF_putF 9 n h10, fun i hi hm => putF_hi 9 n i (by omega), x, h1, h3, fun hm => h2 ?_, fun hm => ?_⟩
  · have := putF_one 9 n (by omega)
    omega
  · rw [hm] at h4
    have e9 : (128 : Nat) ^ 9 = 9223372036854775808 := by decide
    rw [e9] at h4
    omega
end Go.Proofs.Ytdomnjakhecbaaa
