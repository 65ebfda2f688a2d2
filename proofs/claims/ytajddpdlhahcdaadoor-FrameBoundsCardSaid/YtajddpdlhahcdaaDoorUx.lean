/- The walks over pack.Varint and pack.Text. -/
import Derived.Test.YtajddpdlhahcdaaDoorUw
namespace Go.Proofs.YtajddpdlhahcdaaDoor
open Go.RowKit K
theorem readF_lt : ∀ (l : List UInt8) (i acc : Nat), i ≤ 9 → acc < 128 ^ i → (readF i acc l).1 < 18446744073709551616
  | [], i, acc, _, _ => by simp [readF]
  | x :: r, i, acc, hi, ha => by
    unfold readF
    split
    · simp
    · rename_i h1
      have hP : 128 ^ (i + 1) = 128 * 128 ^ i := by rw [Nat.pow_succ, Nat.mul_comm]
      have h9 : 128 ^ i ≤ 128 ^ 9 := Nat.pow_le_pow_right (by omega) hi
      have e9 : (128 : Nat) ^ 9 = 9223372036854775808 := by decide
      split
      · rename_i h2
        show acc + x.toNat * 128 ^ i < _
        by_cases h : i = 9
        · subst h
          have : x.toNat ≤ 1 := by omega
          have := Nat.mul_le_mul_right (128 ^ 9) this
          omega
        · have h8 : 128 ^ (i + 1) ≤ 128 ^ 9 := Nat.pow_le_pow_right (by omega) (by omega)
          have := Nat.mul_le_mul_right (128 ^ i) (show x.toNat ≤ 127 by omega)
          omega
      · rename_i h2
        have hx := x.toNat_lt
        have : (x.toNat - 128) * 128 ^ i ≤ 127 * 128 ^ i := Nat.mul_le_mul_right _ (by omega)
        exact readF_lt r (i + 1) _ (by omega) (by omega)
theorem readU_lt (l : List UInt8) : (readU l).1 < 18446744073709551616 := readF_lt l 0 0 (by omega) (by simp)
theorem readF_size : ∀ (l : List UInt8) (i acc : Nat), (readF i acc l).2.2 = 0 → i + 1 ≤ (readF i acc l).2.1 ∧ (readF i acc l).2.1 ≤ i + l.length
  | [], i, acc, h => by simp [readF] at h
  | x :: r, i, acc, h => by
    unfold readF at h ⊢
    split
    · rename_i h1; rw [if_pos h1] at h; simp at h
    · rename_i h1
      rw [if_neg h1] at h
      split
      · simp
      · rename_i h2
        rw [if_neg h2] at h
        have := readF_size r _ _ h
        simp only [List.length_cons]
        omega
theorem readU_size (l : List UInt8) (h : (readU l).2.2 = 0) : 1 ≤ (readU l).2.1 ∧ (readU l).2.1 ≤ l.length := by
  have := readF_size l 0 0 h
  unfold readU
  omega
/-- A number with a sign, as it is told. -/
def zag (n : Nat) : Int := if n % 2 = 0 then (n / 2 : Nat) else -((n / 2 : Nat) : Int) - 1
theorem ret_var {a b : Int} {k e : Nat} (h : a = b) : Ending.returned (.tuple #[.int .i64 a, .int .i64 k, .int .i64 e]) = .returned (.tuple #[.int .i64 b, .int .i64 k, .int .i64 e]) := by rw [h]
theorem ofInt_i64 (a : Nat) : (BitVec.ofInt 64 (a : Int)).toNat = a % 18446744073709551616 := by
  rw [BitVec.ofInt_natCast, BitVec.toNat_ofNat]
theorem xor_zero64 (a : Nat) (h : a < 9223372036854775808) : bits .xor .i64 (a : Int) 0 = (a : Int) := by
  show IntKind.i64.wrap ((BitVec.ofInt 64 (a : Int) ^^^ BitVec.ofInt 64 0).toNat : Int) = _
  have e : BitVec.ofInt 64 0 = 0#64 := by decide
  rw [e, BitVec.xor_zero, ofInt_i64, IntKind.wrap_i64]
  omega
theorem xor_ones64 (a : Nat) (h : a < 9223372036854775808) : bits .xor .i64 (a : Int) (-1) = -(a : Int) - 1 := by
  show IntKind.i64.wrap ((BitVec.ofInt 64 (a : Int) ^^^ BitVec.ofInt 64 (-1)).toNat : Int) = _
  have e : BitVec.ofInt 64 (-1) = BitVec.allOnes 64 := by decide
  rw [e, BitVec.xor_allOnes, BitVec.toNat_not, ofInt_i64, IntKind.wrap_i64]
  omega
theorem zag_bits (n : Nat) (h : n < 18446744073709551616) : bits .xor .i64 ((n : Int) / 2) (wrap64 (-wrap64 (bits .and .u64 (n : Int) 1))) = zag n := by
  have h1 : bits .and .u64 (n : Int) 1 = ((n &&& 1 : Nat) : Int) := u64_and_nat n 1 h (by omega)
  have h2 : (n : Int) / 2 = ((n / 2 : Nat) : Int) := by omega
  rw [h1, Nat.and_one_is_mod, h2]
  unfold zag
  by_cases e : n % 2 = 0
  · rw [if_pos e, e]
    have : wrap64 (-wrap64 ((0 : Nat) : Int)) = 0 := by unfold wrap64; omega
    rw [this, xor_zero64 _ (by omega)]
  · rw [if_neg e, show n % 2 = 1 by omega]
    have : wrap64 (-wrap64 ((1 : Nat) : Int)) = -1 := by unfold wrap64; omega
    rw [this, xor_ones64 _ (by omega)]
set_option maxHeartbeats 1000000 in
theorem varint_any (a : Option Addr) (c : Nat) (l : List UInt8) (w : World) (hl : l.length ≤ 9223372036854775807) (hr : Rd w a (bv l)) (hg : GErr w) :
    Calls Tryd.prog 38 #[.slice a l.length c] w fun e w' => e = .returned (.tuple #[.int .i64 (zag (readU l).1), .int .i64 (readU l).2.1, .int .i64 (readU l).2.2]) ∧ Below w.heap.size w w' := by
  have hu := uvarint_any a c l w hl hr hg
  have hlt := readU_lt l
  clear hr hg
  generalize readU l = p at hu hlt ⊢
  obtain ⟨n, k, e⟩ := p
  simp only at hu hlt ⊢
  have HU := Lib.hid hu
  clear hu
  go_enter Tryd.func38, Tryd.ntmps38
  go_wp2_with fail
  refine HU.out.mono ?_
  rintro e w' ⟨rfl, hb⟩
  have HB := Lib.hid hb
  clear hb
  go_wp2_with fail
  go_ret3
  exact ⟨ret_var (zag_bits n hlt), HB.out⟩
/-- A text's bytes read: the text, where it ends, what is wrong. -/
def textU (l : List UInt8) (most : Int) : List UInt8 × Nat × Nat :=
  if (readU l).2.2 ≠ 0 then ([], 0, (readU l).2.2) else if max most 0 < ((readU l).1 : Int) then ([], 0, 4) else if l.length - (readU l).2.1 < (readU l).1 then ([], 0, 11) else ((l.drop (readU l).2.1).take (readU l).1, (readU l).2.1 + (readU l).1, 0)
set_option maxHeartbeats 2000000 in
theorem text_any (a : Option Addr) (c : Nat) (l : List UInt8) (most : Int) (w : World) (hl : l.length ≤ 9223372036854775807) (hc : l.length ≤ c) (hm1 : -9223372036854775808 ≤ most) (hm2 : most ≤ 9223372036854775807) (hr : Rd w a (bv l)) (hg : GErr w) :
    Calls Tryd.prog 39 #[.slice a l.length c, .int .i64 most] w fun e w' => e = .returned (.tuple #[.string ⟨(textU l most).1.toArray⟩, .int .i64 (textU l most).2.1, .int .i64 (textU l most).2.2]) ∧ Below w.heap.size w w' := by
  have hu := uvarint_any a c l w hl hr hg
  have hlt := readU_lt l
  have hsz := readU_size l
  unfold textU
  have HR := Lib.hid hr
  clear hr hg
  generalize readU l = p at hu hlt hsz ⊢
  obtain ⟨n, k, e⟩ := p
  simp only at hu hlt hsz ⊢
  have HU := Lib.hid hu
  clear hu
  by_cases he : e = 0
  · subst he
    obtain ⟨hk1, hk2⟩ := hsz rfl
    clear hsz
    rw [if_neg (by simp)]
    obtain ⟨M, hM⟩ : ∃ M : Nat, max most 0 = (M : Int) := ⟨(max most 0).toNat, by omega⟩
    have hMl : M < 9223372036854775808 := by omega
    rw [hM]
    have HM := Lib.hid hM
    clear hM
    by_cases h1 : M < n
    · rw [if_pos (by omega)]
      go_enter Tryd.func39, Tryd.ntmps39
      go_wp2_with fail
      refine HU.out.mono ?_
      rintro e w' ⟨rfl, hb⟩
      have HB := Lib.hid hb
      clear hb
      go_wp2_with (first | (with_reducible refine step_max rfl _ _ _ rfl most 0 rfl rfl (M : Int) HM.out ?_) | fail)
      go_ret3
      exact ⟨rfl, HB.out⟩
    · rw [if_neg (by omega)]
      have hwr : IntKind.u64.wrap ((l.length : Int) - (k : Int)) = (l.length : Int) - (k : Int) := by rw [IntKind.wrap_u64]; omega
      by_cases h2 : l.length - k < n
      · rw [if_pos h2]
        have h3 : (l.length : Int) - (k : Int) < (n : Int) := by omega
        clear h2
        go_enter Tryd.func39, Tryd.ntmps39
        go_wp2_with fail
        refine HU.out.mono ?_
        rintro e w' ⟨rfl, hb⟩
        have HB := Lib.hid hb
        clear hb
        go_wp2_with (first | (with_reducible refine step_max rfl _ _ _ rfl most 0 rfl rfl (M : Int) HM.out ?_) | fail)
        go_ret3
        exact ⟨rfl, HB.out⟩
      · rw [if_neg h2]
        have h3 : ¬ (l.length : Int) - (k : Int) < (n : Int) := by omega
        have h4 : k + n ≤ l.length := by omega
        clear h2
        go_enter Tryd.func39, Tryd.ntmps39
        go_wp2_with fail
        refine HU.out.mono ?_
        rintro e w' ⟨rfl, hb⟩
        have hr2 := (HR.out.below hb (Nat.le_refl _)).cut c k (k + n) (by simpa [bv] using hc)
        have HB := Lib.hid hb
        have ecut : ((bv l).take (k + n)).drop k = bv ((l.drop k).take n) := by
          unfold bv
          rw [← List.map_take, ← List.map_drop, List.drop_take, Nat.add_sub_cancel_left]
        rw [ecut] at hr2
        have HR2 := Lib.hid hr2
        have hln : k + n - k = ((l.drop k).take n).length := by rw [List.length_take, List.length_drop]; omega
        have HLN := Lib.hid hln
        clear hb hr2 ecut hln
        go_wp2_with (first
          | (with_reducible refine step_max rfl _ _ _ rfl most 0 rfl rfl (M : Int) HM.out ?_)
          | (with_reducible refine step_cut (.inl rfl) 28 5 _ _ _ rfl Tryd.underlying28 info_b1 a l.length c rfl (k : Int) ((k : Int) + (n : Int)) rfl rfl k (k + n) rfl ?g1 ?g2 ?g3 ?_)
          | (with_reducible refine step_bytes_string _ (.inl rfl) 28 9 5 _ rfl Tryd.underlying28 Tryd.underlying5 Tryd.underlying9 (cutA a c k) (k + n - k) (c - k) ((l.drop k).take n) rfl HLN.out HR2.out ⟨((l.drop k).take n).toArray⟩ rfl ?_)
          | fail)
        case g1 => omega
        case g2 => omega
        case g3 => omega
        go_ret3
        exact ⟨rfl, HB.out⟩
  · rw [if_pos he]
    have hne : ((e : Int) != 0) = true := by rw [bne_iff_ne]; omega
    clear hsz he
    go_enter Tryd.func39, Tryd.ntmps39
    go_wp2_with fail
    refine HU.out.mono ?_
    rintro e w' ⟨rfl, hb⟩
    have HB := Lib.hid hb
    clear hb
    go_wp2
    go_ret3
    exact ⟨rfl, HB.out⟩
end Go.Proofs.YtajddpdlhahcdaaDoor
