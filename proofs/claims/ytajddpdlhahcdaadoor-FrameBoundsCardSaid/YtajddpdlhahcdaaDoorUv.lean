/- The walk over pack.read. -/
import Derived.Test.YtajddpdlhahcdaaDoorPut
namespace Go.Proofs.YtajddpdlhahcdaaDoor
open Go.RowKit K
/-- A number's bytes read: the number, how many, what is wrong (4: none, 11: too few). -/
def readF : Nat → Nat → List UInt8 → Nat × Nat × Nat
  | _, _, [] => (0, 0, 11)
  | i, acc, x :: r => if (i = 9 ∧ 1 < x.toNat) ∨ (x.toNat = 0 ∧ 0 < i) then (0, 0, 4) else if x.toNat < 128 then (acc + x.toNat * 128 ^ i, i + 1, 0) else readF (i + 1) (acc + (x.toNat - 128) * 128 ^ i) r
def readU (l : List UInt8) : Nat × Nat × Nat := readF 0 0 l
def errV (e : Nat) : Value := if e = 0 then .nilIface else .iface 90 (.agg #[.int .i64 e])
theorem ret_read {l : List UInt8} {n k e : Nat} {v1 v3 : Value} (h : readU l = (n, k, e)) (h1 : v1 = .int .u64 n) (h3 : v3 = errV e) : Ending.returned (.tuple #[v1, .int .i64 k, v3]) = .returned (.tuple #[.int .u64 (readU l).1, .int .i64 (readU l).2.1, errV (readU l).2.2]) := by
  rw [h, h1, h3]
theorem and127 (x : Nat) (h : x < 128) : bits .and .u8 (x : Int) 127 = (x : Int) := by
  have h1 := u8_and_nat x 127 (by omega) (by omega)
  rw [show (127 : Nat) = 2 ^ 7 - 1 from rfl, Nat.and_two_pow_sub_one_eq_mod, Nat.mod_eq_of_lt (by omega)] at h1
  exact h1
theorem and127' (x y : Nat) (h : ¬ x < 128) (h2 : x < 256) (hy : y = x - 128) : bits .and .u8 (x : Int) 127 = (y : Int) := by
  have h1 := u8_and_nat x 127 (by omega) (by omega)
  rw [show (127 : Nat) = 2 ^ 7 - 1 from rfl, Nat.and_two_pow_sub_one_eq_mod] at h1
  rw [hy, show x - 128 = x % 2 ^ 7 by omega]
  exact h1
theorem or_at (acc y m : Nat) (h : acc < 2 ^ m) (h2 : y * 2 ^ m < 18446744073709551616) (h3 : acc < 18446744073709551616) : bits .or .u64 (acc : Int) ((y * 2 ^ m : Nat) : Int) = ((acc + y * 2 ^ m : Nat) : Int) := by
  rw [u64_or_nat acc (y * 2 ^ m) h3 h2]
  congr 1
  have := Nat.two_pow_add_eq_or_of_lt h y
  rw [Nat.or_comm, Nat.mul_comm y, ← this]
  omega
set_option maxHeartbeats 2000000 in
set_option maxRecDepth 100000 in
theorem read_any (a : Option Addr) (c : Nat) (l : List UInt8) (w : World) (hl : l.length ≤ 9223372036854775807) (hr : Rd w a (bv l)) :
    Calls Tryd.prog 40 #[.slice a l.length c] w fun e w' => e = .returned (.tuple #[.int .u64 (readU l).1, .int .i64 (readU l).2.1, errV (readU l).2.2]) ∧ w = w' := by
  have HR := Lib.hid hr
  clear hr
  go_enter Tryd.func40, Tryd.ntmps40
  go_wp2
  go_loop [2, 9] (fun n i => ∃ k acc : Nat, k ≤ l.length ∧ k ≤ 9 ∧ i = .int .i64 k ∧ n = .int .u64 acc ∧ acc < 128 ^ k ∧ readF k acc (l.drop k) = readU l) (fun _ i => l.length - (intOf i).toNat)
  case atStart => exact ⟨0, 0, by omega, by omega, rfl, rfl, by omega, rfl⟩
  case round =>
    obtain ⟨k, acc, hk, hk9, rfl, rfl, hacc, hrd⟩ := hrel
    have HRD := Lib.hid hrd
    clear hrd
    by_cases hlt : k < l.length
    · obtain ⟨b, off, rfl, hbl, hcell⟩ := HR.out.at (bv_get hlt)
      have hd : l.drop k = l[k] :: l.drop (k + 1) := List.drop_eq_getElem_cons hlt
      have HD := Lib.hid (hd ▸ HRD.out)
      clear hd HRD
      have hx := l[k].toNat_lt
      generalize l[k] = xb at hcell hx HD
      obtain ⟨x, hxe⟩ : ∃ x, x = xb.toNat := ⟨_, rfl⟩
      rw [← hxe] at hcell hx
      have HX := Lib.hid hxe
      clear hxe
      have h10 : k = 0 ∨ k = 1 ∨ k = 2 ∨ k = 3 ∨ k = 4 ∨ k = 5 ∨ k = 6 ∨ k = 7 ∨ k = 8 ∨ k = 9 := by omega
      rcases h10 with rfl | rfl | rfl | rfl | rfl | rfl | rfl | rfl | rfl | rfl
      · -- 0
        obtain rfl : acc = 0 := by omega
        simp only [Nat.add_zero] at hcell
        by_cases hx128 : x < 128
        · have hand : bits .and .u8 (x : Int) 127 = (x : Int) := and127 x hx128
          have hor : bits .or .u64 0 (x : Int) = (x : Int) := by simpa using u64_or_nat 0 x (by omega) (by omega)
          have HN := Lib.hid (show readU l = (x, 1, 0) by rw [← HD.out, readF, if_neg (by have := HX.out; omega), if_pos (by have := HX.out; omega), HX.out]; simp)
          clear hacc
          by_cases hx0 : x = 0
          · subst hx0
            have hz : bits .and .u8 0 127 = 0 := by decide
            have hz2 : bits .or .u64 0 0 = 0 := by decide
            clear hand hor
            go_wp2
            go_ret3
            exact ⟨ret_read HN.out rfl rfl, rfl⟩
          · have ht : ((x : Int) == 0) = false := by rw [beq_eq_false_iff_ne]; omega
            go_wp2
            go_ret3
            exact ⟨ret_read HN.out rfl rfl, rfl⟩
        · obtain ⟨y, hy⟩ : ∃ y, y = x - 128 := ⟨_, rfl⟩
          have hy1 : y < 128 := by omega
          have hand : bits .and .u8 (x : Int) 127 = (y : Int) := and127' x y hx128 (by omega) hy
          have hor := Lib.hid (show bits .or .u64 0 (y : Int) = ((0 + y * 1 : Nat) : Int) by simpa using u64_or_nat 0 y (by omega) (by omega))
          have HN := Lib.hid (show readF 1 (0 + y * 1) (l.drop 1) = readU l by rw [← HD.out, readF, if_neg (by have := HX.out; omega), if_neg (by have := HX.out; omega), ← HX.out, ← hy])
          have hac2 := Lib.hid (show 0 + y * 1 < 128 ^ 1 by omega)
          have ht : ((x : Int) == 0) = false := by rw [beq_eq_false_iff_ne]; omega
          clear hacc hy
          go_wp2
          go_round
          case rel => exact ⟨1, 0 + y * 1, by omega, by omega, by go_num, by rw [← hor.out], hac2.out, HN.out⟩
          case measure => simp [intOf]; omega
      · -- 1
        by_cases hx128 : x < 128
        · by_cases hx0 : x = 0
          · have ht : ((x : Int) == 0) = true := by rw [beq_iff_eq]; omega
            clear hacc
            go_wp2
            go_ret3
            exact ⟨ret_read (show readU l = (0, 0, 4) by rw [← HD.out, readF, if_pos (by have := HX.out; omega)]) rfl rfl, rfl⟩
          have ht : ((x : Int) == 0) = false := by rw [beq_eq_false_iff_ne]; omega
          have hand : bits .and .u8 (x : Int) 127 = (x : Int) := and127 x hx128
          have hor := Lib.hid (show bits .or .u64 (acc : Int) ((x : Int) * 128) = ((acc + x * 128 : Nat) : Int) by simpa using or_at acc x 7 (by omega) (by omega) (by omega))
          have HN := Lib.hid (show readU l = (acc + x * 128, 2, 0) by rw [← HD.out, readF, if_neg (by have := HX.out; omega), if_pos (by have := HX.out; omega), HX.out])
          clear hacc
          go_wp2
          go_ret3
          exact ⟨ret_read HN.out (congrArg (Value.int IntKind.u64) hor.out) rfl, rfl⟩
        · obtain ⟨y, hy⟩ : ∃ y, y = x - 128 := ⟨_, rfl⟩
          have hy1 : y < 128 := by omega
          have hand : bits .and .u8 (x : Int) 127 = (y : Int) := and127' x y hx128 (by omega) hy
          have hor := Lib.hid (show bits .or .u64 (acc : Int) ((y : Int) * 128) = ((acc + y * 128 : Nat) : Int) by simpa using or_at acc y 7 (by omega) (by omega) (by omega))
          have HN := Lib.hid (show readF 2 (acc + y * 128) (l.drop 2) = readU l by rw [← HD.out, readF, if_neg (by have := HX.out; omega), if_neg (by have := HX.out; omega), ← HX.out, ← hy])
          have hac2 := Lib.hid (show acc + y * 128 < 128 ^ 2 by omega)
          have ht : ((x : Int) == 0) = false := by rw [beq_eq_false_iff_ne]; omega
          clear hacc hy
          go_wp2
          go_round
          case rel => exact ⟨2, acc + y * 128, by omega, by omega, by go_num, by rw [← hor.out], hac2.out, HN.out⟩
          case measure => simp [intOf]; omega
      · -- 2
        by_cases hx128 : x < 128
        · by_cases hx0 : x = 0
          · have ht : ((x : Int) == 0) = true := by rw [beq_iff_eq]; omega
            clear hacc
            go_wp2
            go_ret3
            exact ⟨ret_read (show readU l = (0, 0, 4) by rw [← HD.out, readF, if_pos (by have := HX.out; omega)]) rfl rfl, rfl⟩
          have ht : ((x : Int) == 0) = false := by rw [beq_eq_false_iff_ne]; omega
          have hand : bits .and .u8 (x : Int) 127 = (x : Int) := and127 x hx128
          have hor := Lib.hid (show bits .or .u64 (acc : Int) ((x : Int) * 16384) = ((acc + x * 16384 : Nat) : Int) by simpa using or_at acc x 14 (by omega) (by omega) (by omega))
          have HN := Lib.hid (show readU l = (acc + x * 16384, 3, 0) by rw [← HD.out, readF, if_neg (by have := HX.out; omega), if_pos (by have := HX.out; omega), HX.out])
          clear hacc
          go_wp2
          go_ret3
          exact ⟨ret_read HN.out (congrArg (Value.int IntKind.u64) hor.out) rfl, rfl⟩
        · obtain ⟨y, hy⟩ : ∃ y, y = x - 128 := ⟨_, rfl⟩
          have hy1 : y < 128 := by omega
          have hand : bits .and .u8 (x : Int) 127 = (y : Int) := and127' x y hx128 (by omega) hy
          have hor := Lib.hid (show bits .or .u64 (acc : Int) ((y : Int) * 16384) = ((acc + y * 16384 : Nat) : Int) by simpa using or_at acc y 14 (by omega) (by omega) (by omega))
          have HN := Lib.hid (show readF 3 (acc + y * 16384) (l.drop 3) = readU l by rw [← HD.out, readF, if_neg (by have := HX.out; omega), if_neg (by have := HX.out; omega), ← HX.out, ← hy])
          have hac2 := Lib.hid (show acc + y * 16384 < 128 ^ 3 by omega)
          have ht : ((x : Int) == 0) = false := by rw [beq_eq_false_iff_ne]; omega
          clear hacc hy
          go_wp2
          go_round
          case rel => exact ⟨3, acc + y * 16384, by omega, by omega, by go_num, by rw [← hor.out], hac2.out, HN.out⟩
          case measure => simp [intOf]; omega
      · -- 3
        by_cases hx128 : x < 128
        · by_cases hx0 : x = 0
          · have ht : ((x : Int) == 0) = true := by rw [beq_iff_eq]; omega
            clear hacc
            go_wp2
            go_ret3
            exact ⟨ret_read (show readU l = (0, 0, 4) by rw [← HD.out, readF, if_pos (by have := HX.out; omega)]) rfl rfl, rfl⟩
          have ht : ((x : Int) == 0) = false := by rw [beq_eq_false_iff_ne]; omega
          have hand : bits .and .u8 (x : Int) 127 = (x : Int) := and127 x hx128
          have hor := Lib.hid (show bits .or .u64 (acc : Int) ((x : Int) * 2097152) = ((acc + x * 2097152 : Nat) : Int) by simpa using or_at acc x 21 (by omega) (by omega) (by omega))
          have HN := Lib.hid (show readU l = (acc + x * 2097152, 4, 0) by rw [← HD.out, readF, if_neg (by have := HX.out; omega), if_pos (by have := HX.out; omega), HX.out])
          clear hacc
          go_wp2
          go_ret3
          exact ⟨ret_read HN.out (congrArg (Value.int IntKind.u64) hor.out) rfl, rfl⟩
        · obtain ⟨y, hy⟩ : ∃ y, y = x - 128 := ⟨_, rfl⟩
          have hy1 : y < 128 := by omega
          have hand : bits .and .u8 (x : Int) 127 = (y : Int) := and127' x y hx128 (by omega) hy
          have hor := Lib.hid (show bits .or .u64 (acc : Int) ((y : Int) * 2097152) = ((acc + y * 2097152 : Nat) : Int) by simpa using or_at acc y 21 (by omega) (by omega) (by omega))
          have HN := Lib.hid (show readF 4 (acc + y * 2097152) (l.drop 4) = readU l by rw [← HD.out, readF, if_neg (by have := HX.out; omega), if_neg (by have := HX.out; omega), ← HX.out, ← hy])
          have hac2 := Lib.hid (show acc + y * 2097152 < 128 ^ 4 by omega)
          have ht : ((x : Int) == 0) = false := by rw [beq_eq_false_iff_ne]; omega
          clear hacc hy
          go_wp2
          go_round
          case rel => exact ⟨4, acc + y * 2097152, by omega, by omega, by go_num, by rw [← hor.out], hac2.out, HN.out⟩
          case measure => simp [intOf]; omega
      · -- 4
        by_cases hx128 : x < 128
        · by_cases hx0 : x = 0
          · have ht : ((x : Int) == 0) = true := by rw [beq_iff_eq]; omega
            clear hacc
            go_wp2
            go_ret3
            exact ⟨ret_read (show readU l = (0, 0, 4) by rw [← HD.out, readF, if_pos (by have := HX.out; omega)]) rfl rfl, rfl⟩
          have ht : ((x : Int) == 0) = false := by rw [beq_eq_false_iff_ne]; omega
          have hand : bits .and .u8 (x : Int) 127 = (x : Int) := and127 x hx128
          have hor := Lib.hid (show bits .or .u64 (acc : Int) ((x : Int) * 268435456) = ((acc + x * 268435456 : Nat) : Int) by simpa using or_at acc x 28 (by omega) (by omega) (by omega))
          have HN := Lib.hid (show readU l = (acc + x * 268435456, 5, 0) by rw [← HD.out, readF, if_neg (by have := HX.out; omega), if_pos (by have := HX.out; omega), HX.out])
          clear hacc
          go_wp2
          go_ret3
          exact ⟨ret_read HN.out (congrArg (Value.int IntKind.u64) hor.out) rfl, rfl⟩
        · obtain ⟨y, hy⟩ : ∃ y, y = x - 128 := ⟨_, rfl⟩
          have hy1 : y < 128 := by omega
          have hand : bits .and .u8 (x : Int) 127 = (y : Int) := and127' x y hx128 (by omega) hy
          have hor := Lib.hid (show bits .or .u64 (acc : Int) ((y : Int) * 268435456) = ((acc + y * 268435456 : Nat) : Int) by simpa using or_at acc y 28 (by omega) (by omega) (by omega))
          have HN := Lib.hid (show readF 5 (acc + y * 268435456) (l.drop 5) = readU l by rw [← HD.out, readF, if_neg (by have := HX.out; omega), if_neg (by have := HX.out; omega), ← HX.out, ← hy])
          have hac2 := Lib.hid (show acc + y * 268435456 < 128 ^ 5 by omega)
          have ht : ((x : Int) == 0) = false := by rw [beq_eq_false_iff_ne]; omega
          clear hacc hy
          go_wp2
          go_round
          case rel => exact ⟨5, acc + y * 268435456, by omega, by omega, by go_num, by rw [← hor.out], hac2.out, HN.out⟩
          case measure => simp [intOf]; omega
      · -- 5
        by_cases hx128 : x < 128
        · by_cases hx0 : x = 0
          · have ht : ((x : Int) == 0) = true := by rw [beq_iff_eq]; omega
            clear hacc
            go_wp2
            go_ret3
            exact ⟨ret_read (show readU l = (0, 0, 4) by rw [← HD.out, readF, if_pos (by have := HX.out; omega)]) rfl rfl, rfl⟩
          have ht : ((x : Int) == 0) = false := by rw [beq_eq_false_iff_ne]; omega
          have hand : bits .and .u8 (x : Int) 127 = (x : Int) := and127 x hx128
          have hor := Lib.hid (show bits .or .u64 (acc : Int) ((x : Int) * 34359738368) = ((acc + x * 34359738368 : Nat) : Int) by simpa using or_at acc x 35 (by omega) (by omega) (by omega))
          have HN := Lib.hid (show readU l = (acc + x * 34359738368, 6, 0) by rw [← HD.out, readF, if_neg (by have := HX.out; omega), if_pos (by have := HX.out; omega), HX.out])
          clear hacc
          go_wp2
          go_ret3
          exact ⟨ret_read HN.out (congrArg (Value.int IntKind.u64) hor.out) rfl, rfl⟩
        · obtain ⟨y, hy⟩ : ∃ y, y = x - 128 := ⟨_, rfl⟩
          have hy1 : y < 128 := by omega
          have hand : bits .and .u8 (x : Int) 127 = (y : Int) := and127' x y hx128 (by omega) hy
          have hor := Lib.hid (show bits .or .u64 (acc : Int) ((y : Int) * 34359738368) = ((acc + y * 34359738368 : Nat) : Int) by simpa using or_at acc y 35 (by omega) (by omega) (by omega))
          have HN := Lib.hid (show readF 6 (acc + y * 34359738368) (l.drop 6) = readU l by rw [← HD.out, readF, if_neg (by have := HX.out; omega), if_neg (by have := HX.out; omega), ← HX.out, ← hy])
          have hac2 := Lib.hid (show acc + y * 34359738368 < 128 ^ 6 by omega)
          have ht : ((x : Int) == 0) = false := by rw [beq_eq_false_iff_ne]; omega
          clear hacc hy
          go_wp2
          go_round
          case rel => exact ⟨6, acc + y * 34359738368, by omega, by omega, by go_num, by rw [← hor.out], hac2.out, HN.out⟩
          case measure => simp [intOf]; omega
      · -- 6
        by_cases hx128 : x < 128
        · by_cases hx0 : x = 0
          · have ht : ((x : Int) == 0) = true := by rw [beq_iff_eq]; omega
            clear hacc
            go_wp2
            go_ret3
            exact ⟨ret_read (show readU l = (0, 0, 4) by rw [← HD.out, readF, if_pos (by have := HX.out; omega)]) rfl rfl, rfl⟩
          have ht : ((x : Int) == 0) = false := by rw [beq_eq_false_iff_ne]; omega
          have hand : bits .and .u8 (x : Int) 127 = (x : Int) := and127 x hx128
          have hor := Lib.hid (show bits .or .u64 (acc : Int) ((x : Int) * 4398046511104) = ((acc + x * 4398046511104 : Nat) : Int) by simpa using or_at acc x 42 (by omega) (by omega) (by omega))
          have HN := Lib.hid (show readU l = (acc + x * 4398046511104, 7, 0) by rw [← HD.out, readF, if_neg (by have := HX.out; omega), if_pos (by have := HX.out; omega), HX.out])
          clear hacc
          go_wp2
          go_ret3
          exact ⟨ret_read HN.out (congrArg (Value.int IntKind.u64) hor.out) rfl, rfl⟩
        · obtain ⟨y, hy⟩ : ∃ y, y = x - 128 := ⟨_, rfl⟩
          have hy1 : y < 128 := by omega
          have hand : bits .and .u8 (x : Int) 127 = (y : Int) := and127' x y hx128 (by omega) hy
          have hor := Lib.hid (show bits .or .u64 (acc : Int) ((y : Int) * 4398046511104) = ((acc + y * 4398046511104 : Nat) : Int) by simpa using or_at acc y 42 (by omega) (by omega) (by omega))
          have HN := Lib.hid (show readF 7 (acc + y * 4398046511104) (l.drop 7) = readU l by rw [← HD.out, readF, if_neg (by have := HX.out; omega), if_neg (by have := HX.out; omega), ← HX.out, ← hy])
          have hac2 := Lib.hid (show acc + y * 4398046511104 < 128 ^ 7 by omega)
          have ht : ((x : Int) == 0) = false := by rw [beq_eq_false_iff_ne]; omega
          clear hacc hy
          go_wp2
          go_round
          case rel => exact ⟨7, acc + y * 4398046511104, by omega, by omega, by go_num, by rw [← hor.out], hac2.out, HN.out⟩
          case measure => simp [intOf]; omega
      · -- 7
        by_cases hx128 : x < 128
        · by_cases hx0 : x = 0
          · have ht : ((x : Int) == 0) = true := by rw [beq_iff_eq]; omega
            clear hacc
            go_wp2
            go_ret3
            exact ⟨ret_read (show readU l = (0, 0, 4) by rw [← HD.out, readF, if_pos (by have := HX.out; omega)]) rfl rfl, rfl⟩
          have ht : ((x : Int) == 0) = false := by rw [beq_eq_false_iff_ne]; omega
          have hand : bits .and .u8 (x : Int) 127 = (x : Int) := and127 x hx128
          have hor := Lib.hid (show bits .or .u64 (acc : Int) ((x : Int) * 562949953421312) = ((acc + x * 562949953421312 : Nat) : Int) by simpa using or_at acc x 49 (by omega) (by omega) (by omega))
          have HN := Lib.hid (show readU l = (acc + x * 562949953421312, 8, 0) by rw [← HD.out, readF, if_neg (by have := HX.out; omega), if_pos (by have := HX.out; omega), HX.out])
          clear hacc
          go_wp2
          go_ret3
          exact ⟨ret_read HN.out (congrArg (Value.int IntKind.u64) hor.out) rfl, rfl⟩
        · obtain ⟨y, hy⟩ : ∃ y, y = x - 128 := ⟨_, rfl⟩
          have hy1 : y < 128 := by omega
          have hand : bits .and .u8 (x : Int) 127 = (y : Int) := and127' x y hx128 (by omega) hy
          have hor := Lib.hid (show bits .or .u64 (acc : Int) ((y : Int) * 562949953421312) = ((acc + y * 562949953421312 : Nat) : Int) by simpa using or_at acc y 49 (by omega) (by omega) (by omega))
          have HN := Lib.hid (show readF 8 (acc + y * 562949953421312) (l.drop 8) = readU l by rw [← HD.out, readF, if_neg (by have := HX.out; omega), if_neg (by have := HX.out; omega), ← HX.out, ← hy])
          have hac2 := Lib.hid (show acc + y * 562949953421312 < 128 ^ 8 by omega)
          have ht : ((x : Int) == 0) = false := by rw [beq_eq_false_iff_ne]; omega
          clear hacc hy
          go_wp2
          go_round
          case rel => exact ⟨8, acc + y * 562949953421312, by omega, by omega, by go_num, by rw [← hor.out], hac2.out, HN.out⟩
          case measure => simp [intOf]; omega
      · -- 8
        by_cases hx128 : x < 128
        · by_cases hx0 : x = 0
          · have ht : ((x : Int) == 0) = true := by rw [beq_iff_eq]; omega
            clear hacc
            go_wp2
            go_ret3
            exact ⟨ret_read (show readU l = (0, 0, 4) by rw [← HD.out, readF, if_pos (by have := HX.out; omega)]) rfl rfl, rfl⟩
          have ht : ((x : Int) == 0) = false := by rw [beq_eq_false_iff_ne]; omega
          have hand : bits .and .u8 (x : Int) 127 = (x : Int) := and127 x hx128
          have hor := Lib.hid (show bits .or .u64 (acc : Int) ((x : Int) * 72057594037927936) = ((acc + x * 72057594037927936 : Nat) : Int) by simpa using or_at acc x 56 (by omega) (by omega) (by omega))
          have HN := Lib.hid (show readU l = (acc + x * 72057594037927936, 9, 0) by rw [← HD.out, readF, if_neg (by have := HX.out; omega), if_pos (by have := HX.out; omega), HX.out])
          clear hacc
          go_wp2
          go_ret3
          exact ⟨ret_read HN.out (congrArg (Value.int IntKind.u64) hor.out) rfl, rfl⟩
        · obtain ⟨y, hy⟩ : ∃ y, y = x - 128 := ⟨_, rfl⟩
          have hy1 : y < 128 := by omega
          have hand : bits .and .u8 (x : Int) 127 = (y : Int) := and127' x y hx128 (by omega) hy
          have hor := Lib.hid (show bits .or .u64 (acc : Int) ((y : Int) * 72057594037927936) = ((acc + y * 72057594037927936 : Nat) : Int) by simpa using or_at acc y 56 (by omega) (by omega) (by omega))
          have HN := Lib.hid (show readF 9 (acc + y * 72057594037927936) (l.drop 9) = readU l by rw [← HD.out, readF, if_neg (by have := HX.out; omega), if_neg (by have := HX.out; omega), ← HX.out, ← hy])
          have hac2 := Lib.hid (show acc + y * 72057594037927936 < 128 ^ 9 by omega)
          have ht : ((x : Int) == 0) = false := by rw [beq_eq_false_iff_ne]; omega
          clear hacc hy
          go_wp2
          go_round
          case rel => exact ⟨9, acc + y * 72057594037927936, by omega, by omega, by go_num, by rw [← hor.out], hac2.out, HN.out⟩
          case measure => simp [intOf]; omega
      · -- 9
        by_cases hx128 : x < 128
        · by_cases hx0 : x = 0
          · have ht : ((x : Int) == 0) = true := by rw [beq_iff_eq]; omega
            clear hacc
            go_wp2
            go_ret3
            exact ⟨ret_read (show readU l = (0, 0, 4) by rw [← HD.out, readF, if_pos (by have := HX.out; omega)]) rfl rfl, rfl⟩
          have ht : ((x : Int) == 0) = false := by rw [beq_eq_false_iff_ne]; omega
          by_cases hx1 : 1 < x
          · clear hacc
            go_wp2
            go_ret3
            exact ⟨ret_read (show readU l = (0, 0, 4) by rw [← HD.out, readF, if_pos (by have := HX.out; omega)]) rfl rfl, rfl⟩
          obtain rfl : x = 1 := by omega
          have hor : bits .or .u64 (acc : Int) 9223372036854775808 = ((acc + 1 * 9223372036854775808 : Nat) : Int) := by simpa using or_at acc 1 63 (by omega) (by decide) (by omega)
          have HN := Lib.hid (show readU l = (acc + 1 * 9223372036854775808, 10, 0) by rw [← HD.out, readF, if_neg (by have := HX.out; omega), if_pos (by have := HX.out; omega), ← HX.out])
          have HA := Lib.hid hor
          have hand : bits .and .u8 1 127 = 1 := by decide
          clear hacc hor
          go_wp2
          go_ret3
          refine ⟨ret_read HN.out ?_ rfl, rfl⟩
          exact congrArg (Value.int IntKind.u64) HA.out
        · have ht : ((x : Int) == 0) = false := by rw [beq_eq_false_iff_ne]; omega
          have hx1 : 1 < x := by omega
          clear hacc
          go_wp2
          go_ret3
          exact ⟨ret_read (show readU l = (0, 0, 4) by rw [← HD.out, readF, if_pos (by have := HX.out; omega)]) rfl rfl, rfl⟩
    · obtain rfl : k = l.length := by omega
      have HN := Lib.hid (show readU l = (0, 0, 11) by rw [← HRD.out, List.drop_length, readF])
      go_wp2
      go_ret3
      exact ⟨ret_read HN.out rfl rfl, rfl⟩
end Go.Proofs.YtajddpdlhahcdaaDoor
