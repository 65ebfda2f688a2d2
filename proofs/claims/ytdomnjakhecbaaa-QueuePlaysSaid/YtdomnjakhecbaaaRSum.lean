/- The walk over the reference's Sum, bit by bit: the same number. -/
import Derived.Test.YtdomnjakhecbaaaSum
namespace Go.Proofs.Ytdomnjakhecbaaa
open Go.RowKit
theorem runTo_succ' (l : List UInt8) (k : Nat) (h : k < l.length) : runTo l (k + 1) = Crc.steps 8 (runTo l k ^^^ l[k].toNat) := by
  show _ = Crc.rupd (runTo l k) l[k].toNat
  unfold runTo
  rw [List.take_succ_eq_append_getElem h]
  unfold nats Crc.run
  rw [List.map_append, List.foldl_append]
  rfl
theorem step_odd (c : Nat) (h : c < 4294967296) (ho : c % 2 = 1) : bits .xor .u32 ((c : Int) / 2) 3988292384 = ((Crc.step c : Nat) : Int) := by
  have := u32_xor_nat (c / 2) 3988292384 (by omega) (by omega)
  unfold Crc.step
  rw [Nat.testBit_zero]
  simpa [ho] using this
theorem step_even (c : Nat) (ho : ¬ c % 2 = 1) : (c : Int) / 2 = ((Crc.step c : Nat) : Int) := by
  unfold Crc.step
  rw [Nat.testBit_zero]
  simp [ho]
set_option maxHeartbeats 400000 in
set_option maxRecDepth 100000 in
theorem rsum_any (a : Option Addr) (c : Nat) (l : List UInt8) (w : World) (hl : l.length ≤ 140737488355328) (hr : K.Rd w a (K.bv l)) :
    Calls Try.prog 54 #[.slice a l.length c] w fun e w' => e = .returned (.int .u32 (sumOf l : Nat)) ∧ w = w' := by
  have hr1 := Lib.hid hr
  clear hr
  go_enter Try.func54, Try.ntmps54
  go_wp2
  go_loop [3, 4] (fun x i => ∃ k : Nat, k ≤ l.length ∧ i = .int .i64 k ∧ x = .int .u32 (runTo l k : Nat)) (fun _ i => l.length - (intOf i).toNat)
  case atStart => exact ⟨0, by omega, rfl, rfl⟩
  case round =>
    obtain ⟨k, hk, rfl, rfl⟩ := hrel
    by_cases hlt : k < l.length
    · obtain ⟨b, off, rfl, hbl, hcell⟩ := hr1.out.at (K.bv_get hlt)
      have hlt1 := runTo_lt l k
      have HS := Lib.hid (runTo_succ' l k hlt)
      generalize runTo l k = r at hlt1 HS
      have hx := l[k].toNat_lt
      generalize l[k].toNat = x at hcell HS hx
      have hb32 : bits .xor .u32 (r : Int) (x : Int) = ((r ^^^ x : Nat) : Int) := u32_xor_nat r x hlt1 (by omega)
      have hy : r ^^^ x < 4294967296 := Nat.xor_lt_two_pow (n := 32) hlt1 (by omega)
      generalize r ^^^ x = y at hb32 HS hy
      go_wp2
      clear hb32
      go_loop [3, 5, 6] (fun c j _ => ∃ n : Nat, n ≤ 8 ∧ j = .int .i64 n ∧ c = .int .u32 (Crc.steps n y : Nat)) (fun _ j _ => 8 - (intOf j).toNat)
      case atStart => exact ⟨0, by omega, rfl, rfl⟩
      case round =>
        obtain ⟨n, hn, rfl, rfl⟩ := hrel
        by_cases hlt2 : n < 8
        · have hc : Crc.steps n y < 4294967296 := Crc.steps_lt n hy
          have HT := Lib.hid (Crc.steps_succ n y)
          generalize Crc.steps n y = c at hc HT
          by_cases ho : c % 2 = 1
          · have h1 : ((c : Int) % 2 == 1) = true := by rw [beq_iff_eq]; omega
            have HE := Lib.hid (step_odd c hc ho)
            clear ho
            go_wp2
            go_round
            case rel => exact ⟨n + 1, by omega, by go_num, by rw [HT.out, HE.out]⟩
            case measure => simp [intOf]; omega
          · have h1 : ((c : Int) % 2 == 1) = false := by rw [beq_eq_false_iff_ne]; omega
            have HE := Lib.hid (step_even c ho)
            clear ho
            go_wp2
            go_round
            case rel => exact ⟨n + 1, by omega, by go_num, by rw [HT.out, ← HE.out]⟩
            case measure => simp [intOf]; omega
        · obtain rfl : n = 8 := by omega
          go_wp2
          go_round
          case rel => exact ⟨k + 1, by omega, by go_num, by rw [HS.out]⟩
          case measure => simp [intOf]; omega
    · obtain rfl : k = l.length := by omega
      have hlt1 := runTo_lt l l.length
      have hx32 : bits .xor .u32 IntKind.u32.max (runTo l l.length : Nat) = ((sumOf l : Nat) : Int) := by
        rw [show IntKind.u32.max = ((4294967295 : Nat) : Int) from rfl, u32_xor_nat 4294967295 _ (by omega) hlt1]
        congr 1
        unfold sumOf Crc.sum runTo
        rw [List.take_length]
        unfold runTo at hlt1
        rw [List.take_length] at hlt1
        exact Crc.xor_all hlt1
      have HX := Lib.hid hx32
      clear hx32
      go_wp2
      go_ret
      exact ⟨by rw [HX.out]; rfl, rfl⟩
end Go.Proofs.Ytdomnjakhecbaaa
