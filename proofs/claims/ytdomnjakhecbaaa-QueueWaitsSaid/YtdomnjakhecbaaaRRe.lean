/- The walk over the reference's Read at a number's own bytes. -/
import Derived.Test.YtdomnjakhecbaaaRRd
import Derived.Outline
namespace Go.Proofs.Ytdomnjakhecbaaa
open Go.RowKit K
theorem ret_rr {a a' b b' : Int} (h1 : a = a') (h2 : b = b') : Ending.returned (.tuple #[.int .u64 a, .int .i64 b, .int .i64 0]) = .returned (.tuple #[.int .u64 a', .int .i64 b', .int .i64 0]) := by rw [h1, h2]
set_option maxHeartbeats 1000000 in
set_option maxRecDepth 100000 in
theorem rread_ok (a : Option Addr) (c : Nat) (n : Nat) (rest : List UInt8) (w : World) (hn : n < 18446744073709551616) (hl : (putU n ++ rest).length ≤ 140737488355328) (hr : Rd w a (bv (putU n ++ rest))) :
    Calls Try.prog 55 #[.slice a (putU n ++ rest).length c] w fun e w' => e = .returned (.tuple #[.int .u64 n, .int .i64 (putU n).length, .int .i64 0]) ∧ w = w' := by
  obtain ⟨m, hm, hm9, hv, hhi, x, hx, hlast, hx0, hx1⟩ := putU_shape n hn
  obtain ⟨p, hp⟩ : ∃ p, p = putU n := ⟨_, rfl⟩
  rw [← hp] at hm hv hhi hlast hr hl ⊢
  clear hp
  obtain ⟨L, hL⟩ : ∃ L, L = (p ++ rest).length := ⟨_, rfl⟩
  rw [← hL] at hl ⊢
  have hmL : m < L := by rw [hL, List.length_append]; omega
  have hc0 : ∀ k (hk : k < p.length), w.cell? (⟨(a.getD ⟨0, 0, none⟩).block, (a.getD ⟨0, 0, none⟩).off + k, none⟩ : Addr) = some (.int .u8 (p[k].toNat : Int)) ∧ a = some ⟨(a.getD ⟨0, 0, none⟩).block, (a.getD ⟨0, 0, none⟩).off, none⟩ := fun k hk => by
    obtain ⟨b, off, e, h⟩ := hr k (.int .u8 (p[k].toNat : Int)) (by rw [bv_get (by rw [List.length_append]; omega), List.getElem_append_left hk])
    subst e
    exact ⟨h, rfl⟩
  obtain ⟨ab, hab⟩ : ∃ ab, ab = (a.getD ⟨0, 0, none⟩).block := ⟨_, rfl⟩
  obtain ⟨ao, hao⟩ : ∃ ao, ao = (a.getD ⟨0, 0, none⟩).off := ⟨_, rfl⟩
  rw [← hab, ← hao] at hc0
  obtain rfl : a = some ⟨ab, ao, none⟩ := (hc0 0 (by omega)).2
  have hc : ∀ k (hk : k < p.length), w.cell? ⟨ab, ao + k, none⟩ = some (.int .u8 (p[k].toNat : Int)) := fun k hk => (hc0 k hk).1
  have HC := Lib.hid hc
  have HHI := Lib.hid hhi
  have HM := Lib.hid hm
  have HV := Lib.hid hv
  have hpm : p[m]'(by omega) = UInt8.ofNat x := by
    rw [List.getElem?_eq_getElem (by omega)] at hlast
    exact Option.some.inj hlast
  have hcm : w.cell? ⟨ab, ao + m, none⟩ = some (.int .u8 x) := by
    rw [hc m (by omega), hpm, K.u8_of (by omega)]
  have HX0 := Lib.hid hx0
  have HX1 := Lib.hid hx1
  have HN := Lib.hid hn
  clear hn hc hc0 hhi hv hlast hpm hr hL hab hao hx0 hx1 hm
  go_enter Try.func55, Try.ntmps55
  go_wp2
  go_loop [5] (fun i => ∃ k : Nat, k ≤ m ∧ i = .int .i64 k) (fun i => m - (intOf i).toNat)
  case atStart => exact ⟨0, by omega, rfl⟩
  case round =>
    obtain ⟨k, hk, rfl⟩ := hrel
    by_cases hlt : k < m
    · have hcc := HC.out k (by have := HM.out; omega)
      have hge := HHI.out k (by have := HM.out; omega) hlt
      have h256 := (p[k]'(by have := HM.out; omega)).toNat_lt
      obtain ⟨y, hy⟩ : ∃ y : Nat, y = (p[k]'(by have := HM.out; omega)).toNat := ⟨_, rfl⟩
      rw [← hy] at hcc hge h256
      clear hy
      go_wp2
      go_round
      case rel => exact ⟨k + 1, by omega, by go_num⟩
      case measure => simp [intOf]; omega
    · obtain rfl : k = m := by omega
      have hx128 : ¬ (128 : Int) ≤ x := by omega
      have h10 : ((k : Int) == 10) = false := by rw [beq_eq_false_iff_ne]; omega
      have hLk : ¬ (L : Int) ≤ k := by omega
      have h3 : k = 9 ∨ k = 0 ∨ (0 < k ∧ k < 9) := by omega
      rcases h3 with h3 | h3 | h3
      · have h9 : ((k : Int) == 9) = true := by rw [beq_iff_eq]; omega
        have hc9 : w.cell? ⟨ab, ao + 9, none⟩ = some (.int .u8 x) := by rw [← h3]; exact hcm
        have hx1 : ¬ (1 : Int) < x := by have := HX1.out h3; omega
        have hL9 : (9 : Int) < L := by omega
        have hk0 : (0 : Int) < k := by omega
        have hxz : ((x : Int) == 0) = false := by rw [beq_eq_false_iff_ne]; have := HX0.out (by omega); omega
        go_wp2
        go_loop [6, 7] (fun X i => ∃ (j : Nat) (z : Int), j ≤ p.length ∧ z = (j : Int) - 1 ∧ i = .int .i64 z ∧ X = .int .u64 (valF (p.drop j))) (fun _ i => (intOf i + 1).toNat)
        case atStart => exact ⟨p.length, _, by omega, by have := HM.out; omega, rfl, by rw [List.drop_length]; rfl⟩
        case round =>
          obtain ⟨j, z, hj, hz, rfl, rfl⟩ := hrel
          have hjL : j ≤ L := by have := HM.out; omega
          cases j with
          | zero =>
            obtain rfl : z = -1 := by omega
            clear hz
            have HE := Lib.hid (show (valF p : Int) = n by rw [HV.out])
            have HE2 := Lib.hid (show (9 + 1 : Int) = p.length by have := HM.out; omega)
            go_wp2
            go_ret3
            exact ⟨ret_rr HE.out HE2.out, rfl⟩
          | succ t =>
            obtain rfl : z = t := by omega
            clear hz
            have hcc := HC.out t (by omega)
            have h256 := (p[t]'(by omega)).toNat_lt
            have hsum := valF_drop p t (by omega)
            have hle := valF_drop_le p t
            obtain ⟨y, hy⟩ : ∃ y : Nat, y = (p[t]'(by omega)).toNat := ⟨_, rfl⟩
            rw [← hy] at hcc h256 hsum
            obtain ⟨X, hX⟩ : ∃ X : Nat, X = valF (p.drop (t + 1)) := ⟨_, rfl⟩
            rw [← hX] at hsum ⊢
            have hbd : 128 * (X : Int) + (y : Int) % 128 ≤ 18446744073709551615 := by have := HV.out; have := HN.out; omega
            have HS := Lib.hid hsum
            clear hy hX hsum hle
            go_wp2
            go_round
            case rel => exact ⟨t, _, by omega, rfl, rfl, by rw [HS.out]; go_num⟩
            case measure => simp only [intOf]; omega
      · have hx0 : k = 0 := h3
        subst hx0
        simp only [Nat.add_zero] at hcm
        clear h3 h10
        go_wp2
        go_loop [6, 7] (fun X i => ∃ (j : Nat) (z : Int), j ≤ p.length ∧ z = (j : Int) - 1 ∧ i = .int .i64 z ∧ X = .int .u64 (valF (p.drop j))) (fun _ i => (intOf i + 1).toNat)
        case atStart => exact ⟨p.length, _, by omega, by have := HM.out; omega, rfl, by rw [List.drop_length]; rfl⟩
        case round =>
          obtain ⟨j, z, hj, hz, rfl, rfl⟩ := hrel
          have hjL : j ≤ L := by have := HM.out; omega
          cases j with
          | zero =>
            obtain rfl : z = -1 := by omega
            clear hz
            have HE := Lib.hid (show (valF p : Int) = n by rw [HV.out])
            have HE2 := Lib.hid (show (0 + 1 : Int) = p.length by have := HM.out; omega)
            go_wp2
            go_ret3
            exact ⟨ret_rr HE.out HE2.out, rfl⟩
          | succ t =>
            obtain rfl : z = t := by omega
            clear hz
            have hcc := HC.out t (by omega)
            have h256 := (p[t]'(by omega)).toNat_lt
            have hsum := valF_drop p t (by omega)
            have hle := valF_drop_le p t
            obtain ⟨y, hy⟩ : ∃ y : Nat, y = (p[t]'(by omega)).toNat := ⟨_, rfl⟩
            rw [← hy] at hcc h256 hsum
            obtain ⟨X, hX⟩ : ∃ X : Nat, X = valF (p.drop (t + 1)) := ⟨_, rfl⟩
            rw [← hX] at hsum ⊢
            have hbd : 128 * (X : Int) + (y : Int) % 128 ≤ 18446744073709551615 := by have := HV.out; have := HN.out; omega
            have HS := Lib.hid hsum
            clear hy hX hsum hle
            go_wp2
            go_round
            case rel => exact ⟨t, _, by omega, rfl, rfl, by rw [HS.out]; go_num⟩
            case measure => simp only [intOf]; omega
      · have h9 : ((k : Int) == 9) = false := by rw [beq_eq_false_iff_ne]; omega
        have hk0 : (0 : Int) < k := by omega
        have hxz : ((x : Int) == 0) = false := by rw [beq_eq_false_iff_ne]; have := HX0.out (by omega); omega
        go_wp2
        go_loop [6, 7] (fun X i => ∃ (j : Nat) (z : Int), j ≤ p.length ∧ z = (j : Int) - 1 ∧ i = .int .i64 z ∧ X = .int .u64 (valF (p.drop j))) (fun _ i => (intOf i + 1).toNat)
        case atStart => exact ⟨p.length, _, by omega, by have := HM.out; omega, rfl, by rw [List.drop_length]; rfl⟩
        case round =>
          obtain ⟨j, z, hj, hz, rfl, rfl⟩ := hrel
          have hjL : j ≤ L := by have := HM.out; omega
          cases j with
          | zero =>
            obtain rfl : z = -1 := by omega
            clear hz
            have HE := Lib.hid (show (valF p : Int) = n by rw [HV.out])
            have HE2 := Lib.hid (show ((k : Int) + 1 : Int) = p.length by have := HM.out; omega)
            go_wp2
            go_ret3
            exact ⟨ret_rr HE.out HE2.out, rfl⟩
          | succ t =>
            obtain rfl : z = t := by omega
            clear hz
            have hcc := HC.out t (by omega)
            have h256 := (p[t]'(by omega)).toNat_lt
            have hsum := valF_drop p t (by omega)
            have hle := valF_drop_le p t
            obtain ⟨y, hy⟩ : ∃ y : Nat, y = (p[t]'(by omega)).toNat := ⟨_, rfl⟩
            rw [← hy] at hcc h256 hsum
            obtain ⟨X, hX⟩ : ∃ X : Nat, X = valF (p.drop (t + 1)) := ⟨_, rfl⟩
            rw [← hX] at hsum ⊢
            have hbd : 128 * (X : Int) + (y : Int) % 128 ≤ 18446744073709551615 := by have := HV.out; have := HN.out; omega
            have HS := Lib.hid hsum
            clear hy hX hsum hle
            go_wp2
            go_round
            case rel => exact ⟨t, _, by omega, rfl, rfl, by rw [HS.out]; go_num⟩
            case measure => simp only [intOf]; omega
end Go.Proofs.Ytdomnjakhecbaaa
