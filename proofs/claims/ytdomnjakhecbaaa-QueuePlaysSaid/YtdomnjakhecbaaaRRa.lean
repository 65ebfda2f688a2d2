/- The walk over the reference's Read at a number's own bytes. -/
import Derived.Test.YtdomnjakhecbaaaRPut
import Derived.Outline
import Derived.Test.YtdomnjakhecbaaaFrT
import Derived.Handy
namespace Go.Proofs.Ytdomnjakhecbaaa
open Go.RowKit K
/-- The number of bytes of seven bits each, the lowest first. -/
def valF : List UInt8 → Nat
  | [] => 0
  | x :: r => x.toNat % 128 + 128 * valF r
theorem valF_putF : ∀ k n, n < 128 ^ (k + 1) → valF (putF k n) = n
  | 0, n, h => by
    have e : (UInt8.ofNat n).toNat = n := K.u8_of (by omega)
    simp only [putF, valF, e]
    omega
  | k + 1, n, h => by
    unfold putF
    by_cases hs : n < 128
    · have e : (UInt8.ofNat n).toNat = n := K.u8_of (by omega)
      simp only [if_pos hs, valF, e]
      omega
    · have e : (UInt8.ofNat (n % 128 + 128)).toNat = n % 128 + 128 := K.u8_of (by omega)
      have ih := valF_putF k (n / 128) (by rw [Nat.pow_succ] at h; omega)
      simp only [if_neg hs, valF, e, ih]
      omega
theorem putF_hi : ∀ k n i (h : i + 1 < (putF k n).length), 128 ≤ ((putF k n)[i]).toNat
  | 0, n, i, h => by simp [putF] at h
  | k + 1, n, i, h => by
    by_cases hs : n < 128
    · have e : putF (k + 1) n = [UInt8.ofNat n] := by simp [putF, hs]
      rw [e] at h
      simp at h
    · have e : putF (k + 1) n = UInt8.ofNat (n % 128 + 128) :: putF k (n / 128) := by simp [putF, hs]
      have e2 : (UInt8.ofNat (n % 128 + 128)).toNat = n % 128 + 128 := K.u8_of (by omega)
      cases i with
      | zero => simp only [e, List.getElem_cons_zero, e2]; omega
      | succ i =>
        simp only [e, List.getElem_cons_succ]
        exact putF_hi k (n / 128) i (by rw [e] at h; simpa using h)
theorem putF_pos' (k n : Nat) : 0 < (putF k n).length := by
  cases k with
  | zero => simp [putF]
  | succ k => unfold putF; split <;> simp
theorem putF_one (k n : Nat) (h : 1 < (putF k n).length) : 128 ≤ n := by
  cases k with
  | zero => simp [putF] at h
  | succ k =>
    unfold putF at h
    split at h
    · simp at h
    · omega
theorem putF_last : ∀ k n, n < 128 ^ (k + 1) → ∃ x : Nat, x < 128 ∧ (0 < n → 0 < x) ∧ (putF k n)[(putF k n).length - 1]? = some (UInt8.ofNat x) ∧ x * 128 ^ ((putF k n).length - 1) ≤ n
  | 0, n, h => ⟨n, by omega, fun h => h, by simp [putF], by simp [putF]⟩
  | k + 1, n, h => by
    by_cases hs : n < 128
    · have e : putF (k + 1) n = [UInt8.ofNat n] := by simp [putF, hs]
      rw [e]
      exact ⟨n, by omega, fun h => h, by simp, by simp⟩
    · have e : putF (k + 1) n = UInt8.ofNat (n % 128 + 128) :: putF k (n / 128) := by simp [putF, hs]
      obtain ⟨x, h1, h2, h3, h4⟩ := putF_last k (n / 128) (by rw [Nat.pow_succ] at h; omega)
      have hp := putF_pos' k (n / 128)
      have e3 : (putF k (n / 128)).length = ((putF k (n / 128)).length - 1) + 1 := by omega
      refine ⟨x, h1, fun _ => h2 (by omega), ?_, ?_⟩
      · rw [e, List.length_cons, Nat.add_sub_cancel, e3, List.getElem?_cons_succ]
        exact h3
      · rw [e, List.length_cons, Nat.add_sub_cancel, e3, Nat.pow_succ, ← Nat.mul_assoc]
        generalize x * 128 ^ ((putF k (n / 128)).length - 1) = A at h4 ⊢
        omega
theorem valF_drop (p : List UInt8) (i : Nat) (h : i < p.length) : valF (p.drop i) = p[i].toNat % 128 + 128 * valF (p.drop (i + 1)) := by
  rw [List.drop_eq_getElem_cons h]
  rfl
theorem valF_drop_le : ∀ (p : List UInt8) (i : Nat), valF (p.drop i) ≤ valF p
  | [], i => by simp
  | x :: r, 0 => by simp
  | x :: r, i + 1 => by
    have := valF_drop_le r i
    simp only [List.drop_succ_cons, valF]
    omega
/-- A number's bytes, seen from outside. -/
theorem putU_shape (n : Nat) (h : n < 18446744073709551616) : ∃ m : Nat, (putU n).length = m + 1 ∧ m ≤ 9 ∧ valF (putU n) = n ∧ (∀ i (hi : i < (putU n).length), i < m → 128 ≤ ((putU n)[i]).toNat) ∧ ∃ x, x < 128 ∧ (putU n)[m]? = some (UInt8.ofNat x) ∧ (0 < m → 0 < x) ∧ (m = 9 → x ≤ 1) := by
  have h10 : n < 128 ^ (9 + 1) := by omega
  obtain ⟨x, h1, h2, h3, h4⟩ := putF_last 9 n h10
  have hp := putF_pos' 9 n
  have hl := putF_length 9 n
  unfold putU
  refine ⟨(putF 9 n).length - 1, by omega, by omega, valF_putF 9 n h10, fun i hi hm => putF_hi 9 n i (by omega), x, h1, h3, fun hm => h2 ?_, fun hm => ?_⟩
  · have := putF_one 9 n (by omega)
    omega
  · rw [hm] at h4
    have e9 : (128 : Nat) ^ 9 = 9223372036854775808 := by decide
    rw [e9] at h4
    omega
end Go.Proofs.Ytdomnjakhecbaaa
namespace Go.Proofs.Ytdomnjakhecbaaa
open Go.RowKit K
theorem ret_rr {a a' b b' : Int} (h1 : a = a') (h2 : b = b') : Ending.returned (.tuple #[.int .u64 a, .int .i64 b, .int .i64 0]) = .returned (.tuple #[.int .u64 a', .int .i64 b', .int .i64 0]) := by rw [h1, h2]
set_option maxHeartbeats 1000000 in
set_option maxRecDepth 100000 in
theorem rread_ok (a : Option Addr) (c : Nat) (n : Nat) (rest : List UInt8) (w : World) (hn : n < 18446744073709551616) (hl : (putU n ++ rest).length ≤ 140737488355328) (hr : Rd w a (bv (putU n ++ rest))) :
    Calls Try.prog 55 #[.slice a (putU n ++ rest).length c] w fun e w' => e = .returned (.tuple #[.int .u64 n, .int .i64 (putU n).length, .int .i64 0]) ∧ w = w' := by
  obtain ⟨m, hm, hm9, hv, hhi, x, hx, hlast, hx0, hx1⟩ := putU_shape n hn
  obtain ⟨p, hp⟩ : ∃ p, p = putU n := ⟨_, rfl⟩
  rw [← hp] at hm hv hhi hlast hr hl ⊢
  clear hp
  obtain ⟨L, hL⟩ : ∃ L, L = (p ++ rest).length := ⟨_, rfl⟩
  rw [← hL] at hl ⊢
  have hmL : m < L := by rw [hL, List.length_append]; omega
  have hc0 : ∀ k (hk : k < p.length), w.cell? (⟨(a.getD ⟨0, 0, none⟩).block, (a.getD ⟨0, 0, none⟩).off + k, none⟩ : Addr) = some (.int .u8 (p[k].toNat : Int)) ∧ a = some ⟨(a.getD ⟨0, 0, none⟩).block, (a.getD ⟨0, 0, none⟩).off, none⟩ := fun k hk => by
    obtain ⟨b, off, e, h⟩ := hr k (.int .u8 (p[k].toNat : Int)) (by rw [bv_get (by rw [List.length_append]; omega), List.getElem_append_left hk])
    subst e
    exact ⟨h, rfl⟩
  obtain ⟨ab, hab⟩ : ∃ ab, ab = (a.getD ⟨0, 0, none⟩).block := ⟨_, rfl⟩
  obtain ⟨ao, hao⟩ : ∃ ao, ao = (a.getD ⟨0, 0, none⟩).off := ⟨_, rfl⟩
  rw [← hab, ← hao] at hc0
  obtain rfl : a = some ⟨ab, ao, none⟩ := (hc0 0 (by omega)).2
  have hc : ∀ k (hk : k < p.length), w.cell? ⟨ab, ao + k, none⟩ = some (.int .u8 (p[k].toNat : Int)) := fun k hk => (hc0 k hk).1
  have HC := Lib.hid hc
  have HHI := Lib.hid hhi
  have HM := Lib.hid hm
  have HV := Lib.hid hv
  have hpm : p[m]'(by omega) = UInt8.ofNat x := by
    rw [List.getElem?_eq_getElem (by omega)] at hlast
    exact Option.some.inj hlast
  have hcm : w.cell? ⟨ab, ao + m, none⟩ = some (.int .u8 x) := by
    rw [hc m (by omega), hpm, K.u8_of (by omega)]
  have HX0 := Lib.hid hx0
  have HX1 := Lib.hid hx1
  have HN := Lib.hid hn
  clear hn hc hc0 hhi hv hlast hpm hr hL hab hao hx0 hx1 hm
  go_enter Try.func55, Try.ntmps55
  go_wp2
  go_loop [5] (fun i => ∃ k : Nat, k ≤ m ∧ i = .int .i64 k) (fun i => m - (intOf i).toNat)
  case atStart => exact ⟨0, by omega, rfl⟩
  case round =>
    obtain ⟨k, hk, rfl⟩ := hrel
    by_cases hlt : k < m
    · have hcc := HC.out k (by have := HM.out; omega)
      have hge := HHI.out k (by have := HM.out; omega) hlt
      have h256 := (p[k]'(by have := HM.out; omega)).toNat_lt
      obtain ⟨y, hy⟩ : ∃ y : Nat, y = (p[k]'(by have := HM.out; omega)).toNat := ⟨_, rfl⟩
      rw [← hy] at hcc hge h256
      clear hy
      go_wp2
      go_round
      case rel => exact ⟨k + 1, by omega, by go_num⟩
      case measure => simp [intOf]; omega
    · obtain rfl : k = m := by omega
      have hx128 : ¬ (128 : Int) ≤ x := by omega
      have h10 : ((k : Int) == 10) = false := by rw [beq_eq_false_iff_ne]; omega
      have hLk : ¬ (L : Int) ≤ k := by omega
      have h3 : k = 9 ∨ k = 0 ∨ (0 < k ∧ k < 9) := by omega
      rcases h3 with h3 | h3 | h3
      · have h9 : ((k : Int) == 9) = true := by rw [beq_iff_eq]; omega
        have hc9 : w.cell? ⟨ab, ao + 9, none⟩ = some (.int .u8 x) := by rw [← h3]; exact hcm
        have hx1 : ¬ (1 : Int) < x := by have := HX1.out h3; omega
        have hL9 : (9 : Int) < L := by omega
        have hk0 : (0 : Int) < k := by omega
        have hxz : ((x : Int) == 0) = false := by rw [beq_eq_false_iff_ne]; have := HX0.out (by omega); omega
        go_wp2
        go_loop [6, 7] (fun X i => ∃ (j : Nat) (z : Int), j ≤ p.length ∧ z = (j : Int) - 1 ∧ i = .int .i64 z ∧ X = .int .u64 (valF (p.drop j))) (fun _ i => (intOf i + 1).toNat)
        case atStart => exact ⟨p.length, _, by omega, by have := HM.out; omega, rfl, by rw [List.drop_length]; rfl⟩
        case round =>
          obtain ⟨j, z, hj, hz, rfl, rfl⟩ := hrel
          have hjL : j ≤ L := by have := HM.out; omega
          cases j with
          | zero =>
            obtain rfl : z = -1 := by omega
            clear hz
            have HE := Lib.hid (show (valF p : Int) = n by rw [HV.out])
            have HE2 := Lib.hid (show (9 + 1 : Int) = p.length by have := HM.out; omega)
            go_wp2
            go_ret3
            exact ⟨ret_rr HE.out HE2.out, rfl⟩
          | succ t =>
            obtain rfl : z = t := by omega
            clear hz
            have hcc := HC.out t (by omega)
            have h256 := (p[t]'(by omega)).toNat_lt
            have hsum := valF_drop p t (by omega)
            have hle := valF_drop_le p t
            obtain ⟨y, hy⟩ : ∃ y : Nat, y = (p[t]'(by omega)).toNat := ⟨_, rfl⟩
            rw [← hy] at hcc h256 hsum
            obtain ⟨X, hX⟩ : ∃ X : Nat, X = valF (p.drop (t + 1)) := ⟨_, rfl⟩
            rw [← hX] at hsum ⊢
            have hbd : 128 * (X : Int) + (y : Int) % 128 ≤ 18446744073709551615 := by have := HV.out; have := HN.out; omega
            have HS := Lib.hid hsum
            clear hy hX hsum hle
            go_wp2
            go_round
            case rel => exact ⟨t, _, by omega, rfl, rfl, by rw [HS.out]; go_num⟩
            case measure => simp only [intOf]; omega
      · have hx0 : k = 0 := h3
        subst hx0
        simp only [Nat.add_zero] at hcm
        clear h3 h10
        go_wp2
        go_loop [6, 7] (fun X i => ∃ (j : Nat) (z : Int), j ≤ p.length ∧ z = (j : Int) - 1 ∧ i = .int .i64 z ∧ X = .int .u64 (valF (p.drop j))) (fun _ i => (intOf i + 1).toNat)
        case atStart => exact ⟨p.length, _, by omega, by have := HM.out; omega, rfl, by rw [List.drop_length]; rfl⟩
        case round =>
          obtain ⟨j, z, hj, hz, rfl, rfl⟩ := hrel
          have hjL : j ≤ L := by have := HM.out; omega
          cases j with
          | zero =>
            obtain rfl : z = -1 := by omega
            clear hz
            have HE := Lib.hid (show (valF p : Int) = n by rw [HV.out])
            have HE2 := Lib.hid (show (0 + 1 : Int) = p.length by have := HM.out; omega)
            go_wp2
            go_ret3
            exact ⟨ret_rr HE.out HE2.out, rfl⟩
          | succ t =>
            obtain rfl : z = t := by omega
            clear hz
            have hcc := HC.out t (by omega)
            have h256 := (p[t]'(by omega)).toNat_lt
            have hsum := valF_drop p t (by omega)
            have hle := valF_drop_le p t
            obtain ⟨y, hy⟩ : ∃ y : Nat, y = (p[t]'(by omega)).toNat := ⟨_, rfl⟩
            rw [← hy] at hcc h256 hsum
            obtain ⟨X, hX⟩ : ∃ X : Nat, X = valF (p.drop (t + 1)) := ⟨_, rfl⟩
            rw [← hX] at hsum ⊢
            have hbd : 128 * (X : Int) + (y : Int) % 128 ≤ 18446744073709551615 := by have := HV.out; have := HN.out; omega
            have HS := Lib.hid hsum
            clear hy hX hsum hle
            go_wp2
            go_round
            case rel => exact ⟨t, _, by omega, rfl, rfl, by rw [HS.out]; go_num⟩
            case measure => simp only [intOf]; omega
      · have h9 : ((k : Int) == 9) = false := by rw [beq_eq_false_iff_ne]; omega
        have hk0 : (0 : Int) < k := by omega
        have hxz : ((x : Int) == 0) = false := by rw [beq_eq_false_iff_ne]; have := HX0.out (by omega); omega
        go_wp2
        go_loop [6, 7] (fun X i => ∃ (j : Nat) (z : Int), j ≤ p.length ∧ z = (j : Int) - 1 ∧ i = .int .i64 z ∧ X = .int .u64 (valF (p.drop j))) (fun _ i => (intOf i + 1).toNat)
        case atStart => exact ⟨p.length, _, by omega, by have := HM.out; omega, rfl, by rw [List.drop_length]; rfl⟩
        case round =>
          obtain ⟨j, z, hj, hz, rfl, rfl⟩ := hrel
          have hjL : j ≤ L := by have := HM.out; omega
          cases j with
          | zero =>
            obtain rfl : z = -1 := by omega
            clear hz
            have HE := Lib.hid (show (valF p : Int) = n by rw [HV.out])
            have HE2 := Lib.hid (show ((k : Int) + 1 : Int) = p.length by have := HM.out; omega)
            go_wp2
            go_ret3
            exact ⟨ret_rr HE.out HE2.out, rfl⟩
          | succ t =>
            obtain rfl : z = t := by omega
            clear hz
            have hcc := HC.out t (by omega)
            have h256 := (p[t]'(by omega)).toNat_lt
            have hsum := valF_drop p t (by omega)
            have hle := valF_drop_le p t
            obtain ⟨y, hy⟩ : ∃ y : Nat, y = (p[t]'(by omega)).toNat := ⟨_, rfl⟩
            rw [← hy] at hcc h256 hsum
            obtain ⟨X, hX⟩ : ∃ X : Nat, X = valF (p.drop (t + 1)) := ⟨_, rfl⟩
            rw [← hX] at hsum ⊢
            have hbd : 128 * (X : Int) + (y : Int) % 128 ≤ 18446744073709551615 := by have := HV.out; have := HN.out; omega
            have HS := Lib.hid hsum
            clear hy hX hsum hle
            go_wp2
            go_round
            case rel => exact ⟨t, _, by omega, rfl, rfl, by rw [HS.out]; go_num⟩
            case measure => simp only [intOf]; omega
end Go.Proofs.Ytdomnjakhecbaaa
namespace Go.Proofs.Ytdomnjakhecbaaa
open Go.RowKit K
theorem rdd_take {w : World} {a : Option Addr} {x : List UInt8} (h : Rd w a (bv x)) (n : Nat) : Rd w a (bv (x.take n)) := by
  intro k v hv
  refine h k v ?_
  have e : bv (x.take n) = (bv x).take n := by simp [bv]
  rw [e, List.getElem?_take] at hv
  split at hv
  · exact hv
  · cases hv
theorem rdd_drop {w : World} {b off : Nat} {x : List UInt8} (h : Rd w (some ⟨b, off, none⟩) (bv x)) (n : Nat) : Rd w (some ⟨b, off + n, none⟩) (bv (x.drop n)) := by
  intro k v hv
  have e : bv (x.drop n) = (bv x).drop n := by simp [bv]
  rw [e, List.getElem?_drop] at hv
  obtain ⟨b', off', he, hc⟩ := h _ _ hv
  cases he
  exact ⟨b, off + n, rfl, by rw [Nat.add_assoc]; exact hc⟩
set_option maxHeartbeats 1000000 in
set_option maxRecDepth 100000 in
theorem rnumber_ok (w : World) (a : Option Addr) (c at_ n : Nat) (l rest : List UInt8) (hn : n < 18446744073709551616) (hl : l.length ≤ 140737488355328) (hc : l.length ≤ c) (hd : l.drop at_ = putU n ++ rest) (hr : Rd w a (bv l)) :
    Calls Try.prog 35 #[.slice a l.length c, .int .i64 at_] w fun e w' => e = .returned (.tuple #[.int .u64 n, .int .i64 (at_ + (putU n).length : Nat), .int .i64 0]) ∧ w = w' := by
  have hlen := congrArg List.length hd
  rw [List.length_drop, List.length_append] at hlen
  have hpos := putU_pos n
  have hp10 := putU_length n
  have hat : at_ < l.length := by omega
  obtain ⟨ab, ao, rfl, hab, hcl⟩ := hr.at (bv_get hat)
  have hrd : Rd w (some ⟨ab, ao + at_, none⟩) (bv (putU n ++ rest)) := by
    rw [← hd]
    exact rdd_drop hr at_
  have hu := rread_ok (some ⟨ab, ao + at_, none⟩) (c - at_) n rest w hn (by rw [List.length_append]; omega) hrd
  rw [List.length_append] at hu
  obtain ⟨P, hP⟩ : ∃ P, P = (putU n).length := ⟨_, rfl⟩
  obtain ⟨L, hL⟩ : ∃ L, L = l.length := ⟨_, rfl⟩
  rw [← hP] at hu hlen hpos hp10 ⊢
  rw [← hL] at hat hlen hl hc ⊢
  have e : P + rest.length = L - at_ := by omega
  rw [e] at hu
  have hne : ¬ c = at_ := by omega
  have HU := Lib.hid hu
  clear hcl hrd hr hd hu hP hL hn e hlen
  go_enter Try.func35, Try.ntmps35
  go_wp2_with fail
  refine HU.out.mono ?_
  rintro e w' ⟨rfl, rfl⟩
  go_wp2
  go_ret3
  exact ⟨rfl, rfl⟩
end Go.Proofs.Ytdomnjakhecbaaa
namespace Go.Proofs.Ytdomnjakhecbaaa
open Go.RowKit K
theorem drop_more {α : Type} {l x r : List α} {a : Nat} (h : l.drop a = x ++ r) : l.drop (a + x.length) = r := by
  rw [← List.drop_drop, h, List.drop_left]
def RecOk (w : World) (x : Rec) (p : Nat) (e : Ending) (w' : World) : Prop :=
  e = .returned (.tuple #[.agg x.cells, .int .i64 p, .int .i64 0]) ∧ Below w.heap.size w w'
set_option maxHeartbeats 2000000 in
set_option maxRecDepth 100000 in
theorem rrecord_ok (w : World) (a : Option Addr) (c p0 p1 p2 p3 p4 : Nat) (x : Rec) (l rest : List UInt8) (hl : l.length ≤ 140737488355328) (hc : l.length ≤ c) (hd : l.drop p0 = recB x ++ rest) (hn : x.name.size ≤ 65536) (hi : 0 ≤ x.inc ∧ x.inc ≤ 9223372036854775807) (hrt : 0 ≤ x.rate ∧ x.rate ≤ 9223372036854775807)
    (h1 : p1 = p0 + (putU x.name.size).length) (h2 : p2 = p1 + x.name.size) (h3 : p3 = p2 + (putU x.inc.toNat).length) (h4 : p4 = p3 + (putU x.rate.toNat).length) (hr : Rd w a (bv l)) :
    Calls Try.prog 36 #[.slice a l.length c, .int .i64 p0, .int .i64 x.win] w (RecOk w x (p4 + 1)) := by
  obtain ⟨name, win, inc, rate, over⟩ := x
  simp only at hn hi hrt h1 h2 h3 h4 hd ⊢
  obtain ⟨inc, rfl⟩ : ∃ k : Nat, inc = k := ⟨inc.toNat, by omega⟩
  obtain ⟨rate, rfl⟩ : ∃ k : Nat, rate = k := ⟨rate.toNat, by omega⟩
  simp only [Int.toNat_natCast] at h3 h4
  have e1 : l.drop p0 = putU name.size ++ (name.data.toList ++ (putU inc ++ (putU rate ++ ([if over = true then 1 else 0] ++ rest)))) := by
    rw [hd]
    simp [recB]
  have e2 := drop_more e1
  rw [← h1] at e2
  have e3 := drop_more e2
  rw [show name.data.toList.length = name.size from rfl, ← h2] at e3
  have e4 := drop_more e3
  rw [← h3] at e4
  have e5 := drop_more e4
  rw [← h4] at e5
  have hl5 := congrArg List.length e5
  rw [List.length_drop, List.length_append] at hl5
  simp only [List.length_cons, List.length_nil] at hl5
  have hp4 : p4 < l.length := by omega
  obtain ⟨ab, ao, rfl, hab, hcl⟩ := hr.at (bv_get hp4)
  have hb4 : l[p4] = if over = true then 1 else 0 := by
    have := List.drop_eq_getElem_cons hp4
    rw [e5] at this
    simpa using (List.cons.inj this).1.symm
  have hcell : w.cell? ⟨ab, ao + p4, none⟩ = some (.int .u8 (if over = true then 1 else 0)) := by
    rw [hcl, hb4]
    cases over <;> rfl
  have HN1 := Lib.hid (fun W (hb : Below w.heap.size w W) => rnumber_ok W (some ⟨ab, ao, none⟩) c p0 name.size l _ (by omega) hl hc e1 (hr.below hb (Nat.le_refl _)))
  have HN2 := Lib.hid (fun W (hb : Below w.heap.size w W) => rnumber_ok W (some ⟨ab, ao, none⟩) c p2 inc l _ (by omega) hl hc e3 (hr.below hb (Nat.le_refl _)))
  have HN3 := Lib.hid (fun W (hb : Below w.heap.size w W) => rnumber_ok W (some ⟨ab, ao, none⟩) c p3 rate l _ (by omega) hl hc e4 (hr.below hb (Nat.le_refl _)))
  have hnm : (l.drop p1).take name.size = name.data.toList := by
    rw [e2]
    exact List.take_left
  have hrn : Rd w (some ⟨ab, ao + p1, none⟩) (bv name.data.toList) := by
    rw [← hnm]
    exact rdd_take (rdd_drop hr p1) _
  obtain ⟨L, hL⟩ : ∃ L, L = l.length := ⟨_, rfl⟩
  rw [← h1] at HN1
  rw [← h3] at HN2
  rw [← h4] at HN3
  rw [← hL] at HN1 HN2 HN3 hl hc hp4 ⊢
  have q1 : p0 ≤ p1 := by omega
  have q2 : p1 ≤ p2 := by omega
  have q3 : p2 ≤ p3 := by omega
  have q4 : p3 ≤ p4 := by omega
  have q5 : (p2 : Int) = p1 + name.size := by omega
  have hne : ¬ c = p1 := by omega
  have q6 : (name.size : Int) ≤ L - p1 := by omega
  have q7 : p1 + name.size ≤ L := by omega
  have HRN := Lib.hid hrn
  rw [q5] at HN2
  have HCELL := Lib.hid hcell
  clear hrn hnm hcl hr hb4 hl5 e1 e2 e3 e4 e5 hd h1 h2 h3 h4 hL q5 hcell
  go_enter Try.func36, Try.ntmps36
  go_wp2_with fail
  refine (HN1.out _ (((Below.refl _ _).alloc (Nat.le_refl _) _).alloc (by simp) _)).mono ?_
  rintro e w1 ⟨rfl, rfl⟩
  have hcv : ∀ A B, Sem.run Try.prog (convert 34 9 (.slice (some ⟨ab, ao + p1, none⟩) name.size (c - p1))) ((w.alloc A).alloc B) = .ok (.string name) ((w.alloc A).alloc B) := fun A B => by
    have h := run_bytes_string (P := Try.prog) ((w.alloc A).alloc B) 34 9 5 Try.underlying34 Try.underlying5 Try.underlying9 (some ⟨ab, ao + p1, none⟩) (c - p1) name.data.toList (HRN.out.below (((Below.refl _ _).alloc (Nat.le_refl _) _).alloc (by simp) _) (Nat.le_refl _))
    exact h
  go_wp2_with fail
  refine (HN2.out _ ?_).mono ?_
  · go_grown
  rintro e w2 ⟨rfl, rfl⟩
  go_wp2_with fail
  refine (HN3.out _ ?_).mono ?_
  · go_grown
  rintro e w3 ⟨rfl, rfl⟩
  have hcell : w.cell? ⟨ab, ao + p4, none⟩ = some (.int .u8 (if over = true then 1 else 0)) := HCELL.out
  cases over with
  | true =>
    simp only [if_true] at hcell
    go_wp2_with fail
    go_returns
    exact ⟨rfl, by go_grown⟩
  | false =>
    simp only [Bool.false_eq_true, if_false] at hcell
    go_wp2_with fail
    go_returns
    exact ⟨rfl, by go_grown⟩
end Go.Proofs.Ytdomnjakhecbaaa
