/- The walks over the reference's number and record at what an encoder wrote. -/
import Derived.Test.YtdomnjakhecbaaaRRe
import Derived.Test.YtdomnjakhecbaaaFrT
namespace Go.Proofs.Ytdomnjakhecbaaa
open Go.RowKit K
theorem rdd_take {w : World} {a : Option Addr} {x : List UInt8} (h : Rd w a (bv x)) (n : Nat) : Rd w a (bv (x.take n)) := by
  intro k v hv
  refine h k v ?_
  have e : bv (x.take n) = (bv x).take n := by simp [bv]
  rw [e, List.getElem?_take] at hv
  split at hv
  · exact hv
  · cases hv
theorem rdd_drop {w : World} {b off : Nat} {x : List UInt8} (h : Rd w (some ⟨b, off, none⟩) (bv x)) (n : Nat) : Rd w (some ⟨b, off + n, none⟩) (bv (x.drop n)) := by
  intro k v hv
  have e : bv (x.drop n) = (bv x).drop n := by simp [bv]
  rw [e, List.getElem?_drop] at hv
  obtain ⟨b', off', he, hc⟩ := h _ _ hv
  cases he
  exact ⟨b, off + n, rfl, by rw [Nat.add_assoc]; exact hc⟩
set_option maxHeartbeats 1000000 in
set_option maxRecDepth 100000 in
theorem rnumber_ok (w : World) (a : Option Addr) (c at_ n : Nat) (l rest : List UInt8) (hn : n < 18446744073709551616) (hl : l.length ≤ 140737488355328) (hc : l.length ≤ c) (hd : l.drop at_ = putU n ++ rest) (hr : Rd w a (bv l)) :
    Calls Try.prog 35 #[.slice a l.length c, .int .i64 at_] w fun e w' => e = .returned (.tuple #[.int .u64 n, .int .i64 (at_ + (putU n).length : Nat), .int .i64 0]) ∧ w = w' := by
  have hlen := congrArg List.length hd
  rw [List.length_drop, List.length_append] at hlen
  have hpos := putU_pos n
  have hp10 := putU_length n
  have hat : at_ < l.length := by omega
  obtain ⟨ab, ao, rfl, hab, hcl⟩ := hr.at (bv_get hat)
  have hrd : Rd w (some ⟨ab, ao + at_, none⟩) (bv (putU n ++ rest)) := by
    rw [← hd]
    exact rdd_drop hr at_
  have hu := rread_ok (some ⟨ab, ao + at_, none⟩) (c - at_) n rest w hn (by rw [List.length_append]; omega) hrd
  rw [List.length_append] at hu
  obtain ⟨P, hP⟩ : ∃ P, P = (putU n).length := ⟨_, rfl⟩
  obtain ⟨L, hL⟩ : ∃ L, L = l.length := ⟨_, rfl⟩
  rw [← hP] at hu hlen hpos hp10 ⊢
  rw [← hL] at hat hlen hl hc ⊢
  have e : P + rest.length = L - at_ := by omega
  rw [e] at hu
  have hne : ¬ c = at_ := by omega
  have HU := Lib.hid hu
  clear hcl hrd hr hd hu hP hL hn e hlen
  go_enter Try.func35, Try.ntmps35
  go_wp2_with fail
  refine HU.out.mono ?_
  rintro e w' ⟨rfl, rfl⟩
  go_wp2
  go_ret3
  exact ⟨rfl, rfl⟩
end Go.Proofs.Ytdomnjakhecbaaa
