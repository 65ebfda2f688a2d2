/- The walk over the reference's Much. -/
import Derived.Test.YtdomnjakhecbaaaFrH
namespace Go.Proofs.Ytdomnjakhecbaaa
open Go.RowKit K
def tot (xs : List Rec) : Nat := (xs.map fun x => x.name.size).sum
def muchB (xs : List Rec) : Bool := decide (60 < xs.length) || decide (70000 < tot (xs.take 61))
theorem tot_succ (xs : List Rec) (k : Nat) (h : k < xs.length) : tot (xs.take (k + 1)) = tot (xs.take k) + xs[k].name.size := by
  unfold tot
  rw [List.take_succ_eq_append_getElem h]
  simp only [List.map_append, List.map_cons, List.map_nil, List.sum_append, List.sum_cons, List.sum_nil, Nat.add_zero]
theorem tot_le_of (B : Nat) : ∀ (xs : List Rec), (∀ x ∈ xs, x.name.size ≤ B) → tot xs ≤ xs.length * B
  | [], _ => by simp [tot]
  | x :: r, hs => by
    have h1 := tot_le_of B r (fun y hy => hs y (by simp [hy]))
    have h2 := hs x (by simp)
    have e : tot (x :: r) = x.name.size + tot r := by simp [tot]
    rw [e, List.length_cons, Nat.add_mul, Nat.one_mul]
    omega
theorem tot_take (xs : List Rec) (hs : ∀ x ∈ xs, x.name.size ≤ 140737488355328) (k : Nat) : tot (xs.take k) ≤ k * 140737488355328 := by
  have := tot_le_of 140737488355328 (xs.take k) (fun x hx => hs x (List.mem_of_mem_take hx))
  have h2 : (xs.take k).length ≤ k := List.length_take_le _ _
  exact Nat.le_trans this (Nat.mul_le_mul_right _ h2)
set_option maxHeartbeats 1000000 in
theorem much_any (w : World) (q win : Int) (a : Option Addr) (c : Nat) (xs : List Rec) (hl : xs.length ≤ 9223372036854775807) (hs : ∀ x ∈ xs, x.name.size ≤ 140737488355328) (hr : Rd w a (rcf xs)) :
    Calls Try.prog 38 #[frv q win (.slice a xs.length c)] w fun e w' => e = .returned (.bool (muchB xs)) ∧ Below w.heap.size w w' := by
  have HR := Lib.hid hr
  have HS := Lib.hid hs
  clear hr hs
  unfold frv
  go_enter Try.func38, Try.ntmps38
  go_wp2
  go_loop [3, 4] (fun n i => ∃ k : Nat, k ≤ xs.length ∧ k ≤ 61 ∧ i = .int .i64 k ∧ n = .int .i64 (tot (xs.take k) : Nat)) (fun _ i => 61 - (intOf i).toNat)
  case atStart => exact ⟨0, by omega, by omega, rfl, by simp [tot]⟩
  case round =>
    obtain ⟨k, hk, hk2, rfl, rfl⟩ := hrel
    have hb : ∀ o, Below w.heap.size w (w.alloc o) := fun o => (Below.refl _ _).alloc (Nat.le_refl _) o
    by_cases hlt : k < xs.length
    · by_cases h60 : k ≤ 60
      · obtain ⟨b, off, rfl, hbl, hq⟩ := rec_cells HR.out hlt
        have q0 := hq 0 _ (by omega) rfl
        have HT := Lib.hid (tot_succ xs k hlt)
        have ht := tot_take xs HS.out k
        have hsz := HS.out _ (List.getElem_mem hlt)
        generalize xs[k] = x at q0 HT hsz
        generalize tot (xs.take k) = t at ht HT
        simp only [Nat.add_zero] at q0
        clear hq hb
        go_wp2
        go_round
        case rel => exact ⟨k + 1, by omega, by omega, by go_num, by rw [HT.out]; go_num⟩
        case measure => simp [intOf]; omega
      · obtain rfl : k = 61 := by omega
        have HM := Lib.hid (show muchB xs = true by unfold muchB; simp; left; omega)
        have h61 : 60 < xs.length := by omega
        have ht := tot_take xs HS.out 61
        generalize tot (xs.take 61) = t at ht
        go_wp2
        go_ret
        exact ⟨by rw [HM.out]; rfl, hb _⟩
    · obtain rfl : k = xs.length := by omega
      have ht := tot_take xs HS.out xs.length
      by_cases h60 : 60 < xs.length
      · have HM := Lib.hid (show muchB xs = true by unfold muchB; simp; left; omega)
        generalize tot (xs.take xs.length) = t at ht
        go_wp2
        go_ret
        exact ⟨by rw [HM.out]; rfl, hb _⟩
      · have HM := Lib.hid (show muchB xs = decide (70000 < tot (xs.take xs.length)) by
          unfold muchB
          rw [decide_eq_false h60, Bool.false_or, List.take_length, List.take_of_length_le (by omega)])
        generalize tot (xs.take xs.length) = t at ht HM
        go_wp2
        go_ret
        refine ⟨ret_bool (by rw [HM.out, Bool.eq_iff_iff]; simp; omega), hb _⟩
end Go.Proofs.Ytdomnjakhecbaaa
