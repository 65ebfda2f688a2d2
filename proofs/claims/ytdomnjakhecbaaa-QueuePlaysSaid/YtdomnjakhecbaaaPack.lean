/- The walks over package pack: the table, the sum, a number's and a text's bytes, each by its contract. -/
import Derived.Test.YtdomnjakhecbaaaKit
import Derived.Test.YtdomnjakhecbaaaCrc
namespace Go.Proofs.Ytdomnjakhecbaaa
open Go.RowKit
@[irreducible] def tabArr (k : Nat) : Array Value := ((List.range 256).map fun i => if i < k then Value.int .u32 (Crc.tab i : Nat) else .int .u32 0).toArray
theorem tabArr_size (k : Nat) : (tabArr k).size = 256 := by unfold tabArr; simp
theorem tabArr_get (k i : Nat) (h : i < 256) : (tabArr k)[i]? = some (if i < k then Value.int .u32 (Crc.tab i : Nat) else .int .u32 0) := by
  unfold tabArr; simp [h]
theorem tabArr_set (k : Nat) (h : k < 256) : (tabArr k).setIfInBounds k (.int .u32 (Crc.tab k : Nat)) = tabArr (k + 1) := by
  apply Array.ext_getElem?
  intro i
  by_cases hi : i < 256
  · rw [tabArr_get _ _ hi, Array.getElem?_setIfInBounds, tabArr_get _ _ hi, tabArr_size]
    by_cases e : k = i
    · subst e; simp [h]
    · rw [if_neg e]; congr 1
      by_cases h1 : i < k
      · rw [if_pos h1, if_pos (by omega)]
      · rw [if_neg h1, if_neg (by omega)]
  · rw [Array.getElem?_eq_none (by simp [tabArr_size]; omega), Array.getElem?_eq_none (by simp [tabArr_size]; omega)]
theorem tabArr_one (k : Nat) : ∀ v ∈ (tabArr k).toList, v.oneCell' = true := by
  unfold tabArr
  intro v hv
  simp at hv
  obtain ⟨i, _, rfl⟩ := hv
  split <;> rfl
theorem zero27 (w : World) : Sem.run Try.prog (zeroValue 99) w = .ok (.agg (tabArr 0)) w := by kernel_rfl
theorem info27 : (Try.prog.info? 99).map (·.size) = some 256 := by kernel_rfl
theorem step_bits (c : Nat) (h : c < 4294967296) : bits .xor .u32 ((c : Int) / 2) (bits .and .u32 3988292384 (-bits .and .u32 (c : Int) 1 % 4294967296)) = ((Crc.step c : Nat) : Int) := by
  have h1 : bits .and .u32 (c : Int) 1 = ((c &&& 1 : Nat) : Int) := u32_and_nat c 1 h (by omega)
  rw [h1, Nat.and_one_is_mod]
  have hx : ∀ m : Nat, m < 4294967296 → bits .xor .u32 ((c : Int) / 2) (m : Int) = ((c / 2 ^^^ m : Nat) : Int) := fun m hm => by
    have := u32_xor_nat (c / 2) m (by omega) hm
    simpa using this
  unfold Crc.step
  rw [Nat.testBit_zero]
  by_cases e : c % 2 = 1
  · rw [e]
    have h2 : bits .and .u32 3988292384 (-((1 : Nat) : Int) % 4294967296) = ((3988292384 : Nat) : Int) := by decide
    rw [h2, hx _ (by omega)]
    simp
  · have e0 : c % 2 = 0 := by omega
    rw [e0]
    have h2 : bits .and .u32 3988292384 (-((0 : Nat) : Int) % 4294967296) = ((0 : Nat) : Int) := by decide
    rw [h2, hx _ (by omega)]
    simp
set_option maxHeartbeats 400000 in
set_option maxRecDepth 100000 in
theorem table_any (w : World) :
    Calls Try.prog 62 #[] w fun e w' => e = .returned (.agg (tabArr 256)) ∧ Below w.heap.size w w' := by
  have hz := zero27
  go_enter Try.func62, Try.ntmps62
  go_wp2
  go_loopw [1, 2, 3, 6, 7, 8, 9, 10, 11] (fun _ _ i _ _ _ _ _ _ wr => ∃ k : Nat, k ≤ 256 ∧ i = .int .i64 k ∧ wr = w.alloc (.cells (tabArr k) 99)) (fun _ _ i _ _ _ _ _ _ _ => 256 - (intOf i).toNat)
  case atStart => exact ⟨0, by omega, rfl, rfl⟩
  case round =>
    obtain ⟨k, hk, rfl, rfl⟩ := hrel
    by_cases hlt : k < 256
    · go_wp2
      go_loop [2, 8] (fun c j => ∃ n : Nat, n ≤ 8 ∧ j = .int .i64 n ∧ c = .int .u32 (Crc.steps n k : Nat)) (fun _ j => 8 - (intOf j).toNat)
      case atStart => exact ⟨0, by omega, rfl, rfl⟩
      case round => 
        obtain ⟨n, hn, rfl, rfl⟩ := hrel
        by_cases hlt2 : n < 8
        · have hc : Crc.steps n k < 4294967296 := Crc.steps_lt n (by omega)
          have hs : Crc.steps (n + 1) k = Crc.step (Crc.steps n k) := Crc.steps_succ n k
          have HS := Lib.hid hs; clear hs
          generalize Crc.steps n k = c at hc HS
          go_wp2
          go_round
          case rel => 
            refine ⟨n + 1, by omega, by go_num, ?_⟩
            rw [HS.out, ← step_bits c hc]
          case measure => simp [intOf]; omega
        · obtain rfl : n = 8 := by omega
          have hg := tabArr_get k k hlt
          rw [if_neg (by omega)] at hg
          have ht := tabArr_set k hlt
          unfold Crc.tab at ht
          go_wp2
          go_roundw
          case rel => exact ⟨k + 1, by omega, by go_num, rfl⟩
          case measure => simp [intOf]; omega
    · obtain rfl : k = 256 := by omega
      have hsz := tabArr_size 256
      have Hsz := Lib.hid hsz; clear hsz
      go_wp2_with (first | (with_reducible refine wpList_load_row rfl 99 _ rfl w.heap.size rfl 99 (tabArr 256) (0, 0) _ (heap_alloc_new _ _) Try.underlying99 rfl (by rw [Hsz.out]; exact info27) ?_) | (with_reducible refine K.step_store_row rfl 99 _ _ rfl w.heap.size rfl (tabArr 256) rfl (tabArr 256) 99 (heap_alloc_new _ _) rfl (by rw [Hsz.out]; exact info27) (tabArr_one 256) ?_; rw [setRow_self _ _ _ _ _ (heap_alloc_new _ _)]))
      exact bodyPost_ret (v := .agg (tabArr 256)) (results_cell_row rfl _ _ w.heap.size 99 (tabArr 256) (0, 0) _ rfl (heap_alloc_new _ _) Try.underlying99 rfl (by rw [Hsz.out]; exact info27)) rfl ⟨rfl, (Below.refl _ _).alloc (Nat.le_refl _) _⟩
end Go.Proofs.Ytdomnjakhecbaaa
