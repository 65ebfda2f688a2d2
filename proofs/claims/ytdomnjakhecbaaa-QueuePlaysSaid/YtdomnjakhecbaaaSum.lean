/- The walk over pack.Sum: of every row of bytes the sum is Crc.sum of the bytes. -/
import Derived.Test.YtdomnjakhecbaaaPack
namespace Go.Proofs.Ytdomnjakhecbaaa
open Go.RowKit
def nats (l : List UInt8) : List Nat := l.map UInt8.toNat
def sumOf (l : List UInt8) : Nat := Crc.sum (nats l)
theorem nats_lt (l : List UInt8) : ∀ x ∈ nats l, x < 256 := by
  intro x hx
  simp [nats] at hx
  obtain ⟨y, _, rfl⟩ := hx
  exact y.toNat_lt
def runTo (l : List UInt8) (k : Nat) : Nat := Crc.run 4294967295 (nats (l.take k))
theorem runTo_lt (l : List UInt8) (k : Nat) : runTo l k < 4294967296 := Crc.run_lt (by omega) (nats_lt _)
theorem runTo_succ (l : List UInt8) (k : Nat) (h : k < l.length) : runTo l (k + 1) = Crc.tab (runTo l k % 256 ^^^ l[k].toNat) ^^^ (runTo l k / 256) := by
  rw [show Crc.tab (runTo l k % 256 ^^^ l[k].toNat) ^^^ (runTo l k / 256) = Crc.upd (runTo l k) l[k].toNat from rfl, Crc.upd_eq]
  unfold runTo
  rw [List.take_succ_eq_append_getElem h]
  unfold nats Crc.run
  rw [List.map_append, List.foldl_append]
  rfl
set_option maxHeartbeats 400000 in
set_option maxRecDepth 100000 in
theorem sum_any (a : Option Addr) (c : Nat) (l : List UInt8) (w : World) (hl : l.length ≤ 140737488355328) (hr : K.Rd w a (K.bv l)) :
    Calls Try.prog 53 #[.slice a l.length c] w fun e w' => e = .returned (.int .u32 (sumOf l : Nat)) ∧ Below w.heap.size w w' := by
  have hz := zero27
  have Hsz := Lib.hid (tabArr_size 256)
  have Hsz0 := Lib.hid (tabArr_size 0)
  go_enter Try.func53, Try.ntmps53
  go_wp2_with fail
  refine (table_any _).mono ?_
  rintro e w1 ⟨rfl, hb⟩
  have hr1 := Lib.hid (K.Rd.below hr hb (Nat.le_refl _))
  clear hr
  go_wp2_with (first | (with_reducible refine K.step_store_row rfl 99 _ _ rfl w1.heap.size rfl (tabArr 256) rfl (tabArr 0) 99 (heap_alloc_new _ _) (by rw [Hsz.out, Hsz0.out]) (by rw [Hsz.out]; exact info27) (tabArr_one 256) ?_; rw [K.alloc_setRow]))
  go_loop [4, 10] (fun x i => ∃ k : Nat, k ≤ l.length ∧ i = .int .i64 k ∧ x = .int .u32 (runTo l k : Nat)) (fun _ i => l.length - (intOf i).toNat)
  case atStart => exact ⟨0, by omega, rfl, rfl⟩
  case round =>
    obtain ⟨k, hk, rfl, rfl⟩ := hrel
    by_cases hlt : k < l.length
    · obtain ⟨b, off, rfl, hbl, hcell⟩ := hr1.out.at (K.bv_get hlt)
      have hlt1 := runTo_lt l k
      have HS := Lib.hid (runTo_succ l k hlt)
      generalize runTo l k = r at hlt1 HS
      have hx := l[k].toNat_lt
      generalize l[k].toNat = x at hcell HS hx
      have hb8 : bits .xor .u8 ((r : Int) % 256) (x : Int) = ((r % 256 ^^^ x : Nat) : Int) := by
        have := u8_xor_nat (r % 256) x (by omega) (by omega)
        simpa using this
      have hi : r % 256 ^^^ x < 256 := Nat.xor_lt_two_pow (n := 8) (by omega) (by omega)
      have ht := Crc.tab_lt hi
      have hg : (tabArr 256)[(bits .xor .u8 ((r : Int) % 256) (x : Int)).toNat]? = some (.int .u32 (Crc.tab (r % 256 ^^^ x) : Nat)) := by
        rw [hb8, Int.toNat_natCast, tabArr_get _ _ hi, if_pos hi]
      have hb32 : bits .xor .u32 (Crc.tab (r % 256 ^^^ x) : Nat) ((r : Int) / 256) = ((Crc.tab (r % 256 ^^^ x) ^^^ r / 256 : Nat) : Int) := by
        have := u32_xor_nat (Crc.tab (r % 256 ^^^ x)) (r / 256) ht (by omega)
        simpa using this
      have hge : 0 ≤ bits .xor .u8 ((r : Int) % 256) (x : Int) := by rw [hb8]; omega
      have hlt8 : bits .xor .u8 ((r : Int) % 256) (x : Int) < 256 := by rw [hb8]; omega
      clear hb8
      generalize Crc.tab (r % 256 ^^^ x) = t at HS hg hb32
      have HB := Lib.hid hb32
      clear hb32
      go_wp2
      go_round
      case rel => exact ⟨k + 1, by omega, by go_num, by rw [HS.out, HB.out]⟩
      case measure => simp [intOf]; omega
    · obtain rfl : k = l.length := by omega
      have hlt1 := runTo_lt l l.length
      have hx32 : bits .xor .u32 IntKind.u32.max (runTo l l.length : Nat) = ((sumOf l : Nat) : Int) := by
        rw [show IntKind.u32.max = ((4294967295 : Nat) : Int) from rfl, u32_xor_nat 4294967295 _ (by omega) hlt1]
        congr 1
        unfold sumOf Crc.sum runTo
        rw [List.take_length]
        unfold runTo at hlt1
        rw [List.take_length] at hlt1
        exact Crc.xor_all hlt1
      have HX := Lib.hid hx32
      clear hx32
      go_wp2
      go_ret
      exact ⟨by rw [HX.out]; rfl, (hb.alloc (by have := hb.size; omega) _)⟩
end Go.Proofs.Ytdomnjakhecbaaa
