/- A frame's bytes, in plain; a slice that a call owns, opened. -/
import Derived.Test.YtdomnjakhecbaaaFrN
import Derived.Test.YtdomnjakhecbaaaPutO
import Derived.Test.YtdomnjakhecbaaaSum
import Derived.Deep.RegionHeld3
namespace Go.Proofs.Ytdomnjakhecbaaa
open Go.RowKit K
def recB (r : Rec) : List UInt8 := putU r.name.size ++ r.name.data.toList ++ putU r.inc.toNat ++ putU r.rate.toNat ++ [if r.over = true then 1 else 0]
def tagB : List UInt8 := [79, 68, 79, 1]
def headB (q win : Int) (n : Nat) : List UInt8 := tagB ++ putU q.toNat ++ putU (zig win) ++ putU n
def bodyB (q win : Int) (xs : List Rec) (k : Nat) : List UInt8 := headB q win xs.length ++ (xs.take k).flatMap recB
def sum4 (c : Nat) : List UInt8 := [UInt8.ofNat (c / 16777216), UInt8.ofNat (c / 65536), UInt8.ofNat (c / 256), UInt8.ofNat c]
def encB (q win : Int) (xs : List Rec) : List UInt8 := bodyB q win xs xs.length ++ sum4 (sumOf (bodyB q win xs xs.length))
theorem putU_length (n : Nat) : (putU n).length ≤ 10 := putF_length 9 n
theorem recB_length (r : Rec) (h : r.name.size ≤ 65536) : (recB r).length ≤ 65600 := by
  have h1 := putU_length r.name.size
  have h2 := putU_length r.inc.toNat
  have h3 := putU_length r.rate.toNat
  have h4 : r.name.data.toList.length = r.name.size := rfl
  simp only [recB, List.length_append, List.length_cons, List.length_nil]
  omega
theorem flat_le (xs : List Rec) (h : ∀ x ∈ xs, x.name.size ≤ 65536) : (xs.flatMap recB).length ≤ xs.length * 65600 := by
  induction xs with
  | nil => simp
  | cons x r ih =>
    have h1 := ih (fun y hy => h y (by simp [hy]))
    have h2 := recB_length x (h x (by simp))
    rw [List.flatMap_cons, List.length_append, List.length_cons]
    omega
theorem headB_length (q win : Int) (n : Nat) : (headB q win n).length ≤ 34 := by
  have h1 := putU_length q.toNat
  have h2 := putU_length (zig win)
  have h3 := putU_length n
  simp only [headB, tagB, List.length_append, List.length_cons, List.length_nil]
  omega
theorem bodyB_length (q win : Int) (xs : List Rec) (h : ∀ x ∈ xs, x.name.size ≤ 65536) (hn : xs.length ≤ 4096) (k : Nat) : (bodyB q win xs k).length ≤ 270000000 := by
  have h1 := headB_length q win xs.length
  have h2 := flat_le (xs.take k) (fun x hx => h x (List.mem_of_mem_take hx))
  have h3 : (xs.take k).length ≤ xs.length := by rw [List.length_take]; omega
  have h4 := Nat.mul_le_mul_right 65600 (Nat.le_trans h3 hn)
  simp only [bodyB, List.length_append]
  omega
theorem bodyB_succ (q win : Int) (xs : List Rec) (k : Nat) (h : k < xs.length) : bodyB q win xs (k + 1) = bodyB q win xs k ++ recB xs[k] := by
  unfold bodyB
  rw [List.take_succ_eq_append_getElem h, List.flatMap_append, List.append_assoc]
  simp only [List.flatMap_cons, List.flatMap_nil, List.append_nil]
theorem sumOf_lt (l : List UInt8) : sumOf l < 4294967296 := by
  unfold sumOf Crc.sum
  omega
theorem sum4_bv (s : Nat) (h : s < 4294967296) : bv (sum4 s) = [.int .u8 ((s : Int) / 16777216), .int .u8 ((s : Int) / 65536 % 256), .int .u8 ((s : Int) / 256 % 256), .int .u8 ((s : Int) % 256)] := by
  have e : ∀ n : Nat, ((UInt8.ofNat n).toNat : Int) = (n : Int) % 256 := fun n => by simp
  simp only [bv, sum4, List.map_cons, List.map_nil, e]
  have h1 : ((s / 16777216 : Nat) : Int) % 256 = (s : Int) / 16777216 := by omega
  rw [h1]
  simp
end Go.Proofs.Ytdomnjakhecbaaa
