/- A frame's bytes, in plain; a slice that a call owns, opened. -/
import Derived.Test.YtajddpdlhahcdaaFrN
import Derived.Test.YtajddpdlhahcdaaPutT
import Derived.Test.YtajddpdlhahcdaaSum
import Derived.Deep.RegionHeld3
namespace Go.Proofs.Ytajddpdlhahcdaa
open Go.RowKit K
def recB (r : Rec) : List UInt8 := putU r.name.size ++ r.name.data.toList ++ putU r.inc.toNat ++ putU r.rate.toNat ++ [if r.over = true then 1 else 0]
def tagB : List UInt8 := [79, 68, 79, 1]
def headB (q win : Int) (n : Nat) : List UInt8 := tagB ++ putU q.toNat ++ putU (zig win) ++ putU n
def bodyB (q win : Int) (xs : List Rec) (k : Nat) : List UInt8 := headB q win xs.length ++ (xs.take k).flatMap recB
def sum4 (c : Nat) : List UInt8 := [UInt8.ofNat (c / 16777216), UInt8.ofNat (c / 65536), UInt8.ofNat (c / 256), UInt8.ofNat c]
def encB (q win : Int) (xs : List Rec) : List UInt8 := bodyB q win xs xs.length ++ sum4 (sumOf (bodyB q win xs xs.length))
theorem putU_length (n : Nat) : (putU n).length ≤ 10 := putF_length 9 n
theorem recB_length (r : Rec) (h : r.name.size ≤ 65536) : (recB r).length ≤ 65600 := by
  have h1 := putU_length r.name.size
  have h2 := putU_length r.inc.toNat
  have h3 := putU_length r.rate.toNat
  have h4 : r.name.data.toList.length = r.name.size := rfl
  simp only [recB, List.length_append, List.length_cons, List.length_nil]
  omega
theorem flat_le (xs : List Rec) (h : ∀ x ∈ xs, x.name.size ≤ 65536) : (xs.flatMap recB).length ≤ xs.length * 65600 := by
  induction xs with
  | nil => simp
  | cons x r ih =>
    have h1 := ih (fun y hy => h y (by simp [hy]))
    have h2 := recB_length x (h x (by simp))
    rw [List.flatMap_cons, List.length_append, List.length_cons]
    omega
theorem headB_length (q win : Int) (n : Nat) : (headB q win n).length ≤ 34 := by
  have h1 := putU_length q.toNat
  have h2 := putU_length (zig win)
  have h3 := putU_length n
  simp only [headB, tagB, List.length_append, List.length_cons, List.length_nil]
  omega
theorem bodyB_length (q win : Int) (xs : List Rec) (h : ∀ x ∈ xs, x.name.size ≤ 65536) (hn : xs.length ≤ 4096) (k : Nat) : (bodyB q win xs k).length ≤ 270000000 := by
  have h1 := headB_length q win xs.length
  have h2 := flat_le (xs.take k) (fun x hx => h x (List.mem_of_mem_take hx))
  have h3 : (xs.take k).length ≤ xs.length := by rw [List.length_take]; omega
  have h4 := Nat.mul_le_mul_right 65600 (Nat.le_trans h3 hn)
  simp only [bodyB, List.length_append]
  omega
theorem bodyB_succ (q win : Int) (xs : List Rec) (k : Nat) (h : k < xs.length) : bodyB q win xs (k + 1) = bodyB q win xs k ++ recB xs[k] := by
  unfold bodyB
  rw [List.take_succ_eq_append_getElem h, List.flatMap_append, List.append_assoc]
  simp only [List.flatMap_cons, List.flatMap_nil, List.append_nil]
theorem sumOf_lt (l : List UInt8) : sumOf l < 4294967296 := by
  unfold sumOf Crc.sum
  omega
theorem sum4_bv (s : Nat) (h : s < 4294967296) : bv (sum4 s) = [.int .u8 ((s : Int) / 16777216), .int .u8 ((s : Int) / 65536 % 256), .int .u8 ((s : Int) / 256 % 256), .int .u8 ((s : Int) % 256)] := by
  have e : ∀ n : Nat, ((UInt8.ofNat n).toNat : Int) = (n : Int) % 256 := fun n => by simp
  simp only [bv, sum4, List.map_cons, List.map_nil, e]
  have h1 : ((s / 16777216 : Nat) : Int) % 256 = (s : Int) / 16777216 := by omega
  rw [h1]
  simp
theorem keepc {w w' : World} {p : Addr} {v : Value} (hb : Below w.heap.size w w') (h : w.cell? p = some v) : w'.cell? p = some v :=
  (hb.cell (World.block_lt_of_cell? _ _ h)).trans h
/-- A row that a call owns, as a slice. -/
theorem own_slice {w : World} {B e n : Nat} {v : Value} {xs : List Value} (h : w.ownsRow B e 1 v n xs) : ∃ a c, v = .slice a n c ∧ n ≤ c ∧ c ≤ 9223372036854775807 ∧ (a = none → c = 0) ∧ Rd w a xs := by
  rcases h.2 with ⟨rfl, rfl⟩ | ⟨g, cap, cur, rfl, _, hg, hn, hm, _⟩
  · refine ⟨none, 0, rfl, Nat.le_refl _, by omega, fun _ => rfl, fun k v hv => ?_⟩
    have : xs = [] := List.eq_nil_of_length_eq_zero (by simpa using h.1)
    subst this
    simp at hv
  · refine ⟨_, cap, rfl, hn, (by unfold maxLen at hm; omega), (fun h => by cases h), fun k v hv => ⟨g, 0, rfl, ?_⟩⟩
    have := h.cells (g := g) rfl k v hv
    simpa [Addr.add_lit] using this
theorem own_base {w : World} {B D e size n : Nat} {v : Value} {xs : List Value} (h : w.ownsRow D e size v n xs) (hB : B ≤ D) : w.ownsRow B e size v n xs := by
  refine ⟨h.1, ?_⟩
  rcases h.2 with h | ⟨g, cap, cur, rfl, hg, rest⟩
  · exact .inl h
  · exact .inr ⟨g, cap, cur, rfl, Nat.le_trans hB hg, rest⟩
/-- A row of bytes that a call has made: as a slice. -/
def OwnB (w0 w' : World) (l : List UInt8) (e : Ending) : Prop :=
  ∃ a c, e = .returned (.slice a l.length c) ∧ l.length ≤ c ∧ c ≤ 9223372036854775807 ∧ (a = none → c = 0) ∧ Rd w' a (bv l) ∧ w'.ownsRow w0.heap.size 5 1 (.slice a l.length c) l.length (bv l) ∧ Below w0.heap.size w0 w'
theorem putU_to (a : Option Addr) (c : Nat) (l : List UInt8) (n : Nat) (l' : List UInt8) (hl' : l' = l ++ putU n) (w : World) (hn : n < 18446744073709551616) (hc : l.length ≤ c) (hc2 : c ≤ 9223372036854775807) (hl : l.length ≤ 35184372088832) (ha : a = none → c = 0) (hr : Rd w a (bv l)) :
    Calls Try.prog 15 #[.slice a l.length c, .int .u64 n] w fun e w' => OwnB w w' l' e := by
  refine (putUvarint_any a c l n w hn hc hc2 (by omega) ha hr).mono ?_
  rintro e w' ⟨v, rfl, ho, hb⟩
  rw [← hl'] at ho
  obtain ⟨a1, c1, rfl, h1, h2, h3, h4⟩ := own_slice ho
  exact ⟨a1, c1, rfl, h1, h2, h3, h4, ho, hb⟩
theorem putV_to (a : Option Addr) (c : Nat) (l : List UInt8) (n : Int) (l' : List UInt8) (hl' : l' = l ++ putU (zig n)) (w : World) (hn : -9223372036854775808 ≤ n) (hn2 : n ≤ 9223372036854775807) (hc : l.length ≤ c) (hc2 : c ≤ 9223372036854775807) (hl : l.length ≤ 35184372088832) (ha : a = none → c = 0) (hr : Rd w a (bv l)) :
    Calls Try.prog 14 #[.slice a l.length c, .int .i64 n] w fun e w' => OwnB w w' l' e := by
  refine (putVarint_any a c l n w hn hn2 hc hc2 (by omega) ha hr).mono ?_
  rintro e w' ⟨v, rfl, ho, hb⟩
  rw [← hl'] at ho
  obtain ⟨a1, c1, rfl, h1, h2, h3, h4⟩ := own_slice ho
  exact ⟨a1, c1, rfl, h1, h2, h3, h4, ho, hb⟩
theorem putT_to (a : Option Addr) (c : Nat) (l : List UInt8) (s : ByteArray) (l' : List UInt8) (hl' : l' = l ++ putU s.size ++ s.data.toList) (w : World) (hs : s.size ≤ 35184372088832) (hc : l.length ≤ c) (hc2 : c ≤ 9223372036854775807) (hl : l.length ≤ 35184372088832) (ha : a = none → c = 0) (hr : Rd w a (bv l)) :
    Calls Try.prog 16 #[.slice a l.length c, .string s] w fun e w' => OwnB w w' l' e := by
  refine (putText_any a c l s w hs hc hc2 hl ha hr).mono ?_
  rintro e w' ⟨v, rfl, ho, hb⟩
  rw [← hl'] at ho
  obtain ⟨a1, c1, rfl, h1, h2, h3, h4⟩ := own_slice ho
  exact ⟨a1, c1, rfl, h1, h2, h3, h4, ho, hb⟩
end Go.Proofs.Ytajddpdlhahcdaa
