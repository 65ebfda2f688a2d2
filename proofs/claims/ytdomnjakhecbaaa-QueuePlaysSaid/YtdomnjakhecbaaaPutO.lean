/- The contracts of what puts bytes, told of slices. -/
import Derived.Test.YtdomnjakhecbaaaPutT
namespace Go.Proofs.Ytdomnjakhecbaaa
open Go.RowKit K
/-- A row of bytes that a call has made: as a slice. -/
def OwnB (w0 w' : World) (l : List UInt8) (e : Ending) : Prop :=
  ∃ a c, e = .returned (.slice a l.length c) ∧ l.length ≤ c ∧ c ≤ 9223372036854775807 ∧ (a = none → c = 0) ∧ Rd w' a (bv l) ∧ w'.ownsRow w0.heap.size 5 1 (.slice a l.length c) l.length (bv l) ∧ Below w0.heap.size w0 w'
theorem putU_to (a : Option Addr) (c : Nat) (l : List UInt8) (n : Nat) (l' : List UInt8) (hl' : l' = l ++ putU n) (w : World) (hn : n < 18446744073709551616) (hc : l.length ≤ c) (hc2 : c ≤ 9223372036854775807) (hl : l.length ≤ 35184372088832) (ha : a = none → c = 0) (hr : Rd w a (bv l)) :
    Calls Try.prog 51 #[.slice a l.length c, .int .u64 n] w fun e w' => OwnB w w' l' e := by
  refine (putUvarint_any a c l n w hn hc hc2 (by omega) ha hr).mono ?_
  rintro e w' ⟨v, rfl, ho, hb⟩
  rw [← hl'] at ho
  obtain ⟨a1, c1, rfl, h1, h2, h3, h4⟩ := own_slice ho
  exact ⟨a1, c1, rfl, h1, h2, h3, h4, ho, hb⟩
theorem putV_to (a : Option Addr) (c : Nat) (l : List UInt8) (n : Int) (l' : List UInt8) (hl' : l' = l ++ putU (zig n)) (w : World) (hn : -9223372036854775808 ≤ n) (hn2 : n ≤ 9223372036854775807) (hc : l.length ≤ c) (hc2 : c ≤ 9223372036854775807) (hl : l.length ≤ 35184372088832) (ha : a = none → c = 0) (hr : Rd w a (bv l)) :
    Calls Try.prog 50 #[.slice a l.length c, .int .i64 n] w fun e w' => OwnB w w' l' e := by
  refine (putVarint_any a c l n w hn hn2 hc hc2 (by omega) ha hr).mono ?_
  rintro e w' ⟨v, rfl, ho, hb⟩
  rw [← hl'] at ho
  obtain ⟨a1, c1, rfl, h1, h2, h3, h4⟩ := own_slice ho
  exact ⟨a1, c1, rfl, h1, h2, h3, h4, ho, hb⟩
theorem putT_to (a : Option Addr) (c : Nat) (l : List UInt8) (s : ByteArray) (l' : List UInt8) (hl' : l' = l ++ putU s.size ++ s.data.toList) (w : World) (hs : s.size ≤ 35184372088832) (hc : l.length ≤ c) (hc2 : c ≤ 9223372036854775807) (hl : l.length ≤ 35184372088832) (ha : a = none → c = 0) (hr : Rd w a (bv l)) :
    Calls Try.prog 52 #[.slice a l.length c, .string s] w fun e w' => OwnB w w' l' e := by
  refine (putText_any a c l s w hs hc hc2 hl ha hr).mono ?_
  rintro e w' ⟨v, rfl, ho, hb⟩
  rw [← hl'] at ho
  obtain ⟨a1, c1, rfl, h1, h2, h3, h4⟩ := own_slice ho
  exact ⟨a1, c1, rfl, h1, h2, h3, h4, ho, hb⟩
end Go.Proofs.Ytdomnjakhecbaaa
