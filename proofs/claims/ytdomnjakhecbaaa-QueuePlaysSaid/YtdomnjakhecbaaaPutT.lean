/- The walk over pack.PutText. -/
import Derived.Test.YtdomnjakhecbaaaPutV
import Derived.Lib.AppendStr
namespace Go.Proofs.Ytdomnjakhecbaaa
open Go.RowKit
theorem strCells_bv (s : ByteArray) : Lib.strCells s = K.bv s.data.toList := rfl
set_option maxHeartbeats 400000 in
set_option maxRecDepth 100000 in
theorem putText_any (a : Option Addr) (c : Nat) (l : List UInt8) (s : ByteArray) (w : World) (hs : s.size ≤ 35184372088832) (hc : l.length ≤ c) (hc2 : c ≤ 9223372036854775807) (hl : l.length ≤ 35184372088832) (ha : a = none → c = 0) (hr : K.Rd w a (K.bv l)) :
    Calls Try.prog 52 #[.slice a l.length c, .string s] w fun e w' =>
      ∃ v, e = .returned v ∧ w'.ownsRow w.heap.size 5 1 v (l ++ putU s.size ++ s.data.toList).length (K.bv (l ++ putU s.size ++ s.data.toList)) ∧ Below w.heap.size w w' := by
  have HR := Lib.hid hr
  have HA := Lib.hid ha
  clear hr ha
  obtain ⟨i0, hi, hz0, hz1, hz2⟩ := info_parts info_byte
  go_enter Try.func52, Try.ntmps52
  go_wp2_with fail
  refine (putUvarint_any a c l s.size w (by omega) hc hc2 (by omega) HA.out HR.out).mono ?_
  rintro e w1 ⟨v, rfl, hown, hb⟩
  have hp : (putU s.size).length ≤ 10 := putF_length 9 s.size
  have hpl : (l ++ putU s.size).length ≤ l.length + 10 := by simp; omega
  have HO := Lib.hid hown
  have HB := Lib.hid hb
  have hsz := hb.size
  clear hown hb hp
  go_wp2_with (first
    | (at_builtin; refine Lib.wpList_append_own_string _ rfl _ _ 34 9 rfl w.heap.size 5 i0 Try.underlying34 Try.underlying9 hi hz0 hz1 hz2 _ _ _ rfl HO.out s rfl ?c1 ?c2 hsz ?_)
    | fail)
  case c1 => unfold maxLen; omega
  case c2 => omega
  intro v' w2 hown2 hg2 _
  have HO2 := Lib.hid hown2
  have HB2 := Lib.hid (HB.out.grown hg2 hsz (fun k hk => (HO.out.lt k hk).1))
  clear hown2 hg2
  go_wp2
  go_ret
  refine ⟨_, rfl, ?_, HB2.out⟩
  have := HO2.out
  rw [strCells_bv, ← bv_append] at this
  have e : (l ++ putU s.size ++ s.data.toList).length = l.length + (putU s.size).length + s.size := by
    simp only [List.length_append]
    rfl
  rw [e]
  exact this
end Go.Proofs.Ytdomnjakhecbaaa
