/- The walks over pack.Uvarint, pack.Varint, pack.Text. -/
import Derived.Test.YtajddpdlhahcdaaDoorGe
import Derived.Test.YtajddpdlhahcdaaDoorUv
import Derived.Test.YtajddpdlhahcdaaDoorAs
import Derived.Test.YtajddpdlhahcdaaDoorPutV
import Derived.Deep.QuietTactic
import Derived.BigQuiet
import Derived.Handy
import Derived.WalkSmall
namespace Go.Proofs.YtajddpdlhahcdaaDoor
open Go.RowKit K
theorem readF_err : ∀ (l : List UInt8) (i acc : Nat), (readF i acc l).2.2 = 0 ∨ ((readF i acc l).1 = 0 ∧ (readF i acc l).2.1 = 0 ∧ ((readF i acc l).2.2 = 4 ∨ (readF i acc l).2.2 = 11))
  | [], i, acc => .inr ⟨rfl, rfl, .inr rfl⟩
  | x :: r, i, acc => by
    unfold readF
    split
    · exact .inr ⟨rfl, rfl, .inl rfl⟩
    · split
      · exact .inl rfl
      · exact readF_err r _ _
theorem readU_err (l : List UInt8) : (readU l).2.2 = 0 ∨ ((readU l).1 = 0 ∧ (readU l).2.1 = 0 ∧ ((readU l).2.2 = 4 ∨ (readU l).2.2 = 11)) := readF_err l 0 0
set_option maxHeartbeats 1000000 in
theorem uvarint_any (a : Option Addr) (c : Nat) (l : List UInt8) (w : World) (hl : l.length ≤ 9223372036854775807) (hr : Rd w a (bv l)) (hg : GErr w) :
    Calls Tryd.prog 36 #[.slice a l.length c] w fun e w' => e = .returned (.tuple #[.int .u64 (readU l).1, .int .i64 (readU l).2.1, .int .i64 (readU l).2.2]) ∧ Below w.heap.size w w' := by
  have hrd := read_any a c l w hl hr
  have hlt := hg.lt
  have HG := Lib.hid hg
  clear hr hg
  have he := readU_err l
  generalize readU l = p at he hrd ⊢
  obtain ⟨n, k, e⟩ := p
  simp only at he hrd ⊢
  by_cases h0 : e = 0
  · subst h0
    have e0 : errV 0 = .nilIface := rfl
    rw [e0] at hrd
    have HRD := Lib.hid hrd
    clear hrd e0 he
    go_enter Tryd.func36, Tryd.ntmps36
    go_wp2_with fail
    refine HRD.out.mono ?_
    rintro e w' ⟨rfl, rfl⟩
    go_wp2_with fail
    refine (as_nil _ _).mono ?_
    rintro e w' ⟨rfl, rfl⟩
    go_wp2
    go_ret3
    exact ⟨rfl, (Below.refl _ _).alloc (Nat.le_refl _) _⟩
  · obtain ⟨rfl, rfl, he⟩ := he.resolve_left h0
    have e0 : errV e = .iface 90 (.agg #[.int .i64 e]) := by unfold errV; rw [if_neg h0]
    rw [e0] at hrd
    have HRD := Lib.hid hrd
    clear hrd e0 he h0
    go_enter Tryd.func36, Tryd.ntmps36
    go_wp2_with fail
    refine HRD.out.mono ?_
    rintro e w' ⟨rfl, rfl⟩
    go_wp2_with fail
    have hga : GErr (w.alloc (.cells #[.int .i64 0] 90)) := HG.out.below ((Below.refl _ _).alloc (Nat.le_refl _) _) hlt
    refine (as_hit e w.heap.size (.int .i64 0) _ hga (by simp) (by simp)).mono ?_
    rintro e w' ⟨rfl, rfl⟩
    go_wp2
    go_quiet (fail)
    go_wp2
    go_ret3
    refine ⟨rfl, ?_⟩
    repeat' (first | (with_reducible refine below_drewN ?_ _) | go_grown)
end Go.Proofs.YtajddpdlhahcdaaDoor
