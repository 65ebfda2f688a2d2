/- The walks over frame.Same, the references' Same, and Much. -/
import Derived.Test.YtajddpdlhahcdaaFrF
namespace Go.Proofs.Ytajddpdlhahcdaa
open Go.RowKit K
def frEq (q win : Int) (xs : List Rec) (q2 win2 : Int) (ys : List Rec) : Bool := (q == q2) && ((win == win2) && recsEq xs ys)
set_option maxHeartbeats 1000000 in
theorem fsame_any (w : World) (q win q2 win2 : Int) (a1 a2 : Option Addr) (c1 c2 : Nat) (xs ys : List Rec) (h1 : xs.length ≤ 1000000) (h2 : ys.length ≤ 1000000) (hr1 : Rd w a1 (rcf xs)) (hr2 : Rd w a2 (rcf ys)) :
    Calls Try.prog 6 #[frv q win (.slice a1 xs.length c1), frv q2 win2 (.slice a2 ys.length c2)] w fun e w' => e = .returned (.bool (frEq q win xs q2 win2 ys)) ∧ Below w.heap.size w w' := by
  have HR1 := Lib.hid hr1
  have HR2 := Lib.hid hr2
  clear hr1 hr2
  unfold frv frEq
  by_cases hq : q = q2
  · subst hq
    by_cases hw : win = win2
    · subst hw
      go_enter Try.func6, Try.ntmps6
      go_wp2_with fail
      have hb : ∀ o1 o2, Below w.heap.size w ((w.alloc o1).alloc o2) := fun o1 o2 => ((Below.refl _ _).alloc (Nat.le_refl _) _).alloc (by simp) _
      refine (equalFunc_any _ _ _ _ _ xs ys h1 h2 (HR1.out.below (hb _ _) (Nat.le_refl _)) (HR2.out.below (hb _ _) (Nat.le_refl _))).mono ?_
      rintro e w2 ⟨rfl, hb2⟩
      have HB := Lib.hid ((hb _ _).trans (hb2.mono (by simp; omega)))
      clear hb2 hb
      go_wp2
      go_ret
      exact ⟨by simp, HB.out⟩
    · have hw2 : (win == win2) = false := by simpa using hw
      go_enter Try.func6, Try.ntmps6
      go_wp2
      go_ret
      exact ⟨by simp [hw2], ((Below.refl _ _).alloc (Nat.le_refl _) _).alloc (by simp) _⟩
  · have hq2 : (q == q2) = false := by simpa using hq
    go_enter Try.func6, Try.ntmps6
    go_wp2
    go_ret
    exact ⟨by simp [hq2], ((Below.refl _ _).alloc (Nat.le_refl _) _).alloc (by simp) _⟩
end Go.Proofs.Ytajddpdlhahcdaa
