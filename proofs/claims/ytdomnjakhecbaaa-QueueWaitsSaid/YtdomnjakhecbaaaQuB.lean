/- The walks over the queue's New, Next and wait. -/
import Derived.Test.YtdomnjakhecbaaaQuA
namespace Go.Proofs.Ytdomnjakhecbaaa
open Go.RowKit K
def once : Int := -9223372036854775808
def newQ (most base longest : Int) : QR := ⟨max most 0, max base 1, max longest (max base 1), 0, 0, 0, false, once, 0⟩
theorem new_any (w : World) (most base longest : Int) :
    Calls Try.prog 8 #[.int .i64 most, .int .i64 base, .int .i64 longest] w fun e w' => e = .returned (.pointer (some ⟨w.heap.size, 0, none⟩)) ∧ QBox w' w.heap.size (.slice none 0 0) (newQ most base longest) ∧ Below w.heap.size w w' := by
  go_enter Try.func8, Try.ntmps8
  go_wp2
  all_goals
    go_ret
    refine ⟨rfl, (heap_alloc_new _ _).trans ?_, (Below.refl _ _).alloc (Nat.le_refl _) _⟩
    simp only [newQ, once, Option.some.injEq, Obj.cells.injEq, Array.mk.injEq, List.cons.injEq, Value.int.injEq, true_and, and_true]
    omega
def nextV (n : Nat) (s : QR) : Value := if n = 0 ∨ s.sink = true then .tuple #[.int .i64 0, .bool false] else .tuple #[.int .i64 s.time, .bool true]
theorem next_any (w : World) (g : Nat) (a : Option Addr) (n c : Nat) (s : QR) (h : QBox w g (.slice a n c) s) :
    Calls Try.prog 11 #[.pointer (some ⟨g, 0, none⟩)] w fun e w' => e = .returned (nextV n s) ∧ w = w' := by
  have c0 := h.c0
  have c7 := h.c7
  have c8 := h.c8
  clear h
  by_cases hn : n = 0
  · subst hn
    have HV := Lib.hid (show nextV 0 s = .tuple #[.int .i64 0, .bool false] by simp [nextV])
    go_enter Try.func11, Try.ntmps11
    go_wp2
    go_ret2
    exact ⟨by rw [HV.out]; rfl, rfl⟩
  · have hn2 : ((n : Int) == 0) = false := by rw [beq_eq_false_iff_ne]; omega
    obtain ⟨most, base, longest, put, acked, dropped, sink, time, tries⟩ := s
    simp only [] at c7 c8
    cases sink with
    | true =>
      have HV := Lib.hid (show nextV n ⟨most, base, longest, put, acked, dropped, true, time, tries⟩ = .tuple #[.int .i64 0, .bool false] by simp [nextV])
      go_enter Try.func11, Try.ntmps11
      go_wp2
      go_ret2
      exact ⟨by rw [HV.out]; rfl, rfl⟩
    | false =>
      have HV := Lib.hid (show nextV n ⟨most, base, longest, put, acked, dropped, false, time, tries⟩ = .tuple #[.int .i64 time, .bool true] by simp [nextV, hn])
      go_enter Try.func11, Try.ntmps11
      go_wp2
      go_ret2
      exact ⟨by rw [HV.out]; rfl, rfl⟩
end Go.Proofs.Ytdomnjakhecbaaa
