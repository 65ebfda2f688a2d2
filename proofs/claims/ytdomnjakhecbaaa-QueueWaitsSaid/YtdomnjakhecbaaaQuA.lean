/- The program's queue in a block; what it tells. -/
import Derived.Test.YtdomnjakhecbaaaFrK
namespace Go.Proofs.Ytdomnjakhecbaaa
open Go.RowKit K
structure QR where
  most : Int
  base : Int
  longest : Int
  put : Int
  acked : Int
  dropped : Int
  sink : Bool
  time : Int
  tries : Int
def QBox (w : World) (g : Nat) (v : Value) (s : QR) : Prop :=
  w.heap[g]? = some (.cells #[v, .int .i64 s.most, .int .i64 s.base, .int .i64 s.longest, .int .u64 s.put, .int .i64 s.acked, .int .i64 s.dropped, .bool s.sink, .int .i64 s.time, .int .i64 s.tries] 61 (0, 0))
section
variable {w : World} {g : Nat} {v : Value} {s : QR}
theorem QBox.cell (h : QBox w g v s) (i : Nat) : w.cell? ⟨g, i, none⟩ = (#[v, .int .i64 s.most, .int .i64 s.base, .int .i64 s.longest, .int .u64 s.put, .int .i64 s.acked, .int .i64 s.dropped, .bool s.sink, .int .i64 s.time, .int .i64 s.tries] : Array Value)[i]? := cell_of_row _ _ _ _ _ _ h
theorem QBox.c0 (h : QBox w g v s) : w.cell? ⟨g, 0, none⟩ = some v := h.cell 0
theorem QBox.c5 (h : QBox w g v s) : w.cell? ⟨g, 5, none⟩ = some (.int .i64 s.acked) := h.cell 5
theorem QBox.c6 (h : QBox w g v s) : w.cell? ⟨g, 6, none⟩ = some (.int .i64 s.dropped) := h.cell 6
theorem QBox.c7 (h : QBox w g v s) : w.cell? ⟨g, 7, none⟩ = some (.bool s.sink) := h.cell 7
theorem QBox.c8 (h : QBox w g v s) : w.cell? ⟨g, 8, none⟩ = some (.int .i64 s.time) := h.cell 8
theorem QBox.c9 (h : QBox w g v s) : w.cell? ⟨g, 9, none⟩ = some (.int .i64 s.tries) := h.cell 9
end
theorem waiting_any (w : World) (g : Nat) (a : Option Addr) (n c : Nat) (s : QR) (h : QBox w g (.slice a n c) s) :
    Calls Try.prog 16 #[.pointer (some ⟨g, 0, none⟩)] w fun e w' => e = .returned (.int .i64 n) ∧ w = w' := by
  have c0 := h.c0
  clear h
  go_enter Try.func16, Try.ntmps16
  go_wp2
  go_ret
  exact ⟨rfl, rfl⟩
theorem acked_any (w : World) (g : Nat) (v : Value) (s : QR) (h : QBox w g v s) :
    Calls Try.prog 15 #[.pointer (some ⟨g, 0, none⟩)] w fun e w' => e = .returned (.int .i64 s.acked) ∧ w = w' := by
  have c0 := h.c5
  clear h
  go_enter Try.func15, Try.ntmps15
  go_wp2
  go_ret
  exact ⟨rfl, rfl⟩
theorem dropped_any (w : World) (g : Nat) (v : Value) (s : QR) (h : QBox w g v s) :
    Calls Try.prog 22 #[.pointer (some ⟨g, 0, none⟩)] w fun e w' => e = .returned (.int .i64 s.dropped) ∧ w = w' := by
  have c0 := h.c6
  clear h
  go_enter Try.func22, Try.ntmps22
  go_wp2
  go_ret
  exact ⟨rfl, rfl⟩
theorem tries_any (w : World) (g : Nat) (v : Value) (s : QR) (h : QBox w g v s) :
    Calls Try.prog 26 #[.pointer (some ⟨g, 0, none⟩)] w fun e w' => e = .returned (.int .i64 s.tries) ∧ w = w' := by
  have c0 := h.c9
  clear h
  go_enter Try.func26, Try.ntmps26
  go_wp2
  go_ret
  exact ⟨rfl, rfl⟩
theorem atSink_any (w : World) (g : Nat) (v : Value) (s : QR) (h : QBox w g v s) :
    Calls Try.prog 28 #[.pointer (some ⟨g, 0, none⟩)] w fun e w' => e = .returned (.bool s.sink) ∧ w = w' := by
  have c0 := h.c7
  clear h
  go_enter Try.func28, Try.ntmps28
  go_wp2
  go_ret
  exact ⟨rfl, rfl⟩
end Go.Proofs.Ytdomnjakhecbaaa
