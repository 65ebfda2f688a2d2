/- Windows that are not there, and a zero one: the walks. -/
import Derived.Test.YtbkpgpaanhfjfaaWiI
namespace Go.Proofs.Ytbkpgpaanhfjfaa
open Go.RowKit Go.Sort K
set_option maxRecDepth 100000
/-- There are no windows at this pointer. -/
def NoneAt (w : World) (p : Value) : Prop := ∀ W, Below w.heap.size w W → Calls Try.prog 27 #[p] W fun e w' => e = .returned (.bool true) ∧ W = w'
theorem NoneAt.nil (w : World) : NoneAt w (.pointer none) := fun W _ => by
  go_enter Try.func27, Try.ntmps27
  go_wp2
  go_ret
  exact ⟨rfl, rfl⟩
def zwin : Array Value := #[.int .i64 0, .int .i64 0, .int .i64 0, .map none, .int .i64 0, .int .i64 0, .int .i64 0, .int .i64 0]
theorem NoneAt.zero {w : World} {z : Nat} (h : w.heap[z]? = some (.cells zwin 62 (0, 0))) : NoneAt w (.pointer (some ⟨z, 0, none⟩)) := fun W hb => by
  have c0 : W.cell? ⟨z, 0, none⟩ = some (.int .i64 0) := by
    rw [cell_of_row _ _ _ _ _ _ ((Only.of_new (F := fun _ => False) hb).heap h (fun h => h))]
    rfl
  clear h hb
  go_enter Try.func27, Try.ntmps27
  go_wp2
  go_ret
  exact ⟨rfl, rfl⟩
theorem NoneAt.at {w W : World} {p : Value} (h : NoneAt w p) (hb : Below w.heap.size w W) : NoneAt W p := fun V hV => h V (hb.trans (hV.mono hb.size))
section
variable {w : World} {p : Value}
theorem zn_note (h : NoneAt w p) (t : Int) : Calls Try.prog 12 #[p, .int .i64 t] w fun e w' => (∃ v, e = .returned v) ∧ w = w' := by
  have HN := Lib.hid (h w (Below.refl _ _))
  clear h
  go_enter Try.func12, Try.ntmps12
  go_wp2_with fail
  refine HN.out.mono ?_
  rintro e w1 ⟨rfl, rfl⟩
  go_wp2
  go_end0
  exact ⟨⟨_, rfl⟩, rfl⟩
theorem zn_clock (h : NoneAt w p) (n : Int) : Calls Try.prog 14 #[p, .int .i64 n] w fun e w' => e = .returned (.slice none 0 0) ∧ Below w.heap.size w w' := by
  have HN := Lib.hid (h w (Below.refl _ _))
  clear h
  go_enter Try.func14, Try.ntmps14
  go_wp2_with fail
  refine HN.out.mono ?_
  rintro e w1 ⟨rfl, rfl⟩
  go_wp2
  go_ret
  exact ⟨rfl, Below.refl _ _⟩
theorem zn_floor (h : NoneAt w p) : Calls Try.prog 24 #[p] w fun e w' => e = .returned (.int .i64 (-1)) ∧ Below w.heap.size w w' := by
  have HN := Lib.hid (h w (Below.refl _ _))
  clear h
  go_enter Try.func24, Try.ntmps24
  go_wp2_with fail
  refine HN.out.mono ?_
  rintro e w1 ⟨rfl, rfl⟩
  go_wp2
  go_ret
  exact ⟨rfl, Below.refl _ _⟩
theorem zn_mark (h : NoneAt w p) : Calls Try.prog 25 #[p] w fun e w' => e = .returned (.int .i64 (-1)) ∧ Below w.heap.size w w' := by
  have HN := Lib.hid (h w (Below.refl _ _))
  clear h
  go_enter Try.func25, Try.ntmps25
  go_wp2_with fail
  refine HN.out.mono ?_
  rintro e w1 ⟨rfl, rfl⟩
  go_wp2
  go_ret
  exact ⟨rfl, Below.refl _ _⟩
theorem zn_open (h : NoneAt w p) : Calls Try.prog 15 #[p] w fun e w' => e = .returned (.slice none 0 0) ∧ Below w.heap.size w w' := by
  have HN := Lib.hid (h w (Below.refl _ _))
  clear h
  go_enter Try.func15, Try.ntmps15
  go_wp2_with fail
  refine HN.out.mono ?_
  rintro e w1 ⟨rfl, rfl⟩
  go_wp2
  go_ret
  exact ⟨rfl, Below.refl _ _⟩
theorem zn_counts (h : NoneAt w p) : Calls Try.prog 16 #[p] w fun e w' => e = .returned (.tuple #[.int .i64 0, .int .i64 0]) ∧ Below w.heap.size w w' := by
  have HN := Lib.hid (h w (Below.refl _ _))
  clear h
  go_enter Try.func16, Try.ntmps16
  go_wp2_with fail
  refine HN.out.mono ?_
  rintro e w1 ⟨rfl, rfl⟩
  go_wp2
  go_ret2
  exact ⟨rfl, Below.refl _ _⟩
theorem zn_add (h : NoneAt w p) (s : ByteArray) (a b : Int) (c : Bool) : Calls Try.prog 13 #[p, .agg #[.string s, .int .i64 a, .int .i64 b, .bool c]] w fun e w' => e = .returned (.tuple #[.bool true, .slice none 0 0]) ∧ Below w.heap.size w w' := by
  have HN := Lib.hid h
  clear h
  go_enter Try.func13, Try.ntmps13
  go_wp2_with fail
  refine (HN.out _ ((Below.refl _ w).alloc (Nat.le_refl _) _)).mono ?_
  rintro e w1 ⟨rfl, rfl⟩
  go_wp2
  go_ret2
  exact ⟨rfl, (Below.refl _ w).alloc (Nat.le_refl _) _⟩
theorem zn_copy (h : NoneAt w p) : Calls Try.prog 20 #[p] w fun e w' => e = .returned (.pointer none) ∧ Below w.heap.size w w' := by
  have HN := Lib.hid (h w (Below.refl _ _))
  clear h
  go_enter Try.func20, Try.ntmps20
  go_wp2_with fail
  refine HN.out.mono ?_
  rintro e w1 ⟨rfl, rfl⟩
  go_wp2
  go_ret
  exact ⟨rfl, Below.refl _ _⟩
theorem zn_same {q : Value} (h : NoneAt w p) (h2 : NoneAt w q) : Calls Try.prog 22 #[p, q] w fun e w' => e = .returned (.bool true) ∧ Below w.heap.size w w' := by
  have HN := Lib.hid (h w (Below.refl _ _))
  have HM := Lib.hid (h2 w (Below.refl _ _))
  clear h h2
  go_enter Try.func22, Try.ntmps22
  go_wp2_with fail
  refine HN.out.mono ?_
  rintro e w1 ⟨rfl, rfl⟩
  go_wp2_with fail
  refine HN.out.mono ?_
  rintro e w1 ⟨rfl, rfl⟩
  go_wp2_with fail
  refine HM.out.mono ?_
  rintro e w1 ⟨rfl, rfl⟩
  go_wp2
  go_ret
  exact ⟨rfl, Below.refl _ _⟩
end
end Go.Proofs.Ytbkpgpaanhfjfaa
