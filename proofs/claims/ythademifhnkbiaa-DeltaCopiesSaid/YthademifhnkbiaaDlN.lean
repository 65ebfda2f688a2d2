/- The walks over store.New, delta.New, Tally. -/
import Derived.Test.YthademifhnkbiaaDlP
namespace Go.Proofs.Ythademifhnkbiaa
open Go.RowKit K
def SNew (w : World) (B : Nat) (m : Int) (e : Ending) (w' : World) : Prop := ∃ s F, e = .returned (.pointer (some ⟨s, 0, none⟩)) ∧ StIs w' B s (max m 0) [] F ∧ Below w.heap.size w w' ∧ ∀ k ∈ F, w.heap.size ≤ k
set_option maxHeartbeats 1000000 in
theorem snew_any (w : World) (B : Nat) (hB : B ≤ w.heap.size) (m : Int) :
    Calls Try.prog 23 #[.int .i64 m] w (SNew w B m) := by
  have hmm := @run_makeMap Try.prog
  have hm0 : MapAt sEnc (w.alloc (.map #[] 0)) w.heap.size (sents []) := MapAt.new sEnc w
  have hst : ∀ x : Int, StIs ((w.alloc (.map #[] 0)).alloc (.cells #[.int .i64 x, .map (some w.heap.size)] 80)) B (w.heap.size + 1) x [] [w.heap.size + 1, w.heap.size] := fun x => by
    refine ⟨w.heap.size, [], ⟨?_, ?_, by simp, by simp [sfoot], by simp [sfoot]; omega⟩, rfl, rfl⟩
    · have := heap_alloc_new (w.alloc (.map #[] 0)) (.cells #[.int .i64 x, .map (some w.heap.size)] 80)
      simpa using this
    · exact hm0.only (F := fun _ => False) (Only.of_new ((Below.refl _ _).alloc (Nat.le_refl _) _)) (fun h => h)
  have hbel : ∀ x : Int, Below w.heap.size w ((w.alloc (.map #[] 0)).alloc (.cells #[.int .i64 x, .map (some w.heap.size)] 80)) := fun x => ((Below.refl _ _).alloc (Nat.le_refl _) _).alloc (by simp) _
  have HN := Lib.hid hst
  have HB := Lib.hid hbel
  obtain ⟨mx, hmx⟩ : ∃ mx, max m 0 = mx := ⟨_, rfl⟩
  have HM := Lib.hid hmx
  clear hst hbel hm0 hmx
  go_enter Try.func23, Try.ntmps23
  go_wp2_with (first | (with_reducible refine step_max rfl _ _ _ rfl m 0 rfl rfl mx HM.out ?_) | fail)
  go_ret
  exact ⟨w.heap.size + 1, [w.heap.size + 1, w.heap.size], rfl, by rw [HM.out]; exact HN.out mx, HB.out mx, by simp⟩
def tal0 : Tal := ⟨0, 0, 0, 0, 0, 0, 0⟩
def DNew (w : World) (m : Int) (e : Ending) (w' : World) : Prop := ∃ mb s F, e = .returned (.pointer (some ⟨mb, 0, none⟩)) ∧ MIs w' w.heap.size mb s (max m 0) [] F tal0 ∧ Below w.heap.size w w'
set_option maxHeartbeats 1000000 in
theorem dnew_any (w : World) (m : Int) :
    Calls Try.prog 9 #[.int .i64 m] w (DNew w m) := by
  go_enter Try.func9, Try.ntmps9
  go_wp2_with fail
  refine (snew_any w w.heap.size (Nat.le_refl _) m).mono ?_
  rintro e w1 ⟨s, F, rfl, h1, h2, h3⟩
  have HP := Lib.hid (show DNew w m (.returned (.pointer (some ⟨w1.heap.size, 0, none⟩))) (w1.alloc (.cells (mcells s tal0) 65)) from by
    refine ⟨_, s, F, rfl, ⟨heap_alloc_new w1 _, h1.alloc _, fun h => by have := h1.lt _ h; omega, h2.size, h3⟩, h2.alloc h2.size _⟩)
  clear h1 h2 h3
  go_wp2
  go_ret
  exact HP.out
set_option maxHeartbeats 1000000 in
theorem tally_any {w : World} {B m s : Nat} {most : Int} {l : List SV} {F : List Nat} {tal : Tal} (h : MIs w B m s most l F tal) :
    Calls Try.prog 16 #[.pointer (some ⟨m, 0, none⟩)] w fun e w' => e = .returned (.agg #[.int .i64 tal.p, .int .i64 tal.a, .int .i64 tal.o, .int .i64 tal.t, .int .i64 tal.f, .int .i64 tal.g, .int .i64 tal.r]) ∧ Below w.heap.size w w' := by
  have c : ∀ i, w.cell? ⟨m, i, none⟩ = (mcells s tal)[i]? := fun i => cell_of_row _ _ _ _ _ _ h.1
  have c1 := c 1
  have c2 := c 2
  have c3 := c 3
  have c4 := c 4
  have c5 := c 5
  have c6 := c 6
  have c7 := c 7
  simp only [mcells] at c1 c2 c3 c4 c5 c6 c7
  have hlt : m < w.heap.size := (Array.getElem?_eq_some_iff.1 h.1).1
  have hlt1 : m < w.heap.size + 1 := by omega
  clear c h
  obtain ⟨p, a, o, t, f, g, r⟩ := tal
  go_enter Try.func16, Try.ntmps16
  go_wp2
  go_returns
  refine ⟨rfl, ?_⟩
  repeat' (first | (with_reducible refine below_drewN ?_ _) | go_grown)
end Go.Proofs.Ythademifhnkbiaa
