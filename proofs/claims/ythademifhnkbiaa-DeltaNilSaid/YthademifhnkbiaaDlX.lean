/- The walk over the law DeltaNil. -/
import Derived.Test.YthademifhnkbiaaDlY
namespace Go.Proofs.Ythademifhnkbiaa
open Go.RowKit K
def smp0 : Smp := ⟨nameA, 0, 0, false⟩
theorem put0 : putS (max 0 0) 1 [] [smp0] = [⟨smp0, 4, false, 0⟩] := by simp [putS, oneV, sfind]
theorem gains0 : gainsL [(⟨smp0, 4, false, 0⟩ : Sn)] = [] := rfl
theorem tal1 : [(⟨smp0, 4, false, 0⟩ : Sn)].foldl tadd tal0 = ⟨1, 0, 0, 0, 1, 0, 0⟩ := rfl
def NPost (w : World) (m b : Nat) (e : Ending) (w' : World) : Prop := ∃ g o c v2, e = .returned (.tuple #[.slice (some ⟨g, o, none⟩) 1 c, v2]) ∧ g < w'.heap.size ∧ w'.cell? ⟨g, o + 4, none⟩ = some (.int .i64 4) ∧
  (∃ B s most l F, MIs w' B m s most l F ⟨1, 0, 0, 0, 1, 0, 0⟩) ∧ Only (fun b => b = m) w w'
theorem zput0 {w : World} {m b c : Nat} (hm0 : w.heap[m]? = some (.cells #[.pointer none, .int .i64 0, .int .i64 0, .int .i64 0, .int .i64 0, .int .i64 0, .int .i64 0, .int .i64 0] 65 (0, 0)))
    (hb : w.heap[b]? = some (.cells smp0.cells 31 (0, 0))) (hbm : b ≠ m) :
    Calls Try.prog 10 #[.pointer (some ⟨m, 0, none⟩), .int .i64 1, .slice (some ⟨b, 0, none⟩) 1 c] w (NPost w m b) := by
  have hr : Rd w (some ⟨b, 0, none⟩) (smf [smp0]) := by
    intro k u hu
    refine ⟨b, 0, rfl, ?_⟩
    rw [Nat.zero_add, cell_of_row _ _ _ _ _ _ hb]
    simpa [smf] using hu
  have hp := zput_any hm0 1 (some ⟨b, 0, none⟩) c [smp0] hr (by simp) (fun ad h => by cases h; exact ⟨(Array.getElem?_eq_some_iff.1 hb).1, hbm⟩) (by
    rw [put0]
    intro x hx
    simp only [List.mem_singleton] at hx
    subst hx
    exact ⟨⟨by show (-9223372036854775808 : Int) ≤ 0; omega, by show (0 : Int) ≤ 9223372036854775807; omega⟩, ⟨by show (-9223372036854775808 : Int) ≤ 0; omega, by show (0 : Int) ≤ 9223372036854775807; omega⟩, by show (1 : Int) ≤ 4; omega, by show (4 : Int) ≤ 4; omega⟩)
  refine hp.mono ?_
  rintro e w' ⟨wz, s, F, k1, k2, v1, gv, F', rfl, p1, p2, p3, p4, p5⟩
  rw [put0] at p1 p3
  rw [tal1] at p3
  obtain ⟨a1, c1, rfl, _, hr1, _⟩ := own_cells p1
  obtain ⟨g, o, rfl, hg, hq⟩ := seen_cells hr1 (k := 0) (by simp)
  refine ⟨g, o, c1, gv, rfl, hg, by simpa using hq 4 _ (by omega) rfl, ⟨_, _, _, _, _, p3⟩, k1.trans p4 (fun b hb h => ?_)⟩
  rcases h with h | h
  · exact h
  · have := k2 b h; omega
theorem field4 (w : World) : Sem.run Try.prog (Instr.field 47 (.agg #[.int .i64 1, .int .i64 0, .int .i64 0, .int .i64 0, .int .i64 1, .int .i64 0, .int .i64 0]) 4) w = .ok (.int .i64 1) w := by kernel_rfl
theorem MIs.step {w w' : World} {B m s : Nat} {most : Int} {l : List SV} {F : List Nat} {tal : Tal} (h : MIs w B m s most l F tal) (hb : Below w.heap.size w w') : MIs w' B m s most l F tal := by
  obtain ⟨h1, h2, h3, h4, h5⟩ := h
  have ho : Only (fun _ => False) w w' := Only.of_new hb
  exact ⟨ho.heap h1 (fun h => h), h2.only ho (fun _ _ h => h), h3, h4, h5⟩
set_option maxHeartbeats 4000000 in
set_option maxRecDepth 100000 in
theorem deltaNil_any (w : World) : Calls Try.prog 7 #[] w fun e w' => e = .returned (.bool true) ∧ Below w.heap.size w w' := by
  go_enter Try.func7, Try.ntmps7
  go_wp2_with fail
  refine (nput _ _ _).mono ?_
  rintro e w1 ⟨rfl, rfl⟩
  go_wp2_with fail
  obtain ⟨w3, hw3⟩ : ∃ w3, w3 = ((w.alloc (.cells #[.pointer none, .int .i64 0, .int .i64 0, .int .i64 0, .int .i64 0, .int .i64 0, .int .i64 0, .int .i64 0] 65)).alloc (.cells #[.string ⟨#[97]⟩, .int .i64 0, .int .i64 0, .bool false] 31)).alloc (.cells #[.string ⟨#[97]⟩, .int .i64 0, .int .i64 0, .bool false] 31) := ⟨_, rfl⟩
  rw [← hw3]
  have hm : w3.heap[w.heap.size]? = some (.cells #[.pointer none, .int .i64 0, .int .i64 0, .int .i64 0, .int .i64 0, .int .i64 0, .int .i64 0, .int .i64 0] 65 (0, 0)) := by
    rw [hw3, Below.heap_alloc _ _ _ (by simp; omega), Below.heap_alloc _ _ _ (by simp)]
    exact heap_alloc_new w _
  have hb : w3.heap[w.heap.size + 1 + 1]? = some (.cells smp0.cells 31 (0, 0)) := by
    rw [hw3]
    have := heap_alloc_new ((w.alloc (.cells #[.pointer none, .int .i64 0, .int .i64 0, .int .i64 0, .int .i64 0, .int .i64 0, .int .i64 0, .int .i64 0] 65)).alloc (.cells #[.string ⟨#[97]⟩, .int .i64 0, .int .i64 0, .bool false] 31)) (.cells #[.string ⟨#[97]⟩, .int .i64 0, .int .i64 0, .bool false] 31)
    rw [World.size_alloc, World.size_alloc] at this
    exact this
  have hbel : Below w.heap.size w w3 := by rw [hw3]; exact (((Below.refl _ _).alloc (Nat.le_refl _) _).alloc (by simp) _).alloc (by simp; omega) _
  have HBEL := Lib.hid hbel
  clear hw3 hbel
  refine (zput0 hm hb (by omega)).mono ?_
  clear hm hb
  rintro e w4 ⟨g, o, c, v2, rfl, hg, hq, hM, hon⟩
  have HB4 := Lib.hid (show Below w.heap.size w w4 from HBEL.out.trans (hon.below HBEL.out.size (fun k hk => by omega)))
  obtain ⟨B, s, most, l, F, hM⟩ := hM
  have HM := Lib.hid hM
  clear hM hon
  go_wp2_with fail
  refine (ntally w4).mono ?_
  rintro e w5 ⟨rfl, hb5⟩
  have hq5 : w5.cell? ⟨g, o + 4, none⟩ = some (.int .i64 4) := (hb5.cell (p := ⟨g, o + 4, none⟩) hg).trans hq
  have HM5 := Lib.hid (HM.out.step hb5)
  have HB5 := Lib.hid (show Below w.heap.size w w5 from HB4.out.trans (hb5.mono HB4.out.size))
  clear hb5 hq hg
  go_wp2_with fail
  refine (nstore w5).mono ?_
  rintro e w6 ⟨rfl, hw6⟩
  rw [hw6]
  clear hw6
  go_wp2_with fail
  refine (ncopy w5).mono ?_
  rintro e w6 ⟨rfl, hw6⟩
  rw [hw6]
  clear hw6
  go_wp2_with fail
  refine (nsame0 w5).mono ?_
  rintro e w6 ⟨rfl, hw6⟩
  rw [hw6]
  clear hw6
  go_wp2_with fail
  refine (nsame1 w5 _).mono ?_
  rintro e w6 ⟨rfl, hw6⟩
  rw [hw6]
  clear hw6
  go_wp2_with fail
  refine (nsame2 w5 _).mono ?_
  rintro e w6 ⟨rfl, hw6⟩
  rw [hw6]
  clear hw6
  go_wp2_with fail
  refine (tally_any HM5.out).mono ?_
  rintro e w6 ⟨rfl, hb6⟩
  have HB6 := Lib.hid (show Below w.heap.size w w6 from HB5.out.trans (hb6.mono HB5.out.size))
  clear hb6
  have hf4 := field4 w6
  go_wp2_with fail
  refine (known_any w6).mono ?_
  rintro e w7 ⟨rfl, hb7⟩
  have HB7 := Lib.hid (show Below w.heap.size w w7 from HB6.out.trans (hb7.mono HB6.out.size))
  clear hb7
  go_wp2
  go_ret
  exact ⟨rfl, HB7.out⟩
end Go.Proofs.Ythademifhnkbiaa
