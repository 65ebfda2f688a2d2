/- Windows: known: the walk. -/
import Derived.Test.YtbkpgpaanhfjfaaWiH
namespace Go.Proofs.Ytbkpgpaanhfjfaa
open Go.RowKit Go.Sort K
theorem WinTo.next {w0 w w' : World} {B g : Nat} {s s' : Cfg} {L L' : List WV} {F : List Nat} (hB : B ≤ w0.heap.size) (hb : Below B w0 w) (h : WinIs w B g s L F) (ht : WinTo w B g F s' L' w') : Below B w0 w' ∧ ∃ F', WinIs w' B g s' L' F' := by
  obtain ⟨F', h1, h2, h3⟩ := ht
  exact ⟨hb.trans (h2.below (Nat.le_trans hB hb.size) (fun k hk => (h.in k hk).1)), F', h1⟩
def aC (i : Int) : Cr := ⟨[97], i, false⟩
def kcfg (fl mk cr : Int) : Cfg := ⟨10, 5, 4, fl, mk, cr, 0⟩
theorem kcfg_ok (fl mk cr : Int) (h1 : -1 ≤ fl ∧ fl ≤ 100) (h2 : -1 ≤ mk ∧ mk ≤ 100) (h3 : 0 ≤ cr ∧ cr ≤ 100) : SOk (kcfg fl mk cr) :=
  ⟨⟨by show (1 : Int) ≤ 10; omega, by show (10 : Int) ≤ _; omega⟩, ⟨by show (0 : Int) ≤ 5; omega, by show (5 : Int) ≤ _; omega⟩, ⟨by show (1 : Int) ≤ 4; omega, by show (4 : Int) ≤ _; omega⟩, ⟨h1.1, by show fl ≤ _; omega⟩, ⟨h2.1, by show mk ≤ _; omega⟩, ⟨h3.1, by show cr ≤ _; omega⟩, ⟨by show (0 : Int) ≤ 0; omega, by show (0 : Int) ≤ _; omega⟩⟩
theorem aC_b (i : Int) (h : 0 ≤ i ∧ i ≤ 100) : CrB (aC i) := ⟨h.1, by show i ≤ _; omega, by show 1 ≤ _; omega⟩
theorem kb0 : WBd [] := ⟨by simp, by simp, by simp⟩
theorem kb1 : WBd [⟨0, [aC 2]⟩] := ⟨by simp, by simp [aC_b 2], by simp⟩
theorem kb2 : WBd [⟨0, [aC 2]⟩, ⟨1, [aC 3]⟩] := ⟨by simp, by simp [aC_b 2, aC_b 3], by simp⟩
theorem kb3 : WBd [⟨1, [aC 3]⟩] := ⟨by simp, by simp [aC_b 3], by simp⟩
theorem k_add1 : addW (cfg0 10 5 4) [] [97] 3 2 = (false, [], kcfg (-1) (-1) 1, [⟨0, [aC 2]⟩]) := by kernel_rfl
theorem k_add2 : addW (kcfg (-1) (-1) 1) [⟨0, [aC 2]⟩] [97] 12 3 = (false, [], kcfg (-1) (-1) 2, [⟨0, [aC 2]⟩, ⟨1, [aC 3]⟩]) := by kernel_rfl
theorem k_clk1 : clockW (kcfg (-1) 14 2) [⟨0, [aC 2]⟩, ⟨1, [aC 3]⟩] 99 = ([], kcfg (-1) 14 2, [⟨0, [aC 2]⟩, ⟨1, [aC 3]⟩]) := by kernel_rfl
theorem k_clk2 : clockW (kcfg (-1) 15 2) [⟨0, [aC 2]⟩, ⟨1, [aC 3]⟩] 14 = ([], kcfg (-1) 15 2, [⟨0, [aC 2]⟩, ⟨1, [aC 3]⟩]) := by kernel_rfl
theorem k_clk3 : clockW (kcfg (-1) 15 2) [⟨0, [aC 2]⟩, ⟨1, [aC 3]⟩] 15 = ([⟨0, [aC 2]⟩], kcfg 0 15 2, [⟨1, [aC 3]⟩]) := by kernel_rfl
theorem k_note1 : noteS (kcfg (-1) (-1) 2) 14 = kcfg (-1) 14 2 := by kernel_rfl
theorem k_note2 : noteS (kcfg (-1) 14 2) 15 = kcfg (-1) 15 2 := by kernel_rfl
set_option maxHeartbeats 4000000 in
set_option maxRecDepth 100000 in
theorem wknown_any (w : World) : Calls Try.prog 9 #[] w fun e w' => e = .returned (.bool true) ∧ Below w.heap.size w w' := by
  go_enter Try.func9, Try.ntmps9
  go_wp2_with fail
  refine (new_any _ 10 5 4 (by unfold MayW; omega)).mono ?_
  rintro e w1 ⟨g, F, rfl, hw, hb⟩
  have HB1 := Lib.hid hb
  have HP := Lib.hid (add_any hw kb0 (kcfg_ok (-1) (-1) 0 (by omega) (by omega) (by omega)) [97] 3 2 false (by omega) (by omega))
  rw [k_add1] at HP
  have HW1 := Lib.hid hw
  clear hw hb
  go_wp2_with fail
  refine HP.out.mono ?_
  rintro e w2 ⟨a, c, rfl, -, hto⟩
  obtain ⟨hb2, F2, hw2⟩ := hto.next (Nat.le_refl _) HB1.out HW1.out
  clear hto HP HW1
  have HP := Lib.hid (add_any hw2 kb1 (kcfg_ok (-1) (-1) 1 (by omega) (by omega) (by omega)) [97] 12 3 false (by omega) (by omega))
  rw [k_add2] at HP
  have HB2 := Lib.hid hb2
  have HW2 := Lib.hid hw2
  clear hb2 hw2
  go_wp2_with fail
  refine HP.out.mono ?_
  rintro e w3 ⟨a3, c3, rfl, -, hto⟩
  obtain ⟨hb3, F3, hw3⟩ := hto.next (Nat.le_refl _) HB2.out HW2.out
  clear hto HP HW2
  have HP := Lib.hid (note_any hw3 (by decide) 14)
  rw [k_note1] at HP
  have HB3 := Lib.hid hb3
  have HW3 := Lib.hid hw3
  clear hb3 hw3
  go_wp2_with fail
  refine HP.out.mono ?_
  rintro e w4 ⟨⟨v4, rfl⟩, hto⟩
  obtain ⟨hb4, F4, hw4⟩ := hto.next (Nat.le_refl _) HB3.out HW3.out
  clear hto HP HW3
  have HP := Lib.hid (clock_any hw4 kb2 (kcfg_ok (-1) 14 2 (by omega) (by omega) (by omega)) 99)
  rw [k_clk1] at HP
  have HB4 := Lib.hid hb4
  have HW4 := Lib.hid hw4
  clear hb4 hw4
  go_wp2_with fail
  refine HP.out.mono ?_
  rintro e w5 ⟨a5, c5, rfl, -, hto⟩
  obtain ⟨hb5, F5, hw5⟩ := hto.next (Nat.le_refl _) HB4.out HW4.out
  clear hto HP HW4
  have HP := Lib.hid (note_any hw5 (by decide) 15)
  rw [k_note2] at HP
  have HB5 := Lib.hid hb5
  have HW5 := Lib.hid hw5
  clear hb5 hw5
  go_wp2_with fail
  refine HP.out.mono ?_
  rintro e w6 ⟨⟨v6, rfl⟩, hto⟩
  obtain ⟨hb6, F6, hw6⟩ := hto.next (Nat.le_refl _) HB5.out HW5.out
  clear hto HP HW5
  have HP := Lib.hid (clock_any hw6 kb2 (kcfg_ok (-1) 15 2 (by omega) (by omega) (by omega)) 14)
  rw [k_clk2] at HP
  have HB6 := Lib.hid hb6
  have HW6 := Lib.hid hw6
  clear hb6 hw6
  go_wp2_with fail
  refine HP.out.mono ?_
  rintro e w7 ⟨a7, c7, rfl, -, hto⟩
  obtain ⟨hb7, F7, hw7⟩ := hto.next (Nat.le_refl _) HB6.out HW6.out
  clear hto HP HW6
  have HP := Lib.hid (clock_any hw7 kb2 (kcfg_ok (-1) 15 2 (by omega) (by omega) (by omega)) 15)
  rw [k_clk3] at HP
  have HB7 := Lib.hid hb7
  have HW7 := Lib.hid hw7
  clear hb7 hw7
  go_wp2_with fail
  refine HP.out.mono ?_
  rintro e w8 ⟨a8, c8, rfl, hwm, hto⟩
  obtain ⟨hb8, F8, hw8⟩ := hto.next (Nat.le_refl _) HB7.out HW7.out
  clear hto HP HW7
  obtain ⟨ys, hys, hyo, hyr, -⟩ := hwm
  obtain ⟨y, rfl⟩ : ∃ y, ys = [y] := by
    rcases ys with _ | ⟨y, _ | ⟨z, t⟩⟩
    · simp at hys
    · exact ⟨y, rfl⟩
    · simp at hys
  simp only [List.map_cons, List.map_nil, List.cons.injEq, and_true] at hys
  obtain ⟨yx, ya, yc⟩ := y
  simp only at hys
  subst hys
  have hcr := (hyo _ (List.mem_singleton.2 rfl)).1
  simp only [crf, List.flatMap_cons, List.flatMap_nil, List.append_nil, Cr.cells, aC] at hcr
  simp only [wcf, List.flatMap_cons, List.flatMap_nil, List.append_nil, WC.cells, List.length_cons, List.length_nil] at hyr
  obtain ⟨b8, o8, rfl, hbl8, hq0⟩ := hyr.at (k := 0) (v := .int .i64 0) rfl
  obtain ⟨_, _, e1, -, hq1⟩ := hyr.at (k := 1) (v := .slice ya 1 yc) rfl
  cases e1
  obtain ⟨b9, o9, rfl, hbl9, hp0⟩ := hcr.at (k := 0) (v := encStr [97]) rfl
  obtain ⟨_, _, e1, -, hp1⟩ := hcr.at (k := 1) (v := .int .i64 2) rfl
  cases e1
  obtain ⟨_, _, e1, -, hp2⟩ := hcr.at (k := 2) (v := .bool false) rfl
  cases e1
  have hp0 : w8.cell? ⟨b9, o9, none⟩ = some (.string ⟨#[97]⟩) := hp0
  have hq0 : w8.cell? ⟨b8, o8, none⟩ = some (.int .i64 0) := hq0
  have HFL := Lib.hid (floor_any hw8 (by decide))
  have HOP := Lib.hid (open_any hw8 kb3 (by decide))
  have HB8 := Lib.hid hb8
  clear hyo hyr hcr hw8 hb8
  go_wp2_with fail
  refine HFL.out.mono ?_
  rintro e w9 ⟨rfl, rfl⟩
  go_wp2_with fail
  refine HOP.out.mono ?_
  rintro e w10 ⟨⟨a10, c10, rfl, -⟩, hb10⟩
  have HB10 := Lib.hid (HB8.out.trans (hb10.mono HB8.out.size))
  clear hb10
  go_wp2
  go_ret
  exact ⟨rfl, HB10.out⟩
end Go.Proofs.Ytbkpgpaanhfjfaa
