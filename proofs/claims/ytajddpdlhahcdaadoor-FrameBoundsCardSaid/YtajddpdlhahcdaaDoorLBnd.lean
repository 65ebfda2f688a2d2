/- The walk over the law FrameBounds: it answers true, and turns nothing that was there. -/
import Derived.Test.YtajddpdlhahcdaaDoorFrX
import Derived.Test.YtajddpdlhahcdaaDoorFrL
import Derived.OwnWalk
namespace Go.Proofs.YtajddpdlhahcdaaDoor
open Go.RowKit K
theorem one_box (w : World) :
    Calls Tryd.prog 14 #[] w fun e w' => e = .returned (frv 1 2 (.slice (some ⟨w.heap.size + 1, 0, none⟩) 1 1)) ∧ w'.heap[w.heap.size + 1]? = some (.cells (rec5 ⟨#[97]⟩ 2 3 4 false) 40 (0, 0)) ∧ Below w.heap.size w w' := by
  go_enter Tryd.func14, Tryd.ntmps14
  go_wp2
  go_returns
  refine ⟨rfl, ?_, ?_⟩
  · have hb := heap_alloc_new (w.alloc (.cells #[.int .u64 1, .int .i64 2, .slice (some ⟨w.heap.size + 1, 0, none⟩) 1 1] 25)) (.cells #[.string ⟨#[97]⟩, .int .i64 2, .int .i64 3, .int .i64 4, .bool false] 40)
    rw [World.size_alloc] at hb
    exact hb
  · go_grown
def bigR : Rec := ⟨⟨#[97]⟩, -9223372036854775808, 9223372036854775807, 4, true⟩
theorem big_may : mayB 18446744073709551615 (-9223372036854775808) [bigR] = true := by decide
def oneN (s : ByteArray) : Rec := ⟨s, 2, 3, 4, false⟩
theorem oneN_may (s : ByteArray) : mayB 1 2 [oneN s] = decide (s.size ≤ 65536) := by
  simp [mayB, allOk, okAt, risesB, recOk, oneN]
theorem rd_row {w : World} {g : Nat} {C : Array Value} {T : TypeId} {fr : Nat × Nat} (h : w.heap[g]? = some (.cells C T fr)) : Rd w (some ⟨g, 0, none⟩) C.toList := by
  intro k v hv
  refine ⟨g, 0, rfl, ?_⟩
  rw [Nat.zero_add, cell_of_row _ _ _ _ _ _ h]
  simpa using hv
def bigZ : List UInt8 := List.replicate 65537 0
theorem bigZ_len : bigZ.length = 65537 := List.length_replicate
theorem bigZ_made : (madeCells #[Value.int .u8 0] 65537).toList = bv bigZ := by
  rw [toList_madeCells_one]
  unfold bigZ bv
  rw [List.map_replicate]
  rfl
/-- What lies where. -/
def AllAt (w : World) (L : List (Nat × Obj)) : Prop := ∀ p ∈ L, w.heap[p.1]? = some p.2
theorem AllAt.keep {w w' : World} {L : List (Nat × Obj)} (h : AllAt w L) (hb : Below w.heap.size w w') : AllAt w' L := fun p hp => below_keep hb (h p hp)
theorem AllAt.add {w : World} {L : List (Nat × Obj)} (h : AllAt w L) {g : Nat} {o : Obj} (hg : w.heap[g]? = some o) : AllAt w ((g, o) :: L) := by
  intro p hp
  rcases List.mem_cons.1 hp with rfl | hp
  · exact hg
  · exact h p hp
theorem conv_7 (w : World) : Sem.run Tryd.prog (convert 28 28 (.slice (some ⟨w.heap.size, 0, none⟩) 7 7)) (w.alloc (.cells #[.int .u8 79, .int .u8 68, .int .u8 79, .int .u8 1, .int .u8 97, .int .u8 98, .int .u8 99] 5)) = .ok (.slice (some ⟨w.heap.size, 0, none⟩) 7 7) (w.alloc (.cells #[.int .u8 79, .int .u8 68, .int .u8 79, .int .u8 1, .int .u8 97, .int .u8 98, .int .u8 99] 5 (7, 8))) :=
  Lib.run_convert_bytes_const (P := Tryd.prog) w 28 5 #[.int .u8 79, .int .u8 68, .int .u8 79, .int .u8 1, .int .u8 97, .int .u8 98, .int .u8 99] 7 7 Tryd.underlying28 Tryd.underlying5
theorem conv_3 (w : World) : Sem.run Tryd.prog (convert 28 28 (.slice (some ⟨w.heap.size, 0, none⟩) 3 3)) (w.alloc (.cells #[.int .u8 79, .int .u8 68, .int .u8 79] 5)) = .ok (.slice (some ⟨w.heap.size, 0, none⟩) 3 3) (w.alloc (.cells #[.int .u8 79, .int .u8 68, .int .u8 79] 5 (3, 4))) :=
  Lib.run_convert_bytes_const (P := Tryd.prog) w 28 5 #[.int .u8 79, .int .u8 68, .int .u8 79] 3 3 Tryd.underlying28 Tryd.underlying5
theorem big_eq : frEq 18446744073709551615 (-9223372036854775808) [bigR] 18446744073709551615 (-9223372036854775808) [bigR] = true := by simp [frEq, recsEq, recEq]
set_option maxHeartbeats 8000000 in
set_option maxRecDepth 100000 in
theorem frameBounds_any (w : World) (hg : GErr w) :
    Calls Tryd.prog 5 #[] w fun e w' => e = .returned (.bool true) ∧ Below w.heap.size w w' := by
  have HG := Lib.hid hg
  have hgl := hg.lt
  clear hg
  go_enter Tryd.func5, Tryd.ntmps5
  go_wp2_with fail
  refine (one_box w).mono ?_
  rintro e w1 ⟨rfl, hr1, hb1⟩
  obtain ⟨g, hgd⟩ : ∃ g, g = w.heap.size + 1 := ⟨_, rfl⟩
  rw [← hgd] at hr1 ⊢
  have hg1 : g < w1.heap.size := (Array.getElem?_eq_some_iff.1 hr1).1
  have r1 : w1.cell? ⟨g, 1, none⟩ = some (.int .i64 2) := by rw [cell_of_row _ _ _ _ _ _ hr1]; rfl
  have r2 : w1.cell? ⟨g, 2, none⟩ = some (.int .i64 3) := by rw [cell_of_row _ _ _ _ _ _ hr1]; rfl
  have r4 : w1.cell? ⟨g, 4, none⟩ = some (.bool false) := by rw [cell_of_row _ _ _ _ _ _ hr1]; rfl
  have z1 : w1.frozen? ⟨g, 1, none⟩ = false := frozen_of_row w1 g 1 _ _ hr1
  have z2 : w1.frozen? ⟨g, 2, none⟩ = false := frozen_of_row w1 g 2 _ _ hr1
  have z4 : w1.frozen? ⟨g, 4, none⟩ = false := frozen_of_row w1 g 4 _ _ hr1
  have HR1 := Lib.hid hr1
  have HB1 := Lib.hid hb1
  have HGD := Lib.hid hgd
  clear hr1 hb1 hgd
  unfold frv
  go_wp2_with fail
  obtain ⟨u, hu⟩ : ∃ u, u = ((w1.setCell ⟨g, 1, none⟩ (.int .i64 (-9223372036854775808))).setCell ⟨g, 2, none⟩ (.int .i64 9223372036854775807)).setCell ⟨g, 4, none⟩ (.bool true) := ⟨_, rfl⟩
  rw [← hu]
  have hur : u.heap[g]? = some (.cells (rec5 ⟨#[97]⟩ (-9223372036854775808) 9223372036854775807 4 true) 40 (0, 0)) := by
    rw [hu, heap_setCell_same _ _ _ _ _ _ (heap_setCell_same _ _ _ _ _ _ (heap_setCell_same _ _ _ _ _ _ HR1.out))]
    rfl
  have hgw : w.heap.size ≤ g := by have := HGD.out; omega
  have hub : Below w.heap.size w u := by
    rw [hu]
    exact ((HB1.out.setCell (p := ⟨g, 1, none⟩) hgw _).setCell (p := ⟨g, 2, none⟩) hgw _).setCell (p := ⟨g, 4, none⟩) hgw _
  have husz : u.heap.size = w1.heap.size := by rw [hu]; simp
  have hbox := heap_alloc_new u (.cells #[.int .u64 18446744073709551615, .int .i64 (-9223372036854775808), .slice (some ⟨g, 0, none⟩) 1 1] 25)
  have hub2 := hub.alloc hub.size (.cells #[.int .u64 18446744073709551615, .int .i64 (-9223372036854775808), .slice (some ⟨g, 0, none⟩) 1 1] 25)
  have hur2 := blk_alloc (p := .cells #[.int .u64 18446744073709551615, .int .i64 (-9223372036854775808), .slice (some ⟨g, 0, none⟩) 1 1] 25) hur
  rw [husz] at hbox
  obtain ⟨w2, hw2⟩ : ∃ w2, w2 = u.alloc (.cells #[.int .u64 18446744073709551615, .int .i64 (-9223372036854775808), .slice (some ⟨g, 0, none⟩) 1 1] 25) := ⟨_, rfl⟩
  rw [← hw2] at hbox hub2 hur2 ⊢
  obtain ⟨B, hB⟩ : ∃ B, B = w1.heap.size := ⟨_, rfl⟩
  rw [← hB] at hbox ⊢
  have A2 := Lib.hid (((show AllAt w2 [] from fun p hp => by cases hp).add hur2).add hbox)
  have B2 := Lib.hid hub2
  have hrd2 := rd_row hur2
  clear hu hur hub husz hbox hub2 hur2 hw2 HR1 HB1 HGD r1 r2 r4 z1 z2 z4 hg1
  have hen := encode_yes w2 18446744073709551615 (-9223372036854775808) (some ⟨g, 0, none⟩) 1 [bigR] (by omega) (by omega) (by omega) (by omega) (by simp) (fun x hx => by simp at hx; subst hx; unfold RecFit bigR; decide) (fun x hx => by simp at hx; subst hx; decide) hrd2 big_may
  refine hen.mono ?_
  rintro e w3 ⟨v, rfl, ho, hb3⟩
  obtain ⟨lb, hlb⟩ : ∃ l, l = encB 18446744073709551615 (-9223372036854775808) [bigR] := ⟨_, rfl⟩
  rw [← hlb] at ho
  obtain ⟨ab, cb, rfl, hlc, hcm, -, hrb⟩ := own_slice ho
  have A3 := Lib.hid (A2.out.keep hb3)
  have B3 := Lib.hid (B2.out.trans (hb3.mono B2.out.size))
  have hde := decode_ok w3 18446744073709551615 (-9223372036854775808) ab cb [bigR] lb (by rw [hlb]; rfl) (by omega) (by omega) (by omega) (fun x hx => by simp at hx; subst hx; unfold RecFit bigR; decide) big_may hlc hcm hrb (HG.out.below B3.out hgl)
  have HDE := Lib.hid hde
  have HBB := Lib.hid hB
  clear hen hrd2 hb3 ho hlb hlc hcm hrb hde A2 B2 hB
  go_wp2_with fail
  refine HDE.out.mono ?_
  rintro e w4 ⟨a4, c4, rfl, hr4, hb4⟩
  have A4 := Lib.hid (A3.out.keep hb4)
  have B4 := Lib.hid (B3.out.trans (hb4.mono B3.out.size))
  have HR4 := Lib.hid hr4
  obtain ⟨i0, hi0, hz0, hz1, hz2⟩ := info_parts info_byte
  clear HDE hr4 hb4 A3 B3
  unfold frv
  go_wp2_with (first
    | (with_reducible refine wpList_make_full _ rfl _ _ 28 rfl w4.heap.size 5 i0 (.int .u8 0) 1 Tryd.underlying28 hi0 hz0 hz1 .i64 .i64 65537 65537 65537 rfl rfl rfl rfl ?d1 ?d2 ?d3 ?_)
    | fail)
  case d1 => rw [hz2]; omega
  case d2 => unfold maxLen; omega
  case d3 => simp
  intro w5 hown5 hg5
  rw [bigZ_made] at hown5
  have hb5 : Below w4.heap.size w4 w5 := ((Below.refl w4.heap.size w4).alloc (Nat.le_refl _) _).grown hg5 (by simp) (fun k h => by cases h)
  have hx5 : w5.heap[w4.heap.size]? = some (.cells #[.int .u64 18446744073709551615, .int .i64 (-9223372036854775808), .slice a4 1 c4] 25 (0, 0)) := (hg5.block w4.heap.size (by simp) (by simp)).trans (heap_alloc_new w4 _)
  obtain ⟨a', c', he5, -, -, -, hz5⟩ := own_slice hown5
  cases he5
  have A5 := Lib.hid ((A4.out.keep hb5).add hx5)
  have B5 := Lib.hid (B4.out.trans (hb5.mono B4.out.size))
  have HR5 := Lib.hid (HR4.out.below hb5 (Nat.le_refl _))
  obtain ⟨Z, hZ⟩ : ∃ Z, Z = w4.heap.size + 1 := ⟨_, rfl⟩
  rw [← hZ] at hz5 ⊢
  obtain ⟨X, hX⟩ : ∃ X, X = w4.heap.size := ⟨_, rfl⟩
  rw [← hX] at A5 ⊢
  have HZ5 := Lib.hid hz5
  clear hown5 hg5 hb5 hx5 hz5 hZ hX A4 B4 HR4
  go_wp2_with fail
  refine (one_box w5).mono ?_
  rintro e w6 ⟨rfl, hr6, hb6⟩
  obtain ⟨g6, hgd6⟩ : ∃ g6, g6 = w5.heap.size + 1 := ⟨_, rfl⟩
  rw [← hgd6] at hr6 ⊢
  have hg6 : g6 < w6.heap.size := (Array.getElem?_eq_some_iff.1 hr6).1
  have r0 : w6.cell? ⟨g6, 0, none⟩ = some (.string ⟨#[97]⟩) := by rw [cell_of_row _ _ _ _ _ _ hr6]; rfl
  have z0 : w6.frozen? ⟨g6, 0, none⟩ = false := frozen_of_row w6 g6 0 _ _ hr6
  have HB6 := Lib.hid hb6
  have HG6 := Lib.hid hr6
  obtain ⟨sz, hsz⟩ : ∃ sz : ByteArray, sz = ⟨bigZ.toArray⟩ := ⟨_, rfl⟩
  have HSZ := Lib.hid hsz
  have HGD6 := Lib.hid hgd6
  have HZ6 := Lib.hid (HZ5.out.below hb6 (Nat.le_refl _))
  clear hr6 hb6 hsz hgd6
  unfold frv
  go_wp2_with (first
    | (with_reducible refine K.step_bytes_string _ (.inl rfl) 28 9 5 _ rfl Tryd.underlying28 Tryd.underlying5 Tryd.underlying9 (some ⟨Z, 0, none⟩) 65537 65537 bigZ rfl bigZ_len.symm (HZ6.out.below ((Below.refl _ _).alloc (Nat.le_refl _) _) (Nat.le_refl _)) sz HSZ.out ?_)
    | fail)
  obtain ⟨u7, hu7⟩ : ∃ u, u = w6.setCell ⟨g6, 0, none⟩ (.string sz) := ⟨_, rfl⟩
  rw [← hu7]
  have hur7 : u7.heap[g6]? = some (.cells (rec5 sz 2 3 4 false) 40 (0, 0)) := by
    rw [hu7, heap_setCell_same _ _ _ _ _ _ HG6.out]
    rfl
  have hub7 : Below w5.heap.size w5 u7 := by
    rw [hu7]
    exact HB6.out.setCell (p := ⟨g6, 0, none⟩) (by have := HGD6.out; show w5.heap.size ≤ g6; omega) _
  have hus7 : u7.heap.size = w6.heap.size := by rw [hu7]; simp
  have hbox7 := heap_alloc_new u7 (.cells #[.int .u64 1, .int .i64 2, .slice (some ⟨g6, 0, none⟩) 1 1] 25)
  have hub7' := hub7.alloc hub7.size (.cells #[.int .u64 1, .int .i64 2, .slice (some ⟨g6, 0, none⟩) 1 1] 25)
  have hur7' := blk_alloc (p := .cells #[.int .u64 1, .int .i64 2, .slice (some ⟨g6, 0, none⟩) 1 1] 25) hur7
  rw [hus7] at hbox7
  obtain ⟨w7, hw7⟩ : ∃ w7, w7 = u7.alloc (.cells #[.int .u64 1, .int .i64 2, .slice (some ⟨g6, 0, none⟩) 1 1] 25) := ⟨_, rfl⟩
  rw [← hw7] at hbox7 hub7' hur7' ⊢
  obtain ⟨L, hL⟩ : ∃ L, L = w6.heap.size := ⟨_, rfl⟩
  rw [← hL] at hbox7 ⊢
  have A7 := Lib.hid (((A5.out.keep hub7').add hur7').add hbox7)
  have B7 := Lib.hid (B5.out.trans (hub7'.mono B5.out.size))
  have HR7 := Lib.hid (HR5.out.below hub7' (Nat.le_refl _))
  have HZ7 := Lib.hid (HZ5.out.below hub7' (Nat.le_refl _))
  clear hu7 hur7 hub7 hus7 hbox7 hub7' hur7' hw7 hL A5 B5 HR5 HZ5 HZ6 HG6 HB6 HGD6 r0 z0 hg6
  refine (one_box w7).mono ?_
  rintro e w8 ⟨rfl, hr8, hb8⟩
  obtain ⟨g8, hgd8⟩ : ∃ g8, g8 = w7.heap.size + 1 := ⟨_, rfl⟩
  rw [← hgd8] at hr8 ⊢
  have hg8 : g8 < w8.heap.size := (Array.getElem?_eq_some_iff.1 hr8).1
  have HB8 := Lib.hid hb8
  have HG8 := Lib.hid hr8
  have HGD8 := Lib.hid hgd8
  have HZ8 := Lib.hid (HZ7.out.below hb8 (Nat.le_refl _))
  obtain ⟨se, hse⟩ : ∃ se : ByteArray, se = ⟨(bigZ.take 65536).toArray⟩ := ⟨_, rfl⟩
  have HSE := Lib.hid hse
  clear hr8 hb8 hse hgd8
  unfold frv
  go_upto_region 13 with fail
  have hFE : FBox (w8.alloc (.cells #[.int .u64 1, .int .i64 2, .slice (some ⟨g8, 0, none⟩) 1 1] 25)) w8.heap.size 1 2 (.slice (some ⟨g8, 0, none⟩) 1 1) := heap_alloc_new _ _
  have hGE := blk_alloc (p := .cells #[.int .u64 1, .int .i64 2, .slice (some ⟨g8, 0, none⟩) 1 1] 25) HG8.out
  have hZE := HZ8.out.below ((Below.refl _ w8).alloc (Nat.le_refl _) (.cells #[.int .u64 1, .int .i64 2, .slice (some ⟨g8, 0, none⟩) 1 1] 25)) (Nat.le_refl _)
  have hb65 : (bigZ.take 65536).length = 65536 := by rw [List.length_take, bigZ_len]; rfl
  have HB65 := Lib.hid hb65
  clear hb65
  have hZ7 : Z < w7.heap.size := by
    obtain ⟨b, off, he, hlt, _⟩ := HZ7.out.at (bv_get (show 0 < bigZ.length by rw [bigZ_len]; omega))
    cases he
    exact hlt
  have hZg : Z ≠ g8 := by have := HGD8.out; omega
  have hEg : w8.heap.size ≠ g8 := by omega
  have hGD : (w8.alloc (.cells #[.int .u64 1, .int .i64 2, .slice (some ⟨g8, 0, none⟩) 1 1] 25)).drew.heap[g8]? = some (.cells (rec5 ⟨#[97]⟩ 2 3 4 false) 40 (0, 0)) := hGE
  have c80 : (w8.alloc (.cells #[.int .u64 1, .int .i64 2, .slice (some ⟨g8, 0, none⟩) 1 1] 25)).drew.cell? ⟨g8, 0, none⟩ = some (.string ⟨#[97]⟩) := by rw [cell_of_row _ _ _ _ _ _ hGD]; rfl
  have z80 : (w8.alloc (.cells #[.int .u64 1, .int .i64 2, .slice (some ⟨g8, 0, none⟩) 1 1] 25)).drew.frozen? ⟨g8, 0, none⟩ = false := frozen_of_row _ g8 0 _ _ hGD
  have ou := (Only.refl (fun k => k = g8) w8).setCell ⟨g8, 0, none⟩ (.string se) (fun _ => rfl)
  have hus8 : (w8.setCell ⟨g8, 0, none⟩ (.string se)).heap.size = w8.heap.size := by simp
  have hfe9 := heap_alloc_new (w8.setCell ⟨g8, 0, none⟩ (.string se)) (.cells #[.int .u64 1, .int .i64 2, .slice (some ⟨g8, 0, none⟩) 1 1] 25)
  rw [hus8] at hfe9
  have hz9 := (ou.rd HZ8.out (fun ad e h => by cases e; exact hZg h)).below ((Below.refl _ (w8.setCell ⟨g8, 0, none⟩ (.string se))).alloc (Nat.le_refl _) (.cells #[.int .u64 1, .int .i64 2, .slice (some ⟨g8, 0, none⟩) 1 1] 25)) (Nat.le_refl _)
  have hg9 := blk_alloc (p := .cells #[.int .u64 1, .int .i64 2, .slice (some ⟨g8, 0, none⟩) 1 1] 25) (show (w8.setCell ⟨g8, 0, none⟩ (.string se)).heap[g8]? = some (.cells (rec5 se 2 3 4 false) 40 (0, 0)) by rw [heap_setCell_same _ _ _ _ _ _ HG8.out]; rfl)
  have hb9 : Below w7.heap.size w7 ((w8.setCell ⟨g8, 0, none⟩ (.string se)).alloc (.cells #[.int .u64 1, .int .i64 2, .slice (some ⟨g8, 0, none⟩) 1 1] 25)).drew := ((HB8.out.setCell (p := ⟨g8, 0, none⟩) (by have := HGD8.out; show w7.heap.size ≤ g8; omega) (.string se)).alloc (by rw [hus8]; exact HB8.out.size) _).drew
  obtain ⟨w9, hw9⟩ : ∃ w9, w9 = ((w8.setCell ⟨g8, 0, none⟩ (.string se)).alloc (.cells #[.int .u64 1, .int .i64 2, .slice (some ⟨g8, 0, none⟩) 1 1] 25)).drew := ⟨_, rfl⟩
  have HW9 := Lib.hid hw9
  have HF9 := Lib.hid (show FBox w9 w8.heap.size 1 2 (.slice (some ⟨g8, 0, none⟩) 1 1) by rw [hw9]; exact hfe9)
  have HZ9 := Lib.hid (show Rd w9 (some ⟨Z, 0, none⟩) (bv bigZ) by rw [hw9]; exact hz9)
  have HG9 := Lib.hid (show w9.heap[g8]? = some (.cells (rec5 se 2 3 4 false) 40 (0, 0)) by rw [hw9]; exact hg9)
  have HB9 := Lib.hid (show Below w7.heap.size w7 w9 by rw [hw9]; exact hb9)
  clear ou hus8 hfe9 hz9 hg9 hb9 hw9 hGD
  refine wp_region_noPanic ?_
  refine wp_region_held_drew (S := (fun w' => FBox w' w8.heap.size 1 2 (.slice (some ⟨g8, 0, none⟩) 1 1) ∧ Rd w' (some ⟨Z, 0, none⟩) (bv bigZ))) (by kernel_rfl) ?_ (fun hHeld => ?_)
  · exact ⟨hFE, hZE⟩
  refine wpAnyH_take (i := 0) (oi := _) (v := ?_) rfl (by kernel_rfl) (by kernel_rfl) (by kernel_rfl) (fun _ _ _ h => h) (Or.inl ⟨by rfl, ?_⟩) (by assumption) ?_
  rotate_left 1
  · (intro w hSw; (try dsimp only at hSw); (have c2 := hSw.1.c2; go_simp); (try with_reducible rfl))
  try simp only [Act.put, List.getElem_toArray, List.getElem_cons_succ, List.getElem_cons_zero, List.setIfInBounds_toArray, List.set_cons_zero, List.set_cons_succ]
  refine wpAnyH_take (i := 1) (oi := _) (v := ?_) rfl (by kernel_rfl) (by kernel_rfl) (by kernel_rfl) (fun _ _ _ h => h) (Or.inl ⟨by rfl, ?_⟩) (by assumption) ?_
  rotate_left 1
  · (intro w hSw; (try dsimp only at hSw); (have c2 := hSw.1.c2; go_simp); (try with_reducible rfl))
  try simp only [Act.put, List.getElem_toArray, List.getElem_cons_succ, List.getElem_cons_zero, List.setIfInBounds_toArray, List.set_cons_zero, List.set_cons_succ]
  refine wpAnyH_take (i := 2) (oi := _) (v := ?_) rfl (by kernel_rfl) (by kernel_rfl) (by kernel_rfl) (fun _ _ _ h => h) (Or.inl ⟨by rfl, ?_⟩) (by assumption) ?_
  rotate_left 1
  · (intro w hSw; (try dsimp only at hSw); (have c2 := hSw.1.c2; go_simp); (try with_reducible rfl))
  try simp only [Act.put, List.getElem_toArray, List.getElem_cons_succ, List.getElem_cons_zero, List.setIfInBounds_toArray, List.set_cons_zero, List.set_cons_succ]
  refine wpAnyH_take (i := 3) (oi := _) (v := ?_) rfl (by kernel_rfl) (by kernel_rfl) (by kernel_rfl) (fun _ _ _ h => h) (Or.inl ⟨by rfl, ?_⟩) (by assumption) ?_
  rotate_left 1
  · (intro w hSw; (try dsimp only at hSw); (have c2 := hSw.1.c2; go_simp); (try with_reducible rfl))
  try simp only [Act.put, List.getElem_toArray, List.getElem_cons_succ, List.getElem_cons_zero, List.setIfInBounds_toArray, List.set_cons_zero, List.set_cons_succ]
  refine wpAnyH_take (i := 4) (oi := _) (v := ?_) rfl (by kernel_rfl) (by kernel_rfl) (by kernel_rfl) (fun _ _ _ h => h) (Or.inl ⟨by rfl, ?_⟩) (by assumption) ?_
  rotate_left 1
  · (intro w hSw; (try dsimp only at hSw); (have hcv := run_bytes_string (P := Tryd.prog) _ 28 9 5 Tryd.underlying28 Tryd.underlying5 Tryd.underlying9 (some ⟨Z, 0, none⟩) 65537 (bigZ.take 65536) (rd_take hSw.2 65536); rw [← HSE.out, HB65.out] at hcv; go_simp); (try with_reducible rfl))
  try simp only [Act.put, List.getElem_toArray, List.getElem_cons_succ, List.getElem_cons_zero, List.setIfInBounds_toArray, List.set_cons_zero, List.set_cons_succ]
  refine wpAnyH_take (i := 5) (oi := _) (v := ?_) rfl (by kernel_rfl) (by kernel_rfl) (by kernel_rfl) (fun _ _ _ h => h) (Or.inl ⟨by rfl, ?_⟩) (by assumption) ?_
  rotate_left 1
  · (intro w hSw; (try dsimp only at hSw); (have c2 := hSw.1.c2; go_simp); (try with_reducible rfl))
  try simp only [Act.put, List.getElem_toArray, List.getElem_cons_succ, List.getElem_cons_zero, List.setIfInBounds_toArray, List.set_cons_zero, List.set_cons_succ]
  refine wpAnyH_take (i := 6) (oi := _) (v := ?_) rfl (by kernel_rfl) (by kernel_rfl) (by kernel_rfl) (fun _ _ _ h => h) (Or.inl ⟨by rfl, ?_⟩) (by assumption) ?_
  rotate_left 1
  · (intro w hSw; (try dsimp only at hSw); (have c2 := hSw.1.c2; go_simp); (try with_reducible rfl))
  try simp only [Act.put, List.getElem_toArray, List.getElem_cons_succ, List.getElem_cons_zero, List.setIfInBounds_toArray, List.set_cons_zero, List.set_cons_succ]
  refine wpAnyH_ready (rs := [7]) (by kernel_rfl) (by simp) ?_
  refine AllReadyH.cons (o := _) rfl (fun K hK => ?_) AllReadyH.nil
  go_simp
  refine hK.out _ _ ?_ (fun hHeld7 => ?_)
  · rw [← HW9.out]; exact ⟨HF9.out, HZ9.out⟩
  clear hK K
  try simp only [Act.put, List.getElem_toArray, List.getElem_cons_succ, List.getElem_cons_zero, List.setIfInBounds_toArray, List.set_cons_zero, List.set_cons_succ]
  refine wpAnyH_done (by kernel_rfl) ?_ _
  refine NoPanic.normal ?_
  clear hHeld hHeld7 c80 z80 hFE hGE hZE
  rw [← HW9.out]
  obtain ⟨E, hE⟩ : ∃ E, E = w8.heap.size := ⟨_, rfl⟩
  rw [← hE] at HF9 ⊢
  have A9 := Lib.hid (((A7.out.keep HB9.out).add HG9.out).add HF9.out)
  have B9 := Lib.hid (B7.out.trans (HB9.out.mono B7.out.size))
  have HR9 := Lib.hid (HR7.out.below HB9.out (Nat.le_refl _))
  clear hE HW9 HF9 HZ9 HG9 HB9 A7 B7 HR7 HZ7 HZ8 HG8 HB8 HGD8 HB65 hg8 hZ7 hZg hEg
  go_wp2_with fail
  refine (one_box w9).mono ?_
  rintro e w10 ⟨rfl, hr10, hb10⟩
  have A10 := Lib.hid (A9.out.keep hb10)
  have B10 := Lib.hid (B9.out.trans (hb10.mono B9.out.size))
  have HR10 := Lib.hid (HR9.out.below hb10 (Nat.le_refl _))
  clear hr10 hb10 A9 B9 HR9
  obtain ⟨N, hN⟩ : ∃ N, N = w10.heap.size := ⟨_, rfl⟩
  have hc7 := fun o => conv_7 (w10.alloc o)
  have hszA : ∀ o, (w10.alloc o).heap.size = w10.heap.size + 1 := fun o => by simp
  simp only [hszA] at hc7
  have HN := Lib.hid hN
  clear hN hszA
  unfold frv
  go_wp2_with fail
  obtain ⟨wn, hwn⟩ : ∃ wn, wn = w10.alloc (.cells #[.int .u64 1, .int .i64 2, .slice none 0 0] 25) := ⟨_, rfl⟩
  have hNsz : wn.heap.size = w10.heap.size + 1 := by rw [hwn]; simp
  rw [← hwn, ← hNsz]
  have hNN : wn.heap[w10.heap.size]? = some (.cells #[.int .u64 1, .int .i64 2, .slice none 0 0] 25 (0, 0)) := by rw [hwn]; exact heap_alloc_new w10 _
  have hbn : Below w10.heap.size w10 wn := by rw [hwn]; exact (Below.refl _ _).alloc (Nat.le_refl _) _
  have An := Lib.hid ((A10.out.keep hbn).add hNN)
  have Bn := Lib.hid (B10.out.trans (hbn.mono B10.out.size))
  have HRn := Lib.hid (HR10.out.below hbn (Nat.le_refl _))
  clear hwn hNsz hNN hbn A10 B10 HR10 hc7
  refine (decode_short (wn.alloc (.cells #[.int .u8 79, .int .u8 68, .int .u8 79, .int .u8 1, .int .u8 97, .int .u8 98, .int .u8 99] 5 (7, 8))) (some ⟨wn.heap.size, 0, none⟩) 7 [79, 68, 79, 1, 97, 98, 99] (by decide) (by decide) (Rd.new _ _ _ _ _ (fun k v h => by simpa [bv] using h)) (by decide)).mono ?_
  rintro e w11 ⟨rfl, hb11⟩
  have hb11' : Below wn.heap.size wn w11 := ((Below.refl _ wn).alloc (Nat.le_refl _) _).trans (hb11.mono (by simp))
  have A11 := Lib.hid (An.out.keep hb11')
  have B11 := Lib.hid (Bn.out.trans (hb11'.mono Bn.out.size))
  have HR11 := Lib.hid (HRn.out.below hb11' (Nat.le_refl _))
  clear hb11 hb11' An Bn HRn
  have hc3 := fun o => conv_3 (w11.alloc o)
  have hszB : ∀ o, (w11.alloc o).heap.size = w11.heap.size + 1 := fun o => by simp
  simp only [hszB] at hc3
  clear hszB
  unfold frv
  go_wp2_with fail
  obtain ⟨wm, hwm⟩ : ∃ wm, wm = w11.alloc (.cells #[.int .u64 0, .int .i64 0, .slice none 0 0] 25) := ⟨_, rfl⟩
  have hMsz : wm.heap.size = w11.heap.size + 1 := by rw [hwm]; simp
  rw [← hwm, ← hMsz]
  have hbm : Below w11.heap.size w11 wm := by rw [hwm]; exact (Below.refl _ _).alloc (Nat.le_refl _) _
  have Am := Lib.hid (A11.out.keep hbm)
  have Bm := Lib.hid (B11.out.trans (hbm.mono B11.out.size))
  have HRm := Lib.hid (HR11.out.below hbm (Nat.le_refl _))
  clear hwm hMsz hbm A11 B11 HR11 hc3
  refine (decode_tag (wm.alloc (.cells #[.int .u8 79, .int .u8 68, .int .u8 79] 5 (3, 4))) (some ⟨wm.heap.size, 0, none⟩) 3 [79, 68, 79] (by decide) (by decide) (Rd.new _ _ _ _ _ (fun k v h => by simpa [bv] using h)) (by decide)).mono ?_
  rintro e w12 ⟨rfl, hb12⟩
  obtain ⟨w13, hw13⟩ : ∃ wm, wm = w12.alloc (.cells #[.int .u64 0, .int .i64 0, .slice none 0 0] 25) := ⟨_, rfl⟩
  have hb13 : Below wm.heap.size wm w13 := by rw [hw13]; exact (((Below.refl _ wm).alloc (Nat.le_refl _) _).trans (hb12.mono (by simp))).alloc (by have := hb12.size; simp at this; omega) _
  have A13 := Lib.hid (Am.out.keep hb13)
  have B13 := Lib.hid (Bm.out.trans (hb13.mono Bm.out.size))
  have HR13 := Lib.hid (HRm.out.below hb13 (Nat.le_refl _))
  have HW13 := Lib.hid hw13
  have hrg := rd_row (A13.out (g, .cells (rec5 ⟨#[97]⟩ (-9223372036854775808) 9223372036854775807 4 true) 40 (0, 0)) (by simp))
  have hsame := rfsame_any w13 18446744073709551615 (-9223372036854775808) 18446744073709551615 (-9223372036854775808) a4 (some ⟨g, 0, none⟩) c4 1 [bigR] [bigR] (by simp) (by simp) HR13.out hrg
  rw [big_eq] at hsame
  have HSM := Lib.hid hsame
  have hsz5 : sz.size = 65537 := by rw [HSZ.out]; show bigZ.toArray.size = _; rw [List.size_toArray, bigZ_len]
  have hse5 : se.size = 65536 := by rw [HSE.out]; show (bigZ.take 65536).toArray.size = _; rw [List.size_toArray, List.length_take, bigZ_len]; rfl
  have HS5 := Lib.hid hsz5
  have HE5 := Lib.hid hse5
  clear hb12 hb13 hw13 Am Bm HRm hrg hsame HR13 hsz5 hse5
  have hx := A13.out (X, (.cells #[.int .u64 18446744073709551615, .int .i64 (-9223372036854775808), .slice a4 1 c4] 25 (0, 0))) (by simp)
  have cx0 : w13.cell? ⟨X, 0, none⟩ = some (.int .u64 18446744073709551615) := by rw [cell_of_row _ _ _ _ _ _ hx]; rfl
  have cx1 : w13.cell? ⟨X, 1, none⟩ = some (.int .i64 (-9223372036854775808)) := by rw [cell_of_row _ _ _ _ _ _ hx]; rfl
  have cx2 : w13.cell? ⟨X, 2, none⟩ = some (.slice a4 1 c4) := by rw [cell_of_row _ _ _ _ _ _ hx]; rfl
  clear hx
  have hb := A13.out (B, (.cells #[.int .u64 18446744073709551615, .int .i64 (-9223372036854775808), .slice (some ⟨g, 0, none⟩) 1 1] 25 (0, 0))) (by simp)
  have cb0 : w13.cell? ⟨B, 0, none⟩ = some (.int .u64 18446744073709551615) := by rw [cell_of_row _ _ _ _ _ _ hb]; rfl
  have cb1 : w13.cell? ⟨B, 1, none⟩ = some (.int .i64 (-9223372036854775808)) := by rw [cell_of_row _ _ _ _ _ _ hb]; rfl
  have cb2 : w13.cell? ⟨B, 2, none⟩ = some (.slice (some ⟨g, 0, none⟩) 1 1) := by rw [cell_of_row _ _ _ _ _ _ hb]; rfl
  clear hb
  rw [HW13.out] at cx0 cx1 cx2 cb0 cb1 cb2
  unfold frv
  go_wp2_with fail
  rw [← HW13.out]
  refine HSM.out.mono ?_
  rintro e w14 ⟨rfl, hb14⟩
  have A14 := Lib.hid (A13.out.keep hb14)
  have B14 := Lib.hid (B13.out.trans (hb14.mono B13.out.size))
  clear hb14 A13 B13 HSM cx0 cx1 cx2 cb0 cb1 cb2
  have hl := A14.out (L, (.cells #[.int .u64 1, .int .i64 2, .slice (some ⟨g6, 0, none⟩) 1 1] 25 (0, 0))) (by simp)
  have cl0 : w14.cell? ⟨L, 0, none⟩ = some (.int .u64 1) := by rw [cell_of_row _ _ _ _ _ _ hl]; rfl
  have cl1 : w14.cell? ⟨L, 1, none⟩ = some (.int .i64 2) := by rw [cell_of_row _ _ _ _ _ _ hl]; rfl
  have cl2 : w14.cell? ⟨L, 2, none⟩ = some (.slice (some ⟨g6, 0, none⟩) 1 1) := by rw [cell_of_row _ _ _ _ _ _ hl]; rfl
  clear hl
  have hm1 := may_any w14 1 2 (some ⟨g6, 0, none⟩) 1 [oneN sz] (by simp) (fun x hx => by simp at hx; subst hx; have := HS5.out; show sz.size ≤ _; omega) (rd_row (A14.out (g6, .cells (rec5 sz 2 3 4 false) 40 (0, 0)) (by simp)))
  rw [oneN_may, decide_eq_false (by have := HS5.out; omega)] at hm1
  have HM1 := Lib.hid hm1
  clear hm1
  unfold frv at *
  go_wp2_with fail
  refine HM1.out.mono ?_
  rintro e w15 ⟨rfl, hb15⟩
  have A15 := Lib.hid (A14.out.keep hb15)
  have B15 := Lib.hid (B14.out.trans (hb15.mono B14.out.size))
  clear hb15 A14 B14 HM1 cl0 cl1 cl2
  have he := A15.out (E, (.cells #[.int .u64 1, .int .i64 2, .slice (some ⟨g8, 0, none⟩) 1 1] 25 (0, 0))) (by simp)
  have ce0 : w15.cell? ⟨E, 0, none⟩ = some (.int .u64 1) := by rw [cell_of_row _ _ _ _ _ _ he]; rfl
  have ce1 : w15.cell? ⟨E, 1, none⟩ = some (.int .i64 2) := by rw [cell_of_row _ _ _ _ _ _ he]; rfl
  have ce2 : w15.cell? ⟨E, 2, none⟩ = some (.slice (some ⟨g8, 0, none⟩) 1 1) := by rw [cell_of_row _ _ _ _ _ _ he]; rfl
  clear he
  have hm2 := may_any w15 1 2 (some ⟨g8, 0, none⟩) 1 [oneN se] (by simp) (fun x hx => by simp at hx; subst hx; have := HE5.out; show se.size ≤ _; omega) (rd_row (A15.out (g8, .cells (rec5 se 2 3 4 false) 40 (0, 0)) (by simp)))
  rw [oneN_may, decide_eq_true (by have := HE5.out; omega)] at hm2
  have HM2 := Lib.hid hm2
  clear hm2
  unfold frv at *
  go_wp2_with fail
  refine HM2.out.mono ?_
  rintro e w16 ⟨rfl, hb16⟩
  have A16 := Lib.hid (A15.out.keep hb16)
  have B16 := Lib.hid (B15.out.trans (hb16.mono B15.out.size))
  clear hb16 A15 B15 HM2 ce0 ce1 ce2
  have hn := A16.out (w10.heap.size, (.cells #[.int .u64 1, .int .i64 2, .slice none 0 0] 25 (0, 0))) (by simp)
  have cn0 : w16.cell? ⟨w10.heap.size, 0, none⟩ = some (.int .u64 1) := by rw [cell_of_row _ _ _ _ _ _ hn]; rfl
  have cn1 : w16.cell? ⟨w10.heap.size, 1, none⟩ = some (.int .i64 2) := by rw [cell_of_row _ _ _ _ _ _ hn]; rfl
  have cn2 : w16.cell? ⟨w10.heap.size, 2, none⟩ = some (.slice none 0 0) := by rw [cell_of_row _ _ _ _ _ _ hn]; rfl
  clear hn
  have hm3 := may_any w16 1 2 none 0 [] (by simp) (fun x hx => by simp at hx) (Rd.nil _ _)
  rw [show mayB 1 2 [] = false from rfl] at hm3
  have HM3 := Lib.hid hm3
  clear hm3
  unfold frv at *
  go_wp2_with fail
  refine HM3.out.mono ?_
  rintro e w17 ⟨rfl, hb17⟩
  have B17 := Lib.hid (B16.out.trans (hb17.mono B16.out.size))
  clear hb17 A16 B16 HM3 cn0 cn1 cn2
  go_wp2_with fail
  refine (known_any _).mono ?_
  rintro e w18 ⟨rfl, hb18⟩
  go_wp2
  go_ret
  exact ⟨rfl, B17.out.trans (hb18.mono B17.out.size)⟩
end Go.Proofs.YtajddpdlhahcdaaDoor
