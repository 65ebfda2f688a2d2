/- The walk over the law PackBounds. -/
import Derived.Test.YtocnjejolamdlaaDoorUy
import Derived.Test.YtocnjejolamdlaaDoorKnown
namespace Go.Proofs.YtocnjejolamdlaaDoor
open Go.RowKit K
theorem bd1 : readU [128, 128, 128, 128, 128, 128, 128, 128, 128, 2] = (0, 0, 4) := by decide +kernel
theorem bd2 : readU [255, 255, 255, 255, 255, 255, 255, 255, 255, 1] = (18446744073709551615, 10, 0) := by decide +kernel
theorem bd3 : readU [128, 0] = (0, 0, 4) := by decide +kernel
theorem bd4 : readU [] = (0, 0, 11) := rfl
theorem bd5 : zag 18446744073709551615 = -9223372036854775808 := by decide +kernel
set_option maxHeartbeats 1000000 in
set_option maxRecDepth 100000 in
theorem packBounds_any (w : World) (hg : GErr w) :
    Calls Tryd.prog 3 #[] w fun e w' => e = .returned (.bool true) ∧ Below w.heap.size w w' := by
  have hlt := hg.lt
  have HG := Lib.hid hg
  clear hg
  go_enter Tryd.func3, Tryd.ntmps3
  go_wp2_with fail
  have ha : ∀ (W : World) (o : Obj), Below W.heap.size W (W.alloc o) := fun W o => (Below.refl _ _).alloc (Nat.le_refl _) o
  have h1 := fun W (hg : GErr W) (hr : Rd W (some ⟨w.heap.size, 0, none⟩) (bv [128, 128, 128, 128, 128, 128, 128, 128, 128, 2])) => uvarint_any (some ⟨w.heap.size, 0, none⟩) 10 [128, 128, 128, 128, 128, 128, 128, 128, 128, 2] W (by decide) hr hg
  rw [bd1] at h1
  refine (h1 _ (HG.out.below (ha _ _) hlt) (Rd.new w _ _ _ _ (fun k v h => by simpa [bv] using h))).mono ?_
  clear h1
  rintro e w1 ⟨rfl, hb1⟩
  have HB1 := Lib.hid ((ha _ _).trans (hb1.mono (by simp)))
  have hl1 : 0 < w1.heap.size := Nat.lt_of_lt_of_le hlt HB1.out.size
  have HG1 := Lib.hid (HG.out.below HB1.out hlt)
  clear hb1
  go_wp2_with fail
  have h2 := fun W (hg : GErr W) (hr : Rd W (some ⟨w1.heap.size, 0, none⟩) (bv [255, 255, 255, 255, 255, 255, 255, 255, 255, 1])) => uvarint_any (some ⟨w1.heap.size, 0, none⟩) 10 [255, 255, 255, 255, 255, 255, 255, 255, 255, 1] W (by decide) hr hg
  rw [bd2] at h2
  refine (h2 _ (HG1.out.below (ha _ _) hl1) (Rd.new w1 _ _ _ _ (fun k v h => by simpa [bv] using h))).mono ?_
  clear h2
  rintro e w2 ⟨rfl, hb2⟩
  have HB2 := Lib.hid (HB1.out.trans (((ha _ _).trans (hb2.mono (by simp))).mono HB1.out.size))
  have hl2 : 0 < w2.heap.size := Nat.lt_of_lt_of_le hlt HB2.out.size
  have HG2 := Lib.hid (HG.out.below HB2.out hlt)
  clear hb2
  go_wp2_with fail
  have h3 := fun W (hg : GErr W) (hr : Rd W (some ⟨w2.heap.size, 0, none⟩) (bv [128, 0])) => uvarint_any (some ⟨w2.heap.size, 0, none⟩) 2 [128, 0] W (by decide) hr hg
  rw [bd3] at h3
  refine (h3 _ (HG2.out.below (ha _ _) hl2) (Rd.new w2 _ _ _ _ (fun k v h => by simpa [bv] using h))).mono ?_
  clear h3
  rintro e w3 ⟨rfl, hb3⟩
  have HB3 := Lib.hid (HB2.out.trans (((ha _ _).trans (hb3.mono (by simp))).mono HB2.out.size))
  have HG3 := Lib.hid (HG.out.below HB3.out hlt)
  clear hb3
  go_wp2_with fail
  have h4 := uvarint_any none 0 [] w3 (by decide) (Rd.nil _ _) HG3.out
  rw [bd4] at h4
  refine h4.mono ?_
  clear h4
  rintro e w4 ⟨rfl, hb4⟩
  have HB4 := Lib.hid (HB3.out.trans (hb4.mono HB3.out.size))
  have HG4 := Lib.hid (HG.out.below HB4.out hlt)
  clear hb4
  go_wp2_with fail
  refine (rput_any 18446744073709551615 w4 (by decide)).mono ?_
  rintro e w5 ⟨v, rfl, ho, hb5⟩
  obtain ⟨a5, c5, rfl, hc5, -, -, hr5⟩ := own_slice5 ho
  have HB5 := Lib.hid (HB4.out.trans (hb5.mono HB4.out.size))
  have HG5 := Lib.hid (HG.out.below HB5.out hlt)
  have hlp : (putU 18446744073709551615).length ≤ 10 := putF_length 9 _
  have h6 := varint_any a5 c5 (putU 18446744073709551615) w5 (by omega) hr5 HG5.out
  have h7 := readU_putU 18446744073709551615 [] (by decide)
  rw [List.append_nil] at h7
  rw [h7, bd5] at h6
  generalize (putU 18446744073709551615).length = lp at h6 ⊢
  have H6 := Lib.hid h6
  clear h6 h7 ho hr5 hb5 hlp hc5
  go_wp2_with fail
  refine H6.out.mono ?_
  rintro e w6 ⟨rfl, hb6⟩
  have HB6 := Lib.hid (HB5.out.trans (hb6.mono HB5.out.size))
  clear hb6 H6
  go_wp2_with fail
  refine (known_any w6).mono ?_
  rintro e w7 ⟨rfl, hb7⟩
  go_wp2
  go_ret
  exact ⟨rfl, HB6.out.trans (hb7.mono HB6.out.size)⟩
end Go.Proofs.YtocnjejolamdlaaDoor
