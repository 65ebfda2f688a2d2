/- The walk over the queue's Answer. -/
import Derived.Test.YtdomnjakhecbaaaQuG
import Derived.StillTailTactics
namespace Go.Proofs.Ytdomnjakhecbaaa
open Go.RowKit K
def ansR (s : QR) (fs : List Frm) (ok : Bool) (now : Int) : Int × QR × List Frm :=
  if s.sink = false then (7, s, fs)
  else if ok = true then (0, { s with sink := false, acked := s.acked + 1, time := once, tries := 0 }, fs.drop 1)
  else (0, { s with sink := false, time := if now ≤ 9223372036854775807 - dbl s.longest s.tries.toNat s.base then now + dbl s.longest s.tries.toNat s.base else 9223372036854775807, tries := s.tries + 1 }, fs)
section
variable {w : World} {g : Nat} {s : QR} {fs : List Frm} {M : Nat → Prop}
def AnsP (w : World) (g : Nat) (M : Nat → Prop) (r : Int × QR × List Frm) (e : Ending) (w' : World) : Prop :=
  e = .returned (.int .i64 r.1) ∧ QSt w' g r.2.1 r.2.2 M ∧ Only M w w'
theorem dbl_le (longest : Int) (h : 1 ≤ longest) : ∀ (k : Nat) (m : Int), 1 ≤ m → m ≤ longest → 1 ≤ dbl longest k m ∧ dbl longest k m ≤ longest
  | 0, m, h1, h2 => by rw [dbl_zero]; omega
  | k + 1, m, h1, h2 => by
    rw [dbl_succ]
    split
    · omega
    · exact dbl_le longest h k (m * 2) (by omega) (by omega)
set_option maxHeartbeats 1000000 in
set_option maxRecDepth 100000 in
theorem qanswer_no (h : QSt w g s fs M) (ok : Bool) (now : Int) (hs : s.sink = false) : Calls Try.prog 14 #[.pointer (some ⟨g, 0, none⟩), .bool ok, .int .i64 now] w (AnsP w g M (ansR s fs ok now)) := by
  have hr : ansR s fs ok now = (7, s, fs) := by unfold ansR; rw [if_pos hs]
  obtain ⟨a, c, hbox⟩ := h.box
  obtain ⟨most, base, longest, put, acked, dropped, sink, time, tries⟩ := s
  simp only at hs
  subst hs
  have c7 := hbox.c7
  have H := Lib.hid h
  have HR := Lib.hid hr
  clear h hr hbox
  go_enter Try.func14, Try.ntmps14
  go_wp2
  go_ret
  rw [HR.out]
  exact ⟨rfl, H.out, Only.refl _ _⟩
/-- Behind an Answer that acknowledges: the first frame is gone; what is left is written no more. -/
theorem qdrop_fin {w' : World} {s' : QR} {N : Nat → Prop} {xs : List Value} {b off c : Nat} (hrow : RowQ w g (.slice (some ⟨b, off, none⟩) fs.length c) fs.length xs N M) (hfr : Frs w N fs xs) (hcells : ∀ j u, xs[j]? = some u → w.cell? ⟨b, off + j, none⟩ = some u) (hbg : b ≠ g) (hMN : M b ∨ N b)
    (hMg : M g) (hNg : ¬ N g) (hNM : ∀ k, N k → M k) (hMl : ∀ k, M k → k < w.heap.size) (hn : 0 < fs.length) (ho : Only (· = g) w w') (off' : Nat) (hoff : 1 < fs.length → off' = off + 3) (hbox : QBox w' g (.slice (some ⟨b, off', none⟩) (fs.length - 1) (fs.length - 1)) s') : QSt w' g s' (fs.drop 1) M := by
  have hMb : M b := hMN.elim id (hNM b)
  cases fs with
  | nil => simp at hn
  | cons f r =>
    obtain ⟨cs, rest, h1, h2, h3⟩ := hfr
    have hcl := h2.length
    have hrl := h3.length
    refine ⟨_, rest, fun k => N k ∨ k = b, hbox, .inr ⟨hrl, ⟨b, off', none⟩, rfl, fun j u hu => ?_, .inr rfl⟩, Frs.only ho (fun k hk e => hNg (by rw [← e]; exact hk)) (fun _ h => .inl h) h3, hMg, fun h => h.elim hNg (fun e => hbg e.symm), fun k h => h.elim (hNM k) (fun e => by rw [e]; exact hMb), fun k hk => Nat.lt_of_lt_of_le (hMl k hk) ho.size⟩
    have hlt := (List.getElem?_eq_some_iff.1 hu).1
    have ho' := hoff (by simp only [List.length_cons]; omega)
    rw [Addr.add_lit, ho']
    refine ho.cell ?_ hbg
    rw [Nat.add_assoc]
    refine hcells (3 + j) u ?_
    rw [h1, List.getElem?_append_right (by omega), hcl]
    rw [show 3 + j - 3 = j by omega]
    exact hu
set_option maxHeartbeats 1000000 in
set_option maxRecDepth 100000 in
theorem qanswer_ok (h : QSt w g s fs M) (now : Int) (hs : s.sink = true) (hn : 0 < fs.length) (hm : fs.length ≤ 1000000) (ha : 0 ≤ s.acked ∧ s.acked ≤ 1000000) : Calls Try.prog 14 #[.pointer (some ⟨g, 0, none⟩), .bool true, .int .i64 now] w (AnsP w g M (ansR s fs true now)) := by
  have hr : ansR s fs true now = (0, { s with sink := false, acked := s.acked + 1, time := once, tries := 0 }, fs.drop 1) := by unfold ansR; rw [if_neg (by simp [hs]), if_pos rfl]
  obtain ⟨v, xs, N, hbox, hrow, hfr, hMg, hNg, hNM, hMl⟩ := h
  obtain ⟨most, base, longest, put, acked, dropped, sink, time, tries⟩ := s
  simp only at hs ha
  subst hs
  obtain ⟨b, off, c, rfl, hnc, hcm, hcells, hbg, hMN⟩ := hrow.first hNg hn (by omega)
  have c0 := hbox.c0
  have c5 := hbox.c5
  have c7 := hbox.c7
  have c8 := hbox.c8
  have c9 := hbox.c9
  have z0 : w.frozen? ⟨g, 0, none⟩ = false := frozen_of_row w g 0 _ _ hbox
  have z5 : w.frozen? ⟨g, 5, none⟩ = false := frozen_of_row w g 5 _ _ hbox
  have z7 : w.frozen? ⟨g, 7, none⟩ = false := frozen_of_row w g 7 _ _ hbox
  have z8 : w.frozen? ⟨g, 8, none⟩ = false := frozen_of_row w g 8 _ _ hbox
  have z9 : w.frozen? ⟨g, 9, none⟩ = false := frozen_of_row w g 9 _ _ hbox
  have HR := Lib.hid hr
  have HBOX := Lib.hid hbox
  have HROW := Lib.hid hrow
  have HFR := Lib.hid hfr
  have HNM := Lib.hid hNM
  have HML := Lib.hid hMl
  have HCL := Lib.hid hcells
  have hn1 : 1 ≤ (fs.length : Int) := by omega
  clear hr hbox hrow hfr hNM hMl hcells
  go_enter Try.func14, Try.ntmps14
  go_wp2_with fail
  have ho1 : Only (· = g) w (w.setCell ⟨g, 7, none⟩ (.bool false)) := (Only.refl (· = g) w).setCell _ _ (fun _ => rfl)
  have hb1 : QBox (w.setCell ⟨g, 7, none⟩ (.bool false)) g (.slice (some ⟨b, off, none⟩) fs.length c) ⟨most, base, longest, put, acked, dropped, false, time, tries⟩ := by
    unfold QBox
    rw [heap_setCell_same _ _ _ _ _ _ HBOX.out]
    rfl
  obtain ⟨w1, hw1⟩ : ∃ w1, w1 = w.setCell ⟨g, 7, none⟩ (.bool false) := ⟨_, rfl⟩
  rw [← hw1] at ho1 hb1 ⊢
  have d0 : w1.cell? ⟨g, 0, none⟩ = some (.slice (some ⟨b, off, none⟩) fs.length c) := hb1.c0
  have d0b : w1.drew.cell? ⟨g, 0, none⟩ = some (.slice (some ⟨b, off, none⟩) fs.length c) := hb1.c0
  have HB1 := Lib.hid hb1
  have HO1 := Lib.hid ho1
  clear hw1 ho1 hb1 c0 c5 c7 c8 c9 z0 z5 z7 z8 z9
  go_still_tail 18, (by kernel_rfl)
  change wpList _ _ _ _ _ w1.drew
  obtain ⟨w2, hw2⟩ : ∃ w2, w2 = w1.drew := ⟨_, rfl⟩
  rw [← hw2]
  have HO2 := Lib.hid (show Only (· = g) w w2 by rw [hw2]; exact HO1.out.drew)
  have hb2 : QBox w2 g (.slice (some ⟨b, off, none⟩) fs.length c) ⟨most, base, longest, put, acked, dropped, false, time, tries⟩ := by rw [hw2]; exact HB1.out
  have e0 := hb2.c0
  have e5 := hb2.c5
  have e8 := hb2.c8
  have e9 := hb2.c9
  have y0 : w2.frozen? ⟨g, 0, none⟩ = false := frozen_of_row w2 g 0 _ _ hb2
  have y5 : w2.frozen? ⟨g, 5, none⟩ = false := frozen_of_row w2 g 5 _ _ hb2
  have y8 : w2.frozen? ⟨g, 8, none⟩ = false := frozen_of_row w2 g 8 _ _ hb2
  have y9 : w2.frozen? ⟨g, 9, none⟩ = false := frozen_of_row w2 g 9 _ _ hb2
  have HB2 := Lib.hid hb2
  clear hw2 hb2 HB1 HO1 d0 d0b
  by_cases hl1 : fs.length = 1
  · have hf1 : (fs.length : Int) = 1 := by omega
    rw [hl1] at hnc e0 HB2
    have HL1 := Lib.hid hl1
    clear hl1
    go_wp2
    go_ret
    rw [HR.out]
    have ho4 : Only (· = g) w ((((w2.setCell ⟨g, 0, none⟩ (.slice (some ⟨b, off, none⟩) 0 0)).setCell ⟨g, 5, none⟩ (.int .i64 (acked + 1))).setCell ⟨g, 8, none⟩ (.int .i64 (-9223372036854775808))).setCell ⟨g, 9, none⟩ (.int .i64 0)) := (((HO2.out.setCell _ _ (fun _ => rfl)).setCell _ _ (fun _ => rfl)).setCell _ _ (fun _ => rfl)).setCell _ _ (fun _ => rfl)
    refine ⟨rfl, qdrop_fin HROW.out HFR.out HCL.out hbg hMN hMg hNg HNM.out HML.out hn ho4 off (fun h => by have := HL1.out; omega) ?_, ho4.mono (fun k _ h => by have h : k = g := h; rw [h]; exact hMg)⟩
    unfold QBox
    rw [heap_setCell_same _ _ _ _ _ _ (heap_setCell_same _ _ _ _ _ _ (heap_setCell_same _ _ _ _ _ _ (heap_setCell_same _ _ _ _ _ _ HB2.out))), HL1.out]
    rfl
  · have hl2 : ¬ fs.length = 1 := hl1
    go_wp2
    go_ret
    rw [HR.out]
    have ho4 : Only (· = g) w ((((w2.setCell ⟨g, 0, none⟩ (.slice (some ⟨b, off + 3, none⟩) (fs.length - 1) (fs.length - 1))).setCell ⟨g, 5, none⟩ (.int .i64 (acked + 1))).setCell ⟨g, 8, none⟩ (.int .i64 (-9223372036854775808))).setCell ⟨g, 9, none⟩ (.int .i64 0)) := (((HO2.out.setCell _ _ (fun _ => rfl)).setCell _ _ (fun _ => rfl)).setCell _ _ (fun _ => rfl)).setCell _ _ (fun _ => rfl)
    refine ⟨rfl, qdrop_fin HROW.out HFR.out HCL.out hbg hMN hMg hNg HNM.out HML.out hn ho4 (off + 3) (fun _ => rfl) ?_, ho4.mono (fun k _ h => by have h : k = g := h; rw [h]; exact hMg)⟩
    unfold QBox
    rw [heap_setCell_same _ _ _ _ _ _ (heap_setCell_same _ _ _ _ _ _ (heap_setCell_same _ _ _ _ _ _ (heap_setCell_same _ _ _ _ _ _ HB2.out)))]
    rfl
set_option maxHeartbeats 1000000 in
set_option maxRecDepth 100000 in
theorem qanswer_off (h : QSt w g s fs M) (now : Int) (hs : s.sink = true) (hb : 1 ≤ s.base) (hb2 : s.base ≤ s.longest) (hlg : s.longest ≤ 9223372036854775807) (hnow : -9223372036854775808 ≤ now ∧ now ≤ 9223372036854775807) (t : Nat) (htr : s.tries = t) (ht : t ≤ 1000000) : Calls Try.prog 14 #[.pointer (some ⟨g, 0, none⟩), .bool false, .int .i64 now] w (AnsP w g M (ansR s fs false now)) := by
  obtain ⟨a, c, hbox⟩ := h.box
  obtain ⟨most, base, longest, put, acked, dropped, sink, time, tries⟩ := s
  simp only at hs hb hb2 hlg htr
  subst hs htr
  have hdl := dbl_le longest (by omega) t base hb hb2
  obtain ⟨D, hD⟩ : ∃ D, D = dbl longest t base := ⟨_, rfl⟩
  have ho : Only (· = g) w (w.setCell ⟨g, 7, none⟩ (.bool false)) := (Only.refl (· = g) w).setCell _ _ (fun _ => rfl)
  have hbox1 : QBox (w.setCell ⟨g, 7, none⟩ (.bool false)) g (.slice a fs.length c) ⟨most, base, longest, put, acked, dropped, false, time, t⟩ := by
    unfold QBox
    rw [heap_setCell_same _ _ _ _ _ _ hbox]
    rfl
  have hw := wait_any _ g _ _ hbox1 t rfl (by omega) hb hb2 hlg
  simp only at hw
  rw [← hD] at hw hdl
  have HW := Lib.hid hw
  have hr : ansR ⟨most, base, longest, put, acked, dropped, true, time, t⟩ fs false now = (0, ⟨most, base, longest, put, acked, dropped, false, if now ≤ 9223372036854775807 - D then now + D else 9223372036854775807, (t : Int) + 1⟩, fs) := by
    unfold ansR
    rw [if_neg (by simp), if_neg (by simp), hD]
    simp
  have HR := Lib.hid hr
  have c7 := hbox.c7
  have c8 := hbox.c8
  have c9 := hbox.c9
  have z7 : w.frozen? ⟨g, 7, none⟩ = false := frozen_of_row w g 7 _ _ hbox
  have z8 : w.frozen? ⟨g, 8, none⟩ = false := frozen_of_row w g 8 _ _ hbox
  have z9 : w.frozen? ⟨g, 9, none⟩ = false := frozen_of_row w g 9 _ _ hbox
  have H := Lib.hid h
  have HBX := Lib.hid hbox1
  have HO := Lib.hid ho
  clear h hbox hbox1 hw hr ho hD
  go_enter Try.func14, Try.ntmps14
  go_wp2_with fail
  refine HW.out.mono ?_
  rintro e w1 ⟨rfl, rfl⟩
  by_cases hsat : now ≤ 9223372036854775807 - D
  · have HT := Lib.hid (show (if now ≤ 9223372036854775807 - D then now + D else 9223372036854775807) = now + D from if_pos hsat)
    go_wp2
    go_ret
    rw [HR.out, HT.out]
    have ho2 := ((HO.out.setCell ⟨g, 8, none⟩ (.int .i64 9223372036854775807) (fun _ => rfl)).setCell ⟨g, 8, none⟩ (.int .i64 (now + D)) (fun _ => rfl)).setCell ⟨g, 9, none⟩ (.int .i64 (t + 1)) (fun _ => rfl)
    refine ⟨rfl, H.out.turn (fun v hv => ?_) ho2, ho2.mono (fun k _ h => by
      have h : k = g := h
      rw [h]
      obtain ⟨_, _, _, _, _, _, h4, _⟩ := H.out
      exact h4)⟩
    unfold QBox at hv ⊢
    rw [heap_setCell_same _ _ _ _ _ _ (heap_setCell_same _ _ _ _ _ _ (heap_setCell_same _ _ _ _ _ _ (heap_setCell_same _ _ _ _ _ _ hv)))]
    rfl
  · have HT := Lib.hid (show (if now ≤ 9223372036854775807 - D then now + D else 9223372036854775807) = 9223372036854775807 from if_neg hsat)
    go_wp2
    go_ret
    rw [HR.out, HT.out]
    have ho2 := (HO.out.setCell ⟨g, 8, none⟩ (.int .i64 9223372036854775807) (fun _ => rfl)).setCell ⟨g, 9, none⟩ (.int .i64 (t + 1)) (fun _ => rfl)
    refine ⟨rfl, H.out.turn (fun v hv => ?_) ho2, ho2.mono (fun k _ h => by
      have h : k = g := h
      rw [h]
      obtain ⟨_, _, _, _, _, _, h4, _⟩ := H.out
      exact h4)⟩
    unfold QBox at hv ⊢
    rw [heap_setCell_same _ _ _ _ _ _ (heap_setCell_same _ _ _ _ _ _ (heap_setCell_same _ _ _ _ _ _ hv))]
    rfl
end
end Go.Proofs.Ytdomnjakhecbaaa
