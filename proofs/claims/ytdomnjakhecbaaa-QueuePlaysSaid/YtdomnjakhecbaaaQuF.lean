/- The walk over the queue's Put. -/
import Derived.Test.YtdomnjakhecbaaaQuE
import Derived.Deep.QuietTactic
import Derived.BigQuiet
namespace Go.Proofs.Ytdomnjakhecbaaa
open Go.RowKit K
/-- A frame in a block. -/
def FBq (b : Nat) (q win : Int) (v : Value) (w : World) : Prop := w.heap[b]? = some (.cells #[.int .u64 q, .int .i64 win, v] 38 (0, 0))
theorem FBq.c0 {b : Nat} {q win : Int} {v : Value} {w : World} (h : FBq b q win v w) : w.cell? ⟨b, 0, none⟩ = some (.int .u64 q) := by rw [cell_of_row _ _ _ _ _ _ h]; rfl
theorem FBq.c1 {b : Nat} {q win : Int} {v : Value} {w : World} (h : FBq b q win v w) : w.cell? ⟨b, 1, none⟩ = some (.int .i64 win) := by rw [cell_of_row _ _ _ _ _ _ h]; rfl
theorem FBq.c2 {b : Nat} {q win : Int} {v : Value} {w : World} (h : FBq b q win v w) : w.cell? ⟨b, 2, none⟩ = some v := by rw [cell_of_row _ _ _ _ _ _ h]; rfl
def zfrQ : Value := .agg #[.int .u64 0, .int .i64 0, .slice none 0 0]
theorem frq_parts : ∃ i, Try.prog.info? 38 = some i ∧ i.zero = some zfrQ ∧ i.size = 3 ∧ i.bytes = 40 := by
  have hs : (Try.prog.info? 38).map (·.size) = some 3 := by kernel_rfl
  have hb : (Try.prog.info? 38).map (·.bytes) = some 40 := by kernel_rfl
  have hz : (Try.prog.info? 38).bind (·.zero) = some zfrQ := by kernel_rfl
  cases h : Try.prog.info? 38 with
  | none => rw [h] at hs; cases hs
  | some i =>
    rw [h] at hs hb hz
    exact ⟨i, rfl, by simpa using hz, by simpa using hs, by simpa using hb⟩
theorem frow_new (w : World) (C : Array Value) (t : TypeId) (fr : Nat × Nat) (k : Nat) (hk : w.drew.heap.size = k := by rfl) : ∀ j u, C.toList[j]? = some u → (w.drew.alloc (.cells C t fr)).cell? ((⟨k, 0, none⟩ : Addr).add j) = some u := by
  subst hk
  exact K.row_new w.drew C t fr
theorem own_shape {w : World} {B e size n : Nat} {v : Value} {xs : List Value} (h : w.ownsRow B e size v n xs) : ∃ a c, v = .slice a n c := by
  rcases h.2 with ⟨rfl, rfl⟩ | ⟨b, cap, cur, rfl, _⟩
  · exact ⟨_, _, rfl⟩
  · exact ⟨_, _, rfl⟩
def putR (s : QR) (fs : List Frm) (win : Int) (xs : List Rec) : (Int × Int) × QR × List Frm :=
  if mayB (s.put + 1) win xs = false then ((0, 2), s, fs) else if s.most ≤ fs.length then ((0, 6), { s with dropped := s.dropped + 1 }, fs) else ((s.put + 1, 0), { s with put := s.put + 1 }, fs ++ [⟨s.put + 1, win, xs⟩])
def QPutP (w : World) (g : Nat) (M : Nat → Prop) (r : (Int × Int) × QR × List Frm) (e : Ending) (w' : World) : Prop :=
  e = .returned (.tuple #[.int .u64 r.1.1, .int .i64 r.1.2]) ∧ QTo w M g r.2.1 r.2.2 w'
section
variable {w : World} {g : Nat} {s : QR} {fs : List Frm} {M : Nat → Prop}
set_option maxHeartbeats 1000000 in
set_option maxRecDepth 100000 in
theorem qput_any (h : QSt w g s fs M) (win : Int) (a : Option Addr) (c : Nat) (xs : List Rec) (hc : xs.length ≤ c) (hc2 : c ≤ 9223372036854775807) (hl : xs.length ≤ 1000000) (ha : a = none → c = 0) (hr : Rd w a (rcf xs)) (hs : ∀ x ∈ xs, x.name.size ≤ 140737488355328)
    (hp : 0 ≤ s.put ∧ s.put ≤ 1000000) (hd : 0 ≤ s.dropped ∧ s.dropped ≤ 1000000) (hf : fs.length ≤ 1000000) :
    Calls Try.prog 9 #[.pointer (some ⟨g, 0, none⟩), .int .i64 win, .slice a xs.length c] w (QPutP w g M (putR s fs win xs)) := by
  obtain ⟨most, base, longest, put, acked, dropped, sink, time, tries⟩ := s
  simp only at hp hd
  have hq := h
  obtain ⟨v, vs, N, hbox, hrow, hfr, hMg, hNg, hNM, hMl⟩ := hq
  obtain ⟨va, vc, rfl⟩ := hrow.slice
  have c1 : w.cell? ⟨g, 1, none⟩ = some (.int .i64 most) := hbox.cell 1
  have c4 : w.cell? ⟨g, 4, none⟩ = some (.int .u64 put) := hbox.cell 4
  have c0 := hbox.c0
  have c6 := hbox.c6
  have hg : g < w.heap.size := hMl g hMg
  have HC := Lib.hid (copied_any w (put + 1) win a c xs hc hc2 hl ha hr)
  have H := Lib.hid h
  have HMY := Lib.hid (fun W a2 c2 (h : Rd W a2 (rcf xs)) => may_any W (put + 1) win a2 c2 xs (by omega) hs h)
  have HBOX := Lib.hid hbox
  have HROW := Lib.hid hrow
  have HFR := Lib.hid hfr
  have HNM := Lib.hid hNM
  have HML := Lib.hid hMl
  clear h hbox hrow hfr hNM hMl hr hs ha
  unfold frv at HC HMY
  go_enter Try.func9, Try.ntmps9
  go_wp2_with fail
  refine HC.out.mono ?_
  rintro e w1 ⟨a2, c2, rfl, hr1, hb1, hcc, hn1⟩
  unfold frv
  have hfb := heap_alloc_new w1 (.cells #[.int .u64 (put + 1), .int .i64 win, .slice a2 xs.length c2] 38)
  have HMC := Lib.hid (HMY.out (w1.alloc (.cells #[.int .u64 (put + 1), .int .i64 win, .slice a2 xs.length c2] 38)) a2 c2 (hr1.below ((Below.refl _ _).alloc (Nat.le_refl _) _) (Nat.le_refl _)))
  have HB1 := Lib.hid hb1
  have HFB := Lib.hid hfb
  have HR1 := Lib.hid hr1
  have HN1 := Lib.hid hn1
  have HCC := Lib.hid hcc
  clear hr1 hb1 hcc hn1 hfb HMY HC
  go_wp2_with fail
  refine HMC.out.mono ?_
  rintro e w2 ⟨rfl, hb2⟩
  have hbx : Below w.heap.size w w2 := (HB1.out.alloc HB1.out.size _).trans (hb2.mono (by have := HB1.out.size; simp; omega))
  have hF2 := (hb2.block w1.heap.size (by simp)).trans HFB.out
  have d0 : w2.cell? ⟨g, 0, none⟩ = some (.slice va fs.length vc) := (hbx.cell (p := ⟨g, 0, none⟩) hg).trans c0
  have d1 : w2.cell? ⟨g, 1, none⟩ = some (.int .i64 most) := (hbx.cell (p := ⟨g, 1, none⟩) hg).trans c1
  have d4 : w2.cell? ⟨g, 4, none⟩ = some (.int .u64 put) := (hbx.cell (p := ⟨g, 4, none⟩) hg).trans c4
  have d6 : w2.cell? ⟨g, 6, none⟩ = some (.int .i64 dropped) := (hbx.cell (p := ⟨g, 6, none⟩) hg).trans c6
  have hbox2 := (hbx.block g hg).trans HBOX.out
  have z0 : w2.frozen? ⟨g, 0, none⟩ = false := frozen_of_row w2 g 0 _ _ hbox2
  have z4 : w2.frozen? ⟨g, 4, none⟩ = false := frozen_of_row w2 g 4 _ _ hbox2
  have z6 : w2.frozen? ⟨g, 6, none⟩ = false := frozen_of_row w2 g 6 _ _ hbox2
  have b0 : w2.cell? ⟨w1.heap.size, 0, none⟩ = some (.int .u64 (put + 1)) := by rw [cell_of_row _ _ _ _ _ _ hF2]; rfl
  have b1 : w2.cell? ⟨w1.heap.size, 1, none⟩ = some (.int .i64 win) := by rw [cell_of_row _ _ _ _ _ _ hF2]; rfl
  have b2 : w2.cell? ⟨w1.heap.size, 2, none⟩ = some (.slice a2 xs.length c2) := by rw [cell_of_row _ _ _ _ _ _ hF2]; rfl
  have hgF : ¬ g = w1.heap.size := by have := HB1.out.size; omega
  have HBX := Lib.hid hbx
  have HBOX2 := Lib.hid hbox2
  have HF2 := Lib.hid (show FBq w1.heap.size (put + 1) win (.slice a2 xs.length c2) w2 from hF2)
  have HR2 := Lib.hid ((HR1.out.below ((Below.refl _ _).alloc (Nat.le_refl _) _) (Nat.le_refl _)).below hb2 (Nat.le_refl _))
  have HS12 := Lib.hid (show w1.heap.size < w2.heap.size by have := hb2.size; simp at this; omega)
  clear hbx hF2 hb2 hbox2 HFB HR1 HMC c0 c1 c4 c6
  cases hm : mayB (put + 1) win xs with
  | false =>
    have HRR := Lib.hid (show putR ⟨most, base, longest, put, acked, dropped, sink, time, tries⟩ fs win xs = ((0, 2), _, fs) by unfold putR; rw [if_pos hm])
    clear hm
    go_wp2
    go_ret2
    rw [HRR.out]
    exact ⟨rfl, QTo.same H.out HBX.out⟩
  | true =>
    by_cases hfull : most ≤ fs.length
    · have HRR := Lib.hid (show putR ⟨most, base, longest, put, acked, dropped, sink, time, tries⟩ fs win xs = ((0, 6), _, fs) by unfold putR; rw [if_neg (by simp [hm]), if_pos hfull])
      clear hm
      go_wp2_with fail
      go_quiet (fail)
      go_wp2
      go_ret2
      rw [HRR.out]
      refine ⟨rfl, QTo.turn H.out HBX.out (fun v hv => ?_) (((Only.refl (fun k => k = g) w2).drewN nq).setCell _ _ (fun _ => rfl))⟩
      unfold QBox at hv ⊢
      rw [heap_setCell_same (w2.drewN nq) _ _ _ _ _ hv]
      rfl
    · have HRR := Lib.hid (show putR ⟨most, base, longest, put, acked, dropped, sink, time, tries⟩ fs win xs = ((put + 1, 0), _, _) by unfold putR; rw [if_neg (by simp [hm]), if_neg hfull])
      have HXN := Lib.hid (show xs ≠ [] from fun e => by subst e; simp [mayB] at hm)
      clear hm
      go_wp2_with fail
      go_quiet (fail)
      go_wp2_with fail
      obtain ⟨w3, hw3⟩ : ∃ w3, w3 = (w2.drewN nq).setCell ⟨g, 4, none⟩ (.int .u64 (put + 1)) := ⟨_, rfl⟩
      rw [← hw3]
      have ho3 : Only (fun k => k = g) w2 w3 := by rw [hw3]; exact ((Only.refl (fun k => k = g) w2).drewN nq).setCell _ _ (fun _ => rfl)
      have hbox3 : QBox w3 g (.slice va fs.length vc) ⟨most, base, longest, put + 1, acked, dropped, sink, time, tries⟩ := by
        rw [hw3]
        unfold QBox
        rw [heap_setCell_same (w2.drewN nq) _ _ _ _ _ HBOX2.out]
        rfl
      have k0b : w3.drew.cell? ⟨g, 0, none⟩ = some (.slice va fs.length vc) := hbox3.c0
      have hX3 : FBq w1.heap.size (put + 1) win (.slice a2 xs.length c2) w3.drew := (show FBq w1.heap.size (put + 1) win (.slice a2 xs.length c2) w3 from ho3.heap HF2.out (fun e => hgF e.symm))
      have HX4 := Lib.hid (fun C => (show FBq w1.heap.size (put + 1) win (.slice a2 xs.length c2) (w3.drew.alloc C) from (Below.heap_alloc _ _ _ (Array.getElem?_eq_some_iff.1 hX3).1).trans hX3))
      have hgl3 : g < w3.drew.heap.size := by have h1 := ho3.size; have h2 := HBX.out.size; show g < w3.heap.size; omega
      have HBOX4 := Lib.hid (fun C => (show QBox (w3.drew.alloc C) g (.slice va fs.length vc) ⟨most, base, longest, put + 1, acked, dropped, sink, time, tries⟩ from (Below.heap_alloc _ _ _ hgl3).trans hbox3))
      have hrow3 := (HROW.out.only (F := fun k => w.heap.size ≤ k) (Only.of_below HBX.out (fun _ _ h => h)) (fun k hk hle => by have := HML.out k hk; omega) HNM.out).turn hNg ho3.drew
      have HROW4 := Lib.hid (fun C => (show RowQ (w3.drew.alloc C) g (.slice va fs.length vc) fs.length vs N M from hrow3.only (F := fun k => w3.drew.heap.size ≤ k) (Only.of_below ((Below.refl _ w3.drew).alloc (Nat.le_refl _) C) (fun _ _ h => h)) (fun k hk hle => by have h0 := HML.out k hk; have h1 := ho3.size; have h2 := HBX.out.size; have hle : w3.heap.size ≤ k := hle; omega) HNM.out))
      have HSZ3 := Lib.hid (show g < w3.heap.size from hgl3)
      have HFM := Lib.hid (show ¬ M w1.heap.size from fun h => by have h0 := HML.out _ h; have h1 := HB1.out.size; omega)
      have HO4 := Lib.hid (fun C => (show Only (fun k => k = g) w2 (w3.drew.alloc C) from ho3.drew.alloc C))
      clear hw3 ho3 hbox3 d0 d1 d4 d6 z0 z4 z6 b0 b1 b2 hrow3
      refine wp_region_noPanic ?_
      refine wp_region_held_drew (S := (FBq w1.heap.size (put + 1) win (.slice a2 xs.length c2))) (by kernel_rfl) ?_ (fun hHeld => ?_)
      · exact hX3
      refine wpAnyH_take (i := 0) (oi := _) (v := ?_) rfl (by kernel_rfl) (by kernel_rfl) (by kernel_rfl) (fun _ _ _ h => h) (Or.inl ⟨by rfl, ?_⟩) (by assumption) ?_
      rotate_left 1
      · (intro w hSw; (try dsimp only at hSw); go_simp; (try with_reducible rfl))
      try simp only [Act.put, List.getElem_toArray, List.getElem_cons_zero, List.setIfInBounds_toArray, List.set_cons_zero, List.set_cons_succ]
      refine wpAnyH_take (i := 1) (oi := _) (v := ?_) rfl (by kernel_rfl) (by kernel_rfl) (by kernel_rfl) (fun _ _ _ h => h) (Or.inl ⟨by rfl, ?_⟩) (by assumption) ?_
      rotate_left 1
      · (intro w hSw; (try dsimp only at hSw); go_simp; (try with_reducible rfl))
      try simp only [Act.put, List.getElem_toArray, List.getElem_cons_succ, List.getElem_cons_zero, List.setIfInBounds_toArray, List.set_cons_zero, List.set_cons_succ]
      refine wpAnyH_take (i := 2) (oi := _) (v := ?_) rfl (by kernel_rfl) (by kernel_rfl) (by kernel_rfl) (fun _ _ _ h => h) (Or.inl ⟨by rfl, ?_⟩) (by assumption) ?_
      rotate_left 1
      · (intro w hSw; (try dsimp only at hSw); go_simp; (try with_reducible rfl))
      try simp only [Act.put, List.getElem_toArray, List.getElem_cons_succ, List.getElem_cons_zero, List.setIfInBounds_toArray, List.set_cons_zero, List.set_cons_succ]
      refine wpAnyH_take (i := 3) (oi := _) (v := ?_) rfl (by kernel_rfl) (by kernel_rfl) (by kernel_rfl) (fun _ _ _ h => h) (Or.inl ⟨by rfl, ?_⟩) (by assumption) ?_
      rotate_left 1
      · (intro w hSw; (try dsimp only at hSw); go_simp; (try with_reducible rfl))
      try simp only [Act.put, List.getElem_toArray, List.getElem_cons_succ, List.getElem_cons_zero, List.setIfInBounds_toArray, List.set_cons_zero, List.set_cons_succ]
      refine wpAnyH_take (i := 5) (oi := _) (v := ?_) rfl (by kernel_rfl) (by kernel_rfl) (by kernel_rfl) (fun _ _ _ h => h) (Or.inl ⟨by rfl, ?_⟩) (by assumption) ?_
      rotate_left 1
      · (intro w hSw; (try dsimp only at hSw); (have q0 := hSw.c0; have q1 := hSw.c1; have q2 := hSw.c2; go_simp); (try with_reducible rfl))
      try simp only [Act.put, List.getElem_toArray, List.getElem_cons_succ, List.getElem_cons_zero, List.setIfInBounds_toArray, List.set_cons_zero, List.set_cons_succ]
      refine wpAnyH_ready (rs := [4, 6]) (by kernel_rfl) (by simp) ?_
      refine AllReadyH.cons (o := _) rfl (fun K hK => ?_) (AllReadyH.cons (o := _) rfl (fun K hK => ?_) AllReadyH.nil)
      · go_simp
        refine hK.out _ _ ?_ (fun hHeld4 => ?_)
        · exact hX3
        clear hK K
        try simp only [Act.put, List.getElem_toArray, List.getElem_cons_succ, List.getElem_cons_zero, List.setIfInBounds_toArray, List.set_cons_zero, List.set_cons_succ]
        refine wpAnyH_ready (rs := [6]) (by kernel_rfl) (by simp) ?_
        refine AllReadyH.cons (o := _) rfl (fun K hK => ?_) AllReadyH.nil
        go_simp
        refine hK.out _ _ ?_ (fun hHeld6 => ?_)
        · exact HX4.out _
        clear hK K
        try simp only [Act.put, List.getElem_toArray, List.getElem_cons_succ, List.getElem_cons_zero, List.setIfInBounds_toArray, List.set_cons_zero, List.set_cons_succ]
        refine wpAnyH_ready (rs := [7]) (by kernel_rfl) (by simp) ?_
        refine AllReadyH.cons (o := _) rfl (fun K hK => ?_) AllReadyH.nil
        obtain ⟨fi, hfi, hfz, hfs, hfbb⟩ := frq_parts
        refine rstep_append_q (by kernel_rfl) _ _ 59 rfl g fi zfrQ 40 Try.underlying59 hfi hfz hfs hfbb rfl (.slice va fs.length vc) fs.length vs N M rfl (HROW4.out _) ⟨w3.heap.size, 0, none⟩ 1 [.int .u64 (put + 1), .int .i64 win, .slice a2 xs.length c2] rfl rfl (frow_new _ _ _ _ _ rfl) (frq_one _ _ _ _ _) ?_ ?_ ?_ ?_
        · unfold maxLen; omega
        · omega
        · have := HSZ3.out; simp; omega
        intro v' w5 hown5 ho45 hob
        have hk5 := ho45.heap (HX4.out _) (fun h => HFM.out h.1)
        refine hK.out _ _ ?_ (fun hHeld7 => ?_)
        · exact hk5
        clear hK K
        try simp only [Act.put, List.getElem_toArray, List.getElem_cons_succ, List.getElem_cons_zero, List.setIfInBounds_toArray, List.set_cons_zero, List.set_cons_succ]
        refine wpAnyH_ready (rs := [8]) (by kernel_rfl) (by simp) ?_
        refine AllReadyH.cons (o := _) rfl (fun K hK => ?_) AllReadyH.nil
        go_simp
        refine hK.out _ _ ?_ (fun hHeld8 => ?_)
        · exact hk5
        clear hK K
        try simp only [Act.put, List.getElem_toArray, List.getElem_cons_succ, List.getElem_cons_zero, List.setIfInBounds_toArray, List.set_cons_zero, List.set_cons_succ]
        refine wpAnyH_ready (rs := [9]) (by kernel_rfl) (by simp) ?_
        refine AllReadyH.cons (o := _) rfl (fun K hK => ?_) AllReadyH.nil
        go_simp
        refine hK.out _ _ ?_ (fun hHeld9 => ?_)
        · exact hk5
        clear hK K
        try simp only [Act.put, List.getElem_toArray, List.getElem_cons_succ, List.getElem_cons_zero, List.setIfInBounds_toArray, List.set_cons_zero, List.set_cons_succ]
        refine wpAnyH_ready (rs := [10]) (by kernel_rfl) (by simp) ?_
        refine AllReadyH.cons (o := _) rfl (fun K hK => ?_) AllReadyH.nil
        have hb5 := ho45.heap (HBOX4.out _) (fun h => h.2.2 rfl)
        have e0 : w5.cell? ⟨g, 0, none⟩ = some (.slice va fs.length vc) := by rw [cell_of_row _ _ _ _ _ _ hb5]; rfl
        have z0 : w5.frozen? ⟨g, 0, none⟩ = false := frozen_of_row w5 g 0 _ _ hb5
        obtain ⟨v5, c5, rfl⟩ := own_shape hown5
        go_simp
        clear e0 z0
        refine hK.out _ _ ?_ (fun hHeld10 => ?_)
        · exact ((Only.refl (fun k => k = g) w5).setCell ⟨g, 0, none⟩ _ (fun _ => rfl)).heap hk5 (fun e => hgF e.symm)
        clear hK K
        try simp only [Act.put, List.getElem_toArray, List.getElem_cons_succ, List.getElem_cons_zero, List.setIfInBounds_toArray, List.set_cons_zero, List.set_cons_succ]
        refine wpAnyH_done (by kernel_rfl) ?_ _
        refine NoPanic.normal ?_
        have e5 := FBq.c0 hk5
        go_wp2
        go_ret2
        rw [HRR.out]
        refine ⟨rfl, qput_fin (f := ⟨put + 1, win, xs⟩) HFR.out hMg hNg HNM.out HML.out HBX.out HCC.out HR2.out (HN1.out HXN.out) HXN.out (HO4.out _) ho45 hown5 hob ((Only.refl (fun k => k = g) w5).setCell ⟨g, 0, none⟩ _ (fun _ => rfl)) ?_⟩
        unfold QBox
        rw [heap_setCell_same _ _ _ _ _ _ (ho45.heap (HBOX4.out _) (fun h => h.2.2 rfl))]
        rfl
      · go_simp
        refine hK.out _ _ ?_ (fun hHeld6 => ?_)
        · exact HX4.out _
        clear hK K
        try simp only [Act.put, List.getElem_toArray, List.getElem_cons_succ, List.getElem_cons_zero, List.setIfInBounds_toArray, List.set_cons_zero, List.set_cons_succ]
        refine wpAnyH_ready (rs := [4]) (by kernel_rfl) (by simp) ?_
        refine AllReadyH.cons (o := _) rfl (fun K hK => ?_) AllReadyH.nil
        have k0c : ((w3.alloc (.cells #[.int .u64 (put + 1), .int .i64 win, .slice a2 xs.length c2] 38)).drew).cell? ⟨g, 0, none⟩ = some (.slice va fs.length vc) := (HBOX4.out _).c0
        go_simp
        refine hK.out _ _ ?_ (fun hHeld4 => ?_)
        · exact HX4.out _
        clear hK K
        try simp only [Act.put, List.getElem_toArray, List.getElem_cons_succ, List.getElem_cons_zero, List.setIfInBounds_toArray, List.set_cons_zero, List.set_cons_succ]
        refine wpAnyH_ready (rs := [7]) (by kernel_rfl) (by simp) ?_
        refine AllReadyH.cons (o := _) rfl (fun K hK => ?_) AllReadyH.nil
        obtain ⟨fi, hfi, hfz, hfs, hfbb⟩ := frq_parts
        refine rstep_append_q (by kernel_rfl) _ _ 59 rfl g fi zfrQ 40 Try.underlying59 hfi hfz hfs hfbb rfl (.slice va fs.length vc) fs.length vs N M rfl (HROW4.out _) ⟨w3.heap.size, 0, none⟩ 1 [.int .u64 (put + 1), .int .i64 win, .slice a2 xs.length c2] rfl rfl (frow_new _ _ _ _ _ rfl) (frq_one _ _ _ _ _) ?_ ?_ ?_ ?_
        · unfold maxLen; omega
        · omega
        · have := HSZ3.out; simp; omega
        intro v' w5 hown5 ho45 hob
        have hk5 := ho45.heap (HX4.out _) (fun h => HFM.out h.1)
        refine hK.out _ _ ?_ (fun hHeld7 => ?_)
        · exact hk5
        clear hK K
        try simp only [Act.put, List.getElem_toArray, List.getElem_cons_succ, List.getElem_cons_zero, List.setIfInBounds_toArray, List.set_cons_zero, List.set_cons_succ]
        refine wpAnyH_ready (rs := [8]) (by kernel_rfl) (by simp) ?_
        refine AllReadyH.cons (o := _) rfl (fun K hK => ?_) AllReadyH.nil
        go_simp
        refine hK.out _ _ ?_ (fun hHeld8 => ?_)
        · exact hk5
        clear hK K
        try simp only [Act.put, List.getElem_toArray, List.getElem_cons_succ, List.getElem_cons_zero, List.setIfInBounds_toArray, List.set_cons_zero, List.set_cons_succ]
        refine wpAnyH_ready (rs := [9]) (by kernel_rfl) (by simp) ?_
        refine AllReadyH.cons (o := _) rfl (fun K hK => ?_) AllReadyH.nil
        go_simp
        refine hK.out _ _ ?_ (fun hHeld9 => ?_)
        · exact hk5
        clear hK K
        try simp only [Act.put, List.getElem_toArray, List.getElem_cons_succ, List.getElem_cons_zero, List.setIfInBounds_toArray, List.set_cons_zero, List.set_cons_succ]
        refine wpAnyH_ready (rs := [10]) (by kernel_rfl) (by simp) ?_
        refine AllReadyH.cons (o := _) rfl (fun K hK => ?_) AllReadyH.nil
        have hb5 := ho45.heap (HBOX4.out _) (fun h => h.2.2 rfl)
        have e0 : w5.cell? ⟨g, 0, none⟩ = some (.slice va fs.length vc) := by rw [cell_of_row _ _ _ _ _ _ hb5]; rfl
        have z0 : w5.frozen? ⟨g, 0, none⟩ = false := frozen_of_row w5 g 0 _ _ hb5
        obtain ⟨v5, c5, rfl⟩ := own_shape hown5
        go_simp
        clear e0 z0
        refine hK.out _ _ ?_ (fun hHeld10 => ?_)
        · exact ((Only.refl (fun k => k = g) w5).setCell ⟨g, 0, none⟩ _ (fun _ => rfl)).heap hk5 (fun e => hgF e.symm)
        clear hK K
        try simp only [Act.put, List.getElem_toArray, List.getElem_cons_succ, List.getElem_cons_zero, List.setIfInBounds_toArray, List.set_cons_zero, List.set_cons_succ]
        refine wpAnyH_done (by kernel_rfl) ?_ _
        refine NoPanic.normal ?_
        have e5 := FBq.c0 hk5
        go_wp2
        go_ret2
        rw [HRR.out]
        refine ⟨rfl, qput_fin (f := ⟨put + 1, win, xs⟩) HFR.out hMg hNg HNM.out HML.out HBX.out HCC.out HR2.out (HN1.out HXN.out) HXN.out (HO4.out _) ho45 hown5 hob ((Only.refl (fun k => k = g) w5).setCell ⟨g, 0, none⟩ _ (fun _ => rfl)) ?_⟩
        unfold QBox
        rw [heap_setCell_same _ _ _ _ _ _ (ho45.heap (HBOX4.out _) (fun h => h.2.2 rfl))]
        rfl
end
end Go.Proofs.Ytdomnjakhecbaaa
