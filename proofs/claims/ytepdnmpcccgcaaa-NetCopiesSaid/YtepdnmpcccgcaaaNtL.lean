/- The law's 'do': the walk at Read; at every kind. -/
import Derived.Test.YtepdnmpcccgcaaaNtK
namespace Go.Proofs.Ytepdnmpcccgcaaa
open Go.RowKit K
section
variable {w0 w : World} {n r : Nat} {most d d' : Int} {L L' : List RC} {F : List Nat} {G : Nat → Prop}
/-- What was read is turned too. -/
theorem do_read {m N g : Nat} {W1 W2 W3 : World} {F' : List Nat} (h : NwF w0 n r most d L F G w) (p1 : NetIs W1 w0.heap.size n most d (L'.map RC.vw) F') (p2 : Only (· ∈ F) w W1) (p3 : ∀ k ∈ F', k ∈ F) (h2 : RfTo W1 w0.heap.size r most d L' G W2) (hi : NInv most d L' m N) (hg : g ∈ F) (hg2 : g ∉ F') (ho : Only (· = g) W2 W3) : DoR w0 n r most F G m N w W3 := by
  obtain ⟨a1, a2, a3, a4⟩ := h
  obtain ⟨G', c1, c2, c3⟩ := h2
  have hs := p2.size
  have hgl := (a1.lt g hg).2
  have hd : ∀ k ∈ F', ¬ G k := fun k hk => a3 k (p3 k hk)
  have hF : ∀ k ∈ F', k < W1.heap.size := fun k hk => (p1.lt k hk).2
  have hb1 : Below w0.heap.size w0 W1 := a4.trans (p2.below a4.size (fun k hk => (a1.lt k hk).1))
  have hb2 : Below w0.heap.size w0 W2 := hb1.trans (c2.below (Nat.le_trans a4.size hs) (fun k hk => (a2.in k hk).1))
  have hn : NwF w0 n r most d L' F' G' W2 := ⟨p1.only c2 hd, c1, fun k hk hgk => (c3 k hgk).elim (hd k hk) (fun hh => by have := hF k hk; omega), hb2⟩
  refine ⟨d, L', hi, F', G', hn.only ho (fun k hk e => ?_) (hb2.trans (ho.below hb2.size (fun k e => by rw [e]; exact (a1.lt g hg).1))), ((p2.mono (fun k _ h => .inl h)).trans c2 (fun k _ h => .inr h)).trans ho (fun k _ e => by rw [e]; exact .inl hg), fun k hk => ?_⟩
  · subst e
    rcases hk with hk | hk
    · exact hg2 hk
    · rcases c3 _ hk with hh | hh
      · exact a3 _ hg hh
      · omega
  · rcases hk with hk | hk
    · exact .inl (.inl (p3 k hk))
    · rcases c3 k hk with hh | hh
      · exact .inl (.inr hh)
      · exact .inr (by omega)
end
set_option maxHeartbeats 4000000 in
set_option maxRecDepth 100000 in
theorem do04_8 {w0 w : World} {n r : Nat} {most d : Int} {L : List RC} {F : List Nat} {G : Nat → Prop} {m N : Nat} (h : NwF w0 n r most d L F G w) (hi : NInv most d L m N) (hm : m ≤ 1000) (id : Int) (host : ByteArray) (a : Option Addr) (c : Nat) (b : List UInt8) (hN : N + b.length ≤ 100000) (hr : Rd w0 a (bv b)) :
    Calls Try.prog 17 #[.pointer (some ⟨n, 0, none⟩), .pointer (some ⟨r, 0, none⟩), .agg #[.int .i64 8, .int .i64 id, .string host, .slice a b.length c]] w fun e w' => e = .returned (.bool true) ∧ DoR w0 n r most F G (m + 1) (N + b.length) w w' := by
  obtain ⟨i0, hii, hz0, hz1, hz2⟩ := info_parts info_byte
  obtain ⟨w1, hw1⟩ : ∃ w1, w1 = w.alloc (.cells #[.int .i64 8, .int .i64 id, .string host, .slice a b.length c] 41) := ⟨_, rfl⟩
  have hb1 : Below w.heap.size w w1 := by rw [hw1]; exact (Below.refl _ w).alloc (Nat.le_refl _) _
  have hs1 : w1.heap.size = w.heap.size + 1 := by rw [hw1]; simp
  have hbx : w1.heap[w.heap.size]? = some (.cells #[.int .i64 8, .int .i64 id, .string host, .slice a b.length c] 41 (0, 0)) := by rw [hw1]; exact heap_alloc_new w _
  have c0 : w1.cell? ⟨w.heap.size, 0, none⟩ = some (.int .i64 8) := by rw [cell_of_row _ _ _ _ _ _ hbx]; rfl
  have c3 : w1.cell? ⟨w.heap.size, 3, none⟩ = some (.slice a b.length c) := by rw [cell_of_row _ _ _ _ _ _ hbx]; rfl
  have HW1 := Lib.hid hw1
  have HB1 := Lib.hid hb1
  have HS1 := Lib.hid hs1
  have HBX := Lib.hid hbx
  have H := Lib.hid h
  have HI := Lib.hid hi
  have HR := Lib.hid (hr.below (h.2.2.2.trans (hb1.mono h.2.2.2.size)) (Nat.le_refl _))
  have HR0 := Lib.hid hr
  clear hw1 hb1 hbx h hi hr
  go_enter Try.func17, Try.ntmps17
  go_upto_region 1 with fail
  rw [← HW1.out]
  go_wp2_with (first
    | (at_builtin; refine step_append_any (.inl rfl) _ _ 22 rfl w1.heap.size 5 i0 (.int .u8 0) 1 1 Try.underlying22 hii hz0 hz1 hz2 rfl (by decide) (.slice none 0 0) 0 [] rfl (World.ownsRow_nil _ _ _ _) a b.length c (bv b) rfl (by simp [bv]) HR.out (bv_one b) (by unfold maxLen; omega) (by omega) (Nat.le_refl _) ?_)
    | fail)
  rintro v w2 ⟨o1, g1, -⟩
  have hb12 : Below w1.heap.size w1 w2 := (Below.refl _ _).grown g1 (Nat.le_refl _) (fun k e => by cases e)
  obtain ⟨oa, oc, rfl, -, -, -⟩ := own_cells o1
  have hbx2 := hb12.block w.heap.size (by omega)
  have O1 := Lib.hid o1
  have HB2 := Lib.hid (HB1.out.trans (hb12.mono HB1.out.size))
  have HB12 := Lib.hid hb12
  have HBX2 := Lib.hid (hbx2.trans HBX.out)
  have k0 : w2.cell? ⟨w.heap.size, 0, none⟩ = some (.int .i64 8) := by rw [cell_of_row _ _ _ _ _ _ HBX2.out]; rfl
  clear hb12 hbx2 o1 g1 c0 c3
  have HT0 := Lib.hid (show TailI oa b.length w1.heap.size w2.heap.size w2 w2 from by
    by_cases h0 : b.length = 0
    · exact .inl ⟨h0, rfl⟩
    · obtain ⟨g, c', e, hrow, hg1, hg2, -⟩ := RowB.of_own O1.out (by omega)
      cases e
      exact .inr ⟨g, rfl, hrow, Only.refl _ _, by omega, hg2⟩)
  have HS12 := Lib.hid (show w.heap.size ≤ w1.heap.size from by omega)
  have HTE := Lib.hid (fun (wx wr : World) (hd : DoR w0 n r most F G (m + 1) (N + b.length) w2 wx) (ht : TailI oa b.length w1.heap.size w2.heap.size wx wr) => tail_end H.out HS12.out rfl HB2.out hd ht)
  have HTS := Lib.hid (fun (wx : World) (hd : DoR w0 n r most F G (m + 1) (N + b.length) w2 wx) => tail_start H.out HS12.out rfl HT0.out hd)
  have HH := Lib.hid (H.out.new HB2.out)
  have HKR := Lib.hid (fun (W : World) (hd : DoR w0 n r most F G (m + 1) (N + b.length) w2 W) => (show W.heap[w.heap.size]? = some (.cells #[.int .i64 8, .int .i64 id, .string host, .slice a b.length c] 41 (0, 0)) from by
    obtain ⟨_, _, _, _, _, _, hon, _⟩ := hd
    exact hon.heap HBX2.out (fun hf => by have := (H.out.in hf).2; omega)))
  have HKP := Lib.hid (fun (W W1 : World) (d' : Int) (l' : List CV) (hW : W.heap[w.heap.size]? = some (.cells #[.int .i64 8, .int .i64 id, .string host, .slice a b.length c] 41 (0, 0))) (ht : NetTo W w0.heap.size n F most d' l' W1) => (show W1.heap[w.heap.size]? = some (.cells #[.int .i64 8, .int .i64 id, .string host, .slice a b.length c] 41 (0, 0)) from by
    obtain ⟨_, _, hon, _⟩ := ht
    exact hon.heap hW (fun hf => by have := (H.out.in (.inl hf)).2; omega)))
  have HLN := Lib.hid (show L.length ≤ 100000 from by have := HI.out.len2; omega)
  have hdn := HI.out.dn
  have hd0 := HI.out.d0
  clear HT0 HS12 HS1 hs1
  obtain ⟨e1, e2⟩ := read_ok id L
  obtain ⟨bb, hbb⟩ : ∃ bb, bb = rin id L := ⟨_, rfl⟩
  have HP := Lib.hid (show Calls Try.prog 12 #[.pointer (some ⟨n, 0, none⟩), .int .i64 id] w2 fun e w' => ∃ v, e = .returned v ∧ ∃ F', NetIs w' w0.heap.size n most d ((rupd id (fun v => { v with pos := v.inn.size }) L).map RC.vw) F' ∧ Only (· ∈ F) w2 w' ∧ (∀ k ∈ F', k ∈ F) ∧ Buf w' w0.heap.size v bb ∧ ∀ k, v.ownBlock = some k → k ∈ F ∧ k ∉ F' from by
    have h := read_any HH.out.1 HH.out.2.2.2.size id
    rw [e2] at h
    refine h.mono ?_
    rintro e w' ⟨v, rfl, F', q1, q2, q3, q4, q5⟩
    rw [e1, ← hbb] at q4
    exact ⟨v, rfl, F', q1, q2, q3, q4, q5⟩)
  have HNI := Lib.hid (show NInv most d (rupd id (fun v : RC => { v with pos := v.inn.size }) L) (m + 1) (N + b.length) from (HI.out.upd id (fun v : RC => { v with pos := v.inn.size }) (fun _ => rfl) (Nat.le_refl N) (fun v hv => ⟨(HI.out.sz v hv).1, (HI.out.sz v hv).2.1, Nat.le_refl _⟩)).more (Nat.le_succ _) (Nat.le_add_right _ _))
  have HBL := Lib.hid (show bb.length ≤ 100000 from by
    rw [hbb]
    unfold rin
    cases hq : rfind id L with
    | none => simp
    | some v =>
      have h9 := HI.out.sz v (rfind_mem hq)
      simp only [List.length_drop]
      have e9 : v.inn.data.toList.length = v.inn.size := rfl
      omega)
  have HSZ := Lib.hid (show ∀ v ∈ L, v.inn.size ≤ 1000000 ∧ v.pos ≤ v.inn.size from fun v hv => by have := HI.out.sz v hv; omega)
  have HBB := Lib.hid hbb
  have HAF := Lib.hid (show ∀ k, nfoot F G k → k < w.heap.size from fun k hk => (H.out.in hk).2)
  have q1 : w2.cell? ⟨w.heap.size, 1, none⟩ = some (.int .i64 id) := by rw [cell_of_row _ _ _ _ _ _ HBX2.out]; rfl
  clear e1 e2 hbb HI HR HR0 O1 HB1 HW1 HBX
  go_wp2_with fail
  refine HP.out.mono ?_
  clear q1
  rintro e w3 ⟨v, rfl, F', p1, p2, p3, p4, p5⟩
  have hs23 := p2.size
  obtain ⟨ba, bc, rfl, -, hrd, hown⟩ := p4.rd
  have HX3 := Lib.hid (show w3.heap[w.heap.size]? = some (.cells #[.int .i64 8, .int .i64 id, .string host, .slice a b.length c] 41 (0, 0)) from p2.heap HBX2.out (fun hf => by have := HAF.out _ (.inl hf); omega))
  have HRF3 := Lib.hid (show RfIs w3 w0.heap.size r most d L G from HH.out.2.1.only p2 (fun k hk hf => HH.out.2.2.1 k hf hk))
  have HRD := Lib.hid hrd
  have HBI := Lib.hid (show bb.length = 0 ∨ ∃ g, ba = some ⟨g, 0, none⟩ ∧ RowB w3 g bb.length ∧ g ∈ F ∧ g ∉ F' ∧ g < w3.heap.size from by
    by_cases h0 : bb.length = 0
    · exact .inl h0
    · obtain ⟨g, c', e, hrow, -, hgl, hgo⟩ := RowB.of_own p4.1 (by omega)
      cases e
      exact .inr ⟨g, rfl, hrow, (p5 g hgo).1, (p5 g hgo).2, hgl⟩)
  have HNG := Lib.hid (show ∀ ad, ba = some ad → bb ≠ [] → ¬ G ad.block from fun ad e hne hg => by
    rcases HBI.out with h0 | ⟨g, e2, -, hgF, -⟩
    · exact hne (List.eq_nil_of_length_eq_zero h0)
    · rw [e] at e2
      cases e2
      exact HH.out.2.2.1 _ hgF hg)
  have HP1 := Lib.hid p1
  have HP2 := Lib.hid p2
  have HP3 := Lib.hid p3
  have HRR := Lib.hid (fun W (hb : Below w3.heap.size w3 W) => rread_any (HRF3.out.new hb) id (by have := HLN.out; omega) HSZ.out)
  clear p1 p2 p3 p4 p5 hrd hown HP
  go_wp2_with fail
  refine wp_region_noPanic ?_
  refine wp_region_held_drew (S := (fun w' => w'.heap[w.heap.size]? = some (.cells #[.int .i64 8, .int .i64 id, .string host, .slice a b.length c] 41 (0, 0)) ∧ Rd w' ba (bv bb))) (by kernel_rfl) ?_ (fun hHeld => ?_)
  · exact ⟨HX3.out, HRD.out⟩
  refine wpAnyH_take (i := 0) (oi := _) (v := ?_) rfl (by kernel_rfl) (by kernel_rfl) (by kernel_rfl) (fun _ _ _ h => h) (Or.inl ⟨by rfl, ?_⟩) (by assumption) ?_
  rotate_left 1
  · (intro w hSw; (try dsimp only at hSw); go_simp; (try with_reducible rfl))
  try simp only [Act.put, List.getElem_toArray, List.getElem_cons_zero, List.setIfInBounds_toArray, List.set_cons_zero, List.set_cons_succ]
  refine wpAnyH_take (i := 1) (oi := _) (v := ?_) rfl (by kernel_rfl) (by kernel_rfl) (by kernel_rfl) (fun _ _ _ h => h) (Or.inl ⟨by rfl, ?_⟩) (by assumption) ?_
  rotate_left 1
  · (intro w hSw; (try dsimp only at hSw); (have q := run_bytes_string (P := Try.prog) w 22 9 5 Try.underlying22 Try.underlying5 Try.underlying9 ba bc bb hSw.2; go_simp); (try with_reducible rfl))
  try simp only [Act.put, List.getElem_toArray, List.getElem_cons_succ, List.getElem_cons_zero, List.setIfInBounds_toArray, List.set_cons_zero, List.set_cons_succ]
  refine wpAnyH_take (i := 2) (oi := _) (v := ?_) rfl (by kernel_rfl) (by kernel_rfl) (by kernel_rfl) (fun _ _ _ h => h) (Or.inl ⟨by rfl, ?_⟩) (by assumption) ?_
  rotate_left 1
  · (intro w hSw; (try dsimp only at hSw); go_simp; (try with_reducible rfl))
  try simp only [Act.put, List.getElem_toArray, List.getElem_cons_succ, List.getElem_cons_zero, List.setIfInBounds_toArray, List.set_cons_zero, List.set_cons_succ]
  refine wpAnyH_take (i := 3) (oi := _) (v := ?_) rfl (by kernel_rfl) (by kernel_rfl) (by kernel_rfl) (fun _ _ _ h => h) (Or.inl ⟨by rfl, ?_⟩) (by assumption) ?_
  rotate_left 1
  · (intro w hSw; (try dsimp only at hSw); go_simp; (try with_reducible rfl))
  try simp only [Act.put, List.getElem_toArray, List.getElem_cons_succ, List.getElem_cons_zero, List.setIfInBounds_toArray, List.set_cons_zero, List.set_cons_succ]
  refine wpAnyH_take (i := 4) (oi := _) (v := ?_) rfl (by kernel_rfl) (by kernel_rfl) (by kernel_rfl) (fun _ _ _ h => h) (Or.inl ⟨by rfl, ?_⟩) (by assumption) ?_
  rotate_left 1
  · (intro w hSw; (try dsimp only at hSw); (have q := cell_of_row _ _ 1 _ _ _ hSw.1; go_simp); (try with_reducible rfl))
  try simp only [Act.put, List.getElem_toArray, List.getElem_cons_succ, List.getElem_cons_zero, List.setIfInBounds_toArray, List.set_cons_zero, List.set_cons_succ]
  refine wpAnyH_ready (rs := [5]) (by kernel_rfl) (by simp) ?_
  refine AllReadyH.cons (o := _) rfl (fun K hK => ?_) AllReadyH.nil
  go_simp
  refine (HRR.out _ (drew_below _)).mono ?_
  rintro e w4 ⟨⟨ra, rc, rfl, hra⟩, hto⟩
  rw [← HBB.out] at hra ⊢
  have HRA := Lib.hid hra
  have HTO := Lib.hid hto
  have HS4 := Lib.hid (show w4.heap[w.heap.size]? = some (.cells #[.int .i64 8, .int .i64 id, .string host, .slice a b.length c] 41 (0, 0)) ∧ Rd w4 ba (bv bb) from by
    obtain ⟨G', t1, t2, t3⟩ := hto
    refine ⟨t2.heap HX3.out (fun hf => by have := HAF.out _ (.inr hf); omega), fun i u hu => ?_⟩
    obtain ⟨b7, off7, e7, hc7⟩ := HRD.out i u hu
    exact ⟨b7, off7, e7, t2.cell hc7 (HNG.out ⟨b7, off7, none⟩ e7 (fun hn => by rw [hn] at hu; simp [bv] at hu))⟩)
  clear hra hto
  go_wp2_with fail
  refine hK.out _ _ ?_ (fun hHeld5 => ?_)
  · exact HS4.out
  clear hK K
  try simp only [Act.put, List.getElem_toArray, List.getElem_cons_succ, List.getElem_cons_zero, List.setIfInBounds_toArray, List.set_cons_zero, List.set_cons_succ]
  refine wpAnyH_ready (rs := [6]) (by kernel_rfl) (by simp) ?_
  refine AllReadyH.cons (o := _) rfl (fun K hK => ?_) AllReadyH.nil
  have q := run_bytes_string (P := Try.prog) w4 22 9 5 Try.underlying22 Try.underlying5 Try.underlying9 ra rc bb HRA.out
  go_simp
  refine hK.out _ _ ?_ (fun hHeld6 => ?_)
  · exact HS4.out
  clear hK K
  try simp only [Act.put, List.getElem_toArray, List.getElem_cons_succ, List.getElem_cons_zero, List.setIfInBounds_toArray, List.set_cons_zero, List.set_cons_succ]
  refine wpAnyH_take (i := 7) (oi := _) (v := ?_) rfl (by kernel_rfl) (by kernel_rfl) (by kernel_rfl) (fun _ _ _ h => h) (Or.inl ⟨by rfl, ?_⟩) (by assumption) ?_
  rotate_left 1
  · (intro w hSw; (try dsimp only at hSw); go_simp; (try with_reducible rfl))
  try simp only [Act.put, List.getElem_toArray, List.getElem_cons_succ, List.getElem_cons_zero, List.setIfInBounds_toArray, List.set_cons_zero, List.set_cons_succ]
  refine wpAnyH_take (i := 8) (oi := _) (v := ?_) rfl (by kernel_rfl) (by kernel_rfl) (by kernel_rfl) (fun _ _ _ h => h) (Or.inl ⟨by rfl, ?_⟩) (by assumption) ?_
  rotate_left 1
  · (intro w hSw; (try dsimp only at hSw); go_simp; (try with_reducible rfl))
  try simp only [Act.put, List.getElem_toArray, List.getElem_cons_succ, List.getElem_cons_zero, List.setIfInBounds_toArray, List.set_cons_zero, List.set_cons_succ]
  refine wpAnyH_done (by kernel_rfl) ?_ _
  refine NoPanic.normal ?_
  have HB4 := Lib.hid (show bb.length = 0 ∨ ∃ g, ba = some ⟨g, 0, none⟩ ∧ RowB w4 g bb.length ∧ g ∈ F ∧ g ∉ F' from by
    rcases HBI.out with h0 | ⟨g, e, hrow, hgF, hgn, hgl⟩
    · exact .inl h0
    · obtain ⟨G', t1, t2, t3⟩ := HTO.out
      exact .inr ⟨g, e, hrow.only (W := w3.drew) (W' := w4) t2 hgl (HH.out.2.2.1 g hgF), hgF, hgn⟩)
  have HFD := Lib.hid (fun (wx : World) (g : Nat) (hg : g ∈ F) (hg2 : g ∉ F') (ho : Only (· = g) w4 wx) => do_read HH.out (HP1.out.below (D := w3.heap.size) (drew_below w3) (Nat.le_refl _)) (HP2.out.trans (G := fun _ => False) (Only.of_new (drew_below w3)) (fun _ _ h => h.elim)) HP3.out HTO.out HNI.out hg hg2 ho)
  have HFD0 := Lib.hid (show DoR w0 n r most F G (m + 1) (N + b.length) w2 w4 from do_two HH.out (Below.refl _ _) (NetTo.only ⟨F', HP1.out, HP2.out, fun k hk => .inl (HP3.out k hk)⟩ (drew_below w3)) HTO.out HNI.out)
  clear HP1 HP2 HP3 HTO HNI HRA HS4 HBI HX3 HRF3 HRD HNG HRR HBX2 HKR HKP HH HAF HSZ HBB H
  go_wp2_with fail
  go_loopw [14] (fun iv wr => ∃ j : Nat, iv = .int .i64 j ∧ j ≤ bb.length ∧ ((bb.length = 0 ∧ wr = w4) ∨ ∃ g, ba = some ⟨g, 0, none⟩ ∧ RowB wr g bb.length ∧ Only (· = g) w4 wr ∧ g ∈ F ∧ g ∉ F')) (fun iv _ => bb.length - (intOf iv).toNat)
  case atStart =>
    refine ⟨0, rfl, Nat.zero_le _, ?_⟩
    rcases HB4.out with h0 | ⟨g, e, hrow, hgF, hgn⟩
    · exact .inl ⟨h0, rfl⟩
    · exact .inr ⟨g, e, hrow, Only.refl _ _, hgF, hgn⟩
  case round =>
    obtain ⟨j, rfl, hj, hti⟩ := hrel
    obtain ⟨wv, hwv⟩ : ∃ wv, wv = wr := ⟨_, rfl⟩
    subst hwv
    have hbl := HBL.out
    by_cases hc : j < bb.length
    · rcases hti with ⟨h0, -⟩ | ⟨g, rfl, hrow, hon, hgF, hgn⟩
      · omega
      · obtain ⟨x, hx⟩ := hrow.1 j hc
        have hfz := hrow.2 j
        have HROW := Lib.hid hrow
        have HON := Lib.hid hon
        clear hrow hon HB4 HFD0 HFD
        go_wp2
        go_roundw
        case rel => exact ⟨j + 1, by go_num, by omega, .inr ⟨g, rfl, HROW.out.set j _, HON.out.setCell _ _ (fun _ => rfl), hgF, hgn⟩⟩
        case measure => simp [intOf]; omega
    · have hdo : DoR w0 n r most F G (m + 1) (N + b.length) w2 wv := by
        rcases hti with ⟨-, rfl⟩ | ⟨g, -, -, hon, hgF, hgn⟩
        · exact HFD0.out
        · exact HFD.out _ g hgF hgn hon
      clear hti HB4 HFD0 HFD hbl
      have HDO := Lib.hid hdo
      have HTI := Lib.hid (HTS.out _ hdo)
      clear hdo
      go_wp2_with fail
      go_loopw [15] (fun iv wr => ∃ j : Nat, iv = .int .i64 j ∧ j ≤ b.length ∧ TailI oa b.length w1.heap.size w2.heap.size wv wr) (fun iv _ => b.length - (intOf iv).toNat)
      case atStart => exact ⟨0, rfl, Nat.zero_le _, HTI.out⟩
      case round =>
        obtain ⟨j, rfl, hj, hti⟩ := hrel
        obtain ⟨wz, hwz⟩ : ∃ wz, wz = wr := ⟨_, rfl⟩
        subst hwz
        by_cases hc : j < b.length
        · rcases hti with ⟨h0, -⟩ | ⟨g, rfl, hrow, hon, hg1, hg2⟩
          · omega
          · obtain ⟨x, hx⟩ := hrow.1 j hc
            have hfz := hrow.2 j
            have HROW := Lib.hid hrow
            have HON := Lib.hid hon
            clear hrow hon HTI HDO
            go_wp2
            go_roundw
            case rel => exact ⟨j + 1, by go_num, by omega, .inr ⟨g, rfl, HROW.out.set j _, HON.out.setCell _ _ (fun _ => rfl), hg1, hg2⟩⟩
            case measure => simp [intOf]; omega
        · have HX := Lib.hid (HTE.out _ _ HDO.out hti)
          clear hti
          go_wp2
          go_ret
          exact ⟨rfl, HX.out⟩
theorem do04_any {w0 w : World} {n r : Nat} {most d : Int} {L : List RC} {F : List Nat} {G : Nat → Prop} {m N : Nat} (h : NwF w0 n r most d L F G w) (hi : NInv most d L m N) (hm : m ≤ 1000) (kind id : Int) (host : ByteArray) (a : Option Addr) (c : Nat) (b : List UInt8) (hN : N + b.length ≤ 100000) (hr : Rd w0 a (bv b)) :
    Calls Try.prog 17 #[.pointer (some ⟨n, 0, none⟩), .pointer (some ⟨r, 0, none⟩), .agg #[.int .i64 kind, .int .i64 id, .string host, .slice a b.length c]] w fun e w' => e = .returned (.bool true) ∧ DoR w0 n r most F G (m + 1) (N + b.length) w w' := by
  by_cases hk1 : kind = 1
  · subst hk1
    exact do04_1 h hi hm id host a c b hN hr
  by_cases hk2 : kind = 2
  · subst hk2
    exact do04_2 h hi hm id host a c b hN hr
  by_cases hk3 : kind = 3
  · subst hk3
    exact do04_3 h hi hm id host a c b hN hr
  by_cases hk4 : kind = 4
  · subst hk4
    exact do04_4 h hi hm id host a c b hN hr
  by_cases hk5 : kind = 5
  · subst hk5
    exact do04_5 h hi hm id host a c b hN hr
  by_cases hk6 : kind = 6
  · subst hk6
    exact do04_6 h hi hm id host a c b hN hr
  by_cases hk7 : kind = 7
  · subst hk7
    exact do04_7 h hi hm id host a c b hN hr
  by_cases hk8 : kind = 8
  · subst hk8
    exact do04_8 h hi hm id host a c b hN hr
  by_cases hk9 : kind = 9
  · subst hk9
    exact do04_9 h hi hm id host a c b hN hr
  exact do04_0 h hi hm kind id host a c b hN hr hk1 hk2 hk3 hk4 hk5 hk6 hk7 hk8 hk9
end Go.Proofs.Ytepdnmpcccgcaaa
