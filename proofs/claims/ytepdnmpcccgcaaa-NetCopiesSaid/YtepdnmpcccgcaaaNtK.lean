/- The law's 'do': the walk, at Reset, Close, Arrive, Send, Dial. -/
import Derived.Test.YtepdnmpcccgcaaaNtJ
namespace Go.Proofs.Ytepdnmpcccgcaaa
open Go.RowKit K
theorem app_drop (s : ByteArray) (b : List UInt8) {p : Nat} (h : p ≤ s.size) : (s ++ ⟨b.toArray⟩).data.toList.drop p = s.data.toList.drop p ++ b := by
  rw [ByteArray.data_append, Array.toList_append]
  exact List.drop_append_of_le_length h
theorem app_list (s : ByteArray) (b : List UInt8) : (s ++ ⟨b.toArray⟩).data.toList = s.data.toList ++ b := by
  rw [ByteArray.data_append, Array.toList_append]
theorem app_size (s : ByteArray) (b : List UInt8) : (s ++ ⟨b.toArray⟩).size = s.size + b.length := by
  rw [ByteArray.size_append]
  rfl
set_option maxHeartbeats 4000000 in
set_option maxRecDepth 100000 in
theorem do04_4 {w0 w : World} {n r : Nat} {most d : Int} {L : List RC} {F : List Nat} {G : Nat → Prop} {m N : Nat} (h : NwF w0 n r most d L F G w) (hi : NInv most d L m N) (hm : m ≤ 1000) (id : Int) (host : ByteArray) (a : Option Addr) (c : Nat) (b : List UInt8) (hN : N + b.length ≤ 100000) (hr : Rd w0 a (bv b)) :
    Calls Try.prog 17 #[.pointer (some ⟨n, 0, none⟩), .pointer (some ⟨r, 0, none⟩), .agg #[.int .i64 4, .int .i64 id, .string host, .slice a b.length c]] w fun e w' => e = .returned (.bool true) ∧ DoR w0 n r most F G (m + 1) (N + b.length) w w' := by
  obtain ⟨i0, hii, hz0, hz1, hz2⟩ := info_parts info_byte
  obtain ⟨w1, hw1⟩ : ∃ w1, w1 = w.alloc (.cells #[.int .i64 4, .int .i64 id, .string host, .slice a b.length c] 41) := ⟨_, rfl⟩
  have hb1 : Below w.heap.size w w1 := by rw [hw1]; exact (Below.refl _ w).alloc (Nat.le_refl _) _
  have hs1 : w1.heap.size = w.heap.size + 1 := by rw [hw1]; simp
  have hbx : w1.heap[w.heap.size]? = some (.cells #[.int .i64 4, .int .i64 id, .string host, .slice a b.length c] 41 (0, 0)) := by rw [hw1]; exact heap_alloc_new w _
  have c0 : w1.cell? ⟨w.heap.size, 0, none⟩ = some (.int .i64 4) := by rw [cell_of_row _ _ _ _ _ _ hbx]; rfl
  have c3 : w1.cell? ⟨w.heap.size, 3, none⟩ = some (.slice a b.length c) := by rw [cell_of_row _ _ _ _ _ _ hbx]; rfl
  have HW1 := Lib.hid hw1
  have HB1 := Lib.hid hb1
  have HS1 := Lib.hid hs1
  have HBX := Lib.hid hbx
  have H := Lib.hid h
  have HI := Lib.hid hi
  have HR := Lib.hid (hr.below (h.2.2.2.trans (hb1.mono h.2.2.2.size)) (Nat.le_refl _))
  have HR0 := Lib.hid hr
  clear hw1 hb1 hbx h hi hr
  go_enter Try.func17, Try.ntmps17
  go_upto_region 1 with fail
  rw [← HW1.out]
  go_wp2_with (first
    | (at_builtin; refine step_append_any (.inl rfl) _ _ 22 rfl w1.heap.size 5 i0 (.int .u8 0) 1 1 Try.underlying22 hii hz0 hz1 hz2 rfl (by decide) (.slice none 0 0) 0 [] rfl (World.ownsRow_nil _ _ _ _) a b.length c (bv b) rfl (by simp [bv]) HR.out (bv_one b) (by unfold maxLen; omega) (by omega) (Nat.le_refl _) ?_)
    | fail)
  rintro v w2 ⟨o1, g1, -⟩
  have hb12 : Below w1.heap.size w1 w2 := (Below.refl _ _).grown g1 (Nat.le_refl _) (fun k e => by cases e)
  obtain ⟨oa, oc, rfl, -, -, -⟩ := own_cells o1
  have hbx2 := hb12.block w.heap.size (by omega)
  have O1 := Lib.hid o1
  have HB2 := Lib.hid (HB1.out.trans (hb12.mono HB1.out.size))
  have HB12 := Lib.hid hb12
  have HBX2 := Lib.hid (hbx2.trans HBX.out)
  have k0 : w2.cell? ⟨w.heap.size, 0, none⟩ = some (.int .i64 4) := by rw [cell_of_row _ _ _ _ _ _ HBX2.out]; rfl
  clear hb12 hbx2 o1 g1 c0 c3
  have HT0 := Lib.hid (show TailI oa b.length w1.heap.size w2.heap.size w2 w2 from by
    by_cases h0 : b.length = 0
    · exact .inl ⟨h0, rfl⟩
    · obtain ⟨g, c', e, hrow, hg1, hg2, -⟩ := RowB.of_own O1.out (by omega)
      cases e
      exact .inr ⟨g, rfl, hrow, Only.refl _ _, by omega, hg2⟩)
  have HS12 := Lib.hid (show w.heap.size ≤ w1.heap.size from by omega)
  have HTE := Lib.hid (fun (wx wr : World) (hd : DoR w0 n r most F G (m + 1) (N + b.length) w2 wx) (ht : TailI oa b.length w1.heap.size w2.heap.size wx wr) => tail_end H.out HS12.out rfl HB2.out hd ht)
  have HTS := Lib.hid (fun (wx : World) (hd : DoR w0 n r most F G (m + 1) (N + b.length) w2 wx) => tail_start H.out HS12.out rfl HT0.out hd)
  have HH := Lib.hid (H.out.new HB2.out)
  have HKR := Lib.hid (fun (W : World) (hd : DoR w0 n r most F G (m + 1) (N + b.length) w2 W) => (show W.heap[w.heap.size]? = some (.cells #[.int .i64 4, .int .i64 id, .string host, .slice a b.length c] 41 (0, 0)) from by
    obtain ⟨_, _, _, _, _, _, hon, _⟩ := hd
    exact hon.heap HBX2.out (fun hf => by have := (H.out.in hf).2; omega)))
  have HKP := Lib.hid (fun (W W1 : World) (d' : Int) (l' : List CV) (hW : W.heap[w.heap.size]? = some (.cells #[.int .i64 4, .int .i64 id, .string host, .slice a b.length c] 41 (0, 0))) (ht : NetTo W w0.heap.size n F most d' l' W1) => (show W1.heap[w.heap.size]? = some (.cells #[.int .i64 4, .int .i64 id, .string host, .slice a b.length c] 41 (0, 0)) from by
    obtain ⟨_, _, hon, _⟩ := ht
    exact hon.heap hW (fun hf => by have := (H.out.in (.inl hf)).2; omega)))
  have HLN := Lib.hid (show L.length ≤ 100000 from by have := HI.out.len2; omega)
  have hdn := HI.out.dn
  have hd0 := HI.out.d0
  clear HT0 HS12 HS1 hs1
  obtain ⟨e1, e2⟩ := reset_ok id L
  obtain ⟨cc, hcc⟩ : ∃ cc, cc = rmust id (rfrom id L) L := ⟨_, rfl⟩
  have HP := Lib.hid (fun W (hb : Below w2.heap.size w2 W) => (show Calls Try.prog 25 #[.pointer (some ⟨n, 0, none⟩), .int .i64 id] W fun e w' => e = .returned (.int .i64 cc) ∧ NetTo W w0.heap.size n F most d ((ract id (rfrom id L) (fun v : RC => { v with st := 5, pos := v.inn.size }) L).map RC.vw) w' from by
    have h := reset_any (HH.out.new hb).1 (HH.out.new hb).2.2.2.size id
    rw [e1, e2, ← hcc] at h
    exact h))
  have HRR := Lib.hid (fun W W1 (hb : Below w2.heap.size w2 W) (ht : NetTo W w0.heap.size n F most d ((ract id (rfrom id L) (fun v : RC => { v with st := 5, pos := v.inn.size }) L).map RC.vw) W1) => (show Calls Try.prog 36 #[.pointer (some ⟨r, 0, none⟩), .int .i64 id] W1 fun e w' => e = .returned (.int .i64 cc) ∧ DoR w0 n r most F G (m + 1) (N + b.length) w2 w' from by
    have hf := HH.out.new hb
    have hbel : Below w0.heap.size w0 W1 := by
      obtain ⟨F', b1, b2, b3⟩ := ht
      exact hf.2.2.2.trans (b2.below hf.2.2.2.size (fun k hk => (hf.in (.inl hk)).1))
    have hr1 : RfIs W1 w0.heap.size r most d L G := by
      obtain ⟨F', b1, b2, b3⟩ := ht
      exact hf.2.1.only b2 (fun k hk hff => hf.2.2.1 k hff hk)
    refine (rreset_any hr1 id (by have := HLN.out; omega) (fun v hv => by have := HI.out.sz v hv; omega)).mono ?_
    rintro e w' ⟨rfl, hto⟩
    exact ⟨by rw [hcc], do_two HH.out hb ht hto ((HI.out.act id (rfrom id L) (fun v : RC => { v with st := 5, pos := v.inn.size }) (fun _ => rfl) (Nat.le_refl N) (fun v hv => ⟨(HI.out.sz v hv).1, (HI.out.sz v hv).2.1, Nat.le_refl _⟩)).more (Nat.le_succ _) (Nat.le_add_right _ _))⟩))
  clear e1 e2 hcc
  have hbq : (cc == cc) = true := by simp
  clear H HI HR HR0 O1 HB1 HW1 HBX
  go_wp2_with fail
  refine wp_region_noPanic ?_
  refine wp_region_held_drew (S := (fun w' => w'.heap[w.heap.size]? = some (.cells #[.int .i64 4, .int .i64 id, .string host, .slice a b.length c] 41 (0, 0)))) (by kernel_rfl) ?_ (fun hHeld => ?_)
  · exact HBX2.out
  refine wpAnyH_take (i := 0) (oi := _) (v := ?_) rfl (by kernel_rfl) (by kernel_rfl) (by kernel_rfl) (fun _ _ _ h => h) (Or.inl ⟨by rfl, ?_⟩) (by assumption) ?_
  rotate_left 1
  · (intro w hSw; (try dsimp only at hSw); go_simp; (try with_reducible rfl))
  try simp only [Act.put, List.getElem_toArray, List.getElem_cons_zero, List.setIfInBounds_toArray, List.set_cons_zero, List.set_cons_succ]
  refine wpAnyH_take (i := 1) (oi := _) (v := ?_) rfl (by kernel_rfl) (by kernel_rfl) (by kernel_rfl) (fun _ _ _ h => h) (Or.inl ⟨by rfl, ?_⟩) (by assumption) ?_
  rotate_left 1
  · (intro w hSw; (try dsimp only at hSw); go_simp; (try with_reducible rfl))
  try simp only [Act.put, List.getElem_toArray, List.getElem_cons_succ, List.getElem_cons_zero, List.setIfInBounds_toArray, List.set_cons_zero, List.set_cons_succ]
  refine wpAnyH_take (i := 2) (oi := _) (v := ?_) rfl (by kernel_rfl) (by kernel_rfl) (by kernel_rfl) (fun _ _ _ h => h) (Or.inl ⟨by rfl, ?_⟩) (by assumption) ?_
  rotate_left 1
  · (intro w hSw; (try dsimp only at hSw); (have q := cell_of_row _ _ 1 _ _ _ hSw; go_simp); (try with_reducible rfl))
  try simp only [Act.put, List.getElem_toArray, List.getElem_cons_succ, List.getElem_cons_zero, List.setIfInBounds_toArray, List.set_cons_zero, List.set_cons_succ]
  refine wpAnyH_take (i := 4) (oi := _) (v := ?_) rfl (by kernel_rfl) (by kernel_rfl) (by kernel_rfl) (fun _ _ _ h => h) (Or.inl ⟨by rfl, ?_⟩) (by assumption) ?_
  rotate_left 1
  · (intro w hSw; (try dsimp only at hSw); go_simp; (try with_reducible rfl))
  try simp only [Act.put, List.getElem_toArray, List.getElem_cons_succ, List.getElem_cons_zero, List.setIfInBounds_toArray, List.set_cons_zero, List.set_cons_succ]
  refine wpAnyH_take (i := 5) (oi := _) (v := ?_) rfl (by kernel_rfl) (by kernel_rfl) (by kernel_rfl) (fun _ _ _ h => h) (Or.inl ⟨by rfl, ?_⟩) (by assumption) ?_
  rotate_left 1
  · (intro w hSw; (try dsimp only at hSw); go_simp; (try with_reducible rfl))
  try simp only [Act.put, List.getElem_toArray, List.getElem_cons_succ, List.getElem_cons_zero, List.setIfInBounds_toArray, List.set_cons_zero, List.set_cons_succ]
  refine wpAnyH_take (i := 6) (oi := _) (v := ?_) rfl (by kernel_rfl) (by kernel_rfl) (by kernel_rfl) (fun _ _ _ h => h) (Or.inl ⟨by rfl, ?_⟩) (by assumption) ?_
  rotate_left 1
  · (intro w hSw; (try dsimp only at hSw); (have q := cell_of_row _ _ 1 _ _ _ hSw; go_simp); (try with_reducible rfl))
  try simp only [Act.put, List.getElem_toArray, List.getElem_cons_succ, List.getElem_cons_zero, List.setIfInBounds_toArray, List.set_cons_zero, List.set_cons_succ]
  refine wpAnyH_ready (rs := [3]) (by kernel_rfl) (by simp) ?_
  refine AllReadyH.cons (o := _) rfl (fun K hK => ?_) AllReadyH.nil
  go_simp
  refine (HP.out _ (drew_below _)).mono ?_
  rintro e w3 ⟨rfl, ht3⟩
  have HT3 := Lib.hid ht3
  have HK3 := Lib.hid (HKP.out _ _ _ _ hHeld ht3)
  clear ht3
  go_wp2_with fail
  refine hK.out _ _ ?_ (fun hHeld3 => ?_)
  · exact HK3.out
  clear hK K
  try simp only [Act.put, List.getElem_toArray, List.getElem_cons_succ, List.getElem_cons_zero, List.setIfInBounds_toArray, List.set_cons_zero, List.set_cons_succ]
  refine wpAnyH_ready (rs := [7]) (by kernel_rfl) (by simp) ?_
  refine AllReadyH.cons (o := _) rfl (fun K hK => ?_) AllReadyH.nil
  go_simp
  refine (HRR.out _ _ (drew_below _) HT3.out).mono ?_
  rintro e w4 ⟨rfl, hdo⟩
  have HD4 := Lib.hid hdo
  have HK4 := Lib.hid (HKR.out _ hdo)
  clear hdo
  go_wp2_with fail
  refine hK.out _ _ ?_ (fun hHeld7 => ?_)
  · exact HK4.out
  clear hK K
  try simp only [Act.put, List.getElem_toArray, List.getElem_cons_succ, List.getElem_cons_zero, List.setIfInBounds_toArray, List.set_cons_zero, List.set_cons_succ]
  refine wpAnyH_take (i := 8) (oi := _) (v := ?_) rfl (by kernel_rfl) (by kernel_rfl) (by kernel_rfl) (fun _ _ _ h => h) (Or.inl ⟨by rfl, ?_⟩) (by assumption) ?_
  rotate_left 1
  · (intro w hSw; (try dsimp only at hSw); go_simp; (try with_reducible rfl))
  try simp only [Act.put, List.getElem_toArray, List.getElem_cons_succ, List.getElem_cons_zero, List.setIfInBounds_toArray, List.set_cons_zero, List.set_cons_succ]
  refine wpAnyH_take (i := 9) (oi := _) (v := ?_) rfl (by kernel_rfl) (by kernel_rfl) (by kernel_rfl) (fun _ _ _ h => h) (Or.inl ⟨by rfl, ?_⟩) (by assumption) ?_
  rotate_left 1
  · (intro w hSw; (try dsimp only at hSw); go_simp; (try with_reducible rfl))
  try simp only [Act.put, List.getElem_toArray, List.getElem_cons_succ, List.getElem_cons_zero, List.setIfInBounds_toArray, List.set_cons_zero, List.set_cons_succ]
  refine wpAnyH_done (by kernel_rfl) ?_ _
  refine NoPanic.normal ?_
  have hdo := HD4.out
  clear HD4 HK3 HK4 HT3 HP HRR HBX2 HKR HKP HH
  have HDO := Lib.hid hdo
  have HTI := Lib.hid (HTS.out _ hdo)
  clear hdo
  go_wp2_with fail
  go_loopw [15] (fun iv wr => ∃ j : Nat, iv = .int .i64 j ∧ j ≤ b.length ∧ TailI oa b.length w1.heap.size w2.heap.size w4 wr) (fun iv _ => b.length - (intOf iv).toNat)
  case atStart => exact ⟨0, rfl, Nat.zero_le _, HTI.out⟩
  case round =>
    obtain ⟨j, rfl, hj, hti⟩ := hrel
    obtain ⟨wz, hwz⟩ : ∃ wz, wz = wr := ⟨_, rfl⟩
    subst hwz
    by_cases hc : j < b.length
    · rcases hti with ⟨h0, -⟩ | ⟨g, rfl, hrow, hon, hg1, hg2⟩
      · omega
      · obtain ⟨x, hx⟩ := hrow.1 j hc
        have hfz := hrow.2 j
        have HROW := Lib.hid hrow
        have HON := Lib.hid hon
        clear hrow hon HTI HDO
        go_wp2
        go_roundw
        case rel => exact ⟨j + 1, by go_num, by omega, .inr ⟨g, rfl, HROW.out.set j _, HON.out.setCell _ _ (fun _ => rfl), hg1, hg2⟩⟩
        case measure => simp [intOf]; omega
    · have HX := Lib.hid (HTE.out _ _ HDO.out hti)
      clear hti
      go_wp2
      go_ret
      exact ⟨rfl, HX.out⟩
set_option maxHeartbeats 4000000 in
set_option maxRecDepth 100000 in
theorem do04_9 {w0 w : World} {n r : Nat} {most d : Int} {L : List RC} {F : List Nat} {G : Nat → Prop} {m N : Nat} (h : NwF w0 n r most d L F G w) (hi : NInv most d L m N) (hm : m ≤ 1000) (id : Int) (host : ByteArray) (a : Option Addr) (c : Nat) (b : List UInt8) (hN : N + b.length ≤ 100000) (hr : Rd w0 a (bv b)) :
    Calls Try.prog 17 #[.pointer (some ⟨n, 0, none⟩), .pointer (some ⟨r, 0, none⟩), .agg #[.int .i64 9, .int .i64 id, .string host, .slice a b.length c]] w fun e w' => e = .returned (.bool true) ∧ DoR w0 n r most F G (m + 1) (N + b.length) w w' := by
  obtain ⟨i0, hii, hz0, hz1, hz2⟩ := info_parts info_byte
  obtain ⟨w1, hw1⟩ : ∃ w1, w1 = w.alloc (.cells #[.int .i64 9, .int .i64 id, .string host, .slice a b.length c] 41) := ⟨_, rfl⟩
  have hb1 : Below w.heap.size w w1 := by rw [hw1]; exact (Below.refl _ w).alloc (Nat.le_refl _) _
  have hs1 : w1.heap.size = w.heap.size + 1 := by rw [hw1]; simp
  have hbx : w1.heap[w.heap.size]? = some (.cells #[.int .i64 9, .int .i64 id, .string host, .slice a b.length c] 41 (0, 0)) := by rw [hw1]; exact heap_alloc_new w _
  have c0 : w1.cell? ⟨w.heap.size, 0, none⟩ = some (.int .i64 9) := by rw [cell_of_row _ _ _ _ _ _ hbx]; rfl
  have c3 : w1.cell? ⟨w.heap.size, 3, none⟩ = some (.slice a b.length c) := by rw [cell_of_row _ _ _ _ _ _ hbx]; rfl
  have HW1 := Lib.hid hw1
  have HB1 := Lib.hid hb1
  have HS1 := Lib.hid hs1
  have HBX := Lib.hid hbx
  have H := Lib.hid h
  have HI := Lib.hid hi
  have HR := Lib.hid (hr.below (h.2.2.2.trans (hb1.mono h.2.2.2.size)) (Nat.le_refl _))
  have HR0 := Lib.hid hr
  clear hw1 hb1 hbx h hi hr
  go_enter Try.func17, Try.ntmps17
  go_upto_region 1 with fail
  rw [← HW1.out]
  go_wp2_with (first
    | (at_builtin; refine step_append_any (.inl rfl) _ _ 22 rfl w1.heap.size 5 i0 (.int .u8 0) 1 1 Try.underlying22 hii hz0 hz1 hz2 rfl (by decide) (.slice none 0 0) 0 [] rfl (World.ownsRow_nil _ _ _ _) a b.length c (bv b) rfl (by simp [bv]) HR.out (bv_one b) (by unfold maxLen; omega) (by omega) (Nat.le_refl _) ?_)
    | fail)
  rintro v w2 ⟨o1, g1, -⟩
  have hb12 : Below w1.heap.size w1 w2 := (Below.refl _ _).grown g1 (Nat.le_refl _) (fun k e => by cases e)
  obtain ⟨oa, oc, rfl, -, -, -⟩ := own_cells o1
  have hbx2 := hb12.block w.heap.size (by omega)
  have O1 := Lib.hid o1
  have HB2 := Lib.hid (HB1.out.trans (hb12.mono HB1.out.size))
  have HB12 := Lib.hid hb12
  have HBX2 := Lib.hid (hbx2.trans HBX.out)
  have k0 : w2.cell? ⟨w.heap.size, 0, none⟩ = some (.int .i64 9) := by rw [cell_of_row _ _ _ _ _ _ HBX2.out]; rfl
  clear hb12 hbx2 o1 g1 c0 c3
  have HT0 := Lib.hid (show TailI oa b.length w1.heap.size w2.heap.size w2 w2 from by
    by_cases h0 : b.length = 0
    · exact .inl ⟨h0, rfl⟩
    · obtain ⟨g, c', e, hrow, hg1, hg2, -⟩ := RowB.of_own O1.out (by omega)
      cases e
      exact .inr ⟨g, rfl, hrow, Only.refl _ _, by omega, hg2⟩)
  have HS12 := Lib.hid (show w.heap.size ≤ w1.heap.size from by omega)
  have HTE := Lib.hid (fun (wx wr : World) (hd : DoR w0 n r most F G (m + 1) (N + b.length) w2 wx) (ht : TailI oa b.length w1.heap.size w2.heap.size wx wr) => tail_end H.out HS12.out rfl HB2.out hd ht)
  have HTS := Lib.hid (fun (wx : World) (hd : DoR w0 n r most F G (m + 1) (N + b.length) w2 wx) => tail_start H.out HS12.out rfl HT0.out hd)
  have HH := Lib.hid (H.out.new HB2.out)
  have HKR := Lib.hid (fun (W : World) (hd : DoR w0 n r most F G (m + 1) (N + b.length) w2 W) => (show W.heap[w.heap.size]? = some (.cells #[.int .i64 9, .int .i64 id, .string host, .slice a b.length c] 41 (0, 0)) from by
    obtain ⟨_, _, _, _, _, _, hon, _⟩ := hd
    exact hon.heap HBX2.out (fun hf => by have := (H.out.in hf).2; omega)))
  have HKP := Lib.hid (fun (W W1 : World) (d' : Int) (l' : List CV) (hW : W.heap[w.heap.size]? = some (.cells #[.int .i64 9, .int .i64 id, .string host, .slice a b.length c] 41 (0, 0))) (ht : NetTo W w0.heap.size n F most d' l' W1) => (show W1.heap[w.heap.size]? = some (.cells #[.int .i64 9, .int .i64 id, .string host, .slice a b.length c] 41 (0, 0)) from by
    obtain ⟨_, _, hon, _⟩ := ht
    exact hon.heap hW (fun hf => by have := (H.out.in (.inl hf)).2; omega)))
  have HLN := Lib.hid (show L.length ≤ 100000 from by have := HI.out.len2; omega)
  have hdn := HI.out.dn
  have hd0 := HI.out.d0
  clear HT0 HS12 HS1 hs1
  have e1 := close_ok id L
  have e2 := vdel_rc id L
  obtain ⟨cc, hcc⟩ : ∃ cc : Int, cc = (if (rfind id L).isSome then 0 else 8) := ⟨_, rfl⟩
  have HP := Lib.hid (fun W (hb : Below w2.heap.size w2 W) => (show Calls Try.prog 27 #[.pointer (some ⟨n, 0, none⟩), .int .i64 id] W fun e w' => e = .returned (.int .i64 cc) ∧ NetTo W w0.heap.size n F most d ((rdel id L).map RC.vw) w' from by
    have h := close_any (HH.out.new hb).1 id
    rw [e1, e2, ← hcc] at h
    exact h))
  have HRR := Lib.hid (fun W W1 (hb : Below w2.heap.size w2 W) (ht : NetTo W w0.heap.size n F most d ((rdel id L).map RC.vw) W1) => (show Calls Try.prog 41 #[.pointer (some ⟨r, 0, none⟩), .int .i64 id] W1 fun e w' => e = .returned (.int .i64 cc) ∧ DoR w0 n r most F G (m + 1) (N + b.length) w2 w' from by
    have hf := HH.out.new hb
    have hbel : Below w0.heap.size w0 W1 := by
      obtain ⟨F', b1, b2, b3⟩ := ht
      exact hf.2.2.2.trans (b2.below hf.2.2.2.size (fun k hk => (hf.in (.inl hk)).1))
    have hr1 : RfIs W1 w0.heap.size r most d L G := by
      obtain ⟨F', b1, b2, b3⟩ := ht
      exact hf.2.1.only b2 (fun k hk hff => hf.2.2.1 k hff hk)
    refine (rclose_any hr1 hbel.size id HLN.out).mono ?_
    rintro e w' ⟨rfl, hto⟩
    exact ⟨by rw [hcc], do_two HH.out hb ht hto ((HI.out.del id).more (Nat.le_succ _) (Nat.le_add_right _ _))⟩))
  clear e1 e2 hcc
  have hbq : (cc == cc) = true := by simp
  clear H HI HR HR0 O1 HB1 HW1 HBX
  go_wp2_with fail
  refine wp_region_noPanic ?_
  refine wp_region_held_drew (S := (fun w' => w'.heap[w.heap.size]? = some (.cells #[.int .i64 9, .int .i64 id, .string host, .slice a b.length c] 41 (0, 0)))) (by kernel_rfl) ?_ (fun hHeld => ?_)
  · exact HBX2.out
  refine wpAnyH_take (i := 0) (oi := _) (v := ?_) rfl (by kernel_rfl) (by kernel_rfl) (by kernel_rfl) (fun _ _ _ h => h) (Or.inl ⟨by rfl, ?_⟩) (by assumption) ?_
  rotate_left 1
  · (intro w hSw; (try dsimp only at hSw); go_simp; (try with_reducible rfl))
  try simp only [Act.put, List.getElem_toArray, List.getElem_cons_zero, List.setIfInBounds_toArray, List.set_cons_zero, List.set_cons_succ]
  refine wpAnyH_take (i := 1) (oi := _) (v := ?_) rfl (by kernel_rfl) (by kernel_rfl) (by kernel_rfl) (fun _ _ _ h => h) (Or.inl ⟨by rfl, ?_⟩) (by assumption) ?_
  rotate_left 1
  · (intro w hSw; (try dsimp only at hSw); go_simp; (try with_reducible rfl))
  try simp only [Act.put, List.getElem_toArray, List.getElem_cons_succ, List.getElem_cons_zero, List.setIfInBounds_toArray, List.set_cons_zero, List.set_cons_succ]
  refine wpAnyH_take (i := 2) (oi := _) (v := ?_) rfl (by kernel_rfl) (by kernel_rfl) (by kernel_rfl) (fun _ _ _ h => h) (Or.inl ⟨by rfl, ?_⟩) (by assumption) ?_
  rotate_left 1
  · (intro w hSw; (try dsimp only at hSw); (have q := cell_of_row _ _ 1 _ _ _ hSw; go_simp); (try with_reducible rfl))
  try simp only [Act.put, List.getElem_toArray, List.getElem_cons_succ, List.getElem_cons_zero, List.setIfInBounds_toArray, List.set_cons_zero, List.set_cons_succ]
  refine wpAnyH_take (i := 4) (oi := _) (v := ?_) rfl (by kernel_rfl) (by kernel_rfl) (by kernel_rfl) (fun _ _ _ h => h) (Or.inl ⟨by rfl, ?_⟩) (by assumption) ?_
  rotate_left 1
  · (intro w hSw; (try dsimp only at hSw); go_simp; (try with_reducible rfl))
  try simp only [Act.put, List.getElem_toArray, List.getElem_cons_succ, List.getElem_cons_zero, List.setIfInBounds_toArray, List.set_cons_zero, List.set_cons_succ]
  refine wpAnyH_take (i := 5) (oi := _) (v := ?_) rfl (by kernel_rfl) (by kernel_rfl) (by kernel_rfl) (fun _ _ _ h => h) (Or.inl ⟨by rfl, ?_⟩) (by assumption) ?_
  rotate_left 1
  · (intro w hSw; (try dsimp only at hSw); go_simp; (try with_reducible rfl))
  try simp only [Act.put, List.getElem_toArray, List.getElem_cons_succ, List.getElem_cons_zero, List.setIfInBounds_toArray, List.set_cons_zero, List.set_cons_succ]
  refine wpAnyH_take (i := 6) (oi := _) (v := ?_) rfl (by kernel_rfl) (by kernel_rfl) (by kernel_rfl) (fun _ _ _ h => h) (Or.inl ⟨by rfl, ?_⟩) (by assumption) ?_
  rotate_left 1
  · (intro w hSw; (try dsimp only at hSw); (have q := cell_of_row _ _ 1 _ _ _ hSw; go_simp); (try with_reducible rfl))
  try simp only [Act.put, List.getElem_toArray, List.getElem_cons_succ, List.getElem_cons_zero, List.setIfInBounds_toArray, List.set_cons_zero, List.set_cons_succ]
  refine wpAnyH_ready (rs := [3]) (by kernel_rfl) (by simp) ?_
  refine AllReadyH.cons (o := _) rfl (fun K hK => ?_) AllReadyH.nil
  go_simp
  refine (HP.out _ (drew_below _)).mono ?_
  rintro e w3 ⟨rfl, ht3⟩
  have HT3 := Lib.hid ht3
  have HK3 := Lib.hid (HKP.out _ _ _ _ hHeld ht3)
  clear ht3
  go_wp2_with fail
  refine hK.out _ _ ?_ (fun hHeld3 => ?_)
  · exact HK3.out
  clear hK K
  try simp only [Act.put, List.getElem_toArray, List.getElem_cons_succ, List.getElem_cons_zero, List.setIfInBounds_toArray, List.set_cons_zero, List.set_cons_succ]
  refine wpAnyH_ready (rs := [7]) (by kernel_rfl) (by simp) ?_
  refine AllReadyH.cons (o := _) rfl (fun K hK => ?_) AllReadyH.nil
  go_simp
  refine (HRR.out _ _ (drew_below _) HT3.out).mono ?_
  rintro e w4 ⟨rfl, hdo⟩
  have HD4 := Lib.hid hdo
  have HK4 := Lib.hid (HKR.out _ hdo)
  clear hdo
  go_wp2_with fail
  refine hK.out _ _ ?_ (fun hHeld7 => ?_)
  · exact HK4.out
  clear hK K
  try simp only [Act.put, List.getElem_toArray, List.getElem_cons_succ, List.getElem_cons_zero, List.setIfInBounds_toArray, List.set_cons_zero, List.set_cons_succ]
  refine wpAnyH_take (i := 8) (oi := _) (v := ?_) rfl (by kernel_rfl) (by kernel_rfl) (by kernel_rfl) (fun _ _ _ h => h) (Or.inl ⟨by rfl, ?_⟩) (by assumption) ?_
  rotate_left 1
  · (intro w hSw; (try dsimp only at hSw); go_simp; (try with_reducible rfl))
  try simp only [Act.put, List.getElem_toArray, List.getElem_cons_succ, List.getElem_cons_zero, List.setIfInBounds_toArray, List.set_cons_zero, List.set_cons_succ]
  refine wpAnyH_take (i := 9) (oi := _) (v := ?_) rfl (by kernel_rfl) (by kernel_rfl) (by kernel_rfl) (fun _ _ _ h => h) (Or.inl ⟨by rfl, ?_⟩) (by assumption) ?_
  rotate_left 1
  · (intro w hSw; (try dsimp only at hSw); go_simp; (try with_reducible rfl))
  try simp only [Act.put, List.getElem_toArray, List.getElem_cons_succ, List.getElem_cons_zero, List.setIfInBounds_toArray, List.set_cons_zero, List.set_cons_succ]
  refine wpAnyH_done (by kernel_rfl) ?_ _
  refine NoPanic.normal ?_
  have hdo := HD4.out
  clear HD4 HK3 HK4 HT3 HP HRR HBX2 HKR HKP HH
  have HDO := Lib.hid hdo
  have HTI := Lib.hid (HTS.out _ hdo)
  clear hdo
  go_wp2_with fail
  go_loopw [15] (fun iv wr => ∃ j : Nat, iv = .int .i64 j ∧ j ≤ b.length ∧ TailI oa b.length w1.heap.size w2.heap.size w4 wr) (fun iv _ => b.length - (intOf iv).toNat)
  case atStart => exact ⟨0, rfl, Nat.zero_le _, HTI.out⟩
  case round =>
    obtain ⟨j, rfl, hj, hti⟩ := hrel
    obtain ⟨wz, hwz⟩ : ∃ wz, wz = wr := ⟨_, rfl⟩
    subst hwz
    by_cases hc : j < b.length
    · rcases hti with ⟨h0, -⟩ | ⟨g, rfl, hrow, hon, hg1, hg2⟩
      · omega
      · obtain ⟨x, hx⟩ := hrow.1 j hc
        have hfz := hrow.2 j
        have HROW := Lib.hid hrow
        have HON := Lib.hid hon
        clear hrow hon HTI HDO
        go_wp2
        go_roundw
        case rel => exact ⟨j + 1, by go_num, by omega, .inr ⟨g, rfl, HROW.out.set j _, HON.out.setCell _ _ (fun _ => rfl), hg1, hg2⟩⟩
        case measure => simp [intOf]; omega
    · have HX := Lib.hid (HTE.out _ _ HDO.out hti)
      clear hti
      go_wp2
      go_ret
      exact ⟨rfl, HX.out⟩
set_option maxHeartbeats 4000000 in
set_option maxRecDepth 100000 in
theorem do04_6 {w0 w : World} {n r : Nat} {most d : Int} {L : List RC} {F : List Nat} {G : Nat → Prop} {m N : Nat} (h : NwF w0 n r most d L F G w) (hi : NInv most d L m N) (hm : m ≤ 1000) (id : Int) (host : ByteArray) (a : Option Addr) (c : Nat) (b : List UInt8) (hN : N + b.length ≤ 100000) (hr : Rd w0 a (bv b)) :
    Calls Try.prog 17 #[.pointer (some ⟨n, 0, none⟩), .pointer (some ⟨r, 0, none⟩), .agg #[.int .i64 6, .int .i64 id, .string host, .slice a b.length c]] w fun e w' => e = .returned (.bool true) ∧ DoR w0 n r most F G (m + 1) (N + b.length) w w' := by
  obtain ⟨i0, hii, hz0, hz1, hz2⟩ := info_parts info_byte
  obtain ⟨w1, hw1⟩ : ∃ w1, w1 = w.alloc (.cells #[.int .i64 6, .int .i64 id, .string host, .slice a b.length c] 41) := ⟨_, rfl⟩
  have hb1 : Below w.heap.size w w1 := by rw [hw1]; exact (Below.refl _ w).alloc (Nat.le_refl _) _
  have hs1 : w1.heap.size = w.heap.size + 1 := by rw [hw1]; simp
  have hbx : w1.heap[w.heap.size]? = some (.cells #[.int .i64 6, .int .i64 id, .string host, .slice a b.length c] 41 (0, 0)) := by rw [hw1]; exact heap_alloc_new w _
  have c0 : w1.cell? ⟨w.heap.size, 0, none⟩ = some (.int .i64 6) := by rw [cell_of_row _ _ _ _ _ _ hbx]; rfl
  have c3 : w1.cell? ⟨w.heap.size, 3, none⟩ = some (.slice a b.length c) := by rw [cell_of_row _ _ _ _ _ _ hbx]; rfl
  have HW1 := Lib.hid hw1
  have HB1 := Lib.hid hb1
  have HS1 := Lib.hid hs1
  have HBX := Lib.hid hbx
  have H := Lib.hid h
  have HI := Lib.hid hi
  have HR := Lib.hid (hr.below (h.2.2.2.trans (hb1.mono h.2.2.2.size)) (Nat.le_refl _))
  have HR0 := Lib.hid hr
  clear hw1 hb1 hbx h hi hr
  go_enter Try.func17, Try.ntmps17
  go_upto_region 1 with fail
  rw [← HW1.out]
  go_wp2_with (first
    | (at_builtin; refine step_append_any (.inl rfl) _ _ 22 rfl w1.heap.size 5 i0 (.int .u8 0) 1 1 Try.underlying22 hii hz0 hz1 hz2 rfl (by decide) (.slice none 0 0) 0 [] rfl (World.ownsRow_nil _ _ _ _) a b.length c (bv b) rfl (by simp [bv]) HR.out (bv_one b) (by unfold maxLen; omega) (by omega) (Nat.le_refl _) ?_)
    | fail)
  rintro v w2 ⟨o1, g1, -⟩
  have hb12 : Below w1.heap.size w1 w2 := (Below.refl _ _).grown g1 (Nat.le_refl _) (fun k e => by cases e)
  obtain ⟨oa, oc, rfl, -, -, -⟩ := own_cells o1
  have hbx2 := hb12.block w.heap.size (by omega)
  have O1 := Lib.hid o1
  have HB2 := Lib.hid (HB1.out.trans (hb12.mono HB1.out.size))
  have HB12 := Lib.hid hb12
  have HBX2 := Lib.hid (hbx2.trans HBX.out)
  have k0 : w2.cell? ⟨w.heap.size, 0, none⟩ = some (.int .i64 6) := by rw [cell_of_row _ _ _ _ _ _ HBX2.out]; rfl
  clear hb12 hbx2 o1 g1 c0 c3
  have HT0 := Lib.hid (show TailI oa b.length w1.heap.size w2.heap.size w2 w2 from by
    by_cases h0 : b.length = 0
    · exact .inl ⟨h0, rfl⟩
    · obtain ⟨g, c', e, hrow, hg1, hg2, -⟩ := RowB.of_own O1.out (by omega)
      cases e
      exact .inr ⟨g, rfl, hrow, Only.refl _ _, by omega, hg2⟩)
  have HS12 := Lib.hid (show w.heap.size ≤ w1.heap.size from by omega)
  have HTE := Lib.hid (fun (wx wr : World) (hd : DoR w0 n r most F G (m + 1) (N + b.length) w2 wx) (ht : TailI oa b.length w1.heap.size w2.heap.size wx wr) => tail_end H.out HS12.out rfl HB2.out hd ht)
  have HTS := Lib.hid (fun (wx : World) (hd : DoR w0 n r most F G (m + 1) (N + b.length) w2 wx) => tail_start H.out HS12.out rfl HT0.out hd)
  have HH := Lib.hid (H.out.new HB2.out)
  have HKR := Lib.hid (fun (W : World) (hd : DoR w0 n r most F G (m + 1) (N + b.length) w2 W) => (show W.heap[w.heap.size]? = some (.cells #[.int .i64 6, .int .i64 id, .string host, .slice a b.length c] 41 (0, 0)) from by
    obtain ⟨_, _, _, _, _, _, hon, _⟩ := hd
    exact hon.heap HBX2.out (fun hf => by have := (H.out.in hf).2; omega)))
  have HKP := Lib.hid (fun (W W1 : World) (d' : Int) (l' : List CV) (hW : W.heap[w.heap.size]? = some (.cells #[.int .i64 6, .int .i64 id, .string host, .slice a b.length c] 41 (0, 0))) (ht : NetTo W w0.heap.size n F most d' l' W1) => (show W1.heap[w.heap.size]? = some (.cells #[.int .i64 6, .int .i64 id, .string host, .slice a b.length c] 41 (0, 0)) from by
    obtain ⟨_, _, hon, _⟩ := ht
    exact hon.heap hW (fun hf => by have := (H.out.in (.inl hf)).2; omega)))
  have HLN := Lib.hid (show L.length ≤ 100000 from by have := HI.out.len2; omega)
  have hdn := HI.out.dn
  have hd0 := HI.out.d0
  clear HT0 HS12 HS1 hs1
  obtain ⟨e1, e2⟩ := act_ok (x := id) (st := 2) (f := fun v => { v with inn := v.inn ++ b }) (g := (fun v : RC => { v with inn := v.inn ++ ⟨b.toArray⟩ })) (L := L) (fun v hv => by unfold RC.vw; simp only [CV.mk.injEq, true_and, and_true]; exact app_drop v.inn b (HI.out.sz v hv).2.2)
  obtain ⟨cc, hcc⟩ : ∃ cc, cc = rmust id 2 L := ⟨_, rfl⟩
  have HRO := Lib.hid (show Rd w2 oa (bv b) from by
    obtain ⟨a', c', e, -, hr, -⟩ := own_cells O1.out
    cases e
    exact hr)
  have HP := Lib.hid (fun W (hb : Below w2.heap.size w2 W) => (show Calls Try.prog 11 #[.pointer (some ⟨n, 0, none⟩), .int .i64 id, .slice oa b.length oc] W fun e w' => e = .returned (.int .i64 cc) ∧ NetTo W w0.heap.size n F most d ((ract id 2 (fun v : RC => { v with inn := v.inn ++ ⟨b.toArray⟩ }) L).map RC.vw) w' from by
    have h := arrive_any (HH.out.new hb).1 (HH.out.new hb).2.2.2.size id oa oc b (HRO.out.below hb (Nat.le_refl _)) (fun u hu => by obtain ⟨v, hv, rfl⟩ := List.mem_map.1 hu; have h9 := HI.out.sz v hv; show (v.inn.data.toList.drop v.pos).length + b.length ≤ _; have : (v.inn.data.toList.drop v.pos).length ≤ v.inn.size := (by rw [List.length_drop]; have e9 : v.inn.data.toList.length = v.inn.size := rfl; omega); omega)
    rw [e1, e2, ← hcc] at h
    exact h))
  have HRR := Lib.hid (fun W W1 (hb : Below w2.heap.size w2 W) (ht : NetTo W w0.heap.size n F most d ((ract id 2 (fun v : RC => { v with inn := v.inn ++ ⟨b.toArray⟩ }) L).map RC.vw) W1) => (show Calls Try.prog 38 #[.pointer (some ⟨r, 0, none⟩), .int .i64 id, .slice a b.length c] W1 fun e w' => e = .returned (.int .i64 cc) ∧ DoR w0 n r most F G (m + 1) (N + b.length) w2 w' from by
    have hf := HH.out.new hb
    have hbel : Below w0.heap.size w0 W1 := by
      obtain ⟨F', b1, b2, b3⟩ := ht
      exact hf.2.2.2.trans (b2.below hf.2.2.2.size (fun k hk => (hf.in (.inl hk)).1))
    have hr1 : RfIs W1 w0.heap.size r most d L G := by
      obtain ⟨F', b1, b2, b3⟩ := ht
      exact hf.2.1.only b2 (fun k hk hff => hf.2.2.1 k hff hk)
    refine (rarrive_any hr1 id (by have := HLN.out; omega) a c b (HR0.out.below hbel (Nat.le_refl _)) (fun v hv => by have := HI.out.sz v hv; omega) (fun ad e hne hg => by have h8 := (hf.2.1.in _ hg).1; obtain ⟨x, t, hxt⟩ : ∃ x t, b = x :: t := (by cases b with | nil => exact absurd rfl hne | cons x t => exact ⟨x, t, rfl⟩); obtain ⟨b7, off7, e7, hb7, -⟩ := HR0.out.at (k := 0) (v := .int .u8 x.toNat) (by rw [hxt]; rfl); rw [e] at e7; cases e7; simp only at h8; omega)).mono ?_
    rintro e w' ⟨rfl, hto⟩
    exact ⟨by rw [hcc], do_two HH.out hb ht hto ((HI.out.act id 2 (fun v : RC => { v with inn := v.inn ++ ⟨b.toArray⟩ }) (fun _ => rfl) (Nat.le_add_right N b.length) (fun v hv => by have h9 := HI.out.sz v hv; simp only [app_size]; omega)).more (Nat.le_succ _) (Nat.le_refl _))⟩))
  clear e1 e2 hcc
  have hbq : (cc == cc) = true := by simp
  clear H HI HR HR0 O1 HB1 HW1 HBX HRO
  go_wp2_with fail
  refine wp_region_noPanic ?_
  refine wp_region_held_drew (S := (fun w' => w'.heap[w.heap.size]? = some (.cells #[.int .i64 6, .int .i64 id, .string host, .slice a b.length c] 41 (0, 0)))) (by kernel_rfl) ?_ (fun hHeld => ?_)
  · exact HBX2.out
  refine wpAnyH_take (i := 0) (oi := _) (v := ?_) rfl (by kernel_rfl) (by kernel_rfl) (by kernel_rfl) (fun _ _ _ h => h) (Or.inl ⟨by rfl, ?_⟩) (by assumption) ?_
  rotate_left 1
  · (intro w hSw; (try dsimp only at hSw); go_simp; (try with_reducible rfl))
  try simp only [Act.put, List.getElem_toArray, List.getElem_cons_zero, List.setIfInBounds_toArray, List.set_cons_zero, List.set_cons_succ]
  refine wpAnyH_take (i := 1) (oi := _) (v := ?_) rfl (by kernel_rfl) (by kernel_rfl) (by kernel_rfl) (fun _ _ _ h => h) (Or.inl ⟨by rfl, ?_⟩) (by assumption) ?_
  rotate_left 1
  · (intro w hSw; (try dsimp only at hSw); go_simp; (try with_reducible rfl))
  try simp only [Act.put, List.getElem_toArray, List.getElem_cons_succ, List.getElem_cons_zero, List.setIfInBounds_toArray, List.set_cons_zero, List.set_cons_succ]
  refine wpAnyH_take (i := 2) (oi := _) (v := ?_) rfl (by kernel_rfl) (by kernel_rfl) (by kernel_rfl) (fun _ _ _ h => h) (Or.inl ⟨by rfl, ?_⟩) (by assumption) ?_
  rotate_left 1
  · (intro w hSw; (try dsimp only at hSw); (have q := cell_of_row _ _ 1 _ _ _ hSw; go_simp); (try with_reducible rfl))
  try simp only [Act.put, List.getElem_toArray, List.getElem_cons_succ, List.getElem_cons_zero, List.setIfInBounds_toArray, List.set_cons_zero, List.set_cons_succ]
  refine wpAnyH_take (i := 3) (oi := _) (v := ?_) rfl (by kernel_rfl) (by kernel_rfl) (by kernel_rfl) (fun _ _ _ h => h) (Or.inl ⟨by rfl, ?_⟩) (by assumption) ?_
  rotate_left 1
  · (intro w hSw; (try dsimp only at hSw); go_simp; (try with_reducible rfl))
  try simp only [Act.put, List.getElem_toArray, List.getElem_cons_succ, List.getElem_cons_zero, List.setIfInBounds_toArray, List.set_cons_zero, List.set_cons_succ]
  refine wpAnyH_take (i := 5) (oi := _) (v := ?_) rfl (by kernel_rfl) (by kernel_rfl) (by kernel_rfl) (fun _ _ _ h => h) (Or.inl ⟨by rfl, ?_⟩) (by assumption) ?_
  rotate_left 1
  · (intro w hSw; (try dsimp only at hSw); go_simp; (try with_reducible rfl))
  try simp only [Act.put, List.getElem_toArray, List.getElem_cons_succ, List.getElem_cons_zero, List.setIfInBounds_toArray, List.set_cons_zero, List.set_cons_succ]
  refine wpAnyH_take (i := 6) (oi := _) (v := ?_) rfl (by kernel_rfl) (by kernel_rfl) (by kernel_rfl) (fun _ _ _ h => h) (Or.inl ⟨by rfl, ?_⟩) (by assumption) ?_
  rotate_left 1
  · (intro w hSw; (try dsimp only at hSw); go_simp; (try with_reducible rfl))
  try simp only [Act.put, List.getElem_toArray, List.getElem_cons_succ, List.getElem_cons_zero, List.setIfInBounds_toArray, List.set_cons_zero, List.set_cons_succ]
  refine wpAnyH_take (i := 7) (oi := _) (v := ?_) rfl (by kernel_rfl) (by kernel_rfl) (by kernel_rfl) (fun _ _ _ h => h) (Or.inl ⟨by rfl, ?_⟩) (by assumption) ?_
  rotate_left 1
  · (intro w hSw; (try dsimp only at hSw); (have q := cell_of_row _ _ 1 _ _ _ hSw; go_simp); (try with_reducible rfl))
  try simp only [Act.put, List.getElem_toArray, List.getElem_cons_succ, List.getElem_cons_zero, List.setIfInBounds_toArray, List.set_cons_zero, List.set_cons_succ]
  refine wpAnyH_take (i := 8) (oi := _) (v := ?_) rfl (by kernel_rfl) (by kernel_rfl) (by kernel_rfl) (fun _ _ _ h => h) (Or.inl ⟨by rfl, ?_⟩) (by assumption) ?_
  rotate_left 1
  · (intro w hSw; (try dsimp only at hSw); go_simp; (try with_reducible rfl))
  try simp only [Act.put, List.getElem_toArray, List.getElem_cons_succ, List.getElem_cons_zero, List.setIfInBounds_toArray, List.set_cons_zero, List.set_cons_succ]
  refine wpAnyH_take (i := 9) (oi := _) (v := ?_) rfl (by kernel_rfl) (by kernel_rfl) (by kernel_rfl) (fun _ _ _ h => h) (Or.inl ⟨by rfl, ?_⟩) (by assumption) ?_
  rotate_left 1
  · (intro w hSw; (try dsimp only at hSw); (have q := cell_of_row _ _ 3 _ _ _ hSw; go_simp); (try with_reducible rfl))
  try simp only [Act.put, List.getElem_toArray, List.getElem_cons_succ, List.getElem_cons_zero, List.setIfInBounds_toArray, List.set_cons_zero, List.set_cons_succ]
  refine wpAnyH_ready (rs := [4]) (by kernel_rfl) (by simp) ?_
  refine AllReadyH.cons (o := _) rfl (fun K hK => ?_) AllReadyH.nil
  go_simp
  refine (HP.out _ (drew_below _)).mono ?_
  rintro e w3 ⟨rfl, ht3⟩
  have HT3 := Lib.hid ht3
  have HK3 := Lib.hid (HKP.out _ _ _ _ hHeld ht3)
  clear ht3
  go_wp2_with fail
  refine hK.out _ _ ?_ (fun hHeld4 => ?_)
  · exact HK3.out
  clear hK K
  try simp only [Act.put, List.getElem_toArray, List.getElem_cons_succ, List.getElem_cons_zero, List.setIfInBounds_toArray, List.set_cons_zero, List.set_cons_succ]
  refine wpAnyH_ready (rs := [10]) (by kernel_rfl) (by simp) ?_
  refine AllReadyH.cons (o := _) rfl (fun K hK => ?_) AllReadyH.nil
  go_simp
  refine (HRR.out _ _ (drew_below _) HT3.out).mono ?_
  rintro e w4 ⟨rfl, hdo⟩
  have HD4 := Lib.hid hdo
  have HK4 := Lib.hid (HKR.out _ hdo)
  clear hdo
  go_wp2_with fail
  refine hK.out _ _ ?_ (fun hHeld10 => ?_)
  · exact HK4.out
  clear hK K
  try simp only [Act.put, List.getElem_toArray, List.getElem_cons_succ, List.getElem_cons_zero, List.setIfInBounds_toArray, List.set_cons_zero, List.set_cons_succ]
  refine wpAnyH_take (i := 11) (oi := _) (v := ?_) rfl (by kernel_rfl) (by kernel_rfl) (by kernel_rfl) (fun _ _ _ h => h) (Or.inl ⟨by rfl, ?_⟩) (by assumption) ?_
  rotate_left 1
  · (intro w hSw; (try dsimp only at hSw); go_simp; (try with_reducible rfl))
  try simp only [Act.put, List.getElem_toArray, List.getElem_cons_succ, List.getElem_cons_zero, List.setIfInBounds_toArray, List.set_cons_zero, List.set_cons_succ]
  refine wpAnyH_take (i := 12) (oi := _) (v := ?_) rfl (by kernel_rfl) (by kernel_rfl) (by kernel_rfl) (fun _ _ _ h => h) (Or.inl ⟨by rfl, ?_⟩) (by assumption) ?_
  rotate_left 1
  · (intro w hSw; (try dsimp only at hSw); go_simp; (try with_reducible rfl))
  try simp only [Act.put, List.getElem_toArray, List.getElem_cons_succ, List.getElem_cons_zero, List.setIfInBounds_toArray, List.set_cons_zero, List.set_cons_succ]
  refine wpAnyH_done (by kernel_rfl) ?_ _
  refine NoPanic.normal ?_
  have hdo := HD4.out
  clear HD4 HK3 HK4 HT3 HP HRR HBX2 HKR HKP HH
  have HDO := Lib.hid hdo
  have HTI := Lib.hid (HTS.out _ hdo)
  clear hdo
  go_wp2_with fail
  go_loopw [15] (fun iv wr => ∃ j : Nat, iv = .int .i64 j ∧ j ≤ b.length ∧ TailI oa b.length w1.heap.size w2.heap.size w4 wr) (fun iv _ => b.length - (intOf iv).toNat)
  case atStart => exact ⟨0, rfl, Nat.zero_le _, HTI.out⟩
  case round =>
    obtain ⟨j, rfl, hj, hti⟩ := hrel
    obtain ⟨wz, hwz⟩ : ∃ wz, wz = wr := ⟨_, rfl⟩
    subst hwz
    by_cases hc : j < b.length
    · rcases hti with ⟨h0, -⟩ | ⟨g, rfl, hrow, hon, hg1, hg2⟩
      · omega
      · obtain ⟨x, hx⟩ := hrow.1 j hc
        have hfz := hrow.2 j
        have HROW := Lib.hid hrow
        have HON := Lib.hid hon
        clear hrow hon HTI HDO
        go_wp2
        go_roundw
        case rel => exact ⟨j + 1, by go_num, by omega, .inr ⟨g, rfl, HROW.out.set j _, HON.out.setCell _ _ (fun _ => rfl), hg1, hg2⟩⟩
        case measure => simp [intOf]; omega
    · have HX := Lib.hid (HTE.out _ _ HDO.out hti)
      clear hti
      go_wp2
      go_ret
      exact ⟨rfl, HX.out⟩
set_option maxHeartbeats 4000000 in
set_option maxRecDepth 100000 in
theorem do04_7 {w0 w : World} {n r : Nat} {most d : Int} {L : List RC} {F : List Nat} {G : Nat → Prop} {m N : Nat} (h : NwF w0 n r most d L F G w) (hi : NInv most d L m N) (hm : m ≤ 1000) (id : Int) (host : ByteArray) (a : Option Addr) (c : Nat) (b : List UInt8) (hN : N + b.length ≤ 100000) (hr : Rd w0 a (bv b)) :
    Calls Try.prog 17 #[.pointer (some ⟨n, 0, none⟩), .pointer (some ⟨r, 0, none⟩), .agg #[.int .i64 7, .int .i64 id, .string host, .slice a b.length c]] w fun e w' => e = .returned (.bool true) ∧ DoR w0 n r most F G (m + 1) (N + b.length) w w' := by
  obtain ⟨i0, hii, hz0, hz1, hz2⟩ := info_parts info_byte
  obtain ⟨w1, hw1⟩ : ∃ w1, w1 = w.alloc (.cells #[.int .i64 7, .int .i64 id, .string host, .slice a b.length c] 41) := ⟨_, rfl⟩
  have hb1 : Below w.heap.size w w1 := by rw [hw1]; exact (Below.refl _ w).alloc (Nat.le_refl _) _
  have hs1 : w1.heap.size = w.heap.size + 1 := by rw [hw1]; simp
  have hbx : w1.heap[w.heap.size]? = some (.cells #[.int .i64 7, .int .i64 id, .string host, .slice a b.length c] 41 (0, 0)) := by rw [hw1]; exact heap_alloc_new w _
  have c0 : w1.cell? ⟨w.heap.size, 0, none⟩ = some (.int .i64 7) := by rw [cell_of_row _ _ _ _ _ _ hbx]; rfl
  have c3 : w1.cell? ⟨w.heap.size, 3, none⟩ = some (.slice a b.length c) := by rw [cell_of_row _ _ _ _ _ _ hbx]; rfl
  have HW1 := Lib.hid hw1
  have HB1 := Lib.hid hb1
  have HS1 := Lib.hid hs1
  have HBX := Lib.hid hbx
  have H := Lib.hid h
  have HI := Lib.hid hi
  have HR := Lib.hid (hr.below (h.2.2.2.trans (hb1.mono h.2.2.2.size)) (Nat.le_refl _))
  have HR0 := Lib.hid hr
  clear hw1 hb1 hbx h hi hr
  go_enter Try.func17, Try.ntmps17
  go_upto_region 1 with fail
  rw [← HW1.out]
  go_wp2_with (first
    | (at_builtin; refine step_append_any (.inl rfl) _ _ 22 rfl w1.heap.size 5 i0 (.int .u8 0) 1 1 Try.underlying22 hii hz0 hz1 hz2 rfl (by decide) (.slice none 0 0) 0 [] rfl (World.ownsRow_nil _ _ _ _) a b.length c (bv b) rfl (by simp [bv]) HR.out (bv_one b) (by unfold maxLen; omega) (by omega) (Nat.le_refl _) ?_)
    | fail)
  rintro v w2 ⟨o1, g1, -⟩
  have hb12 : Below w1.heap.size w1 w2 := (Below.refl _ _).grown g1 (Nat.le_refl _) (fun k e => by cases e)
  obtain ⟨oa, oc, rfl, -, -, -⟩ := own_cells o1
  have hbx2 := hb12.block w.heap.size (by omega)
  have O1 := Lib.hid o1
  have HB2 := Lib.hid (HB1.out.trans (hb12.mono HB1.out.size))
  have HB12 := Lib.hid hb12
  have HBX2 := Lib.hid (hbx2.trans HBX.out)
  have k0 : w2.cell? ⟨w.heap.size, 0, none⟩ = some (.int .i64 7) := by rw [cell_of_row _ _ _ _ _ _ HBX2.out]; rfl
  clear hb12 hbx2 o1 g1 c0 c3
  have HT0 := Lib.hid (show TailI oa b.length w1.heap.size w2.heap.size w2 w2 from by
    by_cases h0 : b.length = 0
    · exact .inl ⟨h0, rfl⟩
    · obtain ⟨g, c', e, hrow, hg1, hg2, -⟩ := RowB.of_own O1.out (by omega)
      cases e
      exact .inr ⟨g, rfl, hrow, Only.refl _ _, by omega, hg2⟩)
  have HS12 := Lib.hid (show w.heap.size ≤ w1.heap.size from by omega)
  have HTE := Lib.hid (fun (wx wr : World) (hd : DoR w0 n r most F G (m + 1) (N + b.length) w2 wx) (ht : TailI oa b.length w1.heap.size w2.heap.size wx wr) => tail_end H.out HS12.out rfl HB2.out hd ht)
  have HTS := Lib.hid (fun (wx : World) (hd : DoR w0 n r most F G (m + 1) (N + b.length) w2 wx) => tail_start H.out HS12.out rfl HT0.out hd)
  have HH := Lib.hid (H.out.new HB2.out)
  have HKR := Lib.hid (fun (W : World) (hd : DoR w0 n r most F G (m + 1) (N + b.length) w2 W) => (show W.heap[w.heap.size]? = some (.cells #[.int .i64 7, .int .i64 id, .string host, .slice a b.length c] 41 (0, 0)) from by
    obtain ⟨_, _, _, _, _, _, hon, _⟩ := hd
    exact hon.heap HBX2.out (fun hf => by have := (H.out.in hf).2; omega)))
  have HKP := Lib.hid (fun (W W1 : World) (d' : Int) (l' : List CV) (hW : W.heap[w.heap.size]? = some (.cells #[.int .i64 7, .int .i64 id, .string host, .slice a b.length c] 41 (0, 0))) (ht : NetTo W w0.heap.size n F most d' l' W1) => (show W1.heap[w.heap.size]? = some (.cells #[.int .i64 7, .int .i64 id, .string host, .slice a b.length c] 41 (0, 0)) from by
    obtain ⟨_, _, hon, _⟩ := ht
    exact hon.heap hW (fun hf => by have := (H.out.in (.inl hf)).2; omega)))
  have HLN := Lib.hid (show L.length ≤ 100000 from by have := HI.out.len2; omega)
  have hdn := HI.out.dn
  have hd0 := HI.out.d0
  clear HT0 HS12 HS1 hs1
  obtain ⟨e1, e2⟩ := act_ok (x := id) (st := 2) (f := fun v => { v with out := v.out ++ b }) (g := (fun v : RC => { v with out := v.out ++ ⟨b.toArray⟩ })) (L := L) (fun v hv => by unfold RC.vw; simp only [CV.mk.injEq, true_and]; exact app_list v.out b)
  obtain ⟨cc, hcc⟩ : ∃ cc, cc = rmust id 2 L := ⟨_, rfl⟩
  have HRO := Lib.hid (show Rd w2 oa (bv b) from by
    obtain ⟨a', c', e, -, hr, -⟩ := own_cells O1.out
    cases e
    exact hr)
  have HP := Lib.hid (fun W (hb : Below w2.heap.size w2 W) => (show Calls Try.prog 26 #[.pointer (some ⟨n, 0, none⟩), .int .i64 id, .slice oa b.length oc] W fun e w' => e = .returned (.int .i64 cc) ∧ NetTo W w0.heap.size n F most d ((ract id 2 (fun v : RC => { v with out := v.out ++ ⟨b.toArray⟩ }) L).map RC.vw) w' from by
    have h := send_any (HH.out.new hb).1 (HH.out.new hb).2.2.2.size id oa oc b (HRO.out.below hb (Nat.le_refl _)) (fun u hu => by obtain ⟨v, hv, rfl⟩ := List.mem_map.1 hu; have h9 := HI.out.sz v hv; show (v.out.data.toList).length + b.length ≤ _; have : (v.out.data.toList).length ≤ v.out.size := (by have e9 : v.out.data.toList.length = v.out.size := rfl; omega); omega)
    rw [e1, e2, ← hcc] at h
    exact h))
  have HRR := Lib.hid (fun W W1 (hb : Below w2.heap.size w2 W) (ht : NetTo W w0.heap.size n F most d ((ract id 2 (fun v : RC => { v with out := v.out ++ ⟨b.toArray⟩ }) L).map RC.vw) W1) => (show Calls Try.prog 39 #[.pointer (some ⟨r, 0, none⟩), .int .i64 id, .slice a b.length c] W1 fun e w' => e = .returned (.int .i64 cc) ∧ DoR w0 n r most F G (m + 1) (N + b.length) w2 w' from by
    have hf := HH.out.new hb
    have hbel : Below w0.heap.size w0 W1 := by
      obtain ⟨F', b1, b2, b3⟩ := ht
      exact hf.2.2.2.trans (b2.below hf.2.2.2.size (fun k hk => (hf.in (.inl hk)).1))
    have hr1 : RfIs W1 w0.heap.size r most d L G := by
      obtain ⟨F', b1, b2, b3⟩ := ht
      exact hf.2.1.only b2 (fun k hk hff => hf.2.2.1 k hff hk)
    refine (rsend_any hr1 id (by have := HLN.out; omega) a c b (HR0.out.below hbel (Nat.le_refl _)) (fun v hv => by have := HI.out.sz v hv; omega) (fun ad e hne hg => by have h8 := (hf.2.1.in _ hg).1; obtain ⟨x, t, hxt⟩ : ∃ x t, b = x :: t := (by cases b with | nil => exact absurd rfl hne | cons x t => exact ⟨x, t, rfl⟩); obtain ⟨b7, off7, e7, hb7, -⟩ := HR0.out.at (k := 0) (v := .int .u8 x.toNat) (by rw [hxt]; rfl); rw [e] at e7; cases e7; simp only at h8; omega)).mono ?_
    rintro e w' ⟨rfl, hto⟩
    exact ⟨by rw [hcc], do_two HH.out hb ht hto ((HI.out.act id 2 (fun v : RC => { v with out := v.out ++ ⟨b.toArray⟩ }) (fun _ => rfl) (Nat.le_add_right N b.length) (fun v hv => by have h9 := HI.out.sz v hv; simp only [app_size]; omega)).more (Nat.le_succ _) (Nat.le_refl _))⟩))
  clear e1 e2 hcc
  have hbq : (cc == cc) = true := by simp
  clear H HI HR HR0 O1 HB1 HW1 HBX HRO
  go_wp2_with fail
  refine wp_region_noPanic ?_
  refine wp_region_held_drew (S := (fun w' => w'.heap[w.heap.size]? = some (.cells #[.int .i64 7, .int .i64 id, .string host, .slice a b.length c] 41 (0, 0)))) (by kernel_rfl) ?_ (fun hHeld => ?_)
  · exact HBX2.out
  refine wpAnyH_take (i := 0) (oi := _) (v := ?_) rfl (by kernel_rfl) (by kernel_rfl) (by kernel_rfl) (fun _ _ _ h => h) (Or.inl ⟨by rfl, ?_⟩) (by assumption) ?_
  rotate_left 1
  · (intro w hSw; (try dsimp only at hSw); go_simp; (try with_reducible rfl))
  try simp only [Act.put, List.getElem_toArray, List.getElem_cons_zero, List.setIfInBounds_toArray, List.set_cons_zero, List.set_cons_succ]
  refine wpAnyH_take (i := 1) (oi := _) (v := ?_) rfl (by kernel_rfl) (by kernel_rfl) (by kernel_rfl) (fun _ _ _ h => h) (Or.inl ⟨by rfl, ?_⟩) (by assumption) ?_
  rotate_left 1
  · (intro w hSw; (try dsimp only at hSw); go_simp; (try with_reducible rfl))
  try simp only [Act.put, List.getElem_toArray, List.getElem_cons_succ, List.getElem_cons_zero, List.setIfInBounds_toArray, List.set_cons_zero, List.set_cons_succ]
  refine wpAnyH_take (i := 2) (oi := _) (v := ?_) rfl (by kernel_rfl) (by kernel_rfl) (by kernel_rfl) (fun _ _ _ h => h) (Or.inl ⟨by rfl, ?_⟩) (by assumption) ?_
  rotate_left 1
  · (intro w hSw; (try dsimp only at hSw); (have q := cell_of_row _ _ 1 _ _ _ hSw; go_simp); (try with_reducible rfl))
  try simp only [Act.put, List.getElem_toArray, List.getElem_cons_succ, List.getElem_cons_zero, List.setIfInBounds_toArray, List.set_cons_zero, List.set_cons_succ]
  refine wpAnyH_take (i := 3) (oi := _) (v := ?_) rfl (by kernel_rfl) (by kernel_rfl) (by kernel_rfl) (fun _ _ _ h => h) (Or.inl ⟨by rfl, ?_⟩) (by assumption) ?_
  rotate_left 1
  · (intro w hSw; (try dsimp only at hSw); go_simp; (try with_reducible rfl))
  try simp only [Act.put, List.getElem_toArray, List.getElem_cons_succ, List.getElem_cons_zero, List.setIfInBounds_toArray, List.set_cons_zero, List.set_cons_succ]
  refine wpAnyH_take (i := 5) (oi := _) (v := ?_) rfl (by kernel_rfl) (by kernel_rfl) (by kernel_rfl) (fun _ _ _ h => h) (Or.inl ⟨by rfl, ?_⟩) (by assumption) ?_
  rotate_left 1
  · (intro w hSw; (try dsimp only at hSw); go_simp; (try with_reducible rfl))
  try simp only [Act.put, List.getElem_toArray, List.getElem_cons_succ, List.getElem_cons_zero, List.setIfInBounds_toArray, List.set_cons_zero, List.set_cons_succ]
  refine wpAnyH_take (i := 6) (oi := _) (v := ?_) rfl (by kernel_rfl) (by kernel_rfl) (by kernel_rfl) (fun _ _ _ h => h) (Or.inl ⟨by rfl, ?_⟩) (by assumption) ?_
  rotate_left 1
  · (intro w hSw; (try dsimp only at hSw); go_simp; (try with_reducible rfl))
  try simp only [Act.put, List.getElem_toArray, List.getElem_cons_succ, List.getElem_cons_zero, List.setIfInBounds_toArray, List.set_cons_zero, List.set_cons_succ]
  refine wpAnyH_take (i := 7) (oi := _) (v := ?_) rfl (by kernel_rfl) (by kernel_rfl) (by kernel_rfl) (fun _ _ _ h => h) (Or.inl ⟨by rfl, ?_⟩) (by assumption) ?_
  rotate_left 1
  · (intro w hSw; (try dsimp only at hSw); (have q := cell_of_row _ _ 1 _ _ _ hSw; go_simp); (try with_reducible rfl))
  try simp only [Act.put, List.getElem_toArray, List.getElem_cons_succ, List.getElem_cons_zero, List.setIfInBounds_toArray, List.set_cons_zero, List.set_cons_succ]
  refine wpAnyH_take (i := 8) (oi := _) (v := ?_) rfl (by kernel_rfl) (by kernel_rfl) (by kernel_rfl) (fun _ _ _ h => h) (Or.inl ⟨by rfl, ?_⟩) (by assumption) ?_
  rotate_left 1
  · (intro w hSw; (try dsimp only at hSw); go_simp; (try with_reducible rfl))
  try simp only [Act.put, List.getElem_toArray, List.getElem_cons_succ, List.getElem_cons_zero, List.setIfInBounds_toArray, List.set_cons_zero, List.set_cons_succ]
  refine wpAnyH_take (i := 9) (oi := _) (v := ?_) rfl (by kernel_rfl) (by kernel_rfl) (by kernel_rfl) (fun _ _ _ h => h) (Or.inl ⟨by rfl, ?_⟩) (by assumption) ?_
  rotate_left 1
  · (intro w hSw; (try dsimp only at hSw); (have q := cell_of_row _ _ 3 _ _ _ hSw; go_simp); (try with_reducible rfl))
  try simp only [Act.put, List.getElem_toArray, List.getElem_cons_succ, List.getElem_cons_zero, List.setIfInBounds_toArray, List.set_cons_zero, List.set_cons_succ]
  refine wpAnyH_ready (rs := [4]) (by kernel_rfl) (by simp) ?_
  refine AllReadyH.cons (o := _) rfl (fun K hK => ?_) AllReadyH.nil
  go_simp
  refine (HP.out _ (drew_below _)).mono ?_
  rintro e w3 ⟨rfl, ht3⟩
  have HT3 := Lib.hid ht3
  have HK3 := Lib.hid (HKP.out _ _ _ _ hHeld ht3)
  clear ht3
  go_wp2_with fail
  refine hK.out _ _ ?_ (fun hHeld4 => ?_)
  · exact HK3.out
  clear hK K
  try simp only [Act.put, List.getElem_toArray, List.getElem_cons_succ, List.getElem_cons_zero, List.setIfInBounds_toArray, List.set_cons_zero, List.set_cons_succ]
  refine wpAnyH_ready (rs := [10]) (by kernel_rfl) (by simp) ?_
  refine AllReadyH.cons (o := _) rfl (fun K hK => ?_) AllReadyH.nil
  go_simp
  refine (HRR.out _ _ (drew_below _) HT3.out).mono ?_
  rintro e w4 ⟨rfl, hdo⟩
  have HD4 := Lib.hid hdo
  have HK4 := Lib.hid (HKR.out _ hdo)
  clear hdo
  go_wp2_with fail
  refine hK.out _ _ ?_ (fun hHeld10 => ?_)
  · exact HK4.out
  clear hK K
  try simp only [Act.put, List.getElem_toArray, List.getElem_cons_succ, List.getElem_cons_zero, List.setIfInBounds_toArray, List.set_cons_zero, List.set_cons_succ]
  refine wpAnyH_take (i := 11) (oi := _) (v := ?_) rfl (by kernel_rfl) (by kernel_rfl) (by kernel_rfl) (fun _ _ _ h => h) (Or.inl ⟨by rfl, ?_⟩) (by assumption) ?_
  rotate_left 1
  · (intro w hSw; (try dsimp only at hSw); go_simp; (try with_reducible rfl))
  try simp only [Act.put, List.getElem_toArray, List.getElem_cons_succ, List.getElem_cons_zero, List.setIfInBounds_toArray, List.set_cons_zero, List.set_cons_succ]
  refine wpAnyH_take (i := 12) (oi := _) (v := ?_) rfl (by kernel_rfl) (by kernel_rfl) (by kernel_rfl) (fun _ _ _ h => h) (Or.inl ⟨by rfl, ?_⟩) (by assumption) ?_
  rotate_left 1
  · (intro w hSw; (try dsimp only at hSw); go_simp; (try with_reducible rfl))
  try simp only [Act.put, List.getElem_toArray, List.getElem_cons_succ, List.getElem_cons_zero, List.setIfInBounds_toArray, List.set_cons_zero, List.set_cons_succ]
  refine wpAnyH_done (by kernel_rfl) ?_ _
  refine NoPanic.normal ?_
  have hdo := HD4.out
  clear HD4 HK3 HK4 HT3 HP HRR HBX2 HKR HKP HH
  have HDO := Lib.hid hdo
  have HTI := Lib.hid (HTS.out _ hdo)
  clear hdo
  go_wp2_with fail
  go_loopw [15] (fun iv wr => ∃ j : Nat, iv = .int .i64 j ∧ j ≤ b.length ∧ TailI oa b.length w1.heap.size w2.heap.size w4 wr) (fun iv _ => b.length - (intOf iv).toNat)
  case atStart => exact ⟨0, rfl, Nat.zero_le _, HTI.out⟩
  case round =>
    obtain ⟨j, rfl, hj, hti⟩ := hrel
    obtain ⟨wz, hwz⟩ : ∃ wz, wz = wr := ⟨_, rfl⟩
    subst hwz
    by_cases hc : j < b.length
    · rcases hti with ⟨h0, -⟩ | ⟨g, rfl, hrow, hon, hg1, hg2⟩
      · omega
      · obtain ⟨x, hx⟩ := hrow.1 j hc
        have hfz := hrow.2 j
        have HROW := Lib.hid hrow
        have HON := Lib.hid hon
        clear hrow hon HTI HDO
        go_wp2
        go_roundw
        case rel => exact ⟨j + 1, by go_num, by omega, .inr ⟨g, rfl, HROW.out.set j _, HON.out.setCell _ _ (fun _ => rfl), hg1, hg2⟩⟩
        case measure => simp [intOf]; omega
    · have HX := Lib.hid (HTE.out _ _ HDO.out hti)
      clear hti
      go_wp2
      go_ret
      exact ⟨rfl, HX.out⟩
set_option maxHeartbeats 4000000 in
set_option maxRecDepth 100000 in
theorem do04_1 {w0 w : World} {n r : Nat} {most d : Int} {L : List RC} {F : List Nat} {G : Nat → Prop} {m N : Nat} (h : NwF w0 n r most d L F G w) (hi : NInv most d L m N) (hm : m ≤ 1000) (id : Int) (host : ByteArray) (a : Option Addr) (c : Nat) (b : List UInt8) (hN : N + b.length ≤ 100000) (hr : Rd w0 a (bv b)) :
    Calls Try.prog 17 #[.pointer (some ⟨n, 0, none⟩), .pointer (some ⟨r, 0, none⟩), .agg #[.int .i64 1, .int .i64 id, .string host, .slice a b.length c]] w fun e w' => e = .returned (.bool true) ∧ DoR w0 n r most F G (m + 1) (N + b.length) w w' := by
  obtain ⟨i0, hii, hz0, hz1, hz2⟩ := info_parts info_byte
  obtain ⟨w1, hw1⟩ : ∃ w1, w1 = w.alloc (.cells #[.int .i64 1, .int .i64 id, .string host, .slice a b.length c] 41) := ⟨_, rfl⟩
  have hb1 : Below w.heap.size w w1 := by rw [hw1]; exact (Below.refl _ w).alloc (Nat.le_refl _) _
  have hs1 : w1.heap.size = w.heap.size + 1 := by rw [hw1]; simp
  have hbx : w1.heap[w.heap.size]? = some (.cells #[.int .i64 1, .int .i64 id, .string host, .slice a b.length c] 41 (0, 0)) := by rw [hw1]; exact heap_alloc_new w _
  have c0 : w1.cell? ⟨w.heap.size, 0, none⟩ = some (.int .i64 1) := by rw [cell_of_row _ _ _ _ _ _ hbx]; rfl
  have c3 : w1.cell? ⟨w.heap.size, 3, none⟩ = some (.slice a b.length c) := by rw [cell_of_row _ _ _ _ _ _ hbx]; rfl
  have HW1 := Lib.hid hw1
  have HB1 := Lib.hid hb1
  have HS1 := Lib.hid hs1
  have HBX := Lib.hid hbx
  have H := Lib.hid h
  have HI := Lib.hid hi
  have HR := Lib.hid (hr.below (h.2.2.2.trans (hb1.mono h.2.2.2.size)) (Nat.le_refl _))
  have HR0 := Lib.hid hr
  clear hw1 hb1 hbx h hi hr
  go_enter Try.func17, Try.ntmps17
  go_upto_region 1 with fail
  rw [← HW1.out]
  go_wp2_with (first
    | (at_builtin; refine step_append_any (.inl rfl) _ _ 22 rfl w1.heap.size 5 i0 (.int .u8 0) 1 1 Try.underlying22 hii hz0 hz1 hz2 rfl (by decide) (.slice none 0 0) 0 [] rfl (World.ownsRow_nil _ _ _ _) a b.length c (bv b) rfl (by simp [bv]) HR.out (bv_one b) (by unfold maxLen; omega) (by omega) (Nat.le_refl _) ?_)
    | fail)
  rintro v w2 ⟨o1, g1, -⟩
  have hb12 : Below w1.heap.size w1 w2 := (Below.refl _ _).grown g1 (Nat.le_refl _) (fun k e => by cases e)
  obtain ⟨oa, oc, rfl, -, -, -⟩ := own_cells o1
  have hbx2 := hb12.block w.heap.size (by omega)
  have O1 := Lib.hid o1
  have HB2 := Lib.hid (HB1.out.trans (hb12.mono HB1.out.size))
  have HB12 := Lib.hid hb12
  have HBX2 := Lib.hid (hbx2.trans HBX.out)
  have k0 : w2.cell? ⟨w.heap.size, 0, none⟩ = some (.int .i64 1) := by rw [cell_of_row _ _ _ _ _ _ HBX2.out]; rfl
  clear hb12 hbx2 o1 g1 c0 c3
  have HT0 := Lib.hid (show TailI oa b.length w1.heap.size w2.heap.size w2 w2 from by
    by_cases h0 : b.length = 0
    · exact .inl ⟨h0, rfl⟩
    · obtain ⟨g, c', e, hrow, hg1, hg2, -⟩ := RowB.of_own O1.out (by omega)
      cases e
      exact .inr ⟨g, rfl, hrow, Only.refl _ _, by omega, hg2⟩)
  have HS12 := Lib.hid (show w.heap.size ≤ w1.heap.size from by omega)
  have HTE := Lib.hid (fun (wx wr : World) (hd : DoR w0 n r most F G (m + 1) (N + b.length) w2 wx) (ht : TailI oa b.length w1.heap.size w2.heap.size wx wr) => tail_end H.out HS12.out rfl HB2.out hd ht)
  have HTS := Lib.hid (fun (wx : World) (hd : DoR w0 n r most F G (m + 1) (N + b.length) w2 wx) => tail_start H.out HS12.out rfl HT0.out hd)
  have HH := Lib.hid (H.out.new HB2.out)
  have HKR := Lib.hid (fun (W : World) (hd : DoR w0 n r most F G (m + 1) (N + b.length) w2 W) => (show W.heap[w.heap.size]? = some (.cells #[.int .i64 1, .int .i64 id, .string host, .slice a b.length c] 41 (0, 0)) from by
    obtain ⟨_, _, _, _, _, _, hon, _⟩ := hd
    exact hon.heap HBX2.out (fun hf => by have := (H.out.in hf).2; omega)))
  have HKP := Lib.hid (fun (W W1 : World) (d' : Int) (l' : List CV) (hW : W.heap[w.heap.size]? = some (.cells #[.int .i64 1, .int .i64 id, .string host, .slice a b.length c] 41 (0, 0))) (ht : NetTo W w0.heap.size n F most d' l' W1) => (show W1.heap[w.heap.size]? = some (.cells #[.int .i64 1, .int .i64 id, .string host, .slice a b.length c] 41 (0, 0)) from by
    obtain ⟨_, _, hon, _⟩ := ht
    exact hon.heap hW (fun hf => by have := (H.out.in (.inl hf)).2; omega)))
  have HLN := Lib.hid (show L.length ≤ 100000 from by have := HI.out.len2; omega)
  have hdn := HI.out.dn
  have hd0 := HI.out.d0
  clear HT0 HS12 HS1 hs1
  by_cases hroom : (L.length : Int) < most
  ·
    have hnew : vfind (d + 1) (L.map RC.vw) = none := by
      rw [vfind_rc]
      cases hq : rfind (d + 1) L with
      | none => rfl
      | some v =>
        exfalso
        have h1 := List.find?_some hq
        have h2 := HI.out.rng v (rfind_mem hq)
        simp at h1
        omega
    have HP := Lib.hid (show Calls Try.prog 9 #[.pointer (some ⟨n, 0, none⟩), .string host] w2 fun e w' => e = .returned (.tuple #[.int .i64 (d + 1), .int .i64 0]) ∧ NetTo w2 w0.heap.size n F most (d + 1) ((L ++ [(⟨d + 1, host, 1, ⟨#[]⟩, 0, ⟨#[]⟩⟩ : RC)]).map RC.vw) w' from by
      have h := dial_any HH.out.1 HH.out.2.2.2.size HI.out.d0 (by omega) hnew host (by rw [List.length_map]; exact hroom)
      rw [List.map_append]
      exact h)
    have HRR := Lib.hid (fun W1 (ht : NetTo w2 w0.heap.size n F most (d + 1) ((L ++ [(⟨d + 1, host, 1, ⟨#[]⟩, 0, ⟨#[]⟩⟩ : RC)]).map RC.vw) W1) => (show Calls Try.prog 33 #[.pointer (some ⟨r, 0, none⟩), .string host] W1 fun e w' => e = .returned (.tuple #[.int .i64 (d + 1), .int .i64 0]) ∧ DoR w0 n r most F G (m + 1) (N + b.length) w2 w' from by
      have hf := HH.out
      have hbel : Below w0.heap.size w0 W1 := by
        obtain ⟨F', b1, b2, b3⟩ := ht
        exact hf.2.2.2.trans (b2.below hf.2.2.2.size (fun k hk => (hf.in (.inl hk)).1))
      have hr1 : RfIs W1 w0.heap.size r most d L G := by
        obtain ⟨F', b1, b2, b3⟩ := ht
        exact hf.2.1.only b2 (fun k hk hff => hf.2.2.1 k hff hk)
      refine (rdial_any hr1 hbel.size host hroom HLN.out HI.out.d0 (by omega)).mono ?_
      rintro e w' ⟨rfl, hto⟩
      exact ⟨rfl, do_two HH.out (Below.refl _ _) ht hto ((HI.out.dial host hroom).more (Nat.le_refl _) (Nat.le_add_right _ _))⟩))
    clear hnew hroom
    have hbq : (d + 1 == d + 1) = true := by simp
    have q2 : w2.cell? ⟨w.heap.size, 2, none⟩ = some (.string host) := by rw [cell_of_row _ _ _ _ _ _ HBX2.out]; rfl
    clear H HI HR HR0 O1 HB1 HW1 HBX
    go_wp2_with fail
    refine HP.out.mono ?_
    rintro e w3 ⟨rfl, ht3⟩
    have HT3 := Lib.hid ht3
    have q3 : w3.cell? ⟨w.heap.size, 2, none⟩ = some (.string host) := by rw [cell_of_row _ _ _ _ _ _ (HKP.out _ _ _ _ HBX2.out ht3)]; rfl
    clear ht3 q2
    go_wp2_with fail
    refine (HRR.out _ HT3.out).mono ?_
    rintro e w4 ⟨rfl, hdo⟩
    clear HP HRR HT3 q3 HBX2 HKR HKP HH
    have HDO := Lib.hid hdo
    have HTI := Lib.hid (HTS.out _ hdo)
    clear hdo
    go_wp2_with fail
    go_loopw [15] (fun iv wr => ∃ j : Nat, iv = .int .i64 j ∧ j ≤ b.length ∧ TailI oa b.length w1.heap.size w2.heap.size w4 wr) (fun iv _ => b.length - (intOf iv).toNat)
    case atStart => exact ⟨0, rfl, Nat.zero_le _, HTI.out⟩
    case round =>
      obtain ⟨j, rfl, hj, hti⟩ := hrel
      obtain ⟨wz, hwz⟩ : ∃ wz, wz = wr := ⟨_, rfl⟩
      subst hwz
      by_cases hc : j < b.length
      · rcases hti with ⟨h0, -⟩ | ⟨g, rfl, hrow, hon, hg1, hg2⟩
        · omega
        · obtain ⟨x, hx⟩ := hrow.1 j hc
          have hfz := hrow.2 j
          have HROW := Lib.hid hrow
          have HON := Lib.hid hon
          clear hrow hon HTI HDO
          go_wp2
          go_roundw
          case rel => exact ⟨j + 1, by go_num, by omega, .inr ⟨g, rfl, HROW.out.set j _, HON.out.setCell _ _ (fun _ => rfl), hg1, hg2⟩⟩
          case measure => simp [intOf]; omega
      · have HX := Lib.hid (HTE.out _ _ HDO.out hti)
        clear hti
        go_wp2
        go_ret
        exact ⟨rfl, HX.out⟩
  ·
    have HP := Lib.hid (show Calls Try.prog 9 #[.pointer (some ⟨n, 0, none⟩), .string host] w2 fun e w' => e = .returned (.tuple #[.int .i64 0, .int .i64 6]) ∧ NetTo w2 w0.heap.size n F most d (L.map RC.vw) w' from dial_full HH.out.1 host (by rw [List.length_map]; omega))
    have HRR := Lib.hid (fun W1 (ht : NetTo w2 w0.heap.size n F most d (L.map RC.vw) W1) => (show Calls Try.prog 33 #[.pointer (some ⟨r, 0, none⟩), .string host] W1 fun e w' => e = .returned (.tuple #[.int .i64 0, .int .i64 6]) ∧ DoR w0 n r most F G (m + 1) (N + b.length) w2 w' from by
      have hf := HH.out
      have hr1 : RfIs W1 w0.heap.size r most d L G := by
        obtain ⟨F', b1, b2, b3⟩ := ht
        exact hf.2.1.only b2 (fun k hk hff => hf.2.2.1 k hff hk)
      refine (rdial_full hr1 host (by omega)).mono ?_
      rintro e w' ⟨rfl, hto⟩
      exact ⟨rfl, do_two HH.out (Below.refl _ _) ht hto (HI.out.more (Nat.le_succ _) (Nat.le_add_right _ _))⟩))
    clear hroom
    have q2 : w2.cell? ⟨w.heap.size, 2, none⟩ = some (.string host) := by rw [cell_of_row _ _ _ _ _ _ HBX2.out]; rfl
    clear H HI HR HR0 O1 HB1 HW1 HBX
    go_wp2_with fail
    refine HP.out.mono ?_
    rintro e w3 ⟨rfl, ht3⟩
    have HT3 := Lib.hid ht3
    have q3 : w3.cell? ⟨w.heap.size, 2, none⟩ = some (.string host) := by rw [cell_of_row _ _ _ _ _ _ (HKP.out _ _ _ _ HBX2.out ht3)]; rfl
    clear ht3 q2
    go_wp2_with fail
    refine (HRR.out _ HT3.out).mono ?_
    rintro e w4 ⟨rfl, hdo⟩
    clear HP HRR HT3 q3 HBX2 HKR HKP HH
    have HDO := Lib.hid hdo
    have HTI := Lib.hid (HTS.out _ hdo)
    clear hdo
    go_wp2_with fail
    go_loopw [15] (fun iv wr => ∃ j : Nat, iv = .int .i64 j ∧ j ≤ b.length ∧ TailI oa b.length w1.heap.size w2.heap.size w4 wr) (fun iv _ => b.length - (intOf iv).toNat)
    case atStart => exact ⟨0, rfl, Nat.zero_le _, HTI.out⟩
    case round =>
      obtain ⟨j, rfl, hj, hti⟩ := hrel
      obtain ⟨wz, hwz⟩ : ∃ wz, wz = wr := ⟨_, rfl⟩
      subst hwz
      by_cases hc : j < b.length
      · rcases hti with ⟨h0, -⟩ | ⟨g, rfl, hrow, hon, hg1, hg2⟩
        · omega
        · obtain ⟨x, hx⟩ := hrow.1 j hc
          have hfz := hrow.2 j
          have HROW := Lib.hid hrow
          have HON := Lib.hid hon
          clear hrow hon HTI HDO
          go_wp2
          go_roundw
          case rel => exact ⟨j + 1, by go_num, by omega, .inr ⟨g, rfl, HROW.out.set j _, HON.out.setCell _ _ (fun _ => rfl), hg1, hg2⟩⟩
          case measure => simp [intOf]; omega
      · have HX := Lib.hid (HTE.out _ _ HDO.out hti)
        clear hti
        go_wp2
        go_ret
        exact ⟨rfl, HX.out⟩
end Go.Proofs.Ytepdnmpcccgcaaa
