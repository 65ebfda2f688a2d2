/- The walk over the reference's Encode. -/
import Derived.Test.YtdomnjakhecbaaaFrT
import Derived.Test.YtdomnjakhecbaaaFrR
namespace Go.Proofs.Ytdomnjakhecbaaa
open Go.RowKit K
set_option maxHeartbeats 1000000 in
theorem rencode_no (w : World) (q win : Int) (a : Option Addr) (c : Nat) (xs : List Rec) (hq : 0 ≤ q) (hl : xs.length ≤ 9223372036854775807) (hs : ∀ x ∈ xs, x.name.size ≤ 140737488355328) (hr : Rd w a (rcf xs)) (hm : mayB q win xs = false) :
    Calls Try.prog 43 #[frv q win (.slice a xs.length c)] w fun e w' => e = .returned (.tuple #[.slice none 0 0, .int .i64 2]) ∧ Below w.heap.size w w' := by
  have hb0 : ∀ o, Below w.heap.size w (w.alloc o) := fun o => (Below.refl _ _).alloc (Nat.le_refl _) o
  have hc := fun o => rmay_any (w.alloc o) q win a c xs hl hs (hr.below (hb0 o) (Nat.le_refl _)) hq
  rw [hm] at hc
  have HC := Lib.hid hc
  clear hs hr hm hc
  unfold frv at *
  go_enter Try.func43, Try.ntmps43
  go_wp2_with fail
  refine (HC.out _).mono ?_
  rintro e w2 ⟨rfl, hb2⟩
  have HB := Lib.hid ((hb0 _).trans (hb2.mono (by simp)))
  clear hb2 hb0
  go_wp2
  go_ret2
  exact ⟨rfl, HB.out⟩
set_option maxHeartbeats 4000000 in
set_option maxRecDepth 100000 in
theorem rencode_yes (w : World) (q win : Int) (a : Option Addr) (c : Nat) (xs : List Rec) (hq : 0 ≤ q) (hq2 : q < 18446744073709551616) (hw1 : -9223372036854775808 ≤ win) (hw2 : win ≤ 9223372036854775807) (hl : xs.length ≤ 4096) (hs : ∀ x ∈ xs, RecFit x) (hn : ∀ x ∈ xs, x.name.size ≤ 65536 ∧ 0 ≤ x.inc ∧ 0 ≤ x.rate) (hr : Rd w a (rcf xs)) (hm : mayB q win xs = true) :
    Calls Try.prog 43 #[frv q win (.slice a xs.length c)] w (EncPost w q win xs) := by
  have hb0 : ∀ o, Below w.heap.size w (w.alloc o) := fun o => (Below.refl _ _).alloc (Nat.le_refl _) o
  have hc := fun o => rmay_any (w.alloc o) q win a c xs (by omega) (fun x hx => (hs x hx).1) (hr.below (hb0 o) (Nat.le_refl _)) hq
  rw [hm] at hc
  have HC := Lib.hid hc
  have HR := Lib.hid hr
  have HS := Lib.hid hs
  have HN := Lib.hid hn
  clear hs hr hm hc hn
  obtain ⟨qn, rfl⟩ := Int.eq_ofNat_of_zero_le hq
  have hqn : qn < 18446744073709551616 := by omega
  unfold frv at *
  go_enter Try.func43, Try.ntmps43
  go_wp2_with fail
  refine (HC.out _).mono ?_
  rintro e w1 ⟨rfl, hb1⟩
  have HB1 := Lib.hid ((hb0 _).trans (hb1.mono (by simp)))
  have hfr : w1.heap[w.heap.size]? = some (.cells #[.int .u64 qn, .int .i64 win, .slice a xs.length c] 38 (0, 0)) := (hb1.block w.heap.size (by simp)).trans (heap_alloc_new w _)
  have hgl : w.heap.size < w1.heap.size := by have := hb1.size; simp at this; omega
  clear hb1 hb0 HC
  have HFR := Lib.hid hfr
  have cf0 : w1.cell? ⟨w.heap.size, 0, none⟩ = some (.int .u64 qn) := by rw [cell_of_row _ _ _ _ _ _ hfr]; rfl
  clear hfr
  have hcv := conv_tag2 w1
  obtain ⟨l1, hl1⟩ : ∃ l, l = tagB ++ putU qn := ⟨_, rfl⟩
  obtain ⟨l2, hl2⟩ : ∃ l, l = l1 ++ putU (zig win) := ⟨_, rfl⟩
  obtain ⟨l3, hl3⟩ : ∃ l, l = l2 ++ putU xs.length := ⟨_, rfl⟩
  obtain ⟨p1, hp1⟩ : ∃ l, l = putU qn := ⟨_, rfl⟩
  obtain ⟨p2, hp2⟩ : ∃ l, l = putU (zig win) := ⟨_, rfl⟩
  obtain ⟨p3, hp3⟩ : ∃ l, l = putU xs.length := ⟨_, rfl⟩
  rw [← hp1] at hl1
  rw [← hp2] at hl2
  rw [← hp3] at hl3
  have hp1n : p1.length ≤ 10 := by rw [hp1]; exact putU_length _
  have hp1p : 0 < p1.length := by rw [hp1]; exact putU_pos _
  have hp2n : p2.length ≤ 10 := by rw [hp2]; exact putU_length _
  have hp3n : p3.length ≤ 10 := by rw [hp3]; exact putU_length _
  have hl1n : l1.length ≤ 14 := by rw [hl1]; simp [tagB]; omega
  have hl2n : l2.length ≤ 24 := by rw [hl2]; simp; omega
  have hl3n : l3.length ≤ 34 := by rw [hl3]; simp; omega
  have HL1 := Lib.hid hl1
  have HL2 := Lib.hid hl2
  have HL3 := Lib.hid hl3
  have HP1 := Lib.hid hp1
  have HP2 := Lib.hid hp2
  have HP3 := Lib.hid hp3
  clear hl1 hl2 hl3 hp1 hp2 hp3
  obtain ⟨i0, hi0, hz0, hz1, hz2⟩ := info_parts info_byte
  have hz : zig win < 18446744073709551616 := zig_lt win hw1 hw2
  have hll : xs.length < 18446744073709551616 := by omega
  have hwl : IntKind.u64.wrap (xs.length : Int) = (xs.length : Int) := by rw [IntKind.wrap_u64]; omega
  go_wp2_with fail
  refine (rput_own qn p1 _ HP1.out hqn).mono ?_
  rintro e w2 ⟨a2, c2, rfl, hc2, hm2, ha2, hr2, ho2, hb2⟩
  have HR2 := Lib.hid hr2
  have HA := Lib.hid (show App w2 w1.heap.size 5 1 (.slice (some ⟨w1.heap.size, 0, none⟩) 4 4) 4 (bv tagB) from App.below (w := w1.alloc (.cells #[.int .u8 79, .int .u8 68, .int .u8 79, .int .u8 1] 5 (4, 5))) (.inr ⟨rfl, _, rfl, fun j u hu => by
    have := Rd.new w1 #[.int .u8 79, .int .u8 68, .int .u8 79, .int .u8 1] 5 (4, 5) (bv tagB) (fun k v h => by simpa [bv, tagB] using h) j u hu
    obtain ⟨b, off, he, hc⟩ := this
    cases he
    rw [Addr.add_lit]
    exact hc⟩) hb2 (Nat.le_refl _))
  have HB2 := Lib.hid (show Below w1.heap.size w1 w2 from (((Below.refl _ w1).alloc (Nat.le_refl _) _).trans (hb2.mono (by simp))))
  clear hc2 hm2 ha2 hr2 ho2 hb2 cf0
  go_wp2_with (first
    | (at_builtin; refine step_append_rd w2 rfl _ _ 34 rfl w1.heap.size 5 i0 (.int .u8 0) 1 Try.underlying34 hi0 hz0 hz1 hz2 rfl _ _ (bv tagB) rfl HA.out _ _ _ (bv p1) rfl (bv_length p1).symm HR2.out (bv_one p1) hp1p ?a1 ?a2 HB2.out.size ?_)
    | fail)
  case a1 => unfold maxLen; omega
  case a2 => omega
  intro v3 w3 ho3 hb3
  have HE := Lib.hid (show EncO w1 l1 v3 w3 from ⟨by
    have e1 : l1.length = 4 + p1.length := by rw [HL1.out, List.length_append]; rfl
    have e2 : bv l1 = bv tagB ++ bv p1 := by rw [HL1.out]; simp [bv]
    rw [e1, e2]
    exact ho3, HB2.out.trans hb3⟩)
  clear ho3 hb3 HA HB2 HR2
  have cf1 : w3.cell? ⟨w.heap.size, 1, none⟩ = some (.int .i64 win) := by rw [cell_of_row _ _ _ _ _ _ ((HE.out.2.block _ hgl).trans HFR.out)]; rfl
  go_wp2_with fail
  refine (rsigned_any win _ hw1 hw2).mono ?_
  rintro e w4 ⟨rfl, rfl⟩
  go_wp2_with fail
  refine (rput_own (zig win) p2 _ HP2.out hz).mono ?_
  rintro e w5 ⟨a5, c5, rfl, hc5, hm5, ha5, hr5, ho5, hb5⟩
  have HE := Lib.hid (HE.out.below hb5)
  have HR5 := Lib.hid hr5
  clear hc5 hm5 ha5 hr5 ho5 hb5 cf1
  go_wp2_with (first
    | (at_builtin; refine enc_step rfl _ _ rfl w1 l1 l2 p2 _ rfl HE.out _ _ _ rfl rfl HR5.out HL2.out (by omega) ?_)
    | fail)
  intro v6 w6 he6
  have HE := Lib.hid he6
  have cf2 : w6.cell? ⟨w.heap.size, 2, none⟩ = some (.slice a xs.length c) := by rw [cell_of_row _ _ _ _ _ _ ((he6.2.block _ hgl).trans HFR.out)]; rfl
  clear he6 HR5
  go_wp2_with fail
  refine (rput_own xs.length p3 _ HP3.out hll).mono ?_
  rintro e w7 ⟨a7, c7, rfl, hc7, hm7, ha7, hr7, ho7, hb7⟩
  have HE := Lib.hid (HE.out.below hb7)
  have HR7 := Lib.hid hr7
  clear hc7 hm7 ha7 hr7 ho7 hb7 cf2
  go_wp2_with (first
    | (at_builtin; refine enc_step rfl _ _ rfl w1 l2 l3 p3 _ rfl HE.out _ _ _ rfl rfl HR7.out HL3.out (by omega) ?_)
    | fail)
  intro v8 w8 he8
  have HE := Lib.hid he8
  clear he8 HR7
  obtain ⟨L, hL⟩ : ∃ L : Nat → List UInt8, L = bodyB qn win xs := ⟨_, rfl⟩
  have h30 : l3 = L 0 := by rw [HL3.out, HL2.out, HL1.out, HP1.out, HP2.out, HP3.out, hL]; simp [bodyB, headB, List.append_assoc]
  have HLB := Lib.hid (fun k => show (L k).length ≤ 270000000 by rw [hL]; exact bodyB_length _ _ xs (fun x hx => (HN.out x hx).1) hl k)
  have HLS := Lib.hid (fun k (h : k < xs.length) => show L (k + 1) = L k ++ recB xs[k] by rw [hL]; exact bodyB_succ _ _ xs k h)
  have HLE := Lib.hid (show encB qn win xs = L xs.length ++ sum4 (sumOf (L xs.length)) by rw [hL]; rfl)
  have HI0 := Lib.hid (show EncO w1 (L 0) v8 w8 from h30 ▸ HE.out)
  clear hL h30 HL1 HL2 HL3 HP1 HP2 HP3 hl1n hl2n hl3n hp1n hp2n hp3n hp1p HE hz hqn hq hq2
  go_wp2
  go_loopw [4, 5] (fun v i wr => ∃ k : Nat, k ≤ xs.length ∧ i = .int .i64 k ∧ EncO w1 (L k) v wr) (fun _ i _ => xs.length - (intOf i).toNat)
  case atStart => exact ⟨0, by omega, rfl, HI0.out⟩
  case round =>
    obtain ⟨k, hk, rfl, he⟩ := hrel
    have cf2 : wr.cell? ⟨w.heap.size, 2, none⟩ = some (.slice a xs.length c) := by rw [cell_of_row _ _ _ _ _ _ ((he.2.block _ hgl).trans HFR.out)]; rfl
    have HE := Lib.hid he
    clear he HI0
    by_cases hlt : k < xs.length
    · have hlk := HLB.out k
      have hsk := HLS.out k hlt
      obtain ⟨b, off, rfl, hbl, hq⟩ := rec_cells (HR.out.below (HB1.out.trans (HE.out.2.mono HB1.out.size)) (Nat.le_refl _)) hlt
      have hfit := HS.out _ (List.getElem_mem hlt)
      have hnn := HN.out _ (List.getElem_mem hlt)
      generalize xs[k] = x at hq hfit hnn hsk
      obtain ⟨nm, wn, inc, rate, ov⟩ := x
      have q0 := hq 0 _ (by omega) rfl
      have q1 := hq 1 _ (by omega) rfl
      have q2 := hq 2 _ (by omega) rfl
      have q3 := hq 3 _ (by omega) rfl
      have q4 := hq 4 _ (by omega) rfl
      simp only [Nat.add_zero] at q0
      simp only [RecFit] at q0 q1 q2 q3 q4 hfit hnn
      obtain ⟨ni, rfl⟩ := Int.eq_ofNat_of_zero_le hnn.2.1
      obtain ⟨nr, rfl⟩ := Int.eq_ofNat_of_zero_le hnn.2.2
      have hn1 : ni < 18446744073709551616 := by omega
      have hn2 : nr < 18446744073709551616 := by omega
      have hnz : nm.size < 18446744073709551616 := by omega
      have hnz2 : nm.size ≤ 65536 := by omega
      obtain ⟨l, hl0⟩ : ∃ l, l = L k := ⟨_, rfl⟩
      rw [← hl0] at HE hlk hsk
      obtain ⟨pn, hpn⟩ : ∃ x, x = putU nm.size := ⟨_, rfl⟩
      obtain ⟨pi, hpi⟩ : ∃ x, x = putU ni := ⟨_, rfl⟩
      obtain ⟨pr, hpr⟩ : ∃ x, x = putU nr := ⟨_, rfl⟩
      obtain ⟨ln, hln1⟩ : ∃ x, x = l ++ pn := ⟨_, rfl⟩
      obtain ⟨lt, hlt1⟩ : ∃ x, x = ln ++ nm.data.toList := ⟨_, rfl⟩
      obtain ⟨lu, hlu1⟩ : ∃ x, x = lt ++ pi := ⟨_, rfl⟩
      obtain ⟨lv, hlv1⟩ : ∃ x, x = lu ++ pr := ⟨_, rfl⟩
      have hpnn : pn.length ≤ 10 := by rw [hpn]; exact putU_length _
      have hpin : pi.length ≤ 10 := by rw [hpi]; exact putU_length _
      have hprn : pr.length ≤ 10 := by rw [hpr]; exact putU_length _
      have hlnl : ln.length ≤ 270000010 := by rw [hln1, List.length_append]; omega
      have hltl : lt.length ≤ 280000000 := by
        have h2 : nm.data.toList.length = nm.size := rfl
        rw [hlt1, List.length_append]; omega
      have hlul : lu.length ≤ 280000010 := by rw [hlu1, List.length_append]; omega
      have hlvl : lv.length ≤ 280000020 := by rw [hlv1, List.length_append]; omega
      have HSK := Lib.hid (show L (k + 1) = lv ++ [if ov = true then 1 else 0] by
        rw [hsk, hlv1, hlu1, hlt1, hln1, hpn, hpi, hpr]
        simp [recB, List.append_assoc])
      have HT0 := Lib.hid hln1
      have HT1 := Lib.hid hlt1
      have HT2 := Lib.hid hlu1
      have HT3 := Lib.hid hlv1
      have HPN := Lib.hid hpn
      have HPI := Lib.hid hpi
      have HPR := Lib.hid hpr
      have hwi : IntKind.u64.wrap (ni : Int) = (ni : Int) := by rw [IntKind.wrap_u64]; omega
      have hwr : IntKind.u64.wrap (nr : Int) = (nr : Int) := by rw [IntKind.wrap_u64]; omega
      have hwn : IntKind.u64.wrap (nm.size : Int) = (nm.size : Int) := by rw [IntKind.wrap_u64]; omega
      clear hq hfit hnn hsk hl0 hln1 hlt1 hlu1 hlv1 hpn hpi hpr hwl
      have HE := Lib.hid (HE.out.alloc (.cells #[.string nm, .int .i64 wn, .int .i64 ni, .int .i64 nr, .bool ov] 70))
      have HG := Lib.hid (show RBox (wr.alloc (.cells #[.string nm, .int .i64 wn, .int .i64 ni, .int .i64 nr, .bool ov] 70)) wr.heap.size nm wn ni nr ov from heap_alloc_new _ _)
      go_wp2_with fail
      refine wp_region_noPanic ?_
      refine wp_region_held_drew (S := (fun w' => RBox w' wr.heap.size nm wn ni nr ov)) (by kernel_rfl) ?_ (fun hHeld => ?_)
      · exact HG.out
      have HE := Lib.hid HE.out.drew
      refine wpAnyH_take (i := 0) (oi := _) (v := ?_) rfl (by kernel_rfl) (by kernel_rfl) (by kernel_rfl) (fun _ _ _ h => h) (Or.inl ⟨by rfl, ?_⟩) (by assumption) ?_
      rotate_left 1
      · (intro w hSw; (try dsimp only at hSw); (have c0 := hSw.c0; have c2 := hSw.c2; have c3 := hSw.c3; go_simp); (try with_reducible rfl))
      try simp only [Act.put, List.getElem_toArray, List.getElem_cons_zero, List.setIfInBounds_toArray, List.set_cons_zero, List.set_cons_succ]
      refine wpAnyH_take (i := 1) (oi := _) (v := ?_) rfl (by kernel_rfl) (by kernel_rfl) (by kernel_rfl) (fun _ _ _ h => h) (Or.inl ⟨by rfl, ?_⟩) (by assumption) ?_
      rotate_left 1
      · (intro w hSw; (try dsimp only at hSw); (have c0 := hSw.c0; have c2 := hSw.c2; have c3 := hSw.c3; go_simp); (try with_reducible rfl))
      try simp only [Act.put, List.getElem_toArray, List.getElem_cons_succ, List.getElem_cons_zero, List.setIfInBounds_toArray, List.set_cons_zero, List.set_cons_succ]
      refine wpAnyH_take (i := 2) (oi := _) (v := ?_) rfl (by kernel_rfl) (by kernel_rfl) (by kernel_rfl) (fun _ _ _ h => h) (Or.inl ⟨by rfl, ?_⟩) (by assumption) ?_
      rotate_left 1
      · (intro w hSw; (try dsimp only at hSw); (have c0 := hSw.c0; have c2 := hSw.c2; have c3 := hSw.c3; go_simp); (try with_reducible rfl))
      try simp only [Act.put, List.getElem_toArray, List.getElem_cons_succ, List.getElem_cons_zero, List.setIfInBounds_toArray, List.set_cons_zero, List.set_cons_succ]
      refine wpAnyH_take (i := 3) (oi := _) (v := ?_) rfl (by kernel_rfl) (by kernel_rfl) (by kernel_rfl) (fun _ _ _ h => h) (Or.inl ⟨by rfl, ?_⟩) (by assumption) ?_
      rotate_left 1
      · (intro w hSw; (try dsimp only at hSw); (have c0 := hSw.c0; have c2 := hSw.c2; have c3 := hSw.c3; go_simp); (try with_reducible rfl))
      try simp only [Act.put, List.getElem_toArray, List.getElem_cons_succ, List.getElem_cons_zero, List.setIfInBounds_toArray, List.set_cons_zero, List.set_cons_succ]
      refine wpAnyH_take (i := 4) (oi := _) (v := ?_) rfl (by kernel_rfl) (by kernel_rfl) (by kernel_rfl) (fun _ _ _ h => h) (Or.inl ⟨by rfl, ?_⟩) (by assumption) ?_
      rotate_left 1
      · (intro w hSw; (try dsimp only at hSw); (have c0 := hSw.c0; have c2 := hSw.c2; have c3 := hSw.c3; go_simp); (try with_reducible rfl))
      try simp only [Act.put, List.getElem_toArray, List.getElem_cons_succ, List.getElem_cons_zero, List.setIfInBounds_toArray, List.set_cons_zero, List.set_cons_succ]
      refine wpAnyH_take (i := 7) (oi := _) (v := ?_) rfl (by kernel_rfl) (by kernel_rfl) (by kernel_rfl) (fun _ _ _ h => h) (Or.inl ⟨by rfl, ?_⟩) (by assumption) ?_
      rotate_left 1
      · (intro w hSw; (try dsimp only at hSw); (have c0 := hSw.c0; have c2 := hSw.c2; have c3 := hSw.c3; go_simp); (try with_reducible rfl))
      try simp only [Act.put, List.getElem_toArray, List.getElem_cons_succ, List.getElem_cons_zero, List.setIfInBounds_toArray, List.set_cons_zero, List.set_cons_succ]
      refine wpAnyH_take (i := 8) (oi := _) (v := ?_) rfl (by kernel_rfl) (by kernel_rfl) (by kernel_rfl) (fun _ _ _ h => h) (Or.inl ⟨by rfl, ?_⟩) (by assumption) ?_
      rotate_left 1
      · (intro w hSw; (try dsimp only at hSw); (have c0 := hSw.c0; have c2 := hSw.c2; have c3 := hSw.c3; go_simp); (try with_reducible rfl))
      try simp only [Act.put, List.getElem_toArray, List.getElem_cons_succ, List.getElem_cons_zero, List.setIfInBounds_toArray, List.set_cons_zero, List.set_cons_succ]
      refine wpAnyH_ready (rs := [5]) (by kernel_rfl) (by simp) ?_
      refine AllReadyH.cons (o := _) rfl (fun K hK => ?_) AllReadyH.nil
      go_simp
      refine (rput_own nm.size pn _ HPN.out hnz).mono ?_
      rintro e w' ⟨ap, cp, rfl, hcp, hmp, hap, hrp, hop, hbk⟩
      have HE := Lib.hid (HE.out.below hbk)
      have HR := Lib.hid hrp
      clear hcp hmp hap hop hrp
      go_wp2_with fail
      refine hK.out _ _ ?_ (fun hHeld5 => ?_)
      · exact hHeld.keep hbk
      clear hK K
      try simp only [Act.put, List.getElem_toArray, List.getElem_cons_succ, List.getElem_cons_zero, List.setIfInBounds_toArray, List.set_cons_zero, List.set_cons_succ]
      refine wpAnyH_ready (rs := [6]) (by kernel_rfl) (by simp) ?_
      refine AllReadyH.cons (o := _) rfl (fun K hK => ?_) AllReadyH.nil
      refine renc_append (by kernel_rfl) (.tmp 42) (.tmp 47) rfl w1 l ln pn _ rfl HE.out _ _ _ rfl rfl HR.out HT0.out (by omega) wr.heap.size _ _ _ _ _ hHeld5 ?_
      intro v' w' he' hg'
      have HE := Lib.hid he'
      clear he'
      refine hK.out _ _ ?_ (fun hHeld6 => ?_)
      · exact hg'
      clear hK K
      try simp only [Act.put, List.getElem_toArray, List.getElem_cons_succ, List.getElem_cons_zero, List.setIfInBounds_toArray, List.set_cons_zero, List.set_cons_succ]
      refine wpAnyH_ready (rs := [9]) (by kernel_rfl) (by simp) ?_
      refine AllReadyH.cons (o := _) rfl (fun K hK => ?_) AllReadyH.nil
      refine renc_str (by kernel_rfl) (.tmp 48) (.tmp 50) rfl w1 ln lt nm _ rfl HE.out rfl HT1.out (by omega) wr.heap.size _ _ _ _ _ hHeld6 ?_
      intro v' w' he' hg'
      have HE := Lib.hid he'
      clear he'
      refine hK.out _ _ ?_ (fun hHeld9 => ?_)
      · exact hg'
      clear hK K
      try simp only [Act.put, List.getElem_toArray, List.getElem_cons_succ, List.getElem_cons_zero, List.setIfInBounds_toArray, List.set_cons_zero, List.set_cons_succ]
      refine wpAnyH_take (i := 10) (oi := _) (v := ?_) rfl (by kernel_rfl) (by kernel_rfl) (by kernel_rfl) (fun _ _ _ h => h) (Or.inl ⟨by rfl, ?_⟩) (by assumption) ?_
      rotate_left 1
      · (intro w hSw; (try dsimp only at hSw); (have c0 := hSw.c0; have c2 := hSw.c2; have c3 := hSw.c3; go_simp); (try with_reducible rfl))
      try simp only [Act.put, List.getElem_toArray, List.getElem_cons_succ, List.getElem_cons_zero, List.setIfInBounds_toArray, List.set_cons_zero, List.set_cons_succ]
      refine wpAnyH_done (by kernel_rfl) ?_ _
      refine NoPanic.normal ?_
      have HG := Lib.hid hHeld9
      clear hHeld hHeld5 hHeld6 hHeld9
      go_wp2_with fail
      refine wp_region_noPanic ?_
      refine wp_region_held_drew (S := (fun w' => RBox w' wr.heap.size nm wn ni nr ov)) (by kernel_rfl) ?_ (fun hHeld => ?_)
      · exact HG.out
      have HE := Lib.hid HE.out.drew
      refine wpAnyH_take (i := 0) (oi := _) (v := ?_) rfl (by kernel_rfl) (by kernel_rfl) (by kernel_rfl) (fun _ _ _ h => h) (Or.inl ⟨by rfl, ?_⟩) (by assumption) ?_
      rotate_left 1
      · (intro w hSw; (try dsimp only at hSw); (have c0 := hSw.c0; have c2 := hSw.c2; have c3 := hSw.c3; go_simp); (try with_reducible rfl))
      try simp only [Act.put, List.getElem_toArray, List.getElem_cons_zero, List.setIfInBounds_toArray, List.set_cons_zero, List.set_cons_succ]
      refine wpAnyH_take (i := 1) (oi := _) (v := ?_) rfl (by kernel_rfl) (by kernel_rfl) (by kernel_rfl) (fun _ _ _ h => h) (Or.inl ⟨by rfl, ?_⟩) (by assumption) ?_
      rotate_left 1
      · (intro w hSw; (try dsimp only at hSw); (have c0 := hSw.c0; have c2 := hSw.c2; have c3 := hSw.c3; go_simp); (try with_reducible rfl))
      try simp only [Act.put, List.getElem_toArray, List.getElem_cons_succ, List.getElem_cons_zero, List.setIfInBounds_toArray, List.set_cons_zero, List.set_cons_succ]
      refine wpAnyH_take (i := 2) (oi := _) (v := ?_) rfl (by kernel_rfl) (by kernel_rfl) (by kernel_rfl) (fun _ _ _ h => h) (Or.inl ⟨by rfl, ?_⟩) (by assumption) ?_
      rotate_left 1
      · (intro w hSw; (try dsimp only at hSw); (have c0 := hSw.c0; have c2 := hSw.c2; have c3 := hSw.c3; go_simp); (try with_reducible rfl))
      try simp only [Act.put, List.getElem_toArray, List.getElem_cons_succ, List.getElem_cons_zero, List.setIfInBounds_toArray, List.set_cons_zero, List.set_cons_succ]
      refine wpAnyH_take (i := 3) (oi := _) (v := ?_) rfl (by kernel_rfl) (by kernel_rfl) (by kernel_rfl) (fun _ _ _ h => h) (Or.inl ⟨by rfl, ?_⟩) (by assumption) ?_
      rotate_left 1
      · (intro w hSw; (try dsimp only at hSw); (have c0 := hSw.c0; have c2 := hSw.c2; have c3 := hSw.c3; go_simp); (try with_reducible rfl))
      try simp only [Act.put, List.getElem_toArray, List.getElem_cons_succ, List.getElem_cons_zero, List.setIfInBounds_toArray, List.set_cons_zero, List.set_cons_succ]
      refine wpAnyH_take (i := 6) (oi := _) (v := ?_) rfl (by kernel_rfl) (by kernel_rfl) (by kernel_rfl) (fun _ _ _ h => h) (Or.inl ⟨by rfl, ?_⟩) (by assumption) ?_
      rotate_left 1
      · (intro w hSw; (try dsimp only at hSw); (have c0 := hSw.c0; have c2 := hSw.c2; have c3 := hSw.c3; go_simp); (try with_reducible rfl))
      try simp only [Act.put, List.getElem_toArray, List.getElem_cons_succ, List.getElem_cons_zero, List.setIfInBounds_toArray, List.set_cons_zero, List.set_cons_succ]
      refine wpAnyH_take (i := 7) (oi := _) (v := ?_) rfl (by kernel_rfl) (by kernel_rfl) (by kernel_rfl) (fun _ _ _ h => h) (Or.inl ⟨by rfl, ?_⟩) (by assumption) ?_
      rotate_left 1
      · (intro w hSw; (try dsimp only at hSw); (have c0 := hSw.c0; have c2 := hSw.c2; have c3 := hSw.c3; go_simp); (try with_reducible rfl))
      try simp only [Act.put, List.getElem_toArray, List.getElem_cons_succ, List.getElem_cons_zero, List.setIfInBounds_toArray, List.set_cons_zero, List.set_cons_succ]
      refine wpAnyH_take (i := 8) (oi := _) (v := ?_) rfl (by kernel_rfl) (by kernel_rfl) (by kernel_rfl) (fun _ _ _ h => h) (Or.inl ⟨by rfl, ?_⟩) (by assumption) ?_
      rotate_left 1
      · (intro w hSw; (try dsimp only at hSw); (have c0 := hSw.c0; have c2 := hSw.c2; have c3 := hSw.c3; go_simp); (try with_reducible rfl))
      try simp only [Act.put, List.getElem_toArray, List.getElem_cons_succ, List.getElem_cons_zero, List.setIfInBounds_toArray, List.set_cons_zero, List.set_cons_succ]
      refine wpAnyH_ready (rs := [4]) (by kernel_rfl) (by simp) ?_
      refine AllReadyH.cons (o := _) rfl (fun K hK => ?_) AllReadyH.nil
      go_simp
      refine (rput_own ni pi _ HPI.out hn1).mono ?_
      rintro e w' ⟨ap, cp, rfl, hcp, hmp, hap, hrp, hop, hbk⟩
      have HE := Lib.hid (HE.out.below hbk)
      have HR := Lib.hid hrp
      clear hcp hmp hap hop hrp
      go_wp2_with fail
      refine hK.out _ _ ?_ (fun hHeld4 => ?_)
      · exact hHeld.keep hbk
      clear hK K
      try simp only [Act.put, List.getElem_toArray, List.getElem_cons_succ, List.getElem_cons_zero, List.setIfInBounds_toArray, List.set_cons_zero, List.set_cons_succ]
      refine wpAnyH_ready (rs := [5]) (by kernel_rfl) (by simp) ?_
      refine AllReadyH.cons (o := _) rfl (fun K hK => ?_) AllReadyH.nil
      refine renc_append (by kernel_rfl) (.tmp 52) (.tmp 56) rfl w1 lt lu pi _ rfl HE.out _ _ _ rfl rfl HR.out HT2.out (by omega) wr.heap.size _ _ _ _ _ hHeld4 ?_
      intro v' w' he' hg'
      have HE := Lib.hid he'
      clear he'
      refine hK.out _ _ ?_ (fun hHeld5 => ?_)
      · exact hg'
      clear hK K
      try simp only [Act.put, List.getElem_toArray, List.getElem_cons_succ, List.getElem_cons_zero, List.setIfInBounds_toArray, List.set_cons_zero, List.set_cons_succ]
      refine wpAnyH_ready (rs := [9]) (by kernel_rfl) (by simp) ?_
      refine AllReadyH.cons (o := _) rfl (fun K hK => ?_) AllReadyH.nil
      go_simp
      refine (rput_own nr pr _ HPR.out hn2).mono ?_
      rintro e w' ⟨ap, cp, rfl, hcp, hmp, hap, hrp, hop, hbk⟩
      have HE := Lib.hid (HE.out.below hbk)
      have HR := Lib.hid hrp
      clear hcp hmp hap hop hrp
      go_wp2_with fail
      refine hK.out _ _ ?_ (fun hHeld9 => ?_)
      · exact hHeld5.keep hbk
      clear hK K
      try simp only [Act.put, List.getElem_toArray, List.getElem_cons_succ, List.getElem_cons_zero, List.setIfInBounds_toArray, List.set_cons_zero, List.set_cons_succ]
      refine wpAnyH_ready (rs := [10]) (by kernel_rfl) (by simp) ?_
      refine AllReadyH.cons (o := _) rfl (fun K hK => ?_) AllReadyH.nil
      refine renc_append (by kernel_rfl) (.tmp 57) (.tmp 61) rfl w1 lu lv pr _ rfl HE.out _ _ _ rfl rfl HR.out HT3.out (by omega) wr.heap.size _ _ _ _ _ hHeld9 ?_
      intro v' w' he' hg'
      have HE := Lib.hid he'
      clear he'
      refine hK.out _ _ ?_ (fun hHeld10 => ?_)
      · exact hg'
      clear hK K
      try simp only [Act.put, List.getElem_toArray, List.getElem_cons_succ, List.getElem_cons_zero, List.setIfInBounds_toArray, List.set_cons_zero, List.set_cons_succ]
      refine wpAnyH_take (i := 11) (oi := _) (v := ?_) rfl (by kernel_rfl) (by kernel_rfl) (by kernel_rfl) (fun _ _ _ h => h) (Or.inl ⟨by rfl, ?_⟩) (by assumption) ?_
      rotate_left 1
      · (intro w hSw; (try dsimp only at hSw); (have c0 := hSw.c0; have c2 := hSw.c2; have c3 := hSw.c3; go_simp); (try with_reducible rfl))
      try simp only [Act.put, List.getElem_toArray, List.getElem_cons_succ, List.getElem_cons_zero, List.setIfInBounds_toArray, List.set_cons_zero, List.set_cons_succ]
      refine wpAnyH_done (by kernel_rfl) ?_ _
      refine NoPanic.normal ?_
      have HG := Lib.hid hHeld10
      clear hHeld hHeld4 hHeld5 hHeld9 hHeld10
      have c4 := HG.out.c4
      have HEF := HE
      have hgl2 : wr.heap.size < w'.heap.size := (Array.getElem?_eq_some_iff.1 HG.out).1
      clear q0 q1 q2 q3 q4 cf2
      cases ov with
      | false =>
        have HEG := Lib.hid (HEF.out.alloc (.cells #[.int .u8 0] 5))
        have HR := Lib.hid (show Rd (w'.alloc (.cells #[.int .u8 0] 5)) (some ⟨w'.heap.size, 0, none⟩) (bv [0]) from Rd.new _ _ _ _ _ (fun k v h => by simpa [bv] using h))
        have HK := Lib.hid (show L (k + 1) = lv ++ [0] from HSK.out)
        have HKL := Lib.hid (show (L (k + 1)).length ≤ 140737488355328 by have := HLB.out (k + 1); omega)
        go_wp2_with (first
          | (at_builtin; refine enc_step rfl _ _ rfl w1 lv (L (k + 1)) [0] _ rfl HEG.out _ _ _ rfl rfl HR.out HK.out HKL.out ?_)
          | fail)
        intro v9 w9 he9
        have HEH := Lib.hid he9
        clear he9
        go_wp2
        go_roundw
        case rel => exact ⟨k + 1, by omega, by go_num, HEH.out⟩
        case measure => simp [intOf]; omega
      | true =>
        have HEG := Lib.hid (HEF.out.alloc (.cells #[.int .u8 1] 5))
        have HR := Lib.hid (show Rd (w'.alloc (.cells #[.int .u8 1] 5)) (some ⟨w'.heap.size, 0, none⟩) (bv [1]) from Rd.new _ _ _ _ _ (fun k v h => by simpa [bv] using h))
        have HK := Lib.hid (show L (k + 1) = lv ++ [1] from HSK.out)
        have HKL := Lib.hid (show (L (k + 1)).length ≤ 140737488355328 by have := HLB.out (k + 1); omega)
        go_wp2_with (first
          | (at_builtin; refine enc_step rfl _ _ rfl w1 lv (L (k + 1)) [1] _ rfl HEG.out _ _ _ rfl rfl HR.out HK.out HKL.out ?_)
          | fail)
        intro v9 w9 he9
        have HEH := Lib.hid he9
        clear he9
        go_wp2
        go_roundw
        case rel => exact ⟨k + 1, by omega, by go_num, HEH.out⟩
        case measure => simp [intOf]; omega
    · obtain rfl : k = xs.length := by omega
      have hll2 := HLB.out xs.length
      have HEE := Lib.hid HLE.out
      obtain ⟨l, hl0⟩ : ∃ l, l = L xs.length := ⟨_, rfl⟩
      rw [← hl0] at HE hll2 HEE
      clear hl0 HLE HLS HLB
      have HEF := HE
      obtain ⟨av, cv, rfl, _, _, _, hrv⟩ := own_slice HEF.out.1
      obtain ⟨s4, hs4⟩ : ∃ s, s = sum4 (sumOf l) := ⟨_, rfl⟩
      have hs4n : s4.length = 4 := by rw [hs4]; rfl
      obtain ⟨le, hle⟩ : ∃ s, s = l ++ s4 := ⟨_, rfl⟩
      have hlen : le.length ≤ 140737488355328 := by rw [hle, List.length_append]; omega
      have HLE := Lib.hid hle
      have HEL := Lib.hid (show encB qn win xs = le by rw [HEE.out, hle, hs4])
      have HRV := Lib.hid hrv
      have HS4 := Lib.hid hs4
      clear hle hrv hs4 HEE
      go_wp2_with fail
      refine (rsum4_any av cv l _ (by omega) HRV.out).mono ?_
      rintro e w9 ⟨rfl, hr9, hb9⟩
      rw [← HS4.out] at hr9
      have HEG := Lib.hid (HEF.out.below hb9)
      have HR9 := Lib.hid hr9
      have HS44 := Lib.hid (show 4 = s4.length from hs4n.symm)
      clear hr9 hb9
      go_wp2_with (first
        | (at_builtin; refine enc_step rfl _ _ rfl w1 l le s4 _ rfl HEG.out _ _ _ rfl HS44.out HR9.out HLE.out hlen ?_)
        | fail)
      intro v10 w10 he10
      have HEH := Lib.hid he10
      clear he10
      go_wp2
      go_ret2
      refine ⟨v10, rfl, ?_, HB1.out.trans (HEH.out.2.mono HB1.out.size)⟩
      rw [HEL.out]
      exact own_base HEH.out.1 HB1.out.size
end Go.Proofs.Ytdomnjakhecbaaa
