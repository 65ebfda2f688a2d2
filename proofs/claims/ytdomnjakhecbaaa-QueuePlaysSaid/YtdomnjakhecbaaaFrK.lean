/- The walk over frame.Encode. -/
import Derived.Lib.SlBytesConst
import Derived.Test.YtdomnjakhecbaaaFrP
namespace Go.Proofs.Ytdomnjakhecbaaa
open Go.RowKit K
set_option maxHeartbeats 1000000 in
theorem encode_no (w : World) (q win : Int) (a : Option Addr) (c : Nat) (xs : List Rec) (hl : xs.length ≤ 9223372036854775807) (hs : ∀ x ∈ xs, x.name.size ≤ 140737488355328) (hr : Rd w a (rcf xs)) (hm : mayB q win xs = false) :
    Calls Try.prog 33 #[frv q win (.slice a xs.length c)] w fun e w' => e = .returned (.tuple #[.slice none 0 0, .int .i64 2]) ∧ Below w.heap.size w w' := by
  have hb0 : ∀ o, Below w.heap.size w (w.alloc o) := fun o => (Below.refl _ _).alloc (Nat.le_refl _) o
  have hc := fun o => may_any (w.alloc o) q win a c xs hl hs (hr.below (hb0 o) (Nat.le_refl _))
  rw [hm] at hc
  have HC := Lib.hid hc
  clear hs hr hm hc
  unfold frv at *
  go_enter Try.func33, Try.ntmps33
  go_wp2_with fail
  refine (HC.out _).mono ?_
  rintro e w2 ⟨rfl, hb2⟩
  have HB := Lib.hid ((hb0 _).trans (hb2.mono (by simp)))
  clear hb2 hb0
  go_wp2
  go_ret2
  exact ⟨rfl, HB.out⟩
theorem conv_tag (w : World) : Sem.run Try.prog (convert 34 34 (.slice (some ⟨w.heap.size, 0, none⟩) 4 4)) ((w.alloc (.cells #[.int .u8 79, .int .u8 68, .int .u8 79, .int .u8 1] 5)).drew) = .ok (.slice (some ⟨w.heap.size, 0, none⟩) 4 4) ((w.alloc (.cells #[.int .u8 79, .int .u8 68, .int .u8 79, .int .u8 1] 5 (4, 5))).drew) :=
  Lib.run_convert_bytes_const (P := Try.prog) w.drew 34 5 #[.int .u8 79, .int .u8 68, .int .u8 79, .int .u8 1] 4 4 Try.underlying34 Try.underlying5
/-- A row of bytes behind so many rounds. -/
def EncI (w1 : World) (l : List UInt8) (v : Value) (wr : World) : Prop :=
  ∃ a c, v = .slice a l.length c ∧ l.length ≤ c ∧ c ≤ 9223372036854775807 ∧ (a = none → c = 0) ∧ Rd wr a (bv l) ∧ wr.ownsRow w1.heap.size 5 1 v l.length (bv l) ∧ Below w1.heap.size w1 wr
theorem EncI.of_own {w1 wr : World} {l : List UInt8} {v : Value} (h : wr.ownsRow w1.heap.size 5 1 v l.length (bv l)) (hb : Below w1.heap.size w1 wr) : EncI w1 l v wr := by
  obtain ⟨a, c, rfl, h1, h2, h3, h4⟩ := own_slice h
  exact ⟨a, c, rfl, h1, h2, h3, h4, h, hb⟩
theorem u8_ofNat (n : Nat) : ((n : Int) % 256) = ((UInt8.ofNat n).toNat : Int) := by simp
def EncPost (w : World) (q win : Int) (xs : List Rec) (e : Ending) (w' : World) : Prop :=
  ∃ v, e = .returned (.tuple #[v, .int .i64 0]) ∧ w'.ownsRow w.heap.size 5 1 v (encB q win xs).length (bv (encB q win xs)) ∧ Below w.heap.size w w'
set_option maxHeartbeats 4000000 in
set_option maxRecDepth 100000 in
theorem encode_yes (w : World) (q win : Int) (a : Option Addr) (c : Nat) (xs : List Rec) (hq : 0 ≤ q) (hq2 : q < 18446744073709551616) (hw1 : -9223372036854775808 ≤ win) (hw2 : win ≤ 9223372036854775807) (hl : xs.length ≤ 4096) (hs : ∀ x ∈ xs, RecFit x) (hn : ∀ x ∈ xs, x.name.size ≤ 65536 ∧ 0 ≤ x.inc ∧ 0 ≤ x.rate) (hr : Rd w a (rcf xs)) (hm : mayB q win xs = true) :
    Calls Try.prog 33 #[frv q win (.slice a xs.length c)] w (EncPost w q win xs) := by
  have hb0 : ∀ o, Below w.heap.size w (w.alloc o) := fun o => (Below.refl _ _).alloc (Nat.le_refl _) o
  have hc := fun o => may_any (w.alloc o) q win a c xs (by omega) (fun x hx => (hs x hx).1) (hr.below (hb0 o) (Nat.le_refl _))
  rw [hm] at hc
  have HC := Lib.hid hc
  have HR := Lib.hid hr
  have HS := Lib.hid hs
  have HN := Lib.hid hn
  clear hs hr hm hc hn
  obtain ⟨qn, rfl⟩ := Int.eq_ofNat_of_zero_le hq
  unfold frv at *
  go_enter Try.func33, Try.ntmps33
  go_wp2_with fail
  refine (HC.out _).mono ?_
  rintro e w1 ⟨rfl, hb1⟩
  have HB1 := Lib.hid ((hb0 _).trans (hb1.mono (by simp)))
  have hfr : w1.heap[w.heap.size]? = some (.cells #[.int .u64 qn, .int .i64 win, .slice a xs.length c] 38 (0, 0)) := (hb1.block w.heap.size (by simp)).trans (heap_alloc_new w _)
  have hgl : w.heap.size < w1.heap.size := by have := hb1.size; simp at this; omega
  clear hb1 hb0 HC
  have HFR := Lib.hid hfr
  have cf0 : w1.cell? ⟨w.heap.size, 0, none⟩ = some (.int .u64 qn) := by rw [cell_of_row _ _ _ _ _ _ hfr]; rfl
  have cf1 : w1.cell? ⟨w.heap.size, 1, none⟩ = some (.int .i64 win) := by rw [cell_of_row _ _ _ _ _ _ hfr]; rfl
  clear hfr
  go_wp2_with fail
  obtain ⟨l1, hl1⟩ : ∃ l, l = tagB ++ putU qn := ⟨_, rfl⟩
  have hl1n : l1.length ≤ 14 := by rw [hl1]; have := putU_length qn; simp [tagB]; omega
  obtain ⟨l2, hl2⟩ : ∃ l, l = l1 ++ putU (zig win) := ⟨_, rfl⟩
  have hl2n : l2.length ≤ 24 := by rw [hl2]; have := putU_length (zig win); simp; omega
  have HL1 := Lib.hid hl1
  have HL2 := Lib.hid hl2
  clear hl1 hl2
  have hp1 := fun W b (h3 : K.Rd W (some b) (K.bv tagB)) => putU_to (some b) 4 tagB qn l1 HL1.out W (by omega) (by decide) (by omega) (by show 4 ≤ _; omega) (fun h => by cases h) h3
  have HP1 := Lib.hid hp1
  clear hp1
  have hcv := conv_tag w1
  refine wp_region_noPanic ?_
  refine wp_region_held_drew (S := (fun w' => w'.cell? ⟨w.heap.size, 0, none⟩ = some (.int .u64 qn) ∧ w'.cell? ⟨w.heap.size, 1, none⟩ = some (.int .i64 win))) (by kernel_rfl) ?_ (fun hHeld => ?_)
  · exact ⟨cf0, cf1⟩
  have hh := hHeld.1
  have hh2 := hHeld.2
  refine wpAnyH_take (i := 2) (oi := _) (v := ?_) rfl (by kernel_rfl) (by kernel_rfl) (by kernel_rfl) (fun _ _ _ h => h) (Or.inl ⟨by rfl, ?_⟩) (by assumption) ?_
  rotate_left 1
  · (intro w hSw; (try dsimp only at hSw); go_simp; (try with_reducible rfl))
  try simp only [Act.put, List.getElem_toArray, List.getElem_cons_succ, List.getElem_cons_zero, List.setIfInBounds_toArray, List.set_cons_zero, List.set_cons_succ]
  refine wpAnyH_take (i := 3) (oi := _) (v := ?_) rfl (by kernel_rfl) (by kernel_rfl) (by kernel_rfl) (fun _ _ _ h => h) (Or.inl ⟨by rfl, ?_⟩) (by assumption) ?_
  rotate_left 1
  · (intro w hSw; (try dsimp only at hSw); go_simp; (try with_reducible rfl))
  try simp only [Act.put, List.getElem_toArray, List.getElem_cons_succ, List.getElem_cons_zero, List.setIfInBounds_toArray, List.set_cons_zero, List.set_cons_succ]
  refine wpAnyH_take (i := 5) (oi := _) (v := ?_) rfl (by kernel_rfl) (by kernel_rfl) (by kernel_rfl) (fun _ _ _ h => h) (Or.inl ⟨by rfl, ?_⟩) (by assumption) ?_
  rotate_left 1
  · (intro w hSw; (try dsimp only at hSw); go_simp; (try with_reducible rfl))
  try simp only [Act.put, List.getElem_toArray, List.getElem_cons_succ, List.getElem_cons_zero, List.setIfInBounds_toArray, List.set_cons_zero, List.set_cons_succ]
  refine wpAnyH_take (i := 6) (oi := _) (v := ?_) rfl (by kernel_rfl) (by kernel_rfl) (by kernel_rfl) (fun _ _ _ h => h) (Or.inl ⟨by rfl, ?_⟩) (by assumption) ?_
  rotate_left 1
  · (intro w hSw; (try dsimp only at hSw); go_simp; (try with_reducible rfl))
  try simp only [Act.put, List.getElem_toArray, List.getElem_cons_succ, List.getElem_cons_zero, List.setIfInBounds_toArray, List.set_cons_zero, List.set_cons_succ]
  refine wpAnyH_ready (rs := [0]) (by kernel_rfl) (by simp) ?_
  refine AllReadyH.cons (o := _) rfl (fun K hK => ?_) AllReadyH.nil
  go_simp
  refine hK.out _ _ ?_ (fun hHeld0 => ?_)
  · go_keep
  clear hK K
  try simp only [Act.put, List.getElem_toArray, List.getElem_cons_succ, List.getElem_cons_zero, List.setIfInBounds_toArray, List.set_cons_zero, List.set_cons_succ]
  refine wpAnyH_ready (rs := [1]) (by kernel_rfl) (by simp) ?_
  refine AllReadyH.cons (o := _) rfl (fun K hK => ?_) AllReadyH.nil
  go_simp
  refine hK.out _ _ ?_ (fun hHeld1 => ?_)
  · go_keep
  clear hK K
  try simp only [Act.put, List.getElem_toArray, List.getElem_cons_succ, List.getElem_cons_zero, List.setIfInBounds_toArray, List.set_cons_zero, List.set_cons_succ]
  refine wpAnyH_ready (rs := [4]) (by kernel_rfl) (by simp) ?_
  refine AllReadyH.cons (o := _) rfl (fun K hK => ?_) AllReadyH.nil
  go_simp
  refine (HP1.out _ _ (by exact Rd.new _ _ _ _ _ (fun k v h => by simpa [bv, tagB] using h))).mono ?_
  rintro e w' ⟨a1, c1, rfl, hc1, hm1, ha1, hr1, ho1, hbk⟩
  have hbk1 := hbk
  go_wp2_with fail
  refine hK.out _ _ ?_ (fun hHeld4 => ?_)
  · exact ⟨keepc hbk hHeld1.1, keepc hbk hHeld1.2⟩
  clear hK K
  try simp only [Act.put, List.getElem_toArray, List.getElem_cons_succ, List.getElem_cons_zero, List.setIfInBounds_toArray, List.set_cons_zero, List.set_cons_succ]
  refine wpAnyH_ready (rs := [7]) (by kernel_rfl) (by simp) ?_
  refine AllReadyH.cons (o := _) rfl (fun K hK => ?_) AllReadyH.nil
  go_simp
  refine (putV_to a1 c1 l1 win l2 HL2.out _ hw1 hw2 hc1 hm1 (by omega) ha1 (by exact hr1)).mono ?_
  rintro e w' ⟨a2, c2, rfl, hc2, hm2, ha2, hr2, ho2, hbk⟩
  go_wp2_with fail
  refine hK.out _ _ ?_ (fun hHeld7 => ?_)
  · exact ⟨keepc hbk hHeld4.1, keepc hbk hHeld4.2⟩
  clear hK K
  try simp only [Act.put, List.getElem_toArray, List.getElem_cons_succ, List.getElem_cons_zero, List.setIfInBounds_toArray, List.set_cons_zero, List.set_cons_succ]
  refine wpAnyH_take (i := 8) (oi := _) (v := ?_) rfl (by kernel_rfl) (by kernel_rfl) (by kernel_rfl) (fun _ _ _ h => h) (Or.inl ⟨by rfl, ?_⟩) (by assumption) ?_
  rotate_left 1
  · (intro w hSw; (try dsimp only at hSw); go_simp; (try with_reducible rfl))
  try simp only [Act.put, List.getElem_toArray, List.getElem_cons_succ, List.getElem_cons_zero, List.setIfInBounds_toArray, List.set_cons_zero, List.set_cons_succ]
  refine wpAnyH_done (by kernel_rfl) ?_ _
  refine NoPanic.normal ?_
  clear hh hh2 hHeld hHeld0 hHeld1 hHeld4 hHeld7
  clear hcv cf0 cf1 HP1
  have hB2 : Below w1.heap.size w1 w' := ((((Below.refl _ w1).alloc (Nat.le_refl _) _).drew).trans (hbk1.mono (by simp))).trans (hbk.mono (by have := hbk1.size; simp at this; omega))
  clear hr1 ho1 hbk1 hbk
  have cf2 : w'.cell? ⟨w.heap.size, 2, none⟩ = some (.slice a xs.length c) := by rw [cell_of_row _ _ _ _ _ _ ((hB2.block _ hgl).trans HFR.out)]; rfl
  obtain ⟨L, hL⟩ : ∃ L : Nat → List UInt8, L = bodyB qn win xs := ⟨_, rfl⟩
  obtain ⟨l3, hl3⟩ : ∃ l, l = l2 ++ putU xs.length := ⟨_, rfl⟩
  have h30 : l3 = L 0 := by rw [hl3, HL2.out, HL1.out, hL]; simp [bodyB, headB, List.append_assoc]
  have HL3 := Lib.hid hl3
  have HLB := Lib.hid (fun k => show (L k).length ≤ 270000000 by rw [hL]; exact bodyB_length _ _ xs (fun x hx => (HN.out x hx).1) hl k)
  have HLS := Lib.hid (fun k (h : k < xs.length) => show L (k + 1) = L k ++ recB xs[k] by rw [hL]; exact bodyB_succ _ _ xs k h)
  have HLE := Lib.hid (show encB qn win xs = L xs.length ++ sum4 (sumOf (L xs.length)) by rw [hL]; rfl)
  have H30 := Lib.hid h30
  clear hl3 hL h30 HL1 HL2 hl1n hc1 hm1 ha1
  go_wp2_with fail
  refine (putU_to a2 c2 l2 xs.length l3 HL3.out _ (by omega) hc2 hm2 (by omega) ha2 hr2).mono ?_
  rintro e w3 ⟨a3, c3, rfl, hc3, hm3, ha3, hr3, ho3, hb3⟩
  have hB3 : Below w1.heap.size w1 w3 := hB2.trans (hb3.mono hB2.size)
  have cf3 : w3.cell? ⟨w.heap.size, 2, none⟩ = some (.slice a xs.length c) := keepc hb3 cf2
  rw [H30.out] at hr3 ho3
  have HI0 := Lib.hid (show EncI w1 (L 0) (.slice a3 (L 0).length c3) w3 from EncI.of_own (own_base ho3 hB2.size) hB3)
  rw [← H30.out] at HI0
  clear hr3 ho3 hb3 hr2 ho2 hB2 cf2 ha2 hc2 hm2 ha3 HL3
  go_wp2
  go_loopw [4, 29] (fun v i wr => ∃ k : Nat, k ≤ xs.length ∧ i = .int .i64 k ∧ EncI w1 (L k) v wr) (fun _ i _ => xs.length - (intOf i).toNat)
  case atStart => exact ⟨0, by omega, rfl, by rw [← H30.out]; exact HI0.out⟩
  case round =>
    obtain ⟨k, hk, rfl, av, cv, rfl, hcv, hmv, hav, hrv, hov, hbv⟩ := hrel
    by_cases hlt : k < xs.length
    · have hlk := HLB.out k
      have hsk := HLS.out k hlt
      obtain ⟨b, off, rfl, hbl, hq⟩ := rec_cells (HR.out.below (HB1.out.trans (hbv.mono HB1.out.size)) (Nat.le_refl _)) hlt
      have hfit := HS.out _ (List.getElem_mem hlt)
      have hnn := HN.out _ (List.getElem_mem hlt)
      generalize xs[k] = x at hq hfit hnn hsk
      obtain ⟨nm, wn, inc, rate, ov⟩ := x
      have q0 := hq 0 _ (by omega) rfl
      have q1 := hq 1 _ (by omega) rfl
      have q2 := hq 2 _ (by omega) rfl
      have q3 := hq 3 _ (by omega) rfl
      have q4 := hq 4 _ (by omega) rfl
      simp only [Nat.add_zero] at q0
      simp only [RecFit] at q0 q1 q2 q3 q4 hfit hnn
      obtain ⟨ni, rfl⟩ := Int.eq_ofNat_of_zero_le hnn.2.1
      obtain ⟨nr, rfl⟩ := Int.eq_ofNat_of_zero_le hnn.2.2
      have hn1 : ni < 18446744073709551616 := by omega
      have hn2 : nr < 18446744073709551616 := by omega
      have hnz : nm.size ≤ 35184372088832 := by omega
      have hnz2 : nm.size ≤ 65536 := by omega
      obtain ⟨l, hl0⟩ : ∃ l, l = L k := ⟨_, rfl⟩
      rw [← hl0] at hcv hrv hov hlk hsk ⊢
      obtain ⟨lt, hlt1⟩ : ∃ x, x = l ++ putU nm.size ++ nm.data.toList := ⟨_, rfl⟩
      obtain ⟨lu, hlu1⟩ : ∃ x, x = lt ++ putU ni := ⟨_, rfl⟩
      obtain ⟨lv, hlv1⟩ : ∃ x, x = lu ++ putU nr := ⟨_, rfl⟩
      have hltl : lt.length ≤ 280000000 := by
        rw [hlt1]
        have h1 := putU_length nm.size
        have h2 : nm.data.toList.length = nm.size := rfl
        simp only [List.length_append]
        omega
      have hlul : lu.length ≤ 280000010 := by rw [hlu1, List.length_append]; have := putU_length ni; omega
      have hlvl : lv.length ≤ 280000020 := by rw [hlv1, List.length_append]; have := putU_length nr; omega
      have HSK := Lib.hid (show L (k + 1) = lv ++ [if ov = true then 1 else 0] by
        rw [hsk, hlv1, hlu1, hlt1]
        simp [recB, List.append_assoc])
      have HT1 := Lib.hid hlt1
      have HT2 := Lib.hid hlu1
      have HT3 := Lib.hid hlv1
      have HBV := Lib.hid hbv
      have hwi : IntKind.u64.wrap (ni : Int) = (ni : Int) := by rw [IntKind.wrap_u64]; omega
      have hwr : IntKind.u64.wrap (nr : Int) = (nr : Int) := by rw [IntKind.wrap_u64]; omega
      have hrw := fun (o : Obj) => show Rd (wr.alloc o) av (bv l) from hrv.below ((Below.refl _ _).alloc (Nat.le_refl _) o) (Nat.le_refl _)
      clear hq hfit hnn hsk hl0 hlt1 hlu1 hlv1 hbv hov hrv hq2 hw1 hw2 HI0 H30 cf3
      go_wp2_with fail
      refine wp_region_noPanic ?_
      refine wp_region_held_drew (S := (fun w' => w'.cell? ⟨wr.heap.size, 0, none⟩ = some (.string nm) ∧ w'.cell? ⟨wr.heap.size, 2, none⟩ = some (.int .i64 ni) ∧ w'.cell? ⟨wr.heap.size, 3, none⟩ = some (.int .i64 nr) ∧ w'.cell? ⟨wr.heap.size, 4, none⟩ = some (.bool ov))) (by kernel_rfl) ?_ (fun hHeld => ?_)
      · exact ⟨by simp, by simp, by simp, by simp⟩
      refine wpAnyH_take (i := 0) (oi := _) (v := ?_) rfl (by kernel_rfl) (by kernel_rfl) (by kernel_rfl) (fun _ _ _ h => h) (Or.inl ⟨by rfl, ?_⟩) (by assumption) ?_
      rotate_left 1
      · (intro w hSw; (try dsimp only at hSw); go_simp; (try with_reducible rfl))
      try simp only [Act.put, List.getElem_toArray, List.getElem_cons_zero, List.setIfInBounds_toArray, List.set_cons_zero, List.set_cons_succ]
      refine wpAnyH_take (i := 1) (oi := _) (v := ?_) rfl (by kernel_rfl) (by kernel_rfl) (by kernel_rfl) (fun _ _ _ h => h) (Or.inl ⟨by rfl, ?_⟩) (by assumption) ?_
      rotate_left 1
      · (intro w hSw; (try dsimp only at hSw); go_simp; (try with_reducible rfl))
      try simp only [Act.put, List.getElem_toArray, List.getElem_cons_succ, List.getElem_cons_zero, List.setIfInBounds_toArray, List.set_cons_zero, List.set_cons_succ]
      refine wpAnyH_take (i := 2) (oi := _) (v := ?_) rfl (by kernel_rfl) (by kernel_rfl) (by kernel_rfl) (fun _ _ _ h => h) (Or.inl ⟨by rfl, ?_⟩) (by assumption) ?_
      rotate_left 1
      · (intro w hSw; (try dsimp only at hSw); go_simp; (try with_reducible rfl))
      try simp only [Act.put, List.getElem_toArray, List.getElem_cons_succ, List.getElem_cons_zero, List.setIfInBounds_toArray, List.set_cons_zero, List.set_cons_succ]
      refine wpAnyH_take (i := 4) (oi := _) (v := ?_) rfl (by kernel_rfl) (by kernel_rfl) (by kernel_rfl) (fun _ _ _ h => h) (Or.inl ⟨by rfl, ?_⟩) (by assumption) ?_
      rotate_left 1
      · (intro w hSw; (try dsimp only at hSw); go_simp; (try with_reducible rfl))
      try simp only [Act.put, List.getElem_toArray, List.getElem_cons_succ, List.getElem_cons_zero, List.setIfInBounds_toArray, List.set_cons_zero, List.set_cons_succ]
      refine wpAnyH_take (i := 5) (oi := _) (v := ?_) rfl (by kernel_rfl) (by kernel_rfl) (by kernel_rfl) (fun _ _ _ h => h) (Or.inl ⟨by rfl, ?_⟩) (by assumption) ?_
      rotate_left 1
      · (intro w hSw; (try dsimp only at hSw); go_simp; (try with_reducible rfl))
      try simp only [Act.put, List.getElem_toArray, List.getElem_cons_succ, List.getElem_cons_zero, List.setIfInBounds_toArray, List.set_cons_zero, List.set_cons_succ]
      refine wpAnyH_take (i := 6) (oi := _) (v := ?_) rfl (by kernel_rfl) (by kernel_rfl) (by kernel_rfl) (fun _ _ _ h => h) (Or.inl ⟨by rfl, ?_⟩) (by assumption) ?_
      rotate_left 1
      · (intro w hSw; (try dsimp only at hSw); go_simp; (try with_reducible rfl))
      try simp only [Act.put, List.getElem_toArray, List.getElem_cons_succ, List.getElem_cons_zero, List.setIfInBounds_toArray, List.set_cons_zero, List.set_cons_succ]
      refine wpAnyH_take (i := 8) (oi := _) (v := ?_) rfl (by kernel_rfl) (by kernel_rfl) (by kernel_rfl) (fun _ _ _ h => h) (Or.inl ⟨by rfl, ?_⟩) (by assumption) ?_
      rotate_left 1
      · (intro w hSw; (try dsimp only at hSw); go_simp; (try with_reducible rfl))
      try simp only [Act.put, List.getElem_toArray, List.getElem_cons_succ, List.getElem_cons_zero, List.setIfInBounds_toArray, List.set_cons_zero, List.set_cons_succ]
      refine wpAnyH_take (i := 9) (oi := _) (v := ?_) rfl (by kernel_rfl) (by kernel_rfl) (by kernel_rfl) (fun _ _ _ h => h) (Or.inl ⟨by rfl, ?_⟩) (by assumption) ?_
      rotate_left 1
      · (intro w hSw; (try dsimp only at hSw); go_simp; (try with_reducible rfl))
      try simp only [Act.put, List.getElem_toArray, List.getElem_cons_succ, List.getElem_cons_zero, List.setIfInBounds_toArray, List.set_cons_zero, List.set_cons_succ]
      refine wpAnyH_take (i := 10) (oi := _) (v := ?_) rfl (by kernel_rfl) (by kernel_rfl) (by kernel_rfl) (fun _ _ _ h => h) (Or.inl ⟨by rfl, ?_⟩) (by assumption) ?_
      rotate_left 1
      · (intro w hSw; (try dsimp only at hSw); go_simp; (try with_reducible rfl))
      try simp only [Act.put, List.getElem_toArray, List.getElem_cons_succ, List.getElem_cons_zero, List.setIfInBounds_toArray, List.set_cons_zero, List.set_cons_succ]
      refine wpAnyH_ready (rs := [3]) (by kernel_rfl) (by simp) ?_
      refine AllReadyH.cons (o := _) rfl (fun K hK => ?_) AllReadyH.nil
      go_simp
      refine (putT_to av cv l nm lt HT1.out _ hnz hcv hmv (by omega) hav (by exact hrw _)).mono ?_
      rintro e w' ⟨tA, ct, rfl, hct, hmt, hat, hrt, hot, hbk⟩
      have hbkt := hbk
      go_wp2_with fail
      refine hK.out _ _ ?_ (fun hHeld3 => ?_)
      · exact ⟨keepc hbk hHeld.1, keepc hbk hHeld.2.1, keepc hbk hHeld.2.2.1, keepc hbk hHeld.2.2.2⟩
      clear hK K
      try simp only [Act.put, List.getElem_toArray, List.getElem_cons_succ, List.getElem_cons_zero, List.setIfInBounds_toArray, List.set_cons_zero, List.set_cons_succ]
      refine wpAnyH_ready (rs := [7]) (by kernel_rfl) (by simp) ?_
      refine AllReadyH.cons (o := _) rfl (fun K hK => ?_) AllReadyH.nil
      go_simp
      refine (putU_to tA ct lt ni lu HT2.out _ hn1 hct hmt (by omega) hat (by exact hrt)).mono ?_
      rintro e w' ⟨au, cu, rfl, hcu, hmu, hau, hru, hou, hbk⟩
      have hbku := hbk
      go_wp2_with fail
      refine hK.out _ _ ?_ (fun hHeld7 => ?_)
      · exact ⟨keepc hbk hHeld3.1, keepc hbk hHeld3.2.1, keepc hbk hHeld3.2.2.1, keepc hbk hHeld3.2.2.2⟩
      clear hK K
      try simp only [Act.put, List.getElem_toArray, List.getElem_cons_succ, List.getElem_cons_zero, List.setIfInBounds_toArray, List.set_cons_zero, List.set_cons_succ]
      refine wpAnyH_ready (rs := [11]) (by kernel_rfl) (by simp) ?_
      refine AllReadyH.cons (o := _) rfl (fun K hK => ?_) AllReadyH.nil
      go_simp
      refine (putU_to au cu lu nr lv HT3.out _ hn2 hcu hmu (by omega) hau (by exact hru)).mono ?_
      rintro e w' ⟨av, cv, rfl, hcv, hmv, hav, hrv, hov, hbk⟩
      have hbkv := hbk
      go_wp2_with fail
      refine hK.out _ _ ?_ (fun hHeld11 => ?_)
      · exact ⟨keepc hbk hHeld7.1, keepc hbk hHeld7.2.1, keepc hbk hHeld7.2.2.1, keepc hbk hHeld7.2.2.2⟩
      clear hK K
      try simp only [Act.put, List.getElem_toArray, List.getElem_cons_succ, List.getElem_cons_zero, List.setIfInBounds_toArray, List.set_cons_zero, List.set_cons_succ]
      refine wpAnyH_take (i := 12) (oi := _) (v := ?_) rfl (by kernel_rfl) (by kernel_rfl) (by kernel_rfl) (fun _ _ _ h => h) (Or.inl ⟨by rfl, ?_⟩) (by assumption) ?_
      rotate_left 1
      · (intro w hSw; (try dsimp only at hSw); go_simp; (try with_reducible rfl))
      try simp only [Act.put, List.getElem_toArray, List.getElem_cons_succ, List.getElem_cons_zero, List.setIfInBounds_toArray, List.set_cons_zero, List.set_cons_succ]
      refine wpAnyH_done (by kernel_rfl) ?_ _
      refine NoPanic.normal ?_
      have hB5 : Below wr.heap.size wr w' := (((((Below.refl _ wr).alloc (Nat.le_refl _) _).drew).trans (hbkt.mono (by simp))).trans (hbku.mono (by have h1 := hbkt.size; simp at h1; omega))).trans (hbkv.mono (by have h1 := hbkt.size; have h2 := hbku.size; simp at h1; omega))
      have hBW := HBV.out.trans (hB5.mono HBV.out.size)
      have hO5 := own_base hov (show w1.heap.size ≤ _ by have h0 := HBV.out.size; have h1 := hbkt.size; have h2 := hbku.size; simp at h1; omega)
      have c4 := hHeld11.2.2.2
      have HO5 := Lib.hid hO5
      have HBW := Lib.hid hBW
      obtain ⟨i0, hi0, hz0, hz1, hz2⟩ := info_parts info_byte
      clear hB5 hBW hO5 hov hrv hbkt hbku hbkv hbk hHeld hHeld3 hHeld7 hHeld11 hot hou hrt hru hrw HT1 HT2 HT3 hwi hwr q0 q1 q2 q3 q4
      cases ov with
      | false =>
        have HS2 := HSK
        go_wp2_with (first
          | (at_builtin; refine K.step_append_app _ rfl _ _ 34 rfl w1.heap.size 5 i0 (.int .u8 0) 1 1 Try.underlying34 hi0 hz0 hz1 hz2 rfl (by decide) _ _ _ rfl (App.alloc (.inl HO5.out) _) ⟨w'.heap.size, 0, none⟩ 1 1 [.int .u8 0] rfl rfl (K.one_new _ _ _) ?d1 (by decide) ?d2 ?d3 ?d4 ?_)
          | fail)
        case d1 => first | (intro u hu; simp at hu; subst hu; rfl) | rfl
        case d2 => unfold maxLen; omega
        case d3 => omega
        case d4 => have := HBW.out.size; simp; omega
        intro v' w6 hown6 hb6
        have HI6 := Lib.hid (show EncI w1 (L (k + 1)) v' w6 from by
          refine EncI.of_own ?_ (HBW.out.trans ((((Below.refl _ w').alloc (Nat.le_refl _) _).mono HBW.out.size).trans hb6))
          rw [HS2.out]
          have e1 : (lv ++ [(0 : UInt8)]).length = lv.length + 1 := by simp
          have e2 : bv (lv ++ [(0 : UInt8)]) = bv lv ++ [.int .u8 0] := by simp [bv]
          have e3 : (if (false : Bool) = true then (1 : UInt8) else 0) = 0 := rfl
          first | rw [e3, e1, e2] | (simp only [if_true]; rw [e1, e2])
          exact hown6)
        clear hown6 hb6
        go_wp2
        go_roundw
        case rel => exact ⟨k + 1, by omega, by go_num, HI6.out⟩
        case measure => simp [intOf]; omega
      | true =>
        have HS2 := HSK
        go_wp2_with (first
          | (at_builtin; refine K.step_append_app _ rfl _ _ 34 rfl w1.heap.size 5 i0 (.int .u8 0) 1 1 Try.underlying34 hi0 hz0 hz1 hz2 rfl (by decide) _ _ _ rfl (App.alloc (.inl HO5.out) _) ⟨w'.heap.size, 0, none⟩ 1 1 [.int .u8 1] rfl rfl (K.one_new _ _ _) ?e1 (by decide) ?e2 ?e3 ?e4 ?_)
          | fail)
        case e1 => first | (intro u hu; simp at hu; subst hu; rfl) | rfl
        case e2 => unfold maxLen; omega
        case e3 => omega
        case e4 => have := HBW.out.size; simp; omega
        intro v' w6 hown6 hb6
        have HI6 := Lib.hid (show EncI w1 (L (k + 1)) v' w6 from by
          refine EncI.of_own ?_ (HBW.out.trans ((((Below.refl _ w').alloc (Nat.le_refl _) _).mono HBW.out.size).trans hb6))
          rw [HS2.out]
          have e1 : (lv ++ [(1 : UInt8)]).length = lv.length + 1 := by simp
          have e2 : bv (lv ++ [(1 : UInt8)]) = bv lv ++ [.int .u8 1] := by simp [bv]
          have e3 : (if (true : Bool) = true then (1 : UInt8) else 0) = 1 := rfl
          first | rw [e3, e1, e2] | (simp only [if_true]; rw [e1, e2])
          exact hown6)
        clear hown6 hb6
        go_wp2
        go_roundw
        case rel => exact ⟨k + 1, by omega, by go_num, HI6.out⟩
        case measure => simp [intOf]; omega
    · obtain rfl : k = xs.length := by omega
      have hll := HLB.out xs.length
      have HE := Lib.hid HLE.out
      obtain ⟨l, hl0⟩ : ∃ l, l = L xs.length := ⟨_, rfl⟩
      rw [← hl0] at hcv hrv hov hll HE ⊢
      have HOV := Lib.hid hov
      have HBV := Lib.hid hbv
      clear hov hbv hl0 HI0 HLE HLS HLB H30 cf3
      go_wp2_with fail
      refine (sum_any av cv l _ (by omega) hrv).mono ?_
      rintro e w4 ⟨rfl, hb4⟩
      have hs4 : sumOf l < 4294967296 := sumOf_lt l
      obtain ⟨s, hs⟩ : ∃ s, s = sumOf l := ⟨_, rfl⟩
      rw [← hs] at hs4 ⊢
      have HSS := Lib.hid hs
      have HB4 := Lib.hid hb4
      have HLLen := hll
      clear hs hb4 hq hq2 hw1 hw2 hl hk hlt hmv hll
      obtain ⟨i0, hi0, hz0, hz1, hz2⟩ := info_parts info_byte
      have HLL := Lib.hid (HLLen)
      clear HLLen
      go_wp2_with (first
        | (at_builtin; refine K.step_append_app _ rfl _ _ 34 rfl w1.heap.size 5 i0 (.int .u8 0) 1 1 Try.underlying34 hi0 hz0 hz1 hz2 rfl (by decide) _ _ _ rfl ((App.below (.inl HOV.out) HB4.out (Nat.le_refl _)).alloc _) ⟨w4.heap.size, 0, none⟩ 4 4 _ rfl ?c0 (K.row_new _ _ _ _) ?c1 (by decide) ?c2 ?c3 ?c4 ?_)
        | fail)
      case c1 => exact ⟨rfl, rfl, rfl, rfl⟩
      case c2 => have := HLL.out; unfold maxLen; omega
      case c3 => have := HLL.out; omega
      case c4 => have h1 := HB4.out.size; have h2 := HBV.out.size; simp; omega
      intro v' w5 hown5 hb5
      have HO5 := Lib.hid hown5
      have HB5 := Lib.hid hb5
      clear hown5 hb5
      go_wp2
      go_ret2
      have hsz4 : w1.heap.size ≤ w4.heap.size := Nat.le_trans HBV.out.size HB4.out.size
      refine ⟨v', rfl, ?_, HB1.out.trans (Below.mono (B := w1.heap.size) ?_ HB1.out.size)⟩
      · have h5 := own_base HO5.out HB1.out.size
        rw [HE.out, ← HSS.out]
        have e1 : (l ++ sum4 s).length = l.length + 4 := by simp [sum4]
        have e2 : bv (l ++ sum4 s) = bv l ++ bv (sum4 s) := by simp [bv]
        rw [e1, e2, sum4_bv s hs4]
        exact h5
      · exact (HBV.out.trans (HB4.out.mono HBV.out.size)).trans ((((Below.refl _ w4).alloc (Nat.le_refl _) _).mono hsz4).trans HB5.out)
end Go.Proofs.Ytdomnjakhecbaaa
