/- The walk over frame.Decode at a frame's own bytes. -/
import Derived.Test.YtajddpdlhahcdaaDoorFrd
import Derived.Test.YtajddpdlhahcdaaDoorFrV
import Derived.Test.YtajddpdlhahcdaaDoorFrW
namespace Go.Proofs.YtajddpdlhahcdaaDoor
open Go.RowKit K
set_option maxRecDepth 100000 in
theorem is_nil (w : World) :
    Calls Tryd.prog 26 #[.nilIface, .iface 29 (.int .i64 11)] w fun e w' => e = .returned (.bool false) ∧ w = w' := by
  have hcmp : Sem.run Tryd.prog (binOp .eql 54 .nilIface (.iface 29 (.int .i64 11))) w = .ok (.bool false) w := by kernel_rfl
  go_enter Tryd.func26, Tryd.ntmps26
  go_wp2
  go_ret
  exact ⟨rfl, rfl⟩
theorem body_drop (q win : Int) (xs : List Rec) : (bodyB q win xs xs.length).drop 4 = putU q.toNat ++ (putU (zig win) ++ (putU xs.length ++ xs.flatMap recB)) := by
  unfold bodyB headB
  rw [List.take_length, List.append_assoc, List.append_assoc, List.append_assoc]
  exact List.drop_left (l₁ := tagB)
def DecOk (w : World) (q win : Int) (xs : List Rec) (e : Ending) (w' : World) : Prop :=
  ∃ a c, e = .returned (.tuple #[frv q win (.slice a xs.length c), .int .i64 0]) ∧ Rd w' a (rcf xs) ∧ Below w.heap.size w w'
set_option maxHeartbeats 4000000 in
set_option maxRecDepth 100000 in
theorem decode_ok (w : World) (q : Nat) (win : Int) (a : Option Addr) (c : Nat) (xs : List Rec) (l : List UInt8) (hle : l = encB q win xs) (hq2 : q < 18446744073709551616) (hw1 : -9223372036854775808 ≤ win) (hw2 : win ≤ 9223372036854775807) (hs : ∀ x ∈ xs, RecFit x) (hm : mayB q win xs = true)
    (hc : l.length ≤ c) (hc2 : c ≤ 9223372036854775807) (hr : Rd w a (bv l)) (hg : GErr w) :
    Calls Tryd.prog 13 #[.slice a l.length c] w (DecOk w q win xs) := by
  obtain ⟨hp1, hp2, hp3, hp4⟩ := may_parts hm
  obtain ⟨n, hn⟩ : ∃ n, n = (bodyB q win xs xs.length).length := ⟨_, rfl⟩
  obtain ⟨hbt, hb4⟩ := body_tag q win xs xs.length
  have hlb := bodyB_length q win xs (fun x hx => (hp4 x hx).2.1) hp3 xs.length
  have hln : l.length = n + 4 := by rw [hle, hn]; unfold encB; rw [List.length_append]; rfl
  have hn4 : 4 ≤ n := by omega
  have htk : l.take n = bodyB q win xs xs.length := by rw [hle, hn]; exact List.take_left
  have hdr : l.drop n = sum4 (sumOf (l.take n)) := by rw [htk, hle, hn]; exact List.drop_left
  have ht : l.take 4 = tagB := by
    rw [hle]
    unfold encB
    rw [List.take_append_of_le_length hb4]
    exact hbt
  have hbd : (l.take n).drop 4 = putU q ++ (putU (zig win) ++ (putU xs.length ++ xs.flatMap recB)) := by rw [htk, body_drop]; rfl
  obtain ⟨ab, ao, rfl, hab, hcl⟩ := hr.at (bv_get (show 0 < l.length by omega))
  clear hcl
  have hb0 : ∀ o p, Below w.heap.size w ((w.alloc o).alloc p) := fun o p => ((Below.refl _ _).alloc (Nat.le_refl _) o).alloc (by simp) p
  have hcv := fun o => conv_tag2 (w.alloc o)
  have hsz : ∀ o, (w.alloc o).heap.size = w.heap.size + 1 := fun o => by simp
  simp only [hsz] at hcv
  have hp := fun o p C t fr hC => prefix_any ((w.alloc o).alloc (.cells C t fr)) (some ⟨ab, ao, none⟩) (some ⟨(w.alloc o).heap.size, 0, none⟩) c p l tagB hc (by decide) (hr.below (hb0 o _) (Nat.le_refl _)) (Rd.new _ C t fr _ hC)
  have e4 : l.take tagB.length = l.take 4 := rfl
  rw [e4, decide_eq_true ht, hln] at hp
  simp only [hsz] at hp
  have HP := Lib.hid hp
  have hlt : (l.take n).length = n := by rw [List.length_take]; omega
  have hsm := fun o p => sum_any (some ⟨ab, ao, none⟩) c (l.take n) ((w.alloc o).alloc p) (by omega) (rd_take (hr.below (hb0 o p) (Nat.le_refl _)) n)
  rw [hlt] at hsm
  have HSM := Lib.hid hsm
  have hld : (l.drop n).length = 4 := by rw [List.length_drop]; omega
  have s4 : ∀ s, (sum4 s).length = 4 := fun s => rfl
  have heq := fun W a2 c2 d2 h1 h2 => equal_any W (some ⟨ab, ao + n, none⟩) a2 c2 d2 (l.drop n) (sum4 (sumOf (l.take n))) h1 h2
  rw [decide_eq_true hdr, hld] at heq
  simp only [s4] at heq
  have HE := Lib.hid heq
  have hs4 : sumOf (l.take n) < 4294967296 := sumOf_lt _
  have HBV := Lib.hid (sum4_bv _ hs4)
  have HD := Lib.hid (fun W (hb : Below w.heap.size w W) => rd_drop (hr.below hb (Nat.le_refl _)) n)
  have HD4 := Lib.hid (fun W (hb : Below w.heap.size w W) => rd_drop (rd_take (hr.below hb (Nat.le_refl _)) n) 4)
  have hl4 : ((l.take n).drop 4).length = n - 4 := by rw [List.length_drop, hlt]
  have HBD := Lib.hid hbd
  have HL4 := Lib.hid hl4
  have HS := Lib.hid hs
  have HP4 := Lib.hid hp4
  have HM := Lib.hid hm
  have HG := Lib.hid hg
  have HFR0 := Lib.hid (fun W R h => frame_ok W R q win xs hq2 hw1 hw2 hp3 hs hp4 h)
  obtain ⟨s, hss⟩ : ∃ s, s = sumOf (l.take n) := ⟨_, rfl⟩
  rw [← hss] at HSM HE hs4 HBV
  have hlb2 : n + 4 ≤ 140737488355328 := by omega
  have hn5 : (4 : Int) ≤ n := by omega
  have hnn : ¬ (n : Int) < 4 := by omega
  rw [hln] at hc ⊢
  have hgl0 := hg.lt
  clear hp hr ht e4 hb0 hsz hsm heq hdr hld hln s4 hss hle htk hbd hbt hb4 hlb hn hlt hs hp4 hm hg hp1 hp2 hl4 hw1 hw2 hq2
  go_enter Tryd.func13, Tryd.ntmps13
  go_wp2_with fail
  refine (HP.out _ _ _ _ _ (fun k v h => by simpa [bv, tagB] using h)).mono ?_
  rintro e w1 ⟨rfl, rfl⟩
  go_wp2_with fail
  refine (HSM.out _ _).mono ?_
  rintro e w2 ⟨rfl, hb2⟩
  have hfr : w2.heap[w.heap.size]? = some (.cells #[.int .u64 0, .int .i64 0, .slice none 0 0] 25 (0, 0)) := (hb2.block w.heap.size (by simp; omega)).trans ((Below.heap_alloc _ _ _ (by simp)).trans (heap_alloc_new w _))
  have hbw : Below w.heap.size w w2 := (((Below.refl _ w).alloc (Nat.le_refl _) _).alloc (by simp) _).trans (hb2.mono (by have h1 := ((((Below.refl w.heap.size w).alloc (Nat.le_refl _) (.cells #[.int .u64 0, .int .i64 0, .slice none 0 0] 25)).alloc (by simp) (.cells #[.int .u8 79, .int .u8 68, .int .u8 79, .int .u8 1] 5 (4, 5)))).size; exact h1))
  have hgl : w.heap.size < w2.heap.size := (Array.getElem?_eq_some_iff.1 hfr).1
  have HFR := Lib.hid hfr
  have HBW := Lib.hid hbw
  clear hb2 hbw hfr HP HSM hcv
  go_wp2_with fail
  refine (HE.out _ _ _ _ (by exact HD.out _ (HBW.out.alloc HBW.out.size _)) (by rw [HBV.out]; exact Rd.new _ _ _ _ _ (fun k v h => by simpa using h))).mono ?_
  rintro e w3 ⟨rfl, rfl⟩
  obtain ⟨w3, hw3⟩ : ∃ w3, w3 = w2.alloc (.cells #[.int .u8 ((s : Int) / 16777216), .int .u8 ((s : Int) / 65536 % 256), .int .u8 ((s : Int) / 256 % 256), .int .u8 ((s : Int) % 256)] 5) := ⟨_, rfl⟩
  rw [← hw3]
  have HB3 := Lib.hid (show Below w.heap.size w w3 by rw [hw3]; exact HBW.out.alloc HBW.out.size _)
  have HF3 := Lib.hid (show w3.heap[w.heap.size]? = some (.cells #[.int .u64 0, .int .i64 0, .slice none 0 0] 25 (0, 0)) by rw [hw3]; exact blk_alloc HFR.out)
  clear hw3 HFR HBW HE HD HBV hgl
  have hgl : w.heap.size < w3.heap.size := (Array.getElem?_eq_some_iff.1 HF3.out).1
  go_wp2_with fail
  have hB4 : Below w.heap.size w (w3.alloc (.cells #[.slice (some ⟨ab, ao + 4, none⟩) (n - 4) (c - 4), .nilIface] 56)) := HB3.out.alloc HB3.out.size _
  have hF4 := blk_alloc (p := .cells #[.slice (some ⟨ab, ao + 4, none⟩) (n - 4) (c - 4), .nilIface] 56) HF3.out
  have hR4 : (w3.alloc (.cells #[.slice (some ⟨ab, ao + 4, none⟩) (n - 4) (c - 4), .nilIface] 56)).heap[w3.heap.size]? = some (.cells #[.slice (some ⟨ab, ao + 4, none⟩) (n - 4) (c - 4), .nilIface] 56 (0, 0)) := heap_alloc_new w3 _
  obtain ⟨w4, hw4⟩ : ∃ w4, w4 = w3.alloc (.cells #[.slice (some ⟨ab, ao + 4, none⟩) (n - 4) (c - 4), .nilIface] 56) := ⟨_, rfl⟩
  rw [← hw4] at hB4 hF4 hR4 ⊢
  clear hw4
  have hlt4 : w3.heap.size < w4.heap.size := (Array.getElem?_eq_some_iff.1 hR4).1
  have hrb : RdrB w4 w4.heap.size w3.heap.size ((l.take n).drop 4) := ⟨ab, ao + 4, c - 4, ⟨by rw [HL4.out]; exact hR4, by rw [HL4.out]; omega, by omega, HD4.out w4 hB4, by omega, by omega, HG.out.below hB4 hgl0⟩, by omega, hlt4⟩
  rw [HBD.out] at hrb
  have HB4 := Lib.hid hB4
  have HF4 := Lib.hid hF4
  have hfo := HFR0.out w4 w3.heap.size hrb
  clear hB4 hF4 hR4 hrb HD4 HL4 HBD HFR0 HB3 HF3
  refine hfo.mono ?_
  rintro e w5 ⟨ra, rc, rfl, hr5, hR5, ho5, hra⟩
  have HRA := Lib.hid (show ∀ ad, ra = some ad → w.heap.size < ad.block from fun ad e => by have := hra ad e; omega)
  clear hra
  clear hfo
  obtain ⟨rb, ro, rcap, hri, _, _⟩ := hR5
  have hR5 : w5.heap[w3.heap.size]? = some (.cells #[.slice (some ⟨rb, ro, none⟩) 0 rcap, .nilIface] 56 (0, 0)) := hri.1
  have hF5 := ho5.heap HF4.out (by omega)
  have hB5 : Below w.heap.size w w5 := HB4.out.trans (ho5.below (by omega) (fun k h => by have h : k = w3.heap.size := h; omega))
  have hlt5 : w3.heap.size < w5.heap.size := by have := ho5.size; omega
  clear hri ho5 HB4 HF4
  unfold frv
  have hF6 := blk_alloc (p := .cells #[.int .u64 q, .int .i64 win, .slice ra xs.length rc] 25) hF5
  have hR6 := blk_alloc (p := .cells #[.int .u64 q, .int .i64 win, .slice ra xs.length rc] 25) hR5
  have hX6 : (w5.alloc (.cells #[.int .u64 q, .int .i64 win, .slice ra xs.length rc] 25)).heap[w5.heap.size]? = some (.cells #[.int .u64 q, .int .i64 win, .slice ra xs.length rc] 25 (0, 0)) := heap_alloc_new w5 _
  have hB6 : Below w.heap.size w (w5.alloc (.cells #[.int .u64 q, .int .i64 win, .slice ra xs.length rc] 25)) := hB5.alloc hB5.size _
  have hr6 : Rd (w5.alloc (.cells #[.int .u64 q, .int .i64 win, .slice ra xs.length rc] 25)) ra (rcf xs) := hr5.below ((Below.refl _ _).alloc (Nat.le_refl _) _) (Nat.le_refl _)
  have HR6 := Lib.hid hr6
  have HB6 := Lib.hid hB6
  have HF6 := Lib.hid hF6
  have HX6 := Lib.hid hX6
  have HRB6 := Lib.hid hR6
  clear hr5 hr6 hB5 hB6 hF5 hF6 hR5 hR6 hX6
  have cR : (w5.alloc (.cells #[.int .u64 q, .int .i64 win, .slice ra xs.length rc] 25)).cell? ⟨w3.heap.size, 1, none⟩ = some .nilIface := by rw [cell_of_row _ _ _ _ _ _ HRB6.out]; rfl
  have cR5 : w5.cell? ⟨w3.heap.size, 1, none⟩ = some .nilIface := by
    have h := cR
    rw [World.cell?_of_block (Below.heap_alloc w5 _ w3.heap.size hlt5)] at h
    exact h
  go_wp2_with fail
  refine (is_nil _).mono ?_
  rintro e w6 ⟨rfl, rfl⟩
  have hmy := may_any _ q win ra rc xs (by omega) (fun x hx => (HS.out x hx).1) HR6.out
  rw [HM.out] at hmy
  have HMY := Lib.hid hmy
  clear hmy
  unfold frv at *
  go_wp2_with fail
  refine HMY.out.mono ?_
  rintro e w7 ⟨rfl, hb7⟩
  have hF7 := (hb7.block w.heap.size (Array.getElem?_eq_some_iff.1 HF6.out).1).trans HF6.out
  have hX7 := (hb7.block w5.heap.size (Array.getElem?_eq_some_iff.1 HX6.out).1).trans HX6.out
  have x0 : w7.cell? ⟨w5.heap.size, 0, none⟩ = some (.int .u64 q) := by rw [cell_of_row _ _ _ _ _ _ hX7]; rfl
  have x1 : w7.cell? ⟨w5.heap.size, 1, none⟩ = some (.int .i64 win) := by rw [cell_of_row _ _ _ _ _ _ hX7]; rfl
  have x2 : w7.cell? ⟨w5.heap.size, 2, none⟩ = some (.slice ra xs.length rc) := by rw [cell_of_row _ _ _ _ _ _ hX7]; rfl
  have HF7 := Lib.hid hF7
  have HR7 := Lib.hid (HR6.out.below hb7 (Nat.le_refl _))
  have HB7 := Lib.hid (HB6.out.trans (hb7.mono HB6.out.size))
  clear hb7 hX7 hF7 cR HR6 HB6 HF6 HX6 HRB6 HMY
  go_wp2_with (first | (with_reducible refine K.step_store_row rfl 25 _ _ rfl w.heap.size rfl #[.int .u64 q, .int .i64 win, .slice ra xs.length rc] rfl #[.int .u64 0, .int .i64 0, .slice none 0 0] 25 HF7.out rfl (by kernel_rfl) (fr_one _ _ _ _ _) ?_))
  have hF8 := setRow_heap w7 w.heap.size _ #[.int .u64 q, .int .i64 win, .slice ra xs.length rc] _ _ HF7.out
  have y0 : (w7.setRow w.heap.size #[.int .u64 q, .int .i64 win, .slice ra xs.length rc]).cell? ⟨w.heap.size, 0, none⟩ = some (.int .u64 q) := by rw [cell_of_row _ _ _ _ _ _ hF8]; rfl
  have y1 : (w7.setRow w.heap.size #[.int .u64 q, .int .i64 win, .slice ra xs.length rc]).cell? ⟨w.heap.size, 1, none⟩ = some (.int .i64 win) := by rw [cell_of_row _ _ _ _ _ _ hF8]; rfl
  have y2 : (w7.setRow w.heap.size #[.int .u64 q, .int .i64 win, .slice ra xs.length rc]).cell? ⟨w.heap.size, 2, none⟩ = some (.slice ra xs.length rc) := by rw [cell_of_row _ _ _ _ _ _ hF8]; rfl
  refine bodyPost_ret (v := .tuple #[frv q win (.slice ra xs.length rc), .int .i64 0]) ?_ rfl ?_
  · simp [results, Tryd.results13, go_sem, y0, y1, y2]
    try rfl
  · have ho := only_row w7 w.heap.size #[.int .u64 q, .int .i64 win, .slice ra xs.length rc]
    exact ⟨ra, rc, rfl, ho.rd HR7.out (fun ad e h => by have := HRA.out ad e; have h : ad.block = w.heap.size := h; omega), HB7.out.trans (ho.below HB7.out.size (fun k h => by have h : k = w.heap.size := h; omega))⟩
end Go.Proofs.YtajddpdlhahcdaaDoor
