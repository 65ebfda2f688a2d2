/- The walk over the law FrameByte: it answers true, and turns nothing that was there. -/
import Derived.Test.YtajddpdlhahcdaaDoorFrU
import Derived.Test.YtajddpdlhahcdaaDoorFrV
import Derived.Test.YtajddpdlhahcdaaDoorFrW
import Derived.Test.YtajddpdlhahcdaaDoorFrL
namespace Go.Proofs.YtajddpdlhahcdaaDoor
open Go.RowKit K
set_option maxHeartbeats 1000000 in
theorem frameByte_skip (w : World) (q win at_ by_ : Int) (a : Option Addr) (c : Nat) (xs : List Rec) (hq : 0 ≤ q) (hl : xs.length ≤ 9223372036854775807) (hs : ∀ x ∈ xs, RecFit x) (hr : Rd w a (rcf xs)) (hm : muchB xs = true ∨ muchB xs = false ∧ (mayB q win xs = false ∨ mayB q win xs = true ∧ by_ = 0)) :
    Calls Tryd.prog 4 #[frv q win (.slice a xs.length c), .int .i64 at_, .int .u8 by_] w fun e w' => e = .returned (.bool true) ∧ Below w.heap.size w w' := by
  have hb0 : ∀ o, Below w.heap.size w (w.alloc o) := fun o => (Below.refl _ _).alloc (Nat.le_refl _) _
  have h1 := fun o => much_any (w.alloc o) q win a c xs hl (fun x hx => (hs x hx).1) (hr.below (hb0 o) (Nat.le_refl _))
  have h2 := fun W (hb : Below w.heap.size w W) => rmay_any W q win a c xs hl (fun x hx => (hs x hx).1) (hr.below hb (Nat.le_refl _)) hq
  have H2 := Lib.hid h2
  unfold frv at *
  rcases hm with hm | ⟨hm, hm2⟩
  · rw [hm] at h1
    have H1 := Lib.hid h1
    clear h1 h2 hr hs hl hm
    go_enter Tryd.func4, Tryd.ntmps4
    go_wp2_with fail
    refine (H1.out _).mono ?_
    rintro e w1 ⟨rfl, hb1⟩
    have HB := Lib.hid ((hb0 _).trans (hb1.mono (by simp)))
    clear hb1 hb0
    go_wp2_with fail
    refine (known_any _).mono ?_
    rintro e w2 ⟨rfl, hb2⟩
    go_wp2
    go_ret
    exact ⟨rfl, HB.out.trans (hb2.mono HB.out.size)⟩
  · rw [hm] at h1
    have H1 := Lib.hid h1
    have HM2 := Lib.hid hm2
    clear h1 h2 hr hs hl hm hm2
    go_enter Tryd.func4, Tryd.ntmps4
    go_wp2_with fail
    have cB : ((w.alloc (.cells #[.int .u64 q, .int .i64 win, .slice a xs.length c] 25)).heap)[w.heap.size]? = some (.cells #[.int .u64 q, .int .i64 win, .slice a xs.length c] 25 (0, 0)) := heap_alloc_new w _
    refine (H1.out _).mono ?_
    rintro e w1 ⟨rfl, hb1⟩
    have hcB := (hb1.block w.heap.size (by simp)).trans cB
    have cB0 : w1.cell? ⟨w.heap.size, 0, none⟩ = some (.int .u64 q) := by rw [cell_of_row _ _ _ _ _ _ hcB]; rfl
    have cB1 : w1.cell? ⟨w.heap.size, 1, none⟩ = some (.int .i64 win) := by rw [cell_of_row _ _ _ _ _ _ hcB]; rfl
    have cB2 : w1.cell? ⟨w.heap.size, 2, none⟩ = some (.slice a xs.length c) := by rw [cell_of_row _ _ _ _ _ _ hcB]; rfl
    have HB := Lib.hid ((hb0 _).trans (hb1.mono (by simp)))
    have h2 := H2.out _ HB.out
    clear hb1 hb0 cB hcB H2
    rcases HM2.out with hm | ⟨hm, h0⟩
    · rw [hm] at h2
      have H2 := Lib.hid h2
      clear h2 hm
      go_wp2_with fail
      refine H2.out.mono ?_
      rintro e w2 ⟨rfl, hb2⟩
      have HB2 := Lib.hid (HB.out.trans (hb2.mono HB.out.size))
      clear hb2
      go_wp2_with fail
      refine (known_any _).mono ?_
      rintro e w3 ⟨rfl, hb3⟩
      go_wp2
      go_ret
      exact ⟨rfl, HB2.out.trans (hb3.mono HB2.out.size)⟩
    · rw [hm] at h2
      subst h0
      have H2 := Lib.hid h2
      clear h2 hm
      go_wp2_with fail
      refine H2.out.mono ?_
      rintro e w2 ⟨rfl, hb2⟩
      have HB2 := Lib.hid (HB.out.trans (hb2.mono HB.out.size))
      clear hb2
      go_wp2_with fail
      refine (known_any _).mono ?_
      rintro e w3 ⟨rfl, hb3⟩
      go_wp2
      go_ret
      exact ⟨rfl, HB2.out.trans (hb3.mono HB2.out.size)⟩
set_option maxHeartbeats 2000000 in
theorem frameByte_out (w : World) (q win at_ by_ : Int) (a : Option Addr) (c : Nat) (xs : List Rec) (hq : 0 ≤ q) (hq2 : q < 18446744073709551616) (hw1 : -9223372036854775808 ≤ win) (hw2 : win ≤ 9223372036854775807) (hb1 : 0 ≤ by_) (hb2 : by_ < 256) (hs : ∀ x ∈ xs, RecFit x) (hr : Rd w a (rcf xs)) (hmu : muchB xs = false) (hm : mayB q win xs = true) (h0 : by_ ≠ 0)
    (hc : 3000 < (encB q win xs).length ∨ (encB q win xs).length ≤ 3000 ∧ (at_ < 0 ∨ 0 ≤ at_ ∧ (encB q win xs).length ≤ at_)) :
    Calls Tryd.prog 4 #[frv q win (.slice a xs.length c), .int .i64 at_, .int .u8 by_] w fun e w' => e = .returned (.bool true) ∧ Below w.heap.size w w' := by
  obtain ⟨hp1, hp2, hp3, hp4⟩ := may_parts hm
  have hb0 : ∀ o, Below w.heap.size w (w.alloc o) := fun o => (Below.refl _ _).alloc (Nat.le_refl _) _
  have h1 := fun o => much_any (w.alloc o) q win a c xs (by omega) (fun x hx => (hs x hx).1) (hr.below (hb0 o) (Nat.le_refl _))
  have h2 := fun W (hb : Below w.heap.size w W) => rmay_any W q win a c xs (by omega) (fun x hx => (hs x hx).1) (hr.below hb (Nat.le_refl _)) hq
  have h3 := fun W (hb : Below w.heap.size w W) => rencode_yes W q win a c xs hq hq2 hw1 hw2 hp3 hs (fun x hx => (hp4 x hx).2) (hr.below hb (Nat.le_refl _)) hm
  have h0b : (by_ == 0) = false := by simpa using h0
  rw [hmu] at h1
  have H2 := Lib.hid h2
  have H3 := Lib.hid h3
  have HM := Lib.hid hm
  have HCN := Lib.hid hc
  have H0 := Lib.hid h0
  unfold frv at *
  have H1 := Lib.hid h1
  clear h1 h2 h3 hr hs hmu hm hc h0 hp1 hp2 hp3 hp4 hq hq2 hw1 hw2
  go_enter Tryd.func4, Tryd.ntmps4
  go_wp2_with fail
  have cB : ((w.alloc (.cells #[.int .u64 q, .int .i64 win, .slice a xs.length c] 25)).heap)[w.heap.size]? = some (.cells #[.int .u64 q, .int .i64 win, .slice a xs.length c] 25 (0, 0)) := heap_alloc_new w _
  refine (H1.out _).mono ?_
  rintro e w1 ⟨rfl, hbk⟩
  have hcB := (hbk.block w.heap.size (by simp)).trans cB
  have cB0 : w1.cell? ⟨w.heap.size, 0, none⟩ = some (.int .u64 q) := by rw [cell_of_row _ _ _ _ _ _ hcB]; rfl
  have cB1 : w1.cell? ⟨w.heap.size, 1, none⟩ = some (.int .i64 win) := by rw [cell_of_row _ _ _ _ _ _ hcB]; rfl
  have cB2 : w1.cell? ⟨w.heap.size, 2, none⟩ = some (.slice a xs.length c) := by rw [cell_of_row _ _ _ _ _ _ hcB]; rfl
  have HB := Lib.hid ((hb0 _).trans (hbk.mono (by simp)))
  have h2 := H2.out _ HB.out
  rw [HM.out] at h2
  have H2 := Lib.hid h2
  clear hbk hb0 cB h2
  go_wp2_with fail
  refine H2.out.mono ?_
  rintro e w2 ⟨rfl, hbk⟩
  have HB2 := Lib.hid (HB.out.trans (hbk.mono HB.out.size))
  replace cB0 := keepc hbk cB0
  replace cB1 := keepc hbk cB1
  replace cB2 := keepc hbk cB2
  clear hbk hcB H2
  go_wp2_with fail
  refine (H3.out _ HB2.out).mono ?_
  rintro e w3 ⟨v, rfl, hown, hbk⟩
  have HB3 := Lib.hid (HB2.out.trans (hbk.mono HB2.out.size))
  have hown := own_base hown HB2.out.size
  obtain ⟨l, hl⟩ : ∃ l, l = encB q win xs := ⟨_, rfl⟩
  have HCN := HCN.out
  rw [← hl] at hown HCN
  have HL := Lib.hid hl
  clear hbk hl cB0 cB1 cB2
  obtain ⟨av, cv, rfl, -, -, -, -⟩ := own_slice hown
  clear hown
  rcases HCN with hc | ⟨hc, hc2 | ⟨hc2, hc3⟩⟩
  · have hg : (3000 : Int) < l.length := by omega
    go_wp2_with fail
    refine (known_any _).mono ?_
    rintro e w4 ⟨rfl, hb4⟩
    go_wp2
    go_ret
    exact ⟨rfl, HB3.out.trans (hb4.mono HB3.out.size)⟩
  · have hg : ¬ (3000 : Int) < l.length := by omega
    go_wp2_with fail
    refine (known_any _).mono ?_
    rintro e w4 ⟨rfl, hb4⟩
    go_wp2
    go_ret
    exact ⟨rfl, HB3.out.trans (hb4.mono HB3.out.size)⟩
  · have hg : ¬ (3000 : Int) < l.length := by omega
    go_wp2_with fail
    refine (known_any _).mono ?_
    rintro e w4 ⟨rfl, hb4⟩
    go_wp2
    go_ret
    exact ⟨rfl, HB3.out.trans (hb4.mono HB3.out.size)⟩
set_option maxHeartbeats 2000000 in
set_option maxRecDepth 100000 in
theorem frameByte_go (w : World) (q win at_ by_ : Int) (a : Option Addr) (c : Nat) (xs : List Rec) (hq : 0 ≤ q) (hq2 : q < 18446744073709551616) (hw1 : -9223372036854775808 ≤ win) (hw2 : win ≤ 9223372036854775807) (hb1 : 0 ≤ by_) (hb2 : by_ < 256) (hs : ∀ x ∈ xs, RecFit x) (hr : Rd w a (rcf xs)) (hmu : muchB xs = false) (hm : mayB q win xs = true) (h0 : by_ ≠ 0)
    (hc : (encB q win xs).length ≤ 3000 ∧ (0 ≤ at_ ∧ at_ < (encB q win xs).length)) :
    Calls Tryd.prog 4 #[frv q win (.slice a xs.length c), .int .i64 at_, .int .u8 by_] w fun e w' => e = .returned (.bool true) ∧ Below w.heap.size w w' := by
  obtain ⟨hp1, hp2, hp3, hp4⟩ := may_parts hm
  have hb0 : ∀ o, Below w.heap.size w (w.alloc o) := fun o => (Below.refl _ _).alloc (Nat.le_refl _) _
  have h1 := fun o => much_any (w.alloc o) q win a c xs (by omega) (fun x hx => (hs x hx).1) (hr.below (hb0 o) (Nat.le_refl _))
  have h2 := fun W (hb : Below w.heap.size w W) => rmay_any W q win a c xs (by omega) (fun x hx => (hs x hx).1) (hr.below hb (Nat.le_refl _)) hq
  have h3 := fun W (hb : Below w.heap.size w W) => rencode_yes W q win a c xs hq hq2 hw1 hw2 hp3 hs (fun x hx => (hp4 x hx).2) (hr.below hb (Nat.le_refl _)) hm
  have h0b : (by_ == 0) = false := by simpa using h0
  rw [hmu] at h1
  have H2 := Lib.hid h2
  have H3 := Lib.hid h3
  have HM := Lib.hid hm
  have HCN := Lib.hid hc
  have H0 := Lib.hid h0
  unfold frv at *
  have H1 := Lib.hid h1
  clear h1 h2 h3 hr hs hmu hm hc h0 hp1 hp2 hp3 hp4 hq hq2 hw1 hw2
  go_enter Tryd.func4, Tryd.ntmps4
  go_wp2_with fail
  have cB : ((w.alloc (.cells #[.int .u64 q, .int .i64 win, .slice a xs.length c] 25)).heap)[w.heap.size]? = some (.cells #[.int .u64 q, .int .i64 win, .slice a xs.length c] 25 (0, 0)) := heap_alloc_new w _
  refine (H1.out _).mono ?_
  rintro e w1 ⟨rfl, hbk⟩
  have hcB := (hbk.block w.heap.size (by simp)).trans cB
  have cB0 : w1.cell? ⟨w.heap.size, 0, none⟩ = some (.int .u64 q) := by rw [cell_of_row _ _ _ _ _ _ hcB]; rfl
  have cB1 : w1.cell? ⟨w.heap.size, 1, none⟩ = some (.int .i64 win) := by rw [cell_of_row _ _ _ _ _ _ hcB]; rfl
  have cB2 : w1.cell? ⟨w.heap.size, 2, none⟩ = some (.slice a xs.length c) := by rw [cell_of_row _ _ _ _ _ _ hcB]; rfl
  have HB := Lib.hid ((hb0 _).trans (hbk.mono (by simp)))
  have h2 := H2.out _ HB.out
  rw [HM.out] at h2
  have H2 := Lib.hid h2
  clear hbk hb0 cB h2
  go_wp2_with fail
  refine H2.out.mono ?_
  rintro e w2 ⟨rfl, hbk⟩
  have HB2 := Lib.hid (HB.out.trans (hbk.mono HB.out.size))
  replace cB0 := keepc hbk cB0
  replace cB1 := keepc hbk cB1
  replace cB2 := keepc hbk cB2
  clear hbk hcB H2
  go_wp2_with fail
  refine (H3.out _ HB2.out).mono ?_
  rintro e w3 ⟨v, rfl, hown, hbk⟩
  have HB3 := Lib.hid (HB2.out.trans (hbk.mono HB2.out.size))
  have hown := own_base hown HB2.out.size
  obtain ⟨l, hl⟩ : ∃ l, l = encB q win xs := ⟨_, rfl⟩
  have HCN := HCN.out
  rw [← hl] at hown HCN
  have HL := Lib.hid hl
  clear hbk hl cB0 cB1 cB2
  obtain ⟨hc1, hc2, hc3⟩ := HCN
  obtain ⟨i, rfl⟩ := Int.eq_ofNat_of_zero_le hc2
  obtain ⟨y, rfl⟩ := Int.eq_ofNat_of_zero_le hb1
  have hi : i < l.length := by omega
  obtain ⟨hln, hcase⟩ := hown
  rcases hcase with ⟨-, hn0⟩ | ⟨g, cap, cur, rfl, hg, hblk, hcap, hcm, hcs, htake⟩
  · omega
  have hcs' : cur.size = cap := by simpa using hcs
  have hrd : Rd w3 (some ⟨g, 0, none⟩) (bv l) := by
    intro k v hv
    refine ⟨g, 0, rfl, ?_⟩
    rw [Nat.zero_add, cell_of_row _ _ _ _ _ _ hblk]
    have htk : cur.toList.take l.length = bv l := by simpa using htake
    rw [← htk, List.getElem?_take] at hv
    split at hv
    · simpa using hv
    · cases hv
  have hc3' : w3.cell? ⟨g, i, none⟩ = some (.int .u8 (l[i].toNat : Int)) := by
    obtain ⟨b', off', e', hcl⟩ := hrd i _ (bv_get hi)
    cases e'
    simpa using hcl
  have hf3 : w3.frozen? ⟨g, i, none⟩ = false := frozen_of_row w3 g i cur 5 hblk
  have HRD := Lib.hid hrd
  have HLI := Lib.hid (show l[i] = l[i] from rfl)
  have hx := l[i].toNat_lt
  obtain ⟨x, hxe⟩ : ∃ x, x = l[i].toNat := ⟨_, rfl⟩
  rw [← hxe] at hc3' hx
  have HX := Lib.hid hxe
  clear hxe hrd
  have hbits : bits .xor .u8 (x : Int) (y : Int) = ((x ^^^ y : Nat) : Int) := u8_xor_nat x y (by omega) (by omega)
  have hxy : x ^^^ y < 256 := Nat.xor_lt_two_pow (n := 8) (by omega) (by omega)
  have hset : bv (l.set i (UInt8.ofNat (x ^^^ y))) = (bv l).set i (.int .u8 ((x ^^^ y : Nat) : Int)) := by
    unfold bv
    rw [List.map_set, K.u8_of hxy]
  have hrd4 : Rd (w3.setCell ⟨g, i, none⟩ (.int .u8 ((x ^^^ y : Nat) : Int))) (some ⟨g, 0, none⟩) (bv (l.set i (UInt8.ofNat (x ^^^ y)))) := by
    intro k v hv
    refine ⟨g, 0, rfl, ?_⟩
    rw [hset, List.getElem?_set] at hv
    by_cases hk : i = k
    · subst hk
      rw [Nat.zero_add, World.cell?_setCell_same _ _ _ hc3']
      rw [if_pos rfl] at hv
      split at hv
      · exact hv
      · cases hv
    · rw [if_neg hk] at hv
      rw [World.cell?_setCell_other _ _ _ _ (by simp)]
      obtain ⟨b', off', e', hcl⟩ := HRD.out k v hv
      cases e'
      exact hcl
  have hne : l[i] ≠ UInt8.ofNat (x ^^^ y) := by
    intro hcon
    have h5 := congrArg UInt8.toNat hcon
    rw [K.u8_of hxy, ← HX.out] at h5
    have h6 : x ^^^ 0 = x ^^^ y := by simpa using h5
    have h7 := Crc.xor_cancel_left h6
    have := H0.out
    omega
  have hlen : (l.set i (UInt8.ofNat (x ^^^ y))).length = l.length := List.length_set
  have hlaw : ∃ k : Int, (k = 24 ∨ k = 25 ∧ i < 4) ∧ ∀ W, Rd W (some ⟨g, 0, none⟩) (bv (l.set i (UInt8.ofNat (x ^^^ y)))) → Calls Tryd.prog 13 #[.slice (some ⟨g, 0, none⟩) l.length cap] W (DecPost W k) := by
    obtain ⟨body, hbd⟩ : ∃ b, b = bodyB q win xs xs.length := ⟨_, rfl⟩
    have hl2 : l = body ++ sum4 (sumOf body) := by rw [HL.out, hbd]; rfl
    obtain ⟨ht, h4⟩ := body_tag q win xs xs.length
    rw [← hbd] at ht h4
    have hlb : l.length = body.length + 4 := by rw [hl2, List.length_append]; rfl
    clear HRD HX hset hrd4 hc3' hf3 hcs htake hblk
    subst hl2
    obtain ⟨hA, hB⟩ := byte_law body ht h4 i _ hi hne
    by_cases hi4 : i < 4
    · refine ⟨25, .inr ⟨rfl, hi4⟩, fun W hW => ?_⟩
      have := decode_tag W (some ⟨g, 0, none⟩) cap _ (by rw [hlen]; exact hcap) (by rw [hlen]; omega) hW (hA hi4)
      rw [hlen] at this
      exact this
    · obtain ⟨hB1, hB2⟩ := hB (by omega)
      refine ⟨24, .inl rfl, fun W hW => ?_⟩
      have := decode_sum W (some ⟨g, 0, none⟩) cap _ body.length (by rw [hlen]; exact hlb) h4 (by rw [hlen]; exact hcap) (by rw [hlen]; omega) hW hB1 hB2
      rw [hlen] at this
      exact this
  obtain ⟨k, hk, hD⟩ := hlaw
  have HD := Lib.hid (hD _ hrd4)
  have HB4 := Lib.hid (HB3.out.setCell (p := ⟨g, i, none⟩) hg (.int .u8 ((x ^^^ y : Nat) : Int)))
  have hg1 : ¬ (3000 : Int) < l.length := by omega
  have hg2 : (i : Int) < l.length := by omega
  clear hD hrd4 hset hne hlen HX HRD HL HCN HLI hblk hcs htake hln
  go_wp2_with fail
  refine HD.out.mono ?_
  rintro e w5 ⟨rfl, hb5⟩
  have HB5 := Lib.hid (HB4.out.trans (hb5.mono HB4.out.size))
  have hsame := fun o => rfsame_any (w5.alloc o) 0 0 0 0 none none 0 0 [] [] (by simp) (by simp) (Rd.nil _ _) (Rd.nil _ _)
  have HS := Lib.hid hsame
  clear hb5 hsame hbits hc3' hf3
  unfold frv at *
  rcases hk with rfl | ⟨rfl, hk4⟩
  · go_wp2_with fail
    refine (HS.out _).mono ?_
    rintro e w6 ⟨rfl, hb6⟩
    have HB6 := Lib.hid ((HB5.out.alloc HB5.out.size _).trans (hb6.mono (by have := HB5.out.size; simp; omega)))
    have hfr : frEq 0 0 [] 0 0 [] = true := rfl
    go_wp2_with fail
    refine (known_any _).mono ?_
    rintro e w7 ⟨rfl, hb7⟩
    go_wp2
    go_ret
    exact ⟨rfl, HB6.out.trans (hb7.mono HB6.out.size)⟩
  · have hk5 : (i : Int) < 4 := by omega
    go_wp2_with fail
    refine (HS.out _).mono ?_
    rintro e w6 ⟨rfl, hb6⟩
    have HB6 := Lib.hid ((HB5.out.alloc HB5.out.size _).trans (hb6.mono (by have := HB5.out.size; simp; omega)))
    have hfr : frEq 0 0 [] 0 0 [] = true := rfl
    go_wp2_with fail
    refine (known_any _).mono ?_
    rintro e w7 ⟨rfl, hb7⟩
    go_wp2
    go_ret
    exact ⟨rfl, HB6.out.trans (hb7.mono HB6.out.size)⟩
theorem frameByte_any (w : World) (q win at_ by_ : Int) (a : Option Addr) (c : Nat) (xs : List Rec) (hq : 0 ≤ q) (hq2 : q < 18446744073709551616) (hw1 : -9223372036854775808 ≤ win) (hw2 : win ≤ 9223372036854775807) (hb1 : 0 ≤ by_) (hb2 : by_ < 256) (hl : xs.length ≤ 9223372036854775807) (hs : ∀ x ∈ xs, RecFit x) (hr : Rd w a (rcf xs)) :
    Calls Tryd.prog 4 #[frv q win (.slice a xs.length c), .int .i64 at_, .int .u8 by_] w fun e w' => e = .returned (.bool true) ∧ Below w.heap.size w w' := by
  by_cases hmu : muchB xs = true
  · exact frameByte_skip w q win at_ by_ a c xs hq hl hs hr (.inl hmu)
  have hmu : muchB xs = false := by simpa using hmu
  by_cases hm : mayB q win xs = false
  · exact frameByte_skip w q win at_ by_ a c xs hq hl hs hr (.inr ⟨hmu, .inl hm⟩)
  have hm : mayB q win xs = true := by simpa using hm
  by_cases h0 : by_ = 0
  · exact frameByte_skip w q win at_ by_ a c xs hq hl hs hr (.inr ⟨hmu, .inr ⟨hm, h0⟩⟩)
  by_cases h3 : (encB q win xs).length ≤ 3000 ∧ (0 ≤ at_ ∧ at_ < (encB q win xs).length)
  · exact frameByte_go w q win at_ by_ a c xs hq hq2 hw1 hw2 hb1 hb2 hs hr hmu hm h0 h3
  · exact frameByte_out w q win at_ by_ a c xs hq hq2 hw1 hw2 hb1 hb2 hs hr hmu hm h0 (by omega)
end Go.Proofs.YtajddpdlhahcdaaDoor
