/- NetPlays: the walk. -/
import Derived.Test.YtepdnmpcccgcaaaNtQ
namespace Go.Proofs.Ytepdnmpcccgcaaa
open Go.RowKit K
theorem RfIs.base {w : World} {B B' r : Nat} {most d : Int} {L : List RC} {G : Nat → Prop} (h : RfIs w B r most d L G) (hB : B' ≤ B) : RfIs w B' r most d L G := by
  obtain ⟨v, h1, h2, h3, h4, h5⟩ := h
  exact ⟨v, h1, own_base h2 hB, h3, h4, fun k hk => ⟨Nat.le_trans hB (h5 k hk).1, (h5 k hk).2⟩⟩
theorem nw_new {w w2 w3 : World} {n r : Nat} {x : Int} {F : List Nat} {G : Nat → Prop} (h1 : NetIs w2 w.heap.size n x 0 [] F) (hb1 : Below w.heap.size w w2) (h2 : RfIs w3 w2.heap.size r x 0 [] G) (hb2 : Below w2.heap.size w2 w3) : NwF w n r x 0 [] F G w3 :=
  ⟨h1.only (Only.of_new (F := fun _ => False) hb2) (fun _ _ h => h), h2.base hb1.size, fun k hk hg => by
    have a1 := (h1.lt k hk).2
    have a2 := (h2.in k hg).1
    omega, hb1.trans (hb2.mono hb1.size)⟩
set_option maxHeartbeats 4000000 in
set_option maxRecDepth 100000 in
theorem netPlays_any (w : World) (most leave : Int) (a : Option Addr) (c : Nat) (l : List ActR) (hx : ActsM w l a) (hl : l.length ≤ 9223372036854775807) :
    Calls Try.prog 6 #[.int .i64 most, .slice a l.length c, .int .i64 leave] w fun e w' => e = .returned (.bool true) ∧ Below w.heap.size w w' := by
  have HF := Lib.hid (show Calls Try.prog 15 #[.slice a l.length c, .int .i64 60] w (FewA w l 60) from few04_any w a c l 60 (by omega) hx hl)
  have HX0 := Lib.hid hx
  clear hx
  go_enter Try.func6, Try.ntmps6
  go_wp2_with fail
  refine HF.out.mono ?_
  rintro e w1 ⟨b, rfl, ⟨n1, rfl⟩, hfew⟩
  obtain ⟨w1, hw1⟩ : ∃ W, W = w.drewN n1 := ⟨_, rfl⟩
  have HB1 := Lib.hid (show Below w.heap.size w w1 by rw [hw1]; exact below_drewN (Below.refl _ w) _)
  rw [← hw1]
  clear hw1
  have HX := Lib.hid (HX0.out.below HB1.out)
  cases b with
  | false =>
    clear hfew
    go_wp2_with fail
    refine (known_any w1).mono ?_
    rintro e w2 ⟨rfl, hb⟩
    go_wp2
    go_ret
    exact ⟨rfl, HB1.out.trans (hb.mono HB1.out.size)⟩
  | true =>
    obtain ⟨h60, h3000⟩ := hfew rfl
    clear hfew HF
    obtain ⟨mx, hmx⟩ : ∃ mx, max most 0 = mx := ⟨_, rfl⟩
    have HM := Lib.hid hmx
    go_wp2_with fail
    refine (new_any (w := w1) w1.heap.size (Nat.le_refl _) most).mono ?_
    rintro e w2 ⟨n, F, rfl, h1, hb1, -⟩
    have H1 := Lib.hid h1
    have HB2 := Lib.hid hb1
    clear h1 hb1
    go_wp2_with fail
    refine (rfnew_any w2 most).mono ?_
    rintro e w3 ⟨r, G, rfl, h2, hb2⟩
    have HT3 := Lib.hid (nw_new H1.out HB2.out h2 hb2)
    have HZ := Lib.hid (NInv.zero most)
    rw [hmx] at HT3 HZ
    clear h2 hb2 H1 HB2 hmx
    go_wp2_with fail
    go_loopw [9] (fun iv wr => ∃ (k : Nat) (d : Int) (L : List RC) (F : List Nat) (G : Nat → Prop), iv = .int .i64 k ∧ k ≤ l.length ∧ NwF w1 n r mx d L F G wr ∧ NInv mx d L k (totB (l.take k))) (fun iv _ => l.length - (intOf iv).toNat)
    case atStart => exact ⟨0, 0, [], F, G, rfl, Nat.zero_le _, HT3.out, by simpa [totB] using HZ.out⟩
    case round =>
      obtain ⟨k, d, L, F, G, rfl, hk, ht, hi⟩ := hrel
      have HT := Lib.hid ht
      have HI := Lib.hid hi
      clear ht hi HT3
      by_cases hc : k < l.length
      · obtain ⟨x, hkx⟩ : ∃ x, l[k]? = some x := ⟨_, List.getElem?_eq_getElem hc⟩
        obtain ⟨b, off, ra, rc, rfl, d0, d1, d2, d3, hblt, hrr, hok⟩ := acts_cells HX.out hkx
        have hbel := HT.out.2.2.2
        have e0 : wr.cell? ⟨b, off + k * 4, none⟩ = some (.int .i64 x.kind) := (hbel.cell (p := ⟨b, off + k * 4, none⟩) hblt).trans d0
        have e1 : wr.cell? ⟨b, off + k * 4 + 1, none⟩ = some (.int .i64 x.id) := (hbel.cell (p := ⟨b, off + k * 4 + 1, none⟩) hblt).trans d1
        have e2 : wr.cell? ⟨b, off + k * 4 + 2, none⟩ = some (.string x.host) := (hbel.cell (p := ⟨b, off + k * 4 + 2, none⟩) hblt).trans d2
        have e3 : wr.cell? ⟨b, off + k * 4 + 3, none⟩ = some (.slice ra x.b.length rc) := (hbel.cell (p := ⟨b, off + k * 4 + 3, none⟩) hblt).trans d3
        have hts := totB_succ hkx
        have htb := totB_le (l.take (k + 1))
        have htt := totA_take_le l (k + 1)
        have HD := Lib.hid (do04_any HT.out HI.out (by omega) x.kind x.id x.host ra rc x.b (by omega) hrr)
        rw [← hts] at HD
        have HN := Lib.hid (show totB (l.take (k + 1)) ≤ 100000 from by omega)
        obtain ⟨kind, id, host, bs⟩ := x
        simp only at e0 e1 e2 e3 HD
        clear hbel d0 d1 d2 d3 hts htb htt hok hrr hkx HT HI
        go_wp2_with fail
        refine HD.out.mono ?_
        rintro e w5 ⟨rfl, d5, L5, hi5, F5, G5, ht5, -, -⟩
        have HT5 := Lib.hid ht5
        have HI5 := Lib.hid hi5
        clear ht5 hi5 HD e0 e1 e2 e3
        go_wp2_with fail
        refine (same04_any HT5.out HI5.out (by omega) HN.out leave).mono ?_
        rintro e w6 ⟨rfl, hb6⟩
        have HT6 := Lib.hid (HT5.out.new hb6)
        have HLN := Lib.hid (show Calls Try.prog 29 #[.pointer (some ⟨n, 0, none⟩)] w6 fun e w' => e = .returned (.int .i64 (L5.length : Int)) ∧ w6 = w' from by
          have h9 := len_any HT6.out.1
          rw [List.length_map] at h9
          exact h9)
        have hle := HI5.out.len
        clear hb6 HT5
        generalize hln : L5.length = ln at HLN hle
        clear hln
        have hmx := HM.out
        go_wp2_with fail
        refine HLN.out.mono ?_
        rintro e w7 ⟨rfl, rfl⟩
        by_cases hm0 : most ≤ 0
        · have hl0 : (0 < (ln : Int)) = False := by rw [eq_iff_iff, iff_false]; omega
          have hl1 : (0 < ln) = False := by rw [eq_iff_iff, iff_false]; omega
          have hm1 : max most 0 = 0 := by omega
          clear hmx hle
          go_wp2_with fail
          go_roundw
          case rel => exact ⟨k + 1, d5, L5, F5, G5, by go_num, by omega, HT6.out, HI5.out⟩
          case measure => simp [intOf]; omega
        · have hl0 : (most < (ln : Int)) = False := by rw [eq_iff_iff, iff_false]; omega
          have hm1 : max most 0 = most := by omega
          clear hmx hle
          go_wp2_with fail
          go_roundw
          case rel => exact ⟨k + 1, d5, L5, F5, G5, by go_num, by omega, HT6.out, HI5.out⟩
          case measure => simp [intOf]; omega
      · obtain rfl : k = l.length := by omega
        have HN := Lib.hid (show totB (l.take l.length) ≤ 100000 from by
          have htb := totB_le (l.take l.length)
          have htt := totA_take_le l l.length
          omega)
        go_wp2_with fail
        refine (same04_any HT.out HI.out (by omega) HN.out leave).mono ?_
        rintro e w6 ⟨rfl, hb6⟩
        have HT6 := Lib.hid (HT.out.new hb6)
        clear hb6 HT HI
        go_wp2_with fail
        refine (known_any w6).mono ?_
        rintro e w7 ⟨rfl, hb7⟩
        go_wp2
        go_ret
        exact ⟨rfl, (HB1.out.trans (HT6.out.2.2.2.mono HB1.out.size)).trans (hb7.mono (HB1.out.trans (HT6.out.2.2.2.mono HB1.out.size)).size)⟩
end Go.Proofs.Ytepdnmpcccgcaaa
