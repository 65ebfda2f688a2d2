/- DeltaPlays: the walk. -/
import Derived.Test.YthademifhnkbiaaDpM
namespace Go.Proofs.Ythademifhnkbiaa
open Go.RowKit K
theorem RsIs.base {w : World} {B B' r : Nat} {most : Int} {L : List SV} {G : Nat → Prop} (h : RsIs w B r most L G) (hB : B' ≤ B) : RsIs w B' r most L G := by
  obtain ⟨v, h1, h2, h3, h4, h5⟩ := h
  exact ⟨v, h1, own_base h2 hB, h3, h4, fun k hk => ⟨Nat.le_trans hB (h5 k hk).1, (h5 k hk).2⟩⟩
theorem RmIs.base {w : World} {B B' m r : Nat} {most : Int} {L : List SV} {G : Nat → Prop} {tal : Tal} (h : RmIs w B m r most L G tal) (hB : B' ≤ B) : RmIs w B' m r most L G tal :=
  ⟨h.1, h.2.1.base hB, h.2.2.1, Nat.le_trans hB h.2.2.2⟩
section
variable {w0 w w' : World} {m s rm r : Nat} {most : Int} {l L : List SV} {tal : Tal}
theorem ttally (h : TwM w0 m s rm r most l L tal w) : Calls Try.prog 16 #[.pointer (some ⟨m, 0, none⟩)] w fun e w' => e = .returned (.agg #[.int .i64 tal.p, .int .i64 tal.a, .int .i64 tal.o, .int .i64 tal.t, .int .i64 tal.f, .int .i64 tal.g, .int .i64 tal.r]) ∧ TwM w0 m s rm r most l L tal w' := by
  have H := h
  obtain ⟨F, G, h1, _⟩ := h
  refine (tally_any h1).mono ?_
  rintro e w' ⟨rfl, hb⟩
  exact ⟨rfl, H.new hb⟩
theorem tm_new (w : World) (x : Int) {w2 w3 : World} {mb s rm r : Nat} {F : List Nat} {G : Nat → Prop} (h1 : MIs w2 w.heap.size mb s (max x 0) [] F tal0) (hb1 : Below w.heap.size w w2) (h2 : RmIs w3 w2.heap.size rm r (max x 0) [] G tal0) (hb2 : Below w2.heap.size w2 w3) : TwM w mb s rm r (max x 0) [] [] tal0 w3 := by
  have hF : ∀ k ∈ F, k < w2.heap.size := h1.2.1.lt
  have hm : mb < w2.heap.size := (Array.getElem?_eq_some_iff.1 h1.1).1
  have hG : ∀ k, G k → w2.heap.size ≤ k := h2.2.1.ge
  have hr := h2.2.2.2
  exact ⟨F, G, h1.new hb2, h2.base hb1.size, fun k hk => ⟨fun hg => by have := hF k hk; have := hG k hg; omega, fun e => by have := hF k hk; omega⟩, fun hg => by have := hG _ hg; omega, by omega, hb1.trans (hb2.mono hb1.size)⟩
end
set_option maxHeartbeats 4000000 in
set_option maxRecDepth 100000 in
theorem deltaPlays_any (w : World) (most : Int) (a : Option Addr) (c : Nat) (l : List PutR) (hx : PutsM w l a) (hl : l.length ≤ 9223372036854775807) :
    Calls Try.prog 5 #[.int .i64 most, .slice a l.length c] w fun e w' => e = .returned (.bool true) ∧ Below w.heap.size w w' := by
  have HF := Lib.hid (show Calls Try.prog 13 #[.slice a l.length c, .int .i64 30] w (FewP17 w l 30) from few17_any w a c l 30 (by omega) hx hl)
  have HX := Lib.hid hx
  clear hx
  go_enter Try.func5, Try.ntmps5
  go_wp2_with fail
  refine HF.out.mono ?_
  rintro e w1 ⟨b, rfl, rfl, hfew⟩
  cases b with
  | false =>
    clear hfew
    go_wp2_with fail
    refine (known_any w).mono ?_
    rintro e w2 ⟨rfl, hb⟩
    go_wp2
    go_ret
    exact ⟨rfl, hb⟩
  | true =>
    obtain ⟨h30, h200⟩ := hfew rfl
    clear hfew HF
    go_wp2_with fail
    refine (dnew_any w most).mono ?_
    rintro e w2 ⟨mb, s, F, rfl, h1, hb1⟩
    have H1 := Lib.hid h1
    have HB1 := Lib.hid hb1
    clear h1 hb1
    go_wp2_with fail
    refine (rmnew_any w2 most).mono ?_
    rintro e w3 ⟨rm, r, G, rfl, h2, hb2⟩
    have HT3 := Lib.hid (tm_new w most H1.out HB1.out h2 hb2)
    clear h2 hb2 H1 HB1
    go_wp2_with fail
    go_loopw [7] (fun iv wr => ∃ (k : Nat) (ll LL : List SV) (tl : Tal), iv = .int .i64 k ∧ k ≤ l.length ∧ TwM w mb s rm r (max most 0) ll LL tl wr ∧ DInv (max most 0) ll LL tl (totP (l.take k))) (fun iv _ => l.length - (intOf iv).toNat)
    case atStart => exact ⟨0, [], [], tal0, rfl, Nat.zero_le _, HT3.out, by simpa [totP] using DInv.zero most⟩
    case round =>
      obtain ⟨k, ll, LL, tl, rfl, hk, ht, hi⟩ := hrel
      have HT := Lib.hid ht
      have HI := Lib.hid hi
      clear ht hi HT3
      by_cases hc : k < l.length
      · obtain ⟨x, hkx⟩ : ∃ x, l[k]? = some x := ⟨_, List.getElem?_eq_getElem hc⟩
        obtain ⟨b, off, ra, rc, rfl, d0, d1, hblt, hcc, hrr, hok⟩ := puts_cells HX.out hkx
        have hbel := HT.out.bel
        have e0 : wr.cell? ⟨b, off + k * 2, none⟩ = some (.int .i64 x.owner) := (hbel.cell (p := ⟨b, off + k * 2, none⟩) hblt).trans d0
        have e1 : wr.cell? ⟨b, off + k * 2 + 1, none⟩ = some (.slice ra x.xs.length rc) := (hbel.cell (p := ⟨b, off + k * 2 + 1, none⟩) hblt).trans d1
        have hts := totP_succ hkx
        have htt := totP_take_le l (k + 1)
        have hi5 := (HI.out.put x.owner x.xs hok.2).2
        rw [← hts] at hi5
        have HD := Lib.hid (do17_any HT.out HI.out (by omega) x.owner ra rc x.xs hrr (by omega) hok.2)
        have HI5 := Lib.hid hi5
        obtain ⟨owner, xs⟩ := x
        simp only at e0 e1 HD
        clear hbel d0 d1 hts htt hi5 hok hrr hcc hkx HX HT HI
        go_wp2_with fail
        refine HD.out.mono ?_
        rintro e w5 ⟨rfl, ht5⟩
        have HT5 := Lib.hid ht5
        clear ht5 HD e0 e1
        generalize goneL owner (xs.map (·.name)) (putL (max most 0) owner ll xs) = l5 at HT5 HI5
        generalize goneL owner (xs.map (·.name)) (rputL (max most 0) owner LL xs) = L5 at HT5 HI5
        generalize (putS (max most 0) owner ll xs).foldl tadd tl = t5 at HT5 HI5
        obtain ⟨tp, ta, t0, tt', tf, tg, tr⟩ := t5
        have hsum := HI5.out.sum
        have htb := HI5.out.tb
        have htt := totP_take_le l (k + 1)
        unfold TB at htb
        simp only at hsum htb
        obtain ⟨hs1, hs2⟩ := hsum
        subst hs1
        have HTL := Lib.hid (ttally HT5.out)
        simp only [] at HTL
        have b1 : 0 ≤ ta ∧ ta ≤ 200 := by omega
        have b2 : 0 ≤ t0 ∧ t0 ≤ 200 := by omega
        have b3 : 0 ≤ tt' ∧ tt' ≤ 200 := by omega
        have b4 : 0 ≤ tf ∧ tf ≤ 200 := by omega
        have b5 : ¬ tg < tr := by omega
        have bz : ((ta + t0 + tt' + tf) != (ta + t0 + tt' + tf)) = false := by simp
        clear htb htt hs2
        go_wp2_with fail
        refine HTL.out.mono ?_
        rintro e w6 ⟨rfl, ht6⟩
        have HT6 := Lib.hid (fun o => ht6.new ((Below.refl _ _).alloc (Nat.le_refl _) o))
        clear ht6 HTL HT5
        go_wp2
        go_roundw
        case rel => exact ⟨k + 1, _, _, _, by go_num, by omega, HT6.out _, HI5.out⟩
        case measure => simp [intOf]; omega
      · obtain rfl : k = l.length := by omega
        have hbel := HT.out.bel
        obtain ⟨F', G', hm, hr, -⟩ := HT.out
        have hlen : ll.length = LL.length := HI.out.rel.perm.length_eq
        have hll : ll.length ≤ 200 := by have := HI.out.len; rw [List.take_length] at this; omega
        have HMS := Lib.hid (mstore_any hm HI.out.rel.uniq HI.out.most)
        obtain ⟨ra, rc, hrx, -⟩ := hr.2.1.shape
        have d0 : wr.cell? ⟨rm, 0, none⟩ = some (.pointer (some ⟨r, 0, none⟩)) := by rw [cell_of_row _ _ _ _ _ _ hr.1]; rfl
        have d1 : wr.cell? ⟨r, 0, none⟩ = some (.slice ra LL.length rc) := by rw [cell_of_row _ _ _ _ _ _ hrx]; rfl
        have HD0 := Lib.hid d0
        have HD1 := Lib.hid d1
        have HLE := Lib.hid hlen
        have HLL := Lib.hid hll
        have HBEL := Lib.hid hbel
        clear hbel hm hr hlen hll hrx d0 d1 HT HI
        go_wp2_with fail
        refine HMS.out.mono ?_
        rintro e w6 ⟨s', F6, l6, rfl, h6, hp6, hb6, -⟩
        have hl6 : l6.length = LL.length := hp6.length_eq.trans HLE.out
        have hlb : LL.length ≤ 200 := by have := HLL.out; have := HLE.out; omega
        have HLN := Lib.hid (fun W (hb : Below w6.heap.size w6 W) => (show Calls Try.prog 18 #[.pointer (some ⟨s', 0, none⟩)] W fun e w' => e = .returned (.int .i64 LL.length) ∧ W = w' from by
          have := slen_any (h6.only (G := fun _ => False) (Only.of_new hb) (fun _ _ h => h)) (by omega)
          rw [hl6] at this
          exact this))
        have D0 := Lib.hid (keepc hb6 HD0.out)
        have D1 := Lib.hid (keepc hb6 HD1.out)
        have HB6 := Lib.hid (HBEL.out.trans (hb6.mono HBEL.out.size))
        have HKN := Lib.hid (fun W => known_any W)
        clear h6 hp6 hb6 hl6 HMS HD0 HD1 HLE HLL HBEL
        generalize LL.length = ln at HLN D1 hlb
        go_wp2_with fail
        refine wp_region_noPanic ?_
        refine wp_region_held_drew (S := (fun w' => Below w6.heap.size w6 w')) (by kernel_rfl) ?_ (fun hHeld => ?_)
        · exact drew_below _
        refine wpAnyH_take (i := 0) (oi := _) (v := ?_) rfl (by kernel_rfl) (by kernel_rfl) (by kernel_rfl) (fun _ _ _ h => h) (Or.inl ⟨by rfl, ?_⟩) (by assumption) ?_
        rotate_left 1
        · (intro w hSw; (try dsimp only at hSw); go_simp; (try with_reducible rfl))
        try simp only [Act.put, List.getElem_toArray, List.getElem_cons_zero, List.setIfInBounds_toArray, List.set_cons_zero, List.set_cons_succ]
        refine wpAnyH_take (i := 1) (oi := _) (v := ?_) rfl (by kernel_rfl) (by kernel_rfl) (by kernel_rfl) (fun _ _ _ h => h) (Or.inl ⟨by rfl, ?_⟩) (by assumption) ?_
        rotate_left 1
        · (intro w hSw; (try dsimp only at hSw); go_simp; (try with_reducible rfl))
        try simp only [Act.put, List.getElem_toArray, List.getElem_cons_succ, List.getElem_cons_zero, List.setIfInBounds_toArray, List.set_cons_zero, List.set_cons_succ]
        refine wpAnyH_take (i := 2) (oi := _) (v := ?_) rfl (by kernel_rfl) (by kernel_rfl) (by kernel_rfl) (fun _ _ _ h => h) (Or.inl ⟨by rfl, ?_⟩) (by assumption) ?_
        rotate_left 1
        · (intro w hSw; (try dsimp only at hSw); go_simp; (try with_reducible rfl))
        try simp only [Act.put, List.getElem_toArray, List.getElem_cons_succ, List.getElem_cons_zero, List.setIfInBounds_toArray, List.set_cons_zero, List.set_cons_succ]
        refine wpAnyH_take (i := 3) (oi := _) (v := ?_) rfl (by kernel_rfl) (by kernel_rfl) (by kernel_rfl) (fun _ _ _ h => h) (Or.inl ⟨by rfl, ?_⟩) (by assumption) ?_
        rotate_left 1
        · (intro w hSw; (try dsimp only at hSw); go_simp; (try with_reducible rfl))
        try simp only [Act.put, List.getElem_toArray, List.getElem_cons_succ, List.getElem_cons_zero, List.setIfInBounds_toArray, List.set_cons_zero, List.set_cons_succ]
        refine wpAnyH_take (i := 5) (oi := _) (v := ?_) rfl (by kernel_rfl) (by kernel_rfl) (by kernel_rfl) (fun _ _ _ h => h) (Or.inl ⟨by rfl, ?_⟩) (by assumption) ?_
        rotate_left 1
        · (intro w hSw; (try dsimp only at hSw); go_simp; (try with_reducible rfl))
        try simp only [Act.put, List.getElem_toArray, List.getElem_cons_succ, List.getElem_cons_zero, List.setIfInBounds_toArray, List.set_cons_zero, List.set_cons_succ]
        refine wpAnyH_take (i := 6) (oi := _) (v := ?_) rfl (by kernel_rfl) (by kernel_rfl) (by kernel_rfl) (fun _ _ _ h => h) (Or.inl ⟨by rfl, ?_⟩) (by assumption) ?_
        rotate_left 1
        · (intro w hSw; (try dsimp only at hSw); go_simp; (try with_reducible rfl))
        try simp only [Act.put, List.getElem_toArray, List.getElem_cons_succ, List.getElem_cons_zero, List.setIfInBounds_toArray, List.set_cons_zero, List.set_cons_succ]
        refine wpAnyH_take (i := 7) (oi := _) (v := ?_) rfl (by kernel_rfl) (by kernel_rfl) (by kernel_rfl) (fun _ _ _ h => h) (Or.inl ⟨by rfl, ?_⟩) (by assumption) ?_
        rotate_left 1
        · (intro w hSw; (try dsimp only at hSw); go_simp; (try with_reducible rfl))
        try simp only [Act.put, List.getElem_toArray, List.getElem_cons_succ, List.getElem_cons_zero, List.setIfInBounds_toArray, List.set_cons_zero, List.set_cons_succ]
        refine wpAnyH_take (i := 8) (oi := _) (v := ?_) rfl (by kernel_rfl) (by kernel_rfl) (by kernel_rfl) (fun _ _ _ h => h) (Or.inl ⟨by rfl, ?_⟩) (by assumption) ?_
        rotate_left 1
        · (intro w hSw; (try dsimp only at hSw); (have d0 := keepc hSw D0.out; go_simp); (try with_reducible rfl))
        try simp only [Act.put, List.getElem_toArray, List.getElem_cons_succ, List.getElem_cons_zero, List.setIfInBounds_toArray, List.set_cons_zero, List.set_cons_succ]
        refine wpAnyH_take (i := 9) (oi := _) (v := ?_) rfl (by kernel_rfl) (by kernel_rfl) (by kernel_rfl) (fun _ _ _ h => h) (Or.inl ⟨by rfl, ?_⟩) (by assumption) ?_
        rotate_left 1
        · (intro w hSw; (try dsimp only at hSw); go_simp; (try with_reducible rfl))
        try simp only [Act.put, List.getElem_toArray, List.getElem_cons_succ, List.getElem_cons_zero, List.setIfInBounds_toArray, List.set_cons_zero, List.set_cons_succ]
        refine wpAnyH_take (i := 10) (oi := _) (v := ?_) rfl (by kernel_rfl) (by kernel_rfl) (by kernel_rfl) (fun _ _ _ h => h) (Or.inl ⟨by rfl, ?_⟩) (by assumption) ?_
        rotate_left 1
        · (intro w hSw; (try dsimp only at hSw); go_simp; (try with_reducible rfl))
        try simp only [Act.put, List.getElem_toArray, List.getElem_cons_succ, List.getElem_cons_zero, List.setIfInBounds_toArray, List.set_cons_zero, List.set_cons_succ]
        refine wpAnyH_take (i := 11) (oi := _) (v := ?_) rfl (by kernel_rfl) (by kernel_rfl) (by kernel_rfl) (fun _ _ _ h => h) (Or.inl ⟨by rfl, ?_⟩) (by assumption) ?_
        rotate_left 1
        · (intro w hSw; (try dsimp only at hSw); (have d1 := keepc hSw D1.out; go_simp); (try with_reducible rfl))
        try simp only [Act.put, List.getElem_toArray, List.getElem_cons_succ, List.getElem_cons_zero, List.setIfInBounds_toArray, List.set_cons_zero, List.set_cons_succ]
        refine wpAnyH_take (i := 12) (oi := _) (v := ?_) rfl (by kernel_rfl) (by kernel_rfl) (by kernel_rfl) (fun _ _ _ h => h) (Or.inl ⟨by rfl, ?_⟩) (by assumption) ?_
        rotate_left 1
        · (intro w hSw; (try dsimp only at hSw); go_simp; (try with_reducible rfl))
        try simp only [Act.put, List.getElem_toArray, List.getElem_cons_succ, List.getElem_cons_zero, List.setIfInBounds_toArray, List.set_cons_zero, List.set_cons_succ]
        refine wpAnyH_ready (rs := [4]) (by kernel_rfl) (by simp) ?_
        refine AllReadyH.cons (o := _) rfl (fun K hK => ?_) AllReadyH.nil
        go_simp
        refine (HLN.out _ hHeld).mono ?_
        rintro e w7 ⟨rfl, rfl⟩
        go_wp2_with fail
        refine hK.out _ _ ?_ (fun hHeld4 => ?_)
        · exact hHeld
        clear hK K
        try simp only [Act.put, List.getElem_toArray, List.getElem_cons_succ, List.getElem_cons_zero, List.setIfInBounds_toArray, List.set_cons_zero, List.set_cons_succ]
        refine wpAnyH_take (i := 13) (oi := _) (v := ?_) rfl (by kernel_rfl) (by kernel_rfl) (by kernel_rfl) (fun _ _ _ h => h) (Or.inl ⟨by rfl, ?_⟩) (by assumption) ?_
        rotate_left 1
        · (intro w hSw; (try dsimp only at hSw); go_simp; (try with_reducible rfl))
        try simp only [Act.put, List.getElem_toArray, List.getElem_cons_succ, List.getElem_cons_zero, List.setIfInBounds_toArray, List.set_cons_zero, List.set_cons_succ]
        refine wpAnyH_take (i := 14) (oi := _) (v := ?_) rfl (by kernel_rfl) (by kernel_rfl) (by kernel_rfl) (fun _ _ _ h => h) (Or.inl ⟨by rfl, ?_⟩) (by assumption) ?_
        rotate_left 1
        · (intro w hSw; (try dsimp only at hSw); go_simp; (try with_reducible rfl))
        try simp only [Act.put, List.getElem_toArray, List.getElem_cons_succ, List.getElem_cons_zero, List.setIfInBounds_toArray, List.set_cons_zero, List.set_cons_succ]
        refine wpAnyH_take (i := 15) (oi := _) (v := ?_) rfl (by kernel_rfl) (by kernel_rfl) (by kernel_rfl) (fun _ _ _ h => h) (Or.inl ⟨by rfl, ?_⟩) (by assumption) ?_
        rotate_left 1
        · (intro w hSw; (try dsimp only at hSw); go_simp; (try with_reducible rfl))
        try simp only [Act.put, List.getElem_toArray, List.getElem_cons_succ, List.getElem_cons_zero, List.setIfInBounds_toArray, List.set_cons_zero, List.set_cons_succ]
        refine wpAnyH_ready (rs := [16]) (by kernel_rfl) (by simp) ?_
        refine AllReadyH.cons (o := _) rfl (fun K hK => ?_) AllReadyH.nil
        go_simp
        refine (HKN.out _).mono ?_
        rintro e w8 ⟨rfl, hb8⟩
        go_wp2_with fail
        refine hK.out _ _ ?_ (fun hHeld16 => ?_)
        · exact hHeld.trans (hb8.mono hHeld.size)
        clear hK K
        try simp only [Act.put, List.getElem_toArray, List.getElem_cons_succ, List.getElem_cons_zero, List.setIfInBounds_toArray, List.set_cons_zero, List.set_cons_succ]
        refine wpAnyH_take (i := 17) (oi := _) (v := ?_) rfl (by kernel_rfl) (by kernel_rfl) (by kernel_rfl) (fun _ _ _ h => h) (Or.inl ⟨by rfl, ?_⟩) (by assumption) ?_
        rotate_left 1
        · (intro w hSw; (try dsimp only at hSw); go_simp; (try with_reducible rfl))
        try simp only [Act.put, List.getElem_toArray, List.getElem_cons_succ, List.getElem_cons_zero, List.setIfInBounds_toArray, List.set_cons_zero, List.set_cons_succ]
        refine wpAnyH_take (i := 18) (oi := _) (v := ?_) rfl (by kernel_rfl) (by kernel_rfl) (by kernel_rfl) (fun _ _ _ h => h) (Or.inl ⟨by rfl, ?_⟩) (by assumption) ?_
        rotate_left 1
        · (intro w hSw; (try dsimp only at hSw); go_simp; (try with_reducible rfl))
        try simp only [Act.put, List.getElem_toArray, List.getElem_cons_succ, List.getElem_cons_zero, List.setIfInBounds_toArray, List.set_cons_zero, List.set_cons_succ]
        refine wpAnyH_done (by kernel_rfl) ?_ _
        refine NoPanic.normal ?_
        go_wp2
        go_ret
        exact ⟨rfl, HB6.out.trans (hHeld16.mono HB6.out.size)⟩
end Go.Proofs.Ythademifhnkbiaa
