/- DeltaCopies: the walk. -/
import Derived.Test.YthademifhnkbiaaDpM
import Derived.Test.YthademifhnkbiaaDpR
namespace Go.Proofs.Ythademifhnkbiaa
open Go.RowKit K
theorem MIs.base {w : World} {B B' m s : Nat} {most : Int} {l : List SV} {F : List Nat} {tal : Tal} (h : MIs w B m s most l F tal) (hB : B' ≤ B) : MIs w B' m s most l F tal := by
  obtain ⟨h1, ⟨M, es, ⟨a1, a2, a3, a4, a5⟩, b2, b3⟩, h3, h4, h5⟩ := h
  exact ⟨h1, ⟨M, es, ⟨a1, a2, a3, a4, fun k hk => Nat.le_trans hB (a5 k hk)⟩, b2, b3⟩, h3, Nat.le_trans hB h4, fun k hk => Nat.le_trans hB (h5 k hk)⟩
section
variable {w0 wb w w' : World} {m s rm r : Nat} {most : Int} {l L : List SV} {tal : Tal} {F : List Nat} {G P : Nat → Prop} {n : Nat}
theorem TwF.only (h : TwF w0 m s rm r most l L tal F G w) (ho : Only P w w') (hd : ∀ k, twfoot m rm F G k → ¬ P k) (hb : Below w0.heap.size w0 w') : TwF w0 m s rm r most l L tal F G w' := by
  obtain ⟨h1, h2, h3, h4, h5, -⟩ := h
  exact ⟨h1.only ho (hd _ (.inl rfl)) (fun k hk => hd k (.inr (.inl hk))), h2.only ho (hd _ (.inr (.inr (.inl rfl)))) (fun k hk => hd k (.inr (.inr (.inr hk)))), h3, h4, h5, hb⟩
theorem TwF.in (h : TwF w0 m s rm r most l L tal F G w) {k : Nat} (hk : twfoot m rm F G k) : w0.heap.size ≤ k ∧ k < w.heap.size := by
  obtain ⟨h1, h2, -⟩ := h
  rcases hk with rfl | hk | rfl | hk
  · exact ⟨h1.2.2.2.1, (Array.getElem?_eq_some_iff.1 h1.1).1⟩
  · exact ⟨h1.2.2.2.2 k hk, h1.2.1.lt k hk⟩
  · exact ⟨h2.2.2.2, (Array.getElem?_eq_some_iff.1 h2.1).1⟩
  · exact ⟨h2.2.1.ge k hk, h2.2.1.lt k hk⟩
/-- A loop over scrapes: both meters, and what was turned since its start. -/
def LpI (w0 wb : World) (P : Nat → Prop) (m s rm r : Nat) (most : Int) (n : Nat) (w : World) : Prop :=
  ∃ ll LL tl F G, TwF w0 m s rm r most ll LL tl F G w ∧ DInv most ll LL tl n ∧ NS LL ∧ Only P wb w ∧ ∀ k, twfoot m rm F G k → P k ∨ wb.heap.size ≤ k
theorem lp_start (h : TwF w0 m s rm r most l L tal F G w) (hi : DInv most l L tal n) (hn : NS L) : LpI w0 w (twfoot m rm F G) m s rm r most n w :=
  ⟨l, L, tal, F, G, h, hi, hn, Only.refl _ _, fun _ hk => .inl hk⟩
theorem LpI.bel (h : LpI w0 wb P m s rm r most n w) : Below w0.heap.size w0 w := by
  obtain ⟨_, _, _, _, _, ⟨_, _, _, _, _, hb⟩, _⟩ := h
  exact hb
theorem lp_round (h : LpI w0 wb P m s rm r most n w) (hn : n ≤ 1000) (owner : Int) (a : Option Addr) (c : Nat) (xs : List Smp) (hr : Rd w0 a (smf xs)) (hx : xs.length ≤ 1000) (hxo : ∀ x ∈ xs, I64 x.val) :
    Calls Try.prog 15 #[.pointer (some ⟨m, 0, none⟩), .pointer (some ⟨rm, 0, none⟩), .agg #[.int .i64 owner, .slice a xs.length c]] w fun e w' => e = .returned (.bool true) ∧ LpI w0 wb P m s rm r most (n + xs.length) w' := by
  obtain ⟨ll, LL, tl, F, G, h1, h2, h3, h4, h5⟩ := h
  refine (do17_foot h1 h2 hn owner a c xs hr hx hxo).mono ?_
  rintro e w' ⟨rfl, F', G', g1, g2, g3⟩
  refine ⟨rfl, _, _, _, F', G', g1, (h2.put owner xs hxo).2, (h3.put xs).gone, h4.trans g2 (fun k hk hf => (h5 k hf).elim id fun h => by omega), fun k hk => ?_⟩
  rcases g3 k hk with h | h
  · exact h5 k h
  · exact .inr (Nat.le_trans h4.size h)
theorem tf_copy {w1 w2 : World} {o s' v r' : Nat} {l' : List SV} {F2 : List Nat} {G2 : Nat → Prop} (hb0 : Below w0.heap.size w0 w) (h1 : MIs w1 w.heap.size o s' most l' F2 tal) (hb1 : Below w.heap.size w w1) (h2 : RmIs w2 w1.heap.size v r' most L G2 tal) (hb2 : Below w1.heap.size w1 w2) :
    TwF w0 o s' v r' most l' L tal F2 G2 w2 ∧ ∀ k, twfoot o v F2 G2 k → w.heap.size ≤ k := by
  have hF : ∀ k ∈ F2, k < w1.heap.size := h1.2.1.lt
  have hm : o < w1.heap.size := (Array.getElem?_eq_some_iff.1 h1.1).1
  have hG : ∀ k, G2 k → w1.heap.size ≤ k := h2.2.1.ge
  have hr := h2.2.2.2
  have hs := hb1.size
  have hs0 := hb0.size
  refine ⟨⟨(h1.new hb2).base hs0, h2.base (Nat.le_trans hs0 hs), fun k hk => ⟨fun hg => by have := hF k hk; have := hG k hg; omega, fun e => by have := hF k hk; omega⟩, fun hg => by have := hG _ hg; omega, by omega, (hb0.trans (hb1.mono hs0)).trans (hb2.mono (Nat.le_trans hs0 hs))⟩, fun k hk => ?_⟩
  rcases hk with rfl | hk | rfl | hk
  · exact h1.2.2.2.1
  · exact h1.2.2.2.2 k hk
  · omega
  · have := hG k hk; omega
theorem DInv.perm {l' : List SV} (h : DInv most l L tal n) (hp : l'.Perm l) : DInv most l' L tal n :=
  ⟨⟨h.rel.uniq.perm hp.symm, hp.trans h.rel.perm⟩, fun v hv => h.ok v (hp.mem_iff.1 hv), h.tb, by rw [hp.length_eq]; exact h.len, h.sum, h.most⟩
theorem talB_comm (x y : Tal) : talB x y = talB y x := by
  rw [Bool.eq_iff_iff, talB_iff, talB_iff]
  exact eq_comm
theorem alikeB_comm (x y : List SV) : alikeB x y = alikeB y x := by
  rw [Bool.eq_iff_iff, alikeB_iff, alikeB_iff]
  exact eq_comm
/-- Both meters and both references, apart, and what each of the four says of its pair. -/
theorem tf_same {o s' v r' : Nat} {l2 L2 : List SV} {t2 : Tal} {F2 : List Nat} {G2 : Nat → Prop} {n2 : Nat} (h : TwF w0 m s rm r most l L tal F G w) (h2 : TwF w0 o s' v r' most l2 L2 t2 F2 G2 w) (hi : DInv most l L tal n) (hi2 : DInv most l2 L2 t2 n2) (hn : n ≤ 1000) (hn2 : n2 ≤ 1000) (s1 : NS L) (s2 : NS L2) :
    Calls Try.prog 21 #[.pointer (some ⟨m, 0, none⟩), .pointer (some ⟨o, 0, none⟩)] w fun e w' => e = .returned (.bool (talB tal t2 && alikeB L L2)) ∧ Below w.heap.size w w' := by
  have hl1 := hi.len
  have hl2 := hi2.len
  have := msame_any h.1 h2.1 hi.rel.uniq hi2.rel.uniq hi.most (by omega) (by omega)
  rw [alike_eqM hi.rel hi2.rel s1 s2] at this
  exact this
end
set_option maxHeartbeats 8000000 in
set_option maxRecDepth 100000 in
theorem deltaCopies_any (w : World) (most : Int) (a : Option Addr) (c : Nat) (l : List PutR) (hx : PutsM w l a) (hl : l.length ≤ 9223372036854775807) (a2 : Option Addr) (c2 : Nat) (l2 : List PutR) (hx2 : PutsM w l2 a2) (hl2 : l2.length ≤ 9223372036854775807) (a3 : Option Addr) (c3 : Nat) (l3 : List PutR) (hx3 : PutsM w l3 a3) (hl3 : l3.length ≤ 9223372036854775807) :
    Calls Try.prog 6 #[.int .i64 most, .slice a l.length c, .slice a2 l2.length c2, .slice a3 l3.length c3] w fun e w' => e = .returned (.bool true) ∧ Below w.heap.size w w' := by
  have HF1 := Lib.hid (show Calls Try.prog 13 #[.slice a l.length c, .int .i64 10] w (FewP17 w l 10) from few17_any w a c l 10 (by omega) hx hl)
  have HX1 := Lib.hid hx
  have HF2 := Lib.hid (show Calls Try.prog 13 #[.slice a2 l2.length c2, .int .i64 10] w (FewP17 w l2 10) from few17_any w a2 c2 l2 10 (by omega) hx2 hl2)
  have HX2 := Lib.hid hx2
  have HF3 := Lib.hid (show Calls Try.prog 13 #[.slice a3 l3.length c3, .int .i64 10] w (FewP17 w l3 10) from few17_any w a3 c3 l3 10 (by omega) hx3 hl3)
  have HX3 := Lib.hid hx3
  clear hx hx2 hx3
  have HKN := Lib.hid (known_any w)
  go_enter Try.func6, Try.ntmps6
  go_wp2_with fail
  refine HF1.out.mono ?_
  rintro e w1 ⟨b, rfl, rfl, hfew1⟩
  cases b with
  | false =>
    clear hfew1
    go_wp2_with fail
    refine HKN.out.mono ?_
    rintro e w2 ⟨rfl, hb⟩
    go_wp2
    go_ret
    exact ⟨rfl, hb⟩
  | true =>
    obtain ⟨h10_1, h200_1⟩ := hfew1 rfl
    clear hfew1 HF1
    go_wp2_with fail
    refine HF2.out.mono ?_
    rintro e w1 ⟨b, rfl, rfl, hfew2⟩
    cases b with
    | false =>
      clear hfew2
      go_wp2_with fail
      refine HKN.out.mono ?_
      rintro e w2 ⟨rfl, hb⟩
      go_wp2
      go_ret
      exact ⟨rfl, hb⟩
    | true =>
      obtain ⟨h10_2, h200_2⟩ := hfew2 rfl
      clear hfew2 HF2
      go_wp2_with fail
      refine HF3.out.mono ?_
      rintro e w1 ⟨b, rfl, rfl, hfew3⟩
      cases b with
      | false =>
        clear hfew3
        go_wp2_with fail
        refine HKN.out.mono ?_
        rintro e w2 ⟨rfl, hb⟩
        go_wp2
        go_ret
        exact ⟨rfl, hb⟩
      | true =>
        obtain ⟨h10_3, h200_3⟩ := hfew3 rfl
        clear hfew3 HF3
        clear HKN
        go_wp2_with fail
        refine (dnew_any w most).mono ?_
        rintro e w2 ⟨mb, s, F, rfl, h1, hb1⟩
        have H1 := Lib.hid h1
        have HB1 := Lib.hid hb1
        clear h1 hb1
        go_wp2_with fail
        refine (rmnew_any w2 most).mono ?_
        rintro e w3 ⟨rm, r, G, rfl, h2, hb2⟩
        have HT3 := Lib.hid (tf_new w most H1.out HB1.out h2 hb2)
        clear h2 hb2 H1 HB1
        go_wp2_with fail
        go_loopw [11] (fun iv wr => ∃ k : Nat, iv = .int .i64 k ∧ k ≤ l.length ∧ LpI w w3 (twfoot mb rm F G) mb s rm r (max most 0) (totP (l.take k)) wr) (fun iv _ => l.length - (intOf iv).toNat)
        case atStart => exact ⟨0, rfl, Nat.zero_le _, by simpa [totP] using lp_start HT3.out (DInv.zero most) (by simp [NS] : NS [])⟩
        case round =>
          obtain ⟨k, rfl, hk, ht⟩ := hrel
          obtain ⟨wz, hwz⟩ : ∃ wz, wz = wr := ⟨_, rfl⟩
          subst hwz
          have HT := Lib.hid ht
          clear ht
          by_cases hc : k < l.length
          · obtain ⟨x, hkx⟩ : ∃ x, l[k]? = some x := ⟨_, List.getElem?_eq_getElem hc⟩
            obtain ⟨b, off, ra, rc, rfl, d0, d1, hblt, -, hrr, hok⟩ := puts_cells HX1.out hkx
            have hbel := HT.out.bel
            have e0 : wz.cell? ⟨b, off + k * 2, none⟩ = some (.int .i64 x.owner) := (hbel.cell (p := ⟨b, off + k * 2, none⟩) hblt).trans d0
            have e1 : wz.cell? ⟨b, off + k * 2 + 1, none⟩ = some (.slice ra x.xs.length rc) := (hbel.cell (p := ⟨b, off + k * 2 + 1, none⟩) hblt).trans d1
            have hts := totP_succ hkx
            have htt := totP_take_le l (k + 1)
            have hd := lp_round HT.out (by omega) x.owner ra rc x.xs hrr (by omega) hok.2
            rw [← hts] at hd
            have HD := Lib.hid hd
            obtain ⟨owner, xs⟩ := x
            simp only at e0 e1 HD
            clear hbel d0 d1 hts htt hok hrr hkx hd HT HX1 HX2 HX3 HT3
            go_wp2_with fail
            refine HD.out.mono ?_
            rintro e w5 ⟨rfl, ht5⟩
            have HT5 := Lib.hid ht5
            clear ht5 HD e0 e1
            go_wp2
            go_roundw
            case rel => exact ⟨k + 1, by go_num, by omega, HT5.out⟩
            case measure => simp [intOf]; omega
          · obtain rfl : k = l.length := by omega
            obtain ⟨ll, LL, tl, F1, G1, g1, gi, gn, -⟩ := HT.out
            rw [List.take_length] at gi
            have hln := gi.len
            have hlr := gi.rel.perm.length_eq
            have HC := Lib.hid (mcopy_any g1.1 gi.rel.uniq gi.most)
            have HRC := Lib.hid (fun W (hb : Below wz.heap.size wz W) => rmcopy_any (g1.new hb).2.1 (by omega))
            have HG1 := Lib.hid g1
            have HGI := Lib.hid gi
            have HGN := Lib.hid gn
            clear g1 gi gn hln hlr HT HX1 HT3
            go_wp2_with fail
            refine HC.out.mono ?_
            rintro e w5 ⟨ob, s', F2, l', rfl, h5, hp5, hb5⟩
            have H5 := Lib.hid h5
            have HP5 := Lib.hid hp5
            have HB5 := Lib.hid hb5
            have HR5 := Lib.hid (HRC.out _ hb5)
            clear h5 hp5 hb5 HC HRC
            go_wp2_with fail
            refine HR5.out.mono ?_
            rintro e w6 ⟨vb, r', G2, rfl, h6, hb6⟩
            obtain ⟨t6, hge⟩ := tf_copy HG1.out.2.2.2.2.2 H5.out HB5.out h6 hb6
            have g6 := (HG1.out.new HB5.out).new hb6
            have gi6 := HGI.out.perm HP5.out
            have hln := HGI.out.len
            have HSA := Lib.hid (fun W (hb : Below w6.heap.size w6 W) => tf_same (g6.new hb) (t6.new hb) HGI.out gi6 (by omega) (by omega) HGN.out HGN.out)
            have HSB := Lib.hid (fun W (hb : Below w6.heap.size w6 W) => tf_same (t6.new hb) (g6.new hb) gi6 HGI.out (by omega) (by omega) HGN.out HGN.out)
            rw [talB_iff.2 rfl, alikeB_iff.2 rfl] at HSA HSB
            have HG6 := Lib.hid g6
            have HO6 := Lib.hid t6
            have HOI := Lib.hid gi6
            have HGE := Lib.hid hge
            have HWZ := Lib.hid (fun k (hk : twfoot mb rm F1 G1 k) => (HG1.out.in hk).2)
            clear h6 hb6 t6 hge g6 gi6 hln HR5 H5 HB5 HP5 HG1
            go_wp2_with fail
            refine (HSA.out _ (Below.refl _ _)).mono ?_
            rintro e w7 ⟨rfl, hb7⟩
            have HB7 := Lib.hid hb7
            clear hb7 HSA
            go_wp2_with fail
            refine (HSB.out _ HB7.out).mono ?_
            rintro e w8 ⟨rfl, hb8⟩
            have hb68 : Below w6.heap.size w6 w8 := HB7.out.trans (hb8.mono HB7.out.size)
            have HG8 := Lib.hid (HG6.out.new hb68)
            have HO8 := Lib.hid (HO6.out.new hb68)
            clear hb8 hb68 HSB HB7 HG6 HO6
            go_wp2_with fail
            go_loopw [14] (fun iv wr => ∃ k : Nat, iv = .int .i64 k ∧ k ≤ l2.length ∧ LpI w w8 (twfoot mb rm F1 G1) mb s rm r (max most 0) (totP l + totP (l2.take k)) wr) (fun iv _ => l2.length - (intOf iv).toNat)
            case atStart => exact ⟨0, rfl, Nat.zero_le _, by simpa [totP] using lp_start HG8.out HGI.out HGN.out⟩
            case round =>
              obtain ⟨k, rfl, hk, ht⟩ := hrel
              obtain ⟨wz, hwz⟩ : ∃ wz, wz = wr := ⟨_, rfl⟩
              subst hwz
              have HT := Lib.hid ht
              clear ht
              by_cases hc : k < l2.length
              · obtain ⟨x, hkx⟩ : ∃ x, l2[k]? = some x := ⟨_, List.getElem?_eq_getElem hc⟩
                obtain ⟨b, off, ra, rc, rfl, d0, d1, hblt, -, hrr, hok⟩ := puts_cells HX2.out hkx
                have hbel := HT.out.bel
                have e0 : wz.cell? ⟨b, off + k * 2, none⟩ = some (.int .i64 x.owner) := (hbel.cell (p := ⟨b, off + k * 2, none⟩) hblt).trans d0
                have e1 : wz.cell? ⟨b, off + k * 2 + 1, none⟩ = some (.slice ra x.xs.length rc) := (hbel.cell (p := ⟨b, off + k * 2 + 1, none⟩) hblt).trans d1
                have hts := totP_succ hkx
                have htt := totP_take_le l2 (k + 1)
                have hd := lp_round HT.out (by omega) x.owner ra rc x.xs hrr (by omega) hok.2
                rw [Nat.add_assoc, ← hts] at hd
                have HD := Lib.hid hd
                obtain ⟨owner, xs⟩ := x
                simp only at e0 e1 HD
                clear hbel d0 d1 hts htt hok hrr hkx hd HT HX2 HX3 HG8 HO8 HOI HGI HGN HGE HWZ
                go_wp2_with fail
                refine HD.out.mono ?_
                rintro e w5 ⟨rfl, ht5⟩
                have HT5 := Lib.hid ht5
                clear ht5 HD e0 e1
                go_wp2
                go_roundw
                case rel => exact ⟨k + 1, by go_num, by omega, HT5.out⟩
                case measure => simp [intOf]; omega
              · obtain rfl : k = l2.length := by omega
                obtain ⟨l1, L1, t1, F3, G3, g1, gi, gn, go, gf⟩ := HT.out
                rw [List.take_length] at gi
                have ho := HO8.out.only go (fun k hk hp => by have := HGE.out k hk; have := HWZ.out k hp; omega) g1.2.2.2.2.2
                have HO := Lib.hid ho
                have HAP := Lib.hid (show ∀ k, twfoot mb rm F3 G3 k → ¬ twfoot ob vb F2 G2 k from fun k hk hp => by
                  have := HGE.out k hp
                  have := (HO8.out.in hp).2
                  rcases gf k hk with h | h
                  · have := HWZ.out k h; omega
                  · omega)
                have HG := Lib.hid g1
                have HI1 := Lib.hid gi
                have HN1 := Lib.hid gn
                clear g1 gi gn go gf ho HT HX2 HG8 HO8 HGI HGE HWZ
                obtain ⟨wy, hwy⟩ : ∃ wy, wy = wz := ⟨_, rfl⟩
                subst hwy
                go_wp2_with fail
                go_loopw [15] (fun iv wr => ∃ k : Nat, iv = .int .i64 k ∧ k ≤ l3.length ∧ LpI w wy (twfoot ob vb F2 G2) ob s' vb r' (max most 0) (totP l + totP (l3.take k)) wr) (fun iv _ => l3.length - (intOf iv).toNat)
                case atStart => exact ⟨0, rfl, Nat.zero_le _, by simpa [totP] using lp_start HO.out HOI.out HGN.out⟩
                case round =>
                  obtain ⟨k, rfl, hk, ht⟩ := hrel
                  obtain ⟨wz, hwz⟩ : ∃ wz, wz = wr := ⟨_, rfl⟩
                  subst hwz
                  have HT := Lib.hid ht
                  clear ht
                  by_cases hc : k < l3.length
                  · obtain ⟨x, hkx⟩ : ∃ x, l3[k]? = some x := ⟨_, List.getElem?_eq_getElem hc⟩
                    obtain ⟨b, off, ra, rc, rfl, d0, d1, hblt, -, hrr, hok⟩ := puts_cells HX3.out hkx
                    have hbel := HT.out.bel
                    have e0 : wz.cell? ⟨b, off + k * 2, none⟩ = some (.int .i64 x.owner) := (hbel.cell (p := ⟨b, off + k * 2, none⟩) hblt).trans d0
                    have e1 : wz.cell? ⟨b, off + k * 2 + 1, none⟩ = some (.slice ra x.xs.length rc) := (hbel.cell (p := ⟨b, off + k * 2 + 1, none⟩) hblt).trans d1
                    have hts := totP_succ hkx
                    have htt := totP_take_le l3 (k + 1)
                    have hd := lp_round HT.out (by omega) x.owner ra rc x.xs hrr (by omega) hok.2
                    rw [Nat.add_assoc, ← hts] at hd
                    have HD := Lib.hid hd
                    obtain ⟨owner, xs⟩ := x
                    simp only at e0 e1 HD
                    clear hbel d0 d1 hts htt hok hrr hkx hd HT HX3 HG HI1 HN1 HAP HO HOI HGN
                    go_wp2_with fail
                    refine HD.out.mono ?_
                    rintro e w5 ⟨rfl, ht5⟩
                    have HT5 := Lib.hid ht5
                    clear ht5 HD e0 e1
                    go_wp2
                    go_roundw
                    case rel => exact ⟨k + 1, by go_num, by omega, HT5.out⟩
                    case measure => simp [intOf]; omega
                  · obtain rfl : k = l3.length := by omega
                    obtain ⟨l4, L4, t4, F4, G4, g1, gi, gn, go, -⟩ := HT.out
                    rw [List.take_length] at gi
                    have hg := HG.out.only go HAP.out g1.2.2.2.2.2
                    have hi1 := HI1.out
                    have hlen1 := hi1.rel.perm.length_eq
                    have hlen4 := gi.rel.perm.length_eq
                    have hn1 := hi1.len
                    have hn4 := gi.len
                    have HAL := Lib.hid (ralike17_any hg.2.1 g1.2.1 (by omega) (by omega))
                    have HSA := Lib.hid (fun W (hb : Below wz.heap.size wz W) => tf_same (hg.new hb) (g1.new hb) hi1 gi (by omega) (by omega) HN1.out gn)
                    have HSB := Lib.hid (fun W (hb : Below wz.heap.size wz W) => tf_same (g1.new hb) (hg.new hb) gi hi1 (by omega) (by omega) gn HN1.out)
                    rw [talB_comm, alikeB_comm] at HSB
                    have HBZ := Lib.hid g1.2.2.2.2.2
                    have HKN := Lib.hid (fun W => known_any W)
                    clear g1 gi gn go hg hi1 hlen1 hlen4 hn1 hn4 HT HX3 HG HI1 HN1 HAP HO HOI HGN
                    generalize (talB t1 t4 && alikeB L1 L4) = bz at HAL HSA HSB
                    have hbz : (bz == bz) = true := by simp
                    go_wp2_with fail
                    refine HAL.out.mono ?_
                    rintro e w9 ⟨rfl, hb9⟩
                    have HB9 := Lib.hid hb9
                    clear hb9 HAL
                    go_wp2_with fail
                    refine (HSA.out _ HB9.out).mono ?_
                    rintro e wA ⟨rfl, hba⟩
                    have HBA := Lib.hid (HB9.out.trans (hba.mono HB9.out.size))
                    clear hba HB9 HSA
                    go_wp2_with fail
                    refine (HSB.out _ HBA.out).mono ?_
                    rintro e wB ⟨rfl, hbb⟩
                    have HBB := Lib.hid (HBA.out.trans (hbb.mono HBA.out.size))
                    clear hbb HBA HSB
                    go_wp2_with fail
                    refine (HKN.out _).mono ?_
                    rintro e wC ⟨rfl, hbc⟩
                    go_wp2
                    go_ret
                    exact ⟨rfl, HBZ.out.trans ((HBB.out.trans (hbc.mono HBB.out.size)).mono HBZ.out.size)⟩
end Go.Proofs.Ythademifhnkbiaa
