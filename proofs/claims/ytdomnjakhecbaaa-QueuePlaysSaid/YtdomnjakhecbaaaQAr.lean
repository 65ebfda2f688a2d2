/- QueuePlays: the walk. -/
import Derived.Test.YtdomnjakhecbaaaQAa
import Derived.Deep.CutRange
import Derived.Deep.RegionHeld3
namespace Go.Proofs.Ytdomnjakhecbaaa
open Go.RowKit K
set_option maxHeartbeats 4000000 in
set_option maxRecDepth 100000 in
theorem queuePlays_any (w : World) (most base longest leave : Int) (a : Option Addr) (c : Nat) (l : List ActR) (xs : List Value) (hx : Acts w l xs) (hr : Rd w a xs) (hl : l.length ≤ 9223372036854775807) (hok : ∀ x ∈ l, ActOk x)
    (_hm0 : -9223372036854775808 ≤ most ∧ most ≤ 9223372036854775807) (hb0 : base ≤ 9223372036854775807) (hl0 : longest ≤ 9223372036854775807) (hv0 : -9223372036854775808 ≤ leave ∧ leave ≤ 9223372036854775807) :
    Calls Try.prog 4 #[.int .i64 most, .int .i64 base, .int .i64 longest, .slice a l.length c, .int .i64 leave] w fun e w' => e = .returned (.bool true) ∧ Below w.heap.size w w' := by
  have HF := Lib.hid (few_any w a c l xs hx hr hl (fun x h => ⟨(hok x h).2.1, fun r hr => ((hok x h).2.2 r hr).1⟩))
  have HX := Lib.hid hx
  have HR := Lib.hid hr
  have HOK := Lib.hid hok
  have HB0 := Lib.hid hb0
  have HL0 := Lib.hid hl0
  clear hx hr hok hb0 hl0
  go_enter Try.func4, Try.ntmps4
  go_wp2_with fail
  refine HF.out.mono ?_
  rintro e w1 ⟨b, rfl, hb1, hfew⟩
  have HB1 := Lib.hid hb1
  cases b with
  | false =>
    clear hfew hb1
    go_wp2_with fail
    refine (known_any w1).mono ?_
    rintro e w2 ⟨rfl, hb⟩
    go_wp2
    go_ret
    exact ⟨rfl, HB1.out.trans (hb.mono HB1.out.size)⟩
  | true =>
    obtain ⟨h60, -, hrl⟩ := hfew rfl
    have HRL := Lib.hid hrl
    clear hfew hb1 hrl
    go_wp2_with fail
    refine (tnew w1 most base longest).mono ?_
    rintro e w2 ⟨rfl, hq2, hb2⟩
    have HQ2 := Lib.hid hq2
    have HB2 := Lib.hid hb2
    clear hq2 hb2
    go_wp2_with fail
    refine (rnew_any w2 most base longest).mono ?_
    rintro e w3 ⟨rfl, hr3, hb3⟩
    have hs2 := (HQ2.out.lt w1.heap.size rfl)
    have hs1 := HB1.out.size
    have ht3 : Two w w1.heap.size w2.heap.size (newQ most base longest) [] ⟨0, max most 0, max base 1, max longest (max base 1), 0, false, false, 0, 0⟩ [] w3 :=
      ⟨_, _, HQ2.out.new hb3, hr3, fun k hk hm => by have hk : k = w1.heap.size := hk; have hm : k = w2.heap.size := hm; omega, fun k hk => by have hk : k = w1.heap.size := hk; omega, fun k hk => by have hk : k = w2.heap.size := hk; omega, (HB1.out.trans (HB2.out.mono HB1.out.size)).trans (hb3.mono (by have := HB2.out.size; omega))⟩
    have HT3 := Lib.hid ht3
    obtain ⟨g, hg⟩ : ∃ g, g = w1.heap.size := ⟨_, rfl⟩
    obtain ⟨gr, hgr⟩ : ∃ gr, gr = w2.heap.size := ⟨_, rfl⟩
    rw [← hg, ← hgr] at HT3
    rw [← hg, ← hgr]
    clear ht3 hr3 hb3 hs2 hs1 HQ2 HB1 HB2 hg hgr
    have HIN := Lib.hid (QInv.new most base longest HB0.out HL0.out)
    go_wp2_with fail
    go_loopw [13, 14] (fun pv iv wr => ∃ (k : Nat) (p : Int) (s : QR) (fs : List Frm) (t : RQ) (L : List Frm) (gn : Nat), iv = .int .i64 k ∧ pv = .int .i64 p ∧ k ≤ l.length ∧ (0 ≤ p ∧ p ≤ 200) ∧ Two w g gr s fs t L wr ∧ QInv s fs t L gn k ∧ (L.length : Int) + t.drop = p ∧ t.most = max most 0) (fun _ iv _ => l.length - (intOf iv).toNat)
    case atStart => exact ⟨0, 0, _, _, _, _, _, rfl, rfl, Nat.zero_le _, by omega, HT3.out, HIN.out, rfl, rfl⟩
    case round =>
      obtain ⟨k, p, s, fs, t, L, gn, rfl, rfl, hk, hp, ht, hi, hsum, hmost⟩ := hrel
      have HT := Lib.hid ht
      have HI := Lib.hid hi
      have HSUM := Lib.hid hsum
      have HMOST := Lib.hid hmost
      clear ht hi hsum hmost HT3 HIN
      by_cases hc : k < l.length
      · obtain ⟨x, hkx⟩ : ∃ x, l[k]? = some x := ⟨_, List.getElem?_eq_getElem hc⟩
        obtain ⟨b, off, ra, rc, rfl, d0, d1, d2, d3, hcc, hrr⟩ := acts_cells HX.out HR.out k x hkx
        have hbel := HT.out.bel
        have hblt : b < w.heap.size := World.block_lt_of_cell? w _ d0
        have e0 : wr.cell? ⟨b, off + k * 4, none⟩ = some (.int .i64 x.kind) := (hbel.cell (p := ⟨b, off + k * 4, none⟩) hblt).trans d0
        have e1 : wr.cell? ⟨b, off + k * 4 + 1, none⟩ = some (.int .i64 x.at_) := (hbel.cell (p := ⟨b, off + k * 4 + 1, none⟩) hblt).trans d1
        have e2 : wr.cell? ⟨b, off + k * 4 + 2, none⟩ = some (.slice ra x.recs.length rc) := (hbel.cell (p := ⟨b, off + k * 4 + 2, none⟩) hblt).trans d2
        have e3 : wr.cell? ⟨b, off + k * 4 + 3, none⟩ = some (.bool x.ok) := (hbel.cell (p := ⟨b, off + k * 4 + 3, none⟩) hblt).trans d3
        have HXO := Lib.hid (HOK.out x (List.mem_of_getElem? hkx))
        have HX60 := Lib.hid (HRL.out x (List.mem_of_getElem? hkx))
        have HCC := Lib.hid hcc
        have HRR := Lib.hid hrr
        have HMAY := Lib.hid (fun W (h : Below wr.heap.size wr W) => (show Calls Try.prog 19 #[frv 1 x.at_ (.slice ra x.recs.length rc)] W fun e w' => e = .returned (.bool (mayP x.at_ x.recs)) ∧ Below W.heap.size W w' from rmay_any W 1 x.at_ ra rc x.recs HXO.out.2.1 (fun r hr => (HXO.out.2.2 r hr).1) (HRR.out.below (hbel.trans (h.mono hbel.size)) (Nat.le_refl _)) (by decide)))
        unfold frv at HMAY
        obtain ⟨pb, hpb⟩ : ∃ pb, pb = decide (x.kind = 1 ∧ mayP x.at_ x.recs = true) := ⟨_, rfl⟩
        have HPB := Lib.hid hpb
        have HBEL := Lib.hid hbel
        obtain ⟨kind, at_, recs, ok⟩ := x
        simp only at e0 e1 e2 e3 HMAY
        clear hrr hcc hbel hpb d0 d1 d2 d3 hkx
        go_upto_region 8 with fail
        go_cut [52] from 27 to 88 (fun v wx => v = .bool pb ∧ Below wr.heap.size wr wx)
        case first =>
          by_cases hk1 : kind = 1
          · subst hk1
            obtain ⟨mp, hmp⟩ : ∃ mp, mp = mayP at_ recs := ⟨_, rfl⟩
            rw [← hmp] at HMAY
            have HMP := Lib.hid hmp
            clear hmp
            refine wp_region_noPanic ?_
            refine wp_region_held_drew (S := (fun w' => w'.cell? ⟨b, off + k * 4, none⟩ = some (.int .i64 1) ∧ w'.cell? ⟨b, off + k * 4 + 1, none⟩ = some (.int .i64 at_) ∧ w'.cell? ⟨b, off + k * 4 + 2, none⟩ = some (.slice ra recs.length rc) ∧ Below wr.heap.size wr w')) (by kernel_rfl) ?_ (fun hHeld => ?_)
            · exact ⟨e0, e1, e2, drew_below _⟩
            refine wpAnyH_take (i := 0) (oi := _) (v := ?_) rfl (by kernel_rfl) (by kernel_rfl) (by kernel_rfl) (fun _ _ _ h => h) (Or.inl ⟨by rfl, ?_⟩) (by assumption) ?_
            rotate_left 1
            · (intro w hSw; (try dsimp only at hSw); (obtain ⟨q0, q1, q2, -⟩ := hSw; go_simp); (try with_reducible rfl))
            try simp only [Act.put, List.getElem_toArray, List.getElem_cons_zero, List.setIfInBounds_toArray, List.set_cons_zero, List.set_cons_succ]
            refine wpAnyH_take (i := 1) (oi := _) (v := ?_) rfl (by kernel_rfl) (by kernel_rfl) (by kernel_rfl) (fun _ _ _ h => h) (Or.inl ⟨by rfl, ?_⟩) (by assumption) ?_
            rotate_left 1
            · (intro w hSw; (try dsimp only at hSw); (obtain ⟨q0, q1, q2, -⟩ := hSw; go_simp); (try with_reducible rfl))
            try simp only [Act.put, List.getElem_toArray, List.getElem_cons_succ, List.getElem_cons_zero, List.setIfInBounds_toArray, List.set_cons_zero, List.set_cons_succ]
            refine wpAnyH_take (i := 2) (oi := _) (v := ?_) rfl (by kernel_rfl) (by kernel_rfl) (by kernel_rfl) (fun _ _ _ h => h) (Or.inl ⟨by rfl, ?_⟩) (by assumption) ?_
            rotate_left 1
            · (intro w hSw; (try dsimp only at hSw); (obtain ⟨q0, q1, q2, -⟩ := hSw; go_simp); (try with_reducible rfl))
            try simp only [Act.put, List.getElem_toArray, List.getElem_cons_succ, List.getElem_cons_zero, List.setIfInBounds_toArray, List.set_cons_zero, List.set_cons_succ]
            refine wpAnyH_take (i := 3) (oi := _) (v := ?_) rfl (by kernel_rfl) (by kernel_rfl) (by kernel_rfl) (fun _ _ _ h => h) (Or.inl ⟨by rfl, ?_⟩) (by assumption) ?_
            rotate_left 1
            · (intro w hSw; (try dsimp only at hSw); (obtain ⟨q0, q1, q2, -⟩ := hSw; go_simp); (try with_reducible rfl))
            try simp only [Act.put, List.getElem_toArray, List.getElem_cons_succ, List.getElem_cons_zero, List.setIfInBounds_toArray, List.set_cons_zero, List.set_cons_succ]
            refine wpAnyH_take (i := 4) (oi := _) (v := ?_) rfl (by kernel_rfl) (by kernel_rfl) (by kernel_rfl) (fun _ _ _ h => h) (Or.inl ⟨by rfl, ?_⟩) (by assumption) ?_
            rotate_left 1
            · (intro w hSw; (try dsimp only at hSw); (obtain ⟨q0, q1, q2, -⟩ := hSw; go_simp); (try with_reducible rfl))
            try simp only [Act.put, List.getElem_toArray, List.getElem_cons_succ, List.getElem_cons_zero, List.setIfInBounds_toArray, List.set_cons_zero, List.set_cons_succ]
            refine wpAnyH_take (i := 5) (oi := _) (v := ?_) rfl (by kernel_rfl) (by kernel_rfl) (by kernel_rfl) (fun _ _ _ h => h) (Or.inl ⟨by rfl, ?_⟩) (by assumption) ?_
            rotate_left 1
            · (intro w hSw; (try dsimp only at hSw); (obtain ⟨q0, q1, q2, -⟩ := hSw; go_simp); (try with_reducible rfl))
            try simp only [Act.put, List.getElem_toArray, List.getElem_cons_succ, List.getElem_cons_zero, List.setIfInBounds_toArray, List.set_cons_zero, List.set_cons_succ]
            refine wpAnyH_take (i := 6) (oi := _) (v := ?_) rfl (by kernel_rfl) (by kernel_rfl) (by kernel_rfl) (fun _ _ _ h => h) (Or.inl ⟨by rfl, ?_⟩) (by assumption) ?_
            rotate_left 1
            · (intro w hSw; (try dsimp only at hSw); (obtain ⟨q0, q1, q2, -⟩ := hSw; go_simp); (try with_reducible rfl))
            try simp only [Act.put, List.getElem_toArray, List.getElem_cons_succ, List.getElem_cons_zero, List.setIfInBounds_toArray, List.set_cons_zero, List.set_cons_succ]
            refine wpAnyH_take (i := 7) (oi := _) (v := ?_) rfl (by kernel_rfl) (by kernel_rfl) (by kernel_rfl) (fun _ _ _ h => h) (Or.inl ⟨by rfl, ?_⟩) (by assumption) ?_
            rotate_left 1
            · (intro w hSw; (try dsimp only at hSw); (obtain ⟨q0, q1, q2, -⟩ := hSw; go_simp); (try with_reducible rfl))
            try simp only [Act.put, List.getElem_toArray, List.getElem_cons_succ, List.getElem_cons_zero, List.setIfInBounds_toArray, List.set_cons_zero, List.set_cons_succ]
            refine wpAnyH_take (i := 8) (oi := _) (v := ?_) rfl (by kernel_rfl) (by kernel_rfl) (by kernel_rfl) (fun _ _ _ h => h) (Or.inl ⟨by rfl, ?_⟩) (by assumption) ?_
            rotate_left 1
            · (intro w hSw; (try dsimp only at hSw); (obtain ⟨q0, q1, q2, -⟩ := hSw; go_simp); (try with_reducible rfl))
            try simp only [Act.put, List.getElem_toArray, List.getElem_cons_succ, List.getElem_cons_zero, List.setIfInBounds_toArray, List.set_cons_zero, List.set_cons_succ]
            refine wpAnyH_take (i := 9) (oi := _) (v := ?_) rfl (by kernel_rfl) (by kernel_rfl) (by kernel_rfl) (fun _ _ _ h => h) (Or.inl ⟨by rfl, ?_⟩) (by assumption) ?_
            rotate_left 1
            · (intro w hSw; (try dsimp only at hSw); (obtain ⟨q0, q1, q2, -⟩ := hSw; go_simp); (try with_reducible rfl))
            try simp only [Act.put, List.getElem_toArray, List.getElem_cons_succ, List.getElem_cons_zero, List.setIfInBounds_toArray, List.set_cons_zero, List.set_cons_succ]
            refine wpAnyH_take (i := 10) (oi := _) (v := ?_) rfl (by kernel_rfl) (by kernel_rfl) (by kernel_rfl) (fun _ _ _ h => h) (Or.inl ⟨by rfl, ?_⟩) (by assumption) ?_
            rotate_left 1
            · (intro w hSw; (try dsimp only at hSw); (obtain ⟨q0, q1, q2, -⟩ := hSw; go_simp); (try with_reducible rfl))
            try simp only [Act.put, List.getElem_toArray, List.getElem_cons_succ, List.getElem_cons_zero, List.setIfInBounds_toArray, List.set_cons_zero, List.set_cons_succ]
            refine wpAnyH_take (i := 11) (oi := _) (v := ?_) rfl (by kernel_rfl) (by kernel_rfl) (by kernel_rfl) (fun _ _ _ h => h) (Or.inl ⟨by rfl, ?_⟩) (by assumption) ?_
            rotate_left 1
            · (intro w hSw; (try dsimp only at hSw); (obtain ⟨q0, q1, q2, -⟩ := hSw; go_simp); (try with_reducible rfl))
            try simp only [Act.put, List.getElem_toArray, List.getElem_cons_succ, List.getElem_cons_zero, List.setIfInBounds_toArray, List.set_cons_zero, List.set_cons_succ]
            refine wpAnyH_take (i := 12) (oi := _) (v := ?_) rfl (by kernel_rfl) (by kernel_rfl) (by kernel_rfl) (fun _ _ _ h => h) (Or.inl ⟨by rfl, ?_⟩) (by assumption) ?_
            rotate_left 1
            · (intro w hSw; (try dsimp only at hSw); (obtain ⟨q0, q1, q2, -⟩ := hSw; go_simp); (try with_reducible rfl))
            try simp only [Act.put, List.getElem_toArray, List.getElem_cons_succ, List.getElem_cons_zero, List.setIfInBounds_toArray, List.set_cons_zero, List.set_cons_succ]
            refine wpAnyH_take (i := 13) (oi := _) (v := ?_) rfl (by kernel_rfl) (by kernel_rfl) (by kernel_rfl) (fun _ _ _ h => h) (Or.inl ⟨by rfl, ?_⟩) (by assumption) ?_
            rotate_left 1
            · (intro w hSw; (try dsimp only at hSw); (obtain ⟨q0, q1, q2, -⟩ := hSw; go_simp); (try with_reducible rfl))
            try simp only [Act.put, List.getElem_toArray, List.getElem_cons_succ, List.getElem_cons_zero, List.setIfInBounds_toArray, List.set_cons_zero, List.set_cons_succ]
            refine wpAnyH_take (i := 14) (oi := _) (v := ?_) rfl (by kernel_rfl) (by kernel_rfl) (by kernel_rfl) (fun _ _ _ h => h) (Or.inl ⟨by rfl, ?_⟩) (by assumption) ?_
            rotate_left 1
            · (intro w hSw; (try dsimp only at hSw); (obtain ⟨q0, q1, q2, -⟩ := hSw; go_simp); (try with_reducible rfl))
            try simp only [Act.put, List.getElem_toArray, List.getElem_cons_succ, List.getElem_cons_zero, List.setIfInBounds_toArray, List.set_cons_zero, List.set_cons_succ]
            refine wpAnyH_take (i := 15) (oi := _) (v := ?_) rfl (by kernel_rfl) (by kernel_rfl) (by kernel_rfl) (fun _ _ _ h => h) (Or.inl ⟨by rfl, ?_⟩) (by assumption) ?_
            rotate_left 1
            · (intro w hSw; (try dsimp only at hSw); (obtain ⟨q0, q1, q2, -⟩ := hSw; go_simp); (try with_reducible rfl))
            try simp only [Act.put, List.getElem_toArray, List.getElem_cons_succ, List.getElem_cons_zero, List.setIfInBounds_toArray, List.set_cons_zero, List.set_cons_succ]
            refine wpAnyH_take (i := 16) (oi := _) (v := ?_) rfl (by kernel_rfl) (by kernel_rfl) (by kernel_rfl) (fun _ _ _ h => h) (Or.inl ⟨by rfl, ?_⟩) (by assumption) ?_
            rotate_left 1
            · (intro w hSw; (try dsimp only at hSw); (obtain ⟨q0, q1, q2, -⟩ := hSw; go_simp); (try with_reducible rfl))
            try simp only [Act.put, List.getElem_toArray, List.getElem_cons_succ, List.getElem_cons_zero, List.setIfInBounds_toArray, List.set_cons_zero, List.set_cons_succ]
            refine wpAnyH_take (i := 17) (oi := _) (v := ?_) rfl (by kernel_rfl) (by kernel_rfl) (by kernel_rfl) (fun _ _ _ h => h) (Or.inl ⟨by rfl, ?_⟩) (by assumption) ?_
            rotate_left 1
            · (intro w hSw; (try dsimp only at hSw); (obtain ⟨q0, q1, q2, -⟩ := hSw; go_simp); (try with_reducible rfl))
            try simp only [Act.put, List.getElem_toArray, List.getElem_cons_succ, List.getElem_cons_zero, List.setIfInBounds_toArray, List.set_cons_zero, List.set_cons_succ]
            refine wpAnyH_ready (rs := [18]) (by kernel_rfl) (by simp) ?_
            refine AllReadyH.cons (o := _) rfl (fun K hK => ?_) AllReadyH.nil
            go_simp
            refine (HMAY.out _ hHeld.2.2.2).mono ?_
            rintro e w2 ⟨rfl, hb2⟩
            go_wp2_with fail
            refine hK.out _ _ ?_ (fun hHeld18 => ?_)
            · exact ⟨keepc hb2 hHeld.1, keepc hb2 hHeld.2.1, keepc hb2 hHeld.2.2.1, hHeld.2.2.2.trans (hb2.mono hHeld.2.2.2.size)⟩
            clear hK K
            try simp only [Act.put, List.getElem_toArray, List.getElem_cons_succ, List.getElem_cons_zero, List.setIfInBounds_toArray, List.set_cons_zero, List.set_cons_succ]
            refine wpAnyH_take (i := 19) (oi := _) (v := ?_) rfl (by kernel_rfl) (by kernel_rfl) (by kernel_rfl) (fun _ _ _ h => h) (Or.inl ⟨by rfl, ?_⟩) (by assumption) ?_
            rotate_left 1
            · (intro w hSw; (try dsimp only at hSw); go_simp; (try with_reducible rfl))
            try simp only [Act.put, List.getElem_toArray, List.getElem_cons_succ, List.getElem_cons_zero, List.setIfInBounds_toArray, List.set_cons_zero, List.set_cons_succ]
            refine wpAnyH_done (by kernel_rfl) ?_ _
            refine NoPanic.normal ?_
            go_wp2_with fail
            go_meet
            case rel => exact ⟨by rw [HPB.out, HMP.out]; simp, hHeld18.2.2.2⟩
          · have hkb : (kind == 1) = false := by rw [beq_eq_false_iff_ne]; exact hk1
            have hpb : pb = false := by rw [HPB.out]; simp [hk1]
            have HPF := Lib.hid hpb
            clear hpb hk1
            go_quiet (fail)
            go_wp2_with fail
            go_meet
            case rel => exact ⟨by rw [HPF.out], drew_below2 _ _⟩
        case rest =>
          obtain ⟨rfl, hwc⟩ := hcut
          have HWC := Lib.hid hwc
          have f0 := keepc hwc e0
          have f1 := keepc hwc e1
          have f2 := keepc hwc e2
          have f3 := keepc hwc e3
          have HTC := Lib.hid (HT.out.new hwc)
          have HD := Lib.hid (do_any HTC.out HI.out (by omega) ⟨kind, at_, recs, ok⟩ HXO.out HX60.out ra rc HCC.out HRR.out)
          clear e0 e1 e2 e3 hwc HT HMAY HX HR
          have hsz : recs.length ≤ 60 := HX60.out
          cases pb with
          | true =>
            have hpd := HPB.out
            have hif : (if kind = 1 ∧ mayP at_ recs = true then (1 : Int) else 0) = 1 := by
              rw [if_pos (of_decide_eq_true hpd.symm)]
            have HIF := Lib.hid hif
            clear hpd hif
            go_wp2_with fail
            refine HD.out.mono ?_
            rintro e w5 ⟨rfl, s5, fs5, t5, L5, gn5, ht5, hi5, hsum5, hmost5⟩
            have HT5 := Lib.hid ht5
            have HI5 := Lib.hid hi5
            have hsum5b : (L5.length : Int) + t5.drop = p + 1 := by rw [hsum5, HIF.out, HSUM.out]
            have HSUM5 := Lib.hid hsum5b
            have HMOST5 := Lib.hid (hmost5.trans HMOST.out)
            clear ht5 hi5 hsum5 hsum5b hmost5 HD f0 f1 f2 f3 HTC HWC HSUM HIF
            have HS5 := Lib.hid (tsame HT5.out HI5.out (by omega) leave hv0)
            go_wp2_with fail
            refine HS5.out.mono ?_
            rintro e w6 ⟨rfl, ht6⟩
            have HT6 := Lib.hid ht6
            clear ht6 HS5 HT5
            obtain ⟨z1, z2, z3, z4, z5⟩ := HI5.out.sums (by omega)
            rw [HSUM5.out] at z1
            rw [HMOST5.out] at z5
            have HW6 := Lib.hid (twaiting HT6.out)
            have HA6 := Lib.hid (tacked HT6.out)
            have HD6 := Lib.hid (tdropped HT6.out)
            obtain ⟨fl, hfl⟩ : ∃ fl : Int, fl = (fs5.length : Int) := ⟨_, rfl⟩
            rw [← hfl] at z1 z5 HW6
            have z6 : 0 ≤ fl ∧ fl ≤ 1000 := by omega
            have zz : ¬ max most 0 < fl := by omega
            have zb : ((s5.acked + fl + s5.dropped) != (p + 1)) = false := by rw [z1]; simp
            clear hfl z1 z4 z5
            obtain ⟨ac, hac⟩ : ∃ ac : Int, ac = s5.acked := ⟨_, rfl⟩
            obtain ⟨dr, hdr⟩ : ∃ dr : Int, dr = s5.dropped := ⟨_, rfl⟩
            obtain ⟨mm, hmm⟩ : ∃ mm : Int, mm = max most 0 := ⟨_, rfl⟩
            rw [← hac] at z2 zb HA6
            rw [← hdr] at z3 zb HD6
            rw [← hmm] at zz
            have HMM := Lib.hid hmm
            clear hac hdr hmm
            go_wp2_with fail
            refine HW6.out.mono ?_
            rintro e w7 ⟨rfl, rfl⟩
            go_wp2_with (first | (with_reducible refine step_maxw (.inr rfl) _ _ _ rfl most 0 rfl rfl mm HMM.out.symm ?_) | fail)
            refine HA6.out.mono ?_
            rintro e w8 ⟨rfl, rfl⟩
            go_wp2_with fail
            refine HW6.out.mono ?_
            rintro e w9 ⟨rfl, rfl⟩
            go_wp2_with fail
            refine HD6.out.mono ?_
            rintro e wA ⟨rfl, rfl⟩
            go_wp2_with fail
            go_roundw
            case rel => exact ⟨k + 1, p + 1, s5, fs5, t5, L5, gn5, by go_num, rfl, by omega, by have h1 := HI5.out.len; have h2 := HI5.out.dr; have h3 := HSUM5.out; omega, HT6.out, HI5.out, HSUM5.out, HMOST5.out⟩
            case measure => simp [intOf]; omega
          | false =>
            have hpd := HPB.out
            have hif : (if kind = 1 ∧ mayP at_ recs = true then (1 : Int) else 0) = 0 := by
              rw [if_neg (of_decide_eq_false hpd.symm)]
            have HIF := Lib.hid hif
            clear hpd hif
            go_wp2_with fail
            refine HD.out.mono ?_
            rintro e w5 ⟨rfl, s5, fs5, t5, L5, gn5, ht5, hi5, hsum5, hmost5⟩
            have HT5 := Lib.hid ht5
            have HI5 := Lib.hid hi5
            have hsum5b : (L5.length : Int) + t5.drop = p := by rw [hsum5, HIF.out, HSUM.out, Int.add_zero]
            have HSUM5 := Lib.hid hsum5b
            have HMOST5 := Lib.hid (hmost5.trans HMOST.out)
            clear ht5 hi5 hsum5 hsum5b hmost5 HD f0 f1 f2 f3 HTC HWC HSUM HIF
            have HS5 := Lib.hid (tsame HT5.out HI5.out (by omega) leave hv0)
            go_wp2_with fail
            refine HS5.out.mono ?_
            rintro e w6 ⟨rfl, ht6⟩
            have HT6 := Lib.hid ht6
            clear ht6 HS5 HT5
            obtain ⟨z1, z2, z3, z4, z5⟩ := HI5.out.sums (by omega)
            rw [HSUM5.out] at z1
            rw [HMOST5.out] at z5
            have HW6 := Lib.hid (twaiting HT6.out)
            have HA6 := Lib.hid (tacked HT6.out)
            have HD6 := Lib.hid (tdropped HT6.out)
            obtain ⟨fl, hfl⟩ : ∃ fl : Int, fl = (fs5.length : Int) := ⟨_, rfl⟩
            rw [← hfl] at z1 z5 HW6
            have z6 : 0 ≤ fl ∧ fl ≤ 1000 := by omega
            have zz : ¬ max most 0 < fl := by omega
            have zb : ((s5.acked + fl + s5.dropped) != (p)) = false := by rw [z1]; simp
            clear hfl z1 z4 z5
            obtain ⟨ac, hac⟩ : ∃ ac : Int, ac = s5.acked := ⟨_, rfl⟩
            obtain ⟨dr, hdr⟩ : ∃ dr : Int, dr = s5.dropped := ⟨_, rfl⟩
            obtain ⟨mm, hmm⟩ : ∃ mm : Int, mm = max most 0 := ⟨_, rfl⟩
            rw [← hac] at z2 zb HA6
            rw [← hdr] at z3 zb HD6
            rw [← hmm] at zz
            have HMM := Lib.hid hmm
            clear hac hdr hmm
            go_wp2_with fail
            refine HW6.out.mono ?_
            rintro e w7 ⟨rfl, rfl⟩
            go_wp2_with (first | (with_reducible refine step_maxw (.inr rfl) _ _ _ rfl most 0 rfl rfl mm HMM.out.symm ?_) | fail)
            refine HA6.out.mono ?_
            rintro e w8 ⟨rfl, rfl⟩
            go_wp2_with fail
            refine HW6.out.mono ?_
            rintro e w9 ⟨rfl, rfl⟩
            go_wp2_with fail
            refine HD6.out.mono ?_
            rintro e wA ⟨rfl, rfl⟩
            go_wp2_with fail
            go_roundw
            case rel => exact ⟨k + 1, p, s5, fs5, t5, L5, gn5, by go_num, rfl, by omega, by have h1 := HI5.out.len; have h2 := HI5.out.dr; have h3 := HSUM5.out; omega, HT6.out, HI5.out, HSUM5.out, HMOST5.out⟩
            case measure => simp [intOf]; omega
      · obtain rfl : k = l.length := by omega
        have hbel := Lib.hid HT.out.bel
        go_wp2_with fail
        refine (known_any wr).mono ?_
        rintro e w2 ⟨rfl, hb⟩
        go_wp2
        go_ret
        exact ⟨rfl, hbel.out.trans (hb.mono hbel.out.size)⟩
end Go.Proofs.Ytdomnjakhecbaaa
