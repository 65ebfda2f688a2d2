/- NetCopies: the walk. -/
import Derived.Test.YtepdnmpcccgcaaaNtV
namespace Go.Proofs.Ytepdnmpcccgcaaa
open Go.RowKit K
theorem cvB_iff {u v : CV} (h : u.id = v.id) : cvB u v = true ↔ u = v := by
  obtain ⟨a1, a2, a3, a4, a5⟩ := u
  obtain ⟨b1, b2, b3, b4, b5⟩ := v
  unfold cvB
  simp only at h
  simp only [Bool.and_eq_true, decide_eq_true_eq, CV.mk.injEq, h, true_and]
def Rise (l : List CV) : Prop := (l.map (·.id)).Pairwise (· < ·)
theorem Rise.nodup {l : List CV} (h : Rise l) : l.Nodup := (List.pairwise_map.1 h).imp fun {a b} hab e => by rw [e] at hab; omega
theorem Rise.one {l : List CV} (h : Rise l) {u v : CV} (hu : u ∈ l) (hv : v ∈ l) (he : u.id = v.id) : u = v := by
  induction l with
  | nil => cases hu
  | cons y t ih =>
    unfold Rise at h
    rw [List.map_cons, List.pairwise_cons] at h
    have hm : ∀ z ∈ t, y.id < z.id := fun z hz => h.1 _ (List.mem_map.2 ⟨z, hz, rfl⟩)
    rcases List.mem_cons.1 hu with h1 | h1
    · rcases List.mem_cons.1 hv with h2 | h2
      · rw [h1, h2]
      · have := hm v h2; rw [h1] at he; omega
    · rcases List.mem_cons.1 hv with h2 | h2
      · have := hm u h1; rw [h2] at he; omega
      · exact ih h.2 h1 h2
theorem hasV_iff {l : List CV} {v : CV} (h : Rise l) : hasV l v = true ↔ v ∈ l := by
  unfold hasV
  cases hf : vfind v.id l with
  | none =>
    simp only [Bool.false_eq_true, false_iff]
    intro hv
    unfold vfind at hf
    have := List.find?_eq_none.1 hf v hv
    simp at this
  | some u =>
    have h1 : u ∈ l := List.mem_of_find?_eq_some hf
    have h2 : v.id = u.id := by
      unfold vfind at hf
      have := List.find?_some hf
      simpa using this
    simp only [cvB_iff h2]
    exact ⟨fun e => by rw [e]; exact h1, fun hv => h.one hv h1 h2⟩
theorem eqV_iff {l l' : List CV} (h1 : Rise l) (h2 : Rise l') : eqV l l' = decide (l = l') := by
  rw [Bool.eq_iff_iff, decide_eq_true_eq]
  unfold eqV
  rw [Bool.and_eq_true, decide_eq_true_eq, List.all_eq_true]
  constructor
  · rintro ⟨hl, ha⟩
    have hsub : ∀ v ∈ l, v ∈ l' := fun v hv => (hasV_iff h2).1 (ha v hv)
    have hp : l.Perm l' := by
      refine (List.perm_ext_iff_of_nodup h1.nodup h2.nodup).2 fun v => ⟨hsub v, fun hv => ?_⟩
      by_cases hm : v ∈ l
      · exact hm
      · have := List.Nodup.length_le_of_subset (l₁ := v :: l) (l₂ := l') (List.nodup_cons.2 ⟨hm, h1.nodup⟩) (fun u hu => by
          rcases List.mem_cons.1 hu with rfl | hu
          · exact hv
          · exact hsub u hu)
        rw [List.length_cons] at this
        omega
    exact List.Perm.eq_of_pairwise (le := fun a b : CV => a.id < b.id) (fun a b _ _ h1 h2 => by omega) (List.pairwise_map.1 h1) (List.pairwise_map.1 h2) hp
  · rintro rfl
    exact ⟨rfl, fun v hv => (hasV_iff h1).2 hv⟩
theorem NInv.rise {most d : Int} {L : List RC} {m N : Nat} (h : NInv most d L m N) : Rise (L.map RC.vw) := by
  unfold Rise
  rw [List.map_map]
  exact h.ids
theorem NetIs.base {w : World} {B B' n : Nat} {most d : Int} {l : List CV} {F : List Nat} (h : NetIs w B n most d l F) (hB : B' ≤ B) : NetIs w B' n most d l F := by
  obtain ⟨M, es, ⟨a1, a2, a3, a4, a5⟩, b2, b3⟩ := h
  exact ⟨M, es, ⟨a1, a2, fun e he => ⟨(a3 e he).1, ⟨own_base (a3 e he).2.1.1 hB, (a3 e he).2.1.2⟩, ⟨own_base (a3 e he).2.2.1 hB, (a3 e he).2.2.2⟩⟩, a4, fun k hk => Nat.le_trans hB (a5 k hk)⟩, b2, b3⟩
section
variable {w0 wb w w' : World} {n r : Nat} {most d : Int} {L : List RC} {F : List Nat} {G P : Nat → Prop} {m N : Nat}
theorem sz_vw (h : NInv most d L m N) (hN : N ≤ 100000) : ∀ v ∈ L.map RC.vw, v.inn.length ≤ 1000000 ∧ v.out.length ≤ 1000000 := fun v hv => by
  obtain ⟨u, hu, rfl⟩ := List.mem_map.1 hv
  have h1 := h.sz u hu
  have e1 : u.inn.data.toList.length = u.inn.size := rfl
  have e2 : u.out.data.toList.length = u.out.size := rfl
  show (u.inn.data.toList.drop u.pos).length ≤ _ ∧ u.out.data.toList.length ≤ _
  rw [List.length_drop]
  omega
def LpI (w0 wb : World) (P : Nat → Prop) (n r : Nat) (most : Int) (m N : Nat) (w : World) : Prop :=
  ∃ d L F G, NwF w0 n r most d L F G w ∧ NInv most d L m N ∧ Only P wb w ∧ ∀ k, nfoot F G k → P k ∨ wb.heap.size ≤ k
theorem lp_start (h : NwF w0 n r most d L F G w) (hi : NInv most d L m N) : LpI w0 w (nfoot F G) n r most m N w :=
  ⟨d, L, F, G, h, hi, Only.refl _ _, fun _ hk => .inl hk⟩
theorem LpI.bel (h : LpI w0 wb P n r most m N w) : Below w0.heap.size w0 w := by
  obtain ⟨_, _, _, _, h1, _⟩ := h
  exact h1.2.2.2
theorem lp_round (h : LpI w0 wb P n r most m N w) (hm : m ≤ 1000) (kind id : Int) (host : ByteArray) (a : Option Addr) (c : Nat) (b : List UInt8) (hN : N + b.length ≤ 100000) (hr : Rd w0 a (bv b)) :
    Calls Try.prog 17 #[.pointer (some ⟨n, 0, none⟩), .pointer (some ⟨r, 0, none⟩), .agg #[.int .i64 kind, .int .i64 id, .string host, .slice a b.length c]] w fun e w' => e = .returned (.bool true) ∧ LpI w0 wb P n r most (m + 1) (N + b.length) w' := by
  obtain ⟨d, L, F, G, h1, h2, h4, h5⟩ := h
  refine (do04_any h1 h2 hm kind id host a c b hN hr).mono ?_
  rintro e w' ⟨rfl, d', L', hi, F', G', g1, g2, g3⟩
  refine ⟨rfl, d', L', F', G', g1, hi, h4.trans g2 (fun k hk hf => (h5 k hf).elim (fun h => h) fun h => by omega), fun k hk => ?_⟩
  rcases g3 k hk with h | h
  · exact h5 k h
  · exact .inr (Nat.le_trans h4.size h)
theorem nw_copy {w1 w2 : World} {o v : Nat} {F2 : List Nat} {G2 : Nat → Prop} (hb0 : Below w0.heap.size w0 w) (h1 : NetIs w1 w.heap.size o most d (L.map RC.vw) F2) (hb1 : Below w.heap.size w w1) (h2 : RfIs w2 w1.heap.size v most d L G2) (hb2 : Below w1.heap.size w1 w2) :
    NwF w0 o v most d L F2 G2 w2 ∧ ∀ k, nfoot F2 G2 k → w.heap.size ≤ k := by
  have hs := hb1.size
  have hs0 := hb0.size
  refine ⟨⟨(h1.only (Only.of_new (F := fun _ => False) hb2) (fun _ _ h => h)).base hs0, h2.base (Nat.le_trans hs0 hs), fun k hk hg => ?_, (hb0.trans (hb1.mono hs0)).trans (hb2.mono (Nat.le_trans hs0 hs))⟩, fun k hk => ?_⟩
  · have := (h1.lt k hk).2
    have := (h2.in k hg).1
    omega
  · rcases hk with hk | hk
    · exact (h1.lt k hk).1
    · have := (h2.in k hk).1; omega
theorem nw_same {o v : Nat} {d2 : Int} {L2 : List RC} {F2 : List Nat} {G2 : Nat → Prop} {m2 N2 : Nat} (h : NwF w0 n r most d L F G w) (h2 : NwF w0 o v most d2 L2 F2 G2 w) (hi : NInv most d L m N) (hi2 : NInv most d2 L2 m2 N2) (hN : N ≤ 100000) (hN2 : N2 ≤ 100000) :
    Calls Try.prog 20 #[.pointer (some ⟨n, 0, none⟩), .pointer (some ⟨o, 0, none⟩)] w fun e w' => e = .returned (.bool (decide (d = d2) && decide (L.map RC.vw = L2.map RC.vw))) ∧ Below w.heap.size w w' := by
  have := nsame_any h.1 h2.1 (sz_vw hi hN) (sz_vw hi2 hN2)
  rw [eqV_iff hi.rise hi2.rise] at this
  exact this
end
theorem dd_comm (d d2 : Int) (l l2 : List CV) : (decide (d2 = d) && decide (l2 = l)) = (decide (d = d2) && decide (l = l2)) := by
  rw [← Bool.decide_and, ← Bool.decide_and, decide_eq_decide]
  exact ⟨fun h => ⟨h.1.symm, h.2.symm⟩, fun h => ⟨h.1.symm, h.2.symm⟩⟩
set_option maxHeartbeats 8000000 in
set_option maxRecDepth 100000 in
theorem netCopies_any (w : World) (a : Option Addr) (c : Nat) (l : List ActR) (hx : ActsM w l a) (hl : l.length ≤ 9223372036854775807) (a2 : Option Addr) (c2 : Nat) (l2 : List ActR) (hx2 : ActsM w l2 a2) (hl2 : l2.length ≤ 9223372036854775807) (a3 : Option Addr) (c3 : Nat) (l3 : List ActR) (hx3 : ActsM w l3 a3) (hl3 : l3.length ≤ 9223372036854775807) :
    Calls Try.prog 4 #[.slice a l.length c, .slice a2 l2.length c2, .slice a3 l3.length c3] w fun e w' => e = .returned (.bool true) ∧ Below w.heap.size w w' := by
  have HF1 := Lib.hid (fun W (hb : Below w.heap.size w W) => (show Calls Try.prog 15 #[.slice a l.length c, .int .i64 30] W (FewA W l 30) from few04_any W a c l 30 (by omega) (hx.below hb) hl))
  have HX1z := Lib.hid hx
  have HF2 := Lib.hid (fun W (hb : Below w.heap.size w W) => (show Calls Try.prog 15 #[.slice a2 l2.length c2, .int .i64 15] W (FewA W l2 15) from few04_any W a2 c2 l2 15 (by omega) (hx2.below hb) hl2))
  have HX2z := Lib.hid hx2
  have HF3 := Lib.hid (fun W (hb : Below w.heap.size w W) => (show Calls Try.prog 15 #[.slice a3 l3.length c3, .int .i64 15] W (FewA W l3 15) from few04_any W a3 c3 l3 15 (by omega) (hx3.below hb) hl3))
  have HX3z := Lib.hid hx3
  clear hx hx2 hx3
  have HB0 := Lib.hid (Below.refl w.heap.size w)
  go_enter Try.func4, Try.ntmps4
  go_wp2_with fail
  refine (HF1.out _ HB0.out).mono ?_
  rintro e w1 ⟨b, rfl, ⟨n1, rfl⟩, hfew1⟩
  obtain ⟨wf1, hw⟩ : ∃ W, W = World.drewN w n1 := ⟨_, rfl⟩
  have HB1 := Lib.hid (show Below w.heap.size w wf1 by rw [hw]; exact below_drewN HB0.out _)
  rw [← hw]
  clear hw
  cases b with
  | false =>
    clear hfew1
    go_wp2_with fail
    refine (known_any wf1).mono ?_
    rintro e w2 ⟨rfl, hb⟩
    go_wp2
    go_ret
    exact ⟨rfl, HB1.out.trans (hb.mono HB1.out.size)⟩
  | true =>
    obtain ⟨h10_1, h200_1⟩ := hfew1 rfl
    clear hfew1 HF1
    go_wp2_with fail
    refine (HF2.out _ HB1.out).mono ?_
    rintro e w1 ⟨b, rfl, ⟨n2, rfl⟩, hfew2⟩
    obtain ⟨wf2, hw⟩ : ∃ W, W = World.drewN wf1 n2 := ⟨_, rfl⟩
    have HB2 := Lib.hid (show Below w.heap.size w wf2 by rw [hw]; exact below_drewN HB1.out _)
    rw [← hw]
    clear hw
    cases b with
    | false =>
      clear hfew2
      go_wp2_with fail
      refine (known_any wf2).mono ?_
      rintro e w2 ⟨rfl, hb⟩
      go_wp2
      go_ret
      exact ⟨rfl, HB2.out.trans (hb.mono HB2.out.size)⟩
    | true =>
      obtain ⟨h10_2, h200_2⟩ := hfew2 rfl
      clear hfew2 HF2
      go_wp2_with fail
      refine (HF3.out _ HB2.out).mono ?_
      rintro e w1 ⟨b, rfl, ⟨n3, rfl⟩, hfew3⟩
      obtain ⟨wf3, hw⟩ : ∃ W, W = World.drewN wf2 n3 := ⟨_, rfl⟩
      have HB3 := Lib.hid (show Below w.heap.size w wf3 by rw [hw]; exact below_drewN HB2.out _)
      rw [← hw]
      clear hw
      cases b with
      | false =>
        clear hfew3
        go_wp2_with fail
        refine (known_any wf3).mono ?_
        rintro e w2 ⟨rfl, hb⟩
        go_wp2
        go_ret
        exact ⟨rfl, HB3.out.trans (hb.mono HB3.out.size)⟩
      | true =>
        obtain ⟨h10_3, h200_3⟩ := hfew3 rfl
        clear hfew3 HF3
        have HX1 := Lib.hid (HX1z.out.below HB3.out)
        have HX2 := Lib.hid (HX2z.out.below HB3.out)
        have HX3 := Lib.hid (HX3z.out.below HB3.out)
        clear HX1z HX2z HX3z
        go_wp2_with fail
        refine (new_any (w := wf3) wf3.heap.size (Nat.le_refl _) 4).mono ?_
        rintro e w2 ⟨n, F, rfl, h1, hb1, -⟩
        have H1 := Lib.hid h1
        have HB4 := Lib.hid hb1
        clear h1 hb1
        go_wp2_with fail
        refine (rfnew_any w2 4).mono ?_
        rintro e w3 ⟨r, G, rfl, h2, hb2⟩
        have HT3 := Lib.hid (nw_new H1.out HB4.out h2 hb2)
        have HZ := Lib.hid (NInv.zero 4)
        rw [show max (4 : Int) 0 = 4 from rfl] at HT3 HZ
        clear h2 hb2 H1 HB4
        go_wp2_with fail
        go_loopw [9] (fun iv wr => ∃ k : Nat, iv = .int .i64 k ∧ k ≤ l.length ∧ LpI wf3 w3 (nfoot F G) n r 4 (k) (totB (l.take k)) wr) (fun iv _ => l.length - (intOf iv).toNat)
        case atStart => exact ⟨0, rfl, Nat.zero_le _, by simpa [totB] using lp_start HT3.out HZ.out⟩
        case round =>
          obtain ⟨k, rfl, hk, ht⟩ := hrel
          obtain ⟨wz, hwz⟩ : ∃ wz, wz = wr := ⟨_, rfl⟩
          subst hwz
          have HT := Lib.hid ht
          clear ht
          by_cases hc : k < l.length
          · obtain ⟨x, hkx⟩ : ∃ x, l[k]? = some x := ⟨_, List.getElem?_eq_getElem hc⟩
            obtain ⟨b, off, ra, rc, rfl, d0, d1, d2, d3, hblt, hrr, hok⟩ := acts_cells HX1.out hkx
            have hbel := HT.out.bel
            have e0 : wz.cell? ⟨b, off + k * 4, none⟩ = some (.int .i64 x.kind) := (hbel.cell (p := ⟨b, off + k * 4, none⟩) hblt).trans d0
            have e1 : wz.cell? ⟨b, off + k * 4 + 1, none⟩ = some (.int .i64 x.id) := (hbel.cell (p := ⟨b, off + k * 4 + 1, none⟩) hblt).trans d1
            have e2 : wz.cell? ⟨b, off + k * 4 + 2, none⟩ = some (.string x.host) := (hbel.cell (p := ⟨b, off + k * 4 + 2, none⟩) hblt).trans d2
            have e3 : wz.cell? ⟨b, off + k * 4 + 3, none⟩ = some (.slice ra x.b.length rc) := (hbel.cell (p := ⟨b, off + k * 4 + 3, none⟩) hblt).trans d3
            have hts := totB_succ hkx
            have htb := totB_le (l.take (k + 1))
            have htt := totA_take_le l (k + 1)
            have htl := totB_le l
            have hd := lp_round HT.out (by omega) x.kind x.id x.host ra rc x.b (by omega) hrr
            rw [← hts] at hd
            have HD := Lib.hid hd
            obtain ⟨kind, id, host, bs⟩ := x
            simp only at e0 e1 e2 e3 HD
            clear hbel d0 d1 d2 d3 hts htb htt htl hok hrr hkx hd HT HX2 HX3 HT3
            go_wp2_with fail
            refine HD.out.mono ?_
            rintro e w5 ⟨rfl, ht5⟩
            have HT5 := Lib.hid ht5
            clear ht5 HD e0 e1 e2 e3
            go_wp2
            go_roundw
            case rel => exact ⟨k + 1, by go_num, by omega, HT5.out⟩
            case measure => simp [intOf]; omega
          · obtain rfl : k = l.length := by omega
            obtain ⟨d, L, F1, G1, g1, gi, -⟩ := HT.out
            rw [List.take_length] at gi
            have htl := totB_le l
            have hll := gi.len2
            have hids := nw_ids gi (by omega)
            have HC := Lib.hid (ncopy_any g1.1 (by rw [ih_vw]; exact hids.1) (by rw [ih_vw]; exact hids.2.1) (by rw [ih_vw]; exact hids.2.2) (sz_vw gi (by omega)))
            have HRC := Lib.hid (fun W (hb : Below wz.heap.size wz W) => rfcopy_any (g1.new hb).2.1 (by omega))
            have HG1 := Lib.hid g1
            have HGI := Lib.hid gi
            clear g1 gi hll hids HT HX1 HT3
            go_wp2_with fail
            refine HC.out.mono ?_
            rintro e w5 ⟨ob, F2, rfl, h5, hb5⟩
            have H5 := Lib.hid h5
            have HB5 := Lib.hid hb5
            have HR5 := Lib.hid (HRC.out _ hb5)
            clear h5 hb5 HC HRC
            go_wp2_with fail
            refine HR5.out.mono ?_
            rintro e w6 ⟨vb, G2, rfl, h6, hb6⟩
            obtain ⟨t6, hge⟩ := nw_copy HG1.out.2.2.2 H5.out HB5.out h6 hb6
            have g6 := (HG1.out.new HB5.out).new hb6
            have HSA := Lib.hid (fun W (hb : Below w6.heap.size w6 W) => nw_same (g6.new hb) (t6.new hb) HGI.out HGI.out (by omega) (by omega))
            have HSB := Lib.hid (fun W (hb : Below w6.heap.size w6 W) => nw_same (t6.new hb) (g6.new hb) HGI.out HGI.out (by omega) (by omega))
            have hyes : (decide (d = d) && decide (L.map RC.vw = L.map RC.vw)) = true := by simp
            rw [hyes] at HSA HSB
            have HG6 := Lib.hid g6
            have HO6 := Lib.hid t6
            have HGE := Lib.hid hge
            have HWZ := Lib.hid (fun k (hk : nfoot F1 G1 k) => (HG1.out.in hk).2)
            clear h6 hb6 t6 hge g6 HR5 H5 HB5 HG1 hyes
            go_wp2_with fail
            refine (HSA.out _ (Below.refl _ _)).mono ?_
            rintro e w7 ⟨rfl, hb7⟩
            have HB7 := Lib.hid hb7
            clear hb7 HSA
            go_wp2_with fail
            refine (HSB.out _ HB7.out).mono ?_
            rintro e w8 ⟨rfl, hb8⟩
            have hb68 : Below w6.heap.size w6 w8 := HB7.out.trans (hb8.mono HB7.out.size)
            have HG8 := Lib.hid (HG6.out.new hb68)
            have HO8 := Lib.hid (HO6.out.new hb68)
            clear hb8 hb68 HSB HB7 HG6 HO6
            go_wp2_with fail
            go_loopw [12] (fun iv wr => ∃ k : Nat, iv = .int .i64 k ∧ k ≤ l2.length ∧ LpI wf3 w8 (nfoot F1 G1) n r 4 (l.length + k) (totB l + totB (l2.take k)) wr) (fun iv _ => l2.length - (intOf iv).toNat)
            case atStart => exact ⟨0, rfl, Nat.zero_le _, by simpa [totB] using lp_start HG8.out HGI.out⟩
            case round =>
              obtain ⟨k, rfl, hk, ht⟩ := hrel
              obtain ⟨wz, hwz⟩ : ∃ wz, wz = wr := ⟨_, rfl⟩
              subst hwz
              have HT := Lib.hid ht
              clear ht
              by_cases hc : k < l2.length
              · obtain ⟨x, hkx⟩ : ∃ x, l2[k]? = some x := ⟨_, List.getElem?_eq_getElem hc⟩
                obtain ⟨b, off, ra, rc, rfl, d0, d1, d2, d3, hblt, hrr, hok⟩ := acts_cells HX2.out hkx
                have hbel := HT.out.bel
                have e0 : wz.cell? ⟨b, off + k * 4, none⟩ = some (.int .i64 x.kind) := (hbel.cell (p := ⟨b, off + k * 4, none⟩) hblt).trans d0
                have e1 : wz.cell? ⟨b, off + k * 4 + 1, none⟩ = some (.int .i64 x.id) := (hbel.cell (p := ⟨b, off + k * 4 + 1, none⟩) hblt).trans d1
                have e2 : wz.cell? ⟨b, off + k * 4 + 2, none⟩ = some (.string x.host) := (hbel.cell (p := ⟨b, off + k * 4 + 2, none⟩) hblt).trans d2
                have e3 : wz.cell? ⟨b, off + k * 4 + 3, none⟩ = some (.slice ra x.b.length rc) := (hbel.cell (p := ⟨b, off + k * 4 + 3, none⟩) hblt).trans d3
                have hts := totB_succ hkx
                have htb := totB_le (l2.take (k + 1))
                have htt := totA_take_le l2 (k + 1)
                have htl := totB_le l
                have hd := lp_round HT.out (by omega) x.kind x.id x.host ra rc x.b (by omega) hrr
                rw [Nat.add_assoc (totB l), ← hts] at hd
                have HD := Lib.hid hd
                obtain ⟨kind, id, host, bs⟩ := x
                simp only at e0 e1 e2 e3 HD
                clear hbel d0 d1 d2 d3 hts htb htt htl hok hrr hkx hd HT HX3 HG8 HO8 HGI HGE HWZ
                go_wp2_with fail
                refine HD.out.mono ?_
                rintro e w5 ⟨rfl, ht5⟩
                have HT5 := Lib.hid ht5
                clear ht5 HD e0 e1 e2 e3
                go_wp2
                go_roundw
                case rel => exact ⟨k + 1, by go_num, by omega, HT5.out⟩
                case measure => simp [intOf]; omega
              · obtain rfl : k = l2.length := by omega
                obtain ⟨d1, L1, F3, G3, g1, gi, go, gf⟩ := HT.out
                rw [List.take_length] at gi
                have ho := HO8.out.only go (fun k hk hp => by have := HGE.out k hk; have := HWZ.out k hp; omega) g1.2.2.2
                have HO := Lib.hid ho
                have HAP := Lib.hid (show ∀ k, nfoot F3 G3 k → ¬ nfoot F2 G2 k from fun k hk hp => by
                  have := HGE.out k hp
                  have := (HO8.out.in hp).2
                  rcases gf k hk with h | h
                  · have := HWZ.out k h; omega
                  · omega)
                have HG := Lib.hid g1
                have HI1 := Lib.hid gi
                clear g1 gi go gf ho HT HX2 HG8 HO8 HGE HWZ
                obtain ⟨wy, hwy⟩ : ∃ wy, wy = wz := ⟨_, rfl⟩
                subst hwy
                go_wp2_with fail
                go_loopw [13] (fun iv wr => ∃ k : Nat, iv = .int .i64 k ∧ k ≤ l3.length ∧ LpI wf3 wy (nfoot F2 G2) ob vb 4 (l.length + k) (totB l + totB (l3.take k)) wr) (fun iv _ => l3.length - (intOf iv).toNat)
                case atStart => exact ⟨0, rfl, Nat.zero_le _, by simpa [totB] using lp_start HO.out HGI.out⟩
                case round =>
                  obtain ⟨k, rfl, hk, ht⟩ := hrel
                  obtain ⟨wz, hwz⟩ : ∃ wz, wz = wr := ⟨_, rfl⟩
                  subst hwz
                  have HT := Lib.hid ht
                  clear ht
                  by_cases hc : k < l3.length
                  · obtain ⟨x, hkx⟩ : ∃ x, l3[k]? = some x := ⟨_, List.getElem?_eq_getElem hc⟩
                    obtain ⟨b, off, ra, rc, rfl, d0, d1, d2, d3, hblt, hrr, hok⟩ := acts_cells HX3.out hkx
                    have hbel := HT.out.bel
                    have e0 : wz.cell? ⟨b, off + k * 4, none⟩ = some (.int .i64 x.kind) := (hbel.cell (p := ⟨b, off + k * 4, none⟩) hblt).trans d0
                    have e1 : wz.cell? ⟨b, off + k * 4 + 1, none⟩ = some (.int .i64 x.id) := (hbel.cell (p := ⟨b, off + k * 4 + 1, none⟩) hblt).trans d1
                    have e2 : wz.cell? ⟨b, off + k * 4 + 2, none⟩ = some (.string x.host) := (hbel.cell (p := ⟨b, off + k * 4 + 2, none⟩) hblt).trans d2
                    have e3 : wz.cell? ⟨b, off + k * 4 + 3, none⟩ = some (.slice ra x.b.length rc) := (hbel.cell (p := ⟨b, off + k * 4 + 3, none⟩) hblt).trans d3
                    have hts := totB_succ hkx
                    have htb := totB_le (l3.take (k + 1))
                    have htt := totA_take_le l3 (k + 1)
                    have htl := totB_le l
                    have hd := lp_round HT.out (by omega) x.kind x.id x.host ra rc x.b (by omega) hrr
                    rw [Nat.add_assoc (totB l), ← hts] at hd
                    have HD := Lib.hid hd
                    obtain ⟨kind, id, host, bs⟩ := x
                    simp only at e0 e1 e2 e3 HD
                    clear hbel d0 d1 d2 d3 hts htb htt htl hok hrr hkx hd HT HG HI1 HAP HO HGI
                    go_wp2_with fail
                    refine HD.out.mono ?_
                    rintro e w5 ⟨rfl, ht5⟩
                    have HT5 := Lib.hid ht5
                    clear ht5 HD e0 e1 e2 e3
                    go_wp2
                    go_roundw
                    case rel => exact ⟨k + 1, by go_num, by omega, HT5.out⟩
                    case measure => simp [intOf]; omega
                  · obtain rfl : k = l3.length := by omega
                    obtain ⟨d4, L4, F4, G4, g1, gi, go, -⟩ := HT.out
                    rw [List.take_length] at gi
                    have hg := HG.out.only go HAP.out g1.2.2.2
                    have hi1 := HI1.out
                    have htl := totB_le l
                    have htl2 := totB_le l2
                    have htl3 := totB_le l3
                    have hn1 := hi1.len2
                    have hn4 := gi.len2
                    have HN1 := Lib.hid (show totB l + totB l2 ≤ 100000 ∧ totB l + totB l3 ≤ 100000 ∧ l.length + l2.length ≤ 1000 ∧ l.length + l3.length ≤ 1000 from by omega)
                    have HRS := Lib.hid (rsame_any hg.2.1 g1.2.1 (by omega) (by omega) (fun v hv => by have := hi1.sz v hv; omega) (fun v hv => by have := gi.sz v hv; omega))
                    have HSA := Lib.hid (fun W (hb : Below wz.heap.size wz W) => nw_same (hg.new hb) (g1.new hb) hi1 gi (by omega) (by omega))
                    have HSB := Lib.hid (fun W (hb : Below wz.heap.size wz W) => nw_same (g1.new hb) (hg.new hb) gi hi1 (by omega) (by omega))
                    rw [dd_comm] at HSB
                    have HS1 := Lib.hid (fun W (hb : Below wz.heap.size wz W) => same04_any (hg.new hb) hi1 HN1.out.2.2.1 HN1.out.1 0)
                    have HS2 := Lib.hid (fun W (hb : Below wz.heap.size wz W) => same04_any (g1.new hb) gi HN1.out.2.2.2 HN1.out.2.1 0)
                    have HBZ := Lib.hid (HB3.out.trans (g1.2.2.2.mono HB3.out.size))
                    clear g1 gi go hg hi1 hn1 hn4 htl htl2 htl3 HT HX3 HG HI1 HAP HO HGI HN1
                    generalize (decide (d1 = d4) && decide (L1.map RC.vw = L4.map RC.vw)) = bz at HRS HSA HSB
                    have hbz : (bz == bz) = true := by simp
                    go_wp2_with fail
                    refine HRS.out.mono ?_
                    rintro e w9 ⟨rfl, hb9⟩
                    have HB9 := Lib.hid hb9
                    clear hb9 HRS
                    go_wp2_with fail
                    refine (HS1.out _ HB9.out).mono ?_
                    rintro e wA ⟨rfl, hba⟩
                    have HBA := Lib.hid (HB9.out.trans (hba.mono HB9.out.size))
                    clear hba HB9 HS1
                    go_wp2_with fail
                    refine (HS2.out _ HBA.out).mono ?_
                    rintro e wB ⟨rfl, hbb⟩
                    have HBB := Lib.hid (HBA.out.trans (hbb.mono HBA.out.size))
                    clear hbb HBA HS2
                    go_wp2_with fail
                    refine (HSA.out _ HBB.out).mono ?_
                    rintro e wC ⟨rfl, hbc⟩
                    have HBC := Lib.hid (HBB.out.trans (hbc.mono HBB.out.size))
                    clear hbc HBB HSA
                    go_wp2_with fail
                    refine (HSB.out _ HBC.out).mono ?_
                    rintro e wD ⟨rfl, hbd⟩
                    have HBD := Lib.hid (HBC.out.trans (hbd.mono HBC.out.size))
                    clear hbd HBC HSB
                    go_wp2_with fail
                    refine (known_any wD).mono ?_
                    rintro e wE ⟨rfl, hbe⟩
                    go_wp2
                    go_ret
                    exact ⟨rfl, HBZ.out.trans ((HBD.out.trans (hbe.mono HBD.out.size)).mono HBZ.out.size)⟩
end Go.Proofs.Ytepdnmpcccgcaaa
