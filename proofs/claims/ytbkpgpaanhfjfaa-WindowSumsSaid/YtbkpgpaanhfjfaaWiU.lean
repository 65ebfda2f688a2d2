/- Chapter 18, the reference: Clock: the walk. -/
import Derived.Test.YtbkpgpaanhfjfaaWiT
namespace Go.Proofs.Ytbkpgpaanhfjfaa
open Go.RowKit Go.Sort K
def lenV : Value → Nat
  | .slice _ n _ => n
  | _ => 0
def clkN (s : Cfg) (L : List WV) (lw : Int) : Nat := if lw < s.len then 0 else cntW (lw / s.len - 1) L
theorem clk_le (s : Cfg) (L : List WV) (lw : Int) : clkN s L lw ≤ L.length := by
  unfold clkN
  split
  · exact Nat.zero_le _
  · exact cnt_le _ _
theorem clk_iff {s : Cfg} {L : List WV} {lw : Int} (hs : WS L) (hb : WBd L) (hl : 1 ≤ s.len) {k : Nat} (hk : k < L.length) : (L[k].num + 1) * s.len ≤ lw ↔ k < clkN s L lw := by
  unfold clkN
  have h0 := (hb.num _ (List.getElem_mem hk)).1
  by_cases h : lw < s.len
  · rw [if_pos h]
    constructor
    · intro h1
      have h2 : 1 * s.len ≤ (L[k].num + 1) * s.len := Int.mul_le_mul_of_nonneg_right (by omega) (by omega)
      omega
    · intro h1
      omega
  · rw [if_neg h, ← cnt_iff hs hk]
    have h1 := Int.le_ediv_iff_mul_le (a := L[k].num + 1) (b := lw) (c := s.len) (by omega)
    omega
theorem clk_num {s : Cfg} {L : List WV} {lw : Int} (hs : WS L) {k : Nat} (hk : k < clkN s L lw) (hl : k < L.length) : ¬ lw < s.len ∧ L[k].num ≤ lw / s.len - 1 := by
  unfold clkN at hk
  by_cases h : lw < s.len
  · rw [if_pos h] at hk
    omega
  · rw [if_neg h] at hk
    exact ⟨h, (cnt_iff hs hl).2 hk⟩
/-- What Clock leaves behind k closed ones. -/
structure RcK (w : World) (B r : Nat) (G : Nat → Prop) (s : Cfg) (L : List WV) (lw : Int) (k : Nat) (sl : Value) (W : World) : Prop where
  le : k ≤ clkN s L lw
  st : ∃ fk P ys, (s.floor ≤ fk ∧ (lw < s.len → fk = s.floor) ∧ fk ≤ max s.floor (lw / s.len - 1)) ∧ RwIs W B r { s with floor := fk } (L.drop k) P ∧ (∀ q, P q → G q ∨ w.heap.size ≤ q) ∧ (∀ q, P q → sl.ownBlock ≠ some q) ∧ Only (· = r) w W ∧ BlP (fun q => G q ∨ w.heap.size ≤ q) w.heap.size W ys sl ∧ L.take k = ys.map (·.x)
def RclkP (w : World) (B r : Nat) (G : Nat → Prop) (R : List WV × Cfg × List WV) (e : Ending) (w' : World) : Prop :=
  ∃ a c, e = .returned (.slice a R.1.length c) ∧ WinsM (fun k => G k ∨ w.heap.size ≤ k) w' R.1 a ∧ RwTo w B r G R.2.1 R.2.2 w'
section
variable {w W V : World} {B r : Nat} {G : Nat → Prop} {s : Cfg} {L : List WV} {lw : Int} {k : Nat} {sl : Value}
theorem RwIs.gne (h : RwIs w B r s L G) : ∀ k, G k → k ≠ r := by
  obtain ⟨a, c, -, -, -, -, h5⟩ := h
  exact fun k hk => (h5 k hk).2.2
theorem RcK.zero (h : RwIs w B r s L G) : RcK w B r G s L lw 0 (.slice none 0 0) w :=
  ⟨Nat.zero_le _, s.floor, G, [], ⟨Int.le_refl _, fun _ => rfl, by omega⟩, h, fun _ h => .inl h, fun _ _ => (by intro h; cases h), Only.refl _ _, BlP.nil _ _ _, by simp⟩
theorem RcK.new (h : RcK w B r G s L lw k sl W) (hb : Below W.heap.size W V) : RcK w B r G s L lw k sl V := by
  obtain ⟨h0, fk, P, ys, h1, h2, h3, h4, h5, h6, h7⟩ := h
  exact ⟨h0, fk, P, ys, h1, h2.new hb, h3, h4, h5.trans (G := fun _ => False) (Only.of_new hb) (fun _ _ h => h.elim), h6.below hb, h7⟩
/-- The end. -/
theorem RcK.fin {now : Int} (hw0 : RwIs w B r s L G) (h : RcK w B r G s L lw k sl W) (hn : lastW s now = lw) (hk : k = clkN s L lw) :
    ∃ a c fk, sl = .slice a k c ∧ (W.cell? ⟨r, 4, none⟩ = some (.int .i64 fk)) ∧ (∀ V, Below W.heap.size W V → lw < s.len → RclkP w B r G (clockW s L now) (.returned (.slice a k c)) V) ∧
      (∀ V, Below W.heap.size W V → ¬ lw < s.len → ¬ fk < lw / s.len - 1 → RclkP w B r G (clockW s L now) (.returned (.slice a k c)) V) ∧
      (¬ lw < s.len → fk < lw / s.len - 1 → ∀ V, Below W.heap.size W V → RclkP w B r G (clockW s L now) (.returned (.slice a k c)) (V.setCell ⟨r, 4, none⟩ (.int .i64 (lw / s.len - 1)))) := by
  obtain ⟨h0, fk, P, ys, ⟨f1, f2, f3⟩, h2, h3, h4, h5, h6, h7⟩ := h
  obtain ⟨a, c, hsl, -, hw⟩ := h6.win
  have hlk : ys.length = k := by
    have h9 := congrArg List.length h7
    rw [List.length_take, List.length_map] at h9
    have := clk_le s L lw
    omega
  rw [hlk] at hsl
  subst hsl
  have hww : WinsM (fun q => G q ∨ w.heap.size ≤ q) W (L.take k) a := by
    rw [h7]
    exact hw.mono (fun q hq => hq.1.elim (fun h => h) .inr)
  have hlt : (L.take k).length = k := by rw [h7, List.length_map, hlk]
  have hto : RwTo w B r G { s with floor := fk } (L.drop k) W := ⟨P, h2, h5, h3⟩
  have hc4 : W.cell? ⟨r, 4, none⟩ = some (.int .i64 fk) := by
    obtain ⟨a9, c9, hr9, -⟩ := h2
    rw [cell_of_row _ _ _ _ _ _ hr9]
    rfl
  refine ⟨a, c, fk, rfl, hc4, fun V hb hl => ?_, fun V hb hl hf => ?_, fun hl hf V hb => ?_⟩
  · have hk0 : k = 0 := by rw [hk]; unfold clkN; rw [if_pos hl]
    subst hk0
    have e : clockW s L now = ([], s, L) := by unfold clockW; rw [hn, if_pos hl]
    rw [e]
    rw [f2 hl] at hto
    exact ⟨a, c, rfl, hww.new hb, hto.new hb⟩
  · have e : clockW s L now = (L.take k, { s with floor := max s.floor (lw / s.len - 1) }, L.drop k) := by
      unfold clockW
      rw [hn, if_neg hl, hk]
      unfold clkN
      rw [if_neg hl]
    rw [e]
    have hfk : fk = max s.floor (lw / s.len - 1) := by omega
    rw [hfk] at hto
    exact ⟨a, c, by rw [hlt], hww.new hb, hto.new hb⟩
  · have e : clockW s L now = (L.take k, { s with floor := max s.floor (lw / s.len - 1) }, L.drop k) := by
      unfold clockW
      rw [hn, if_neg hl, hk]
      unfold clkN
      rw [if_neg hl]
    rw [e]
    have hfk : max s.floor (lw / s.len - 1) = lw / s.len - 1 := by omega
    rw [hfk]
    have ho : Only (· = r) W (V.setCell ⟨r, 4, none⟩ (.int .i64 (lw / s.len - 1))) := (Only.of_new hb).setCell _ _ (fun _ => rfl)
    refine ⟨a, c, by rw [hlt], hww.only ho (fun q hq e => ?_), (hto.new hb).set 4 _ (fun _ => rfl)⟩
    have e : q = r := e
    rcases hq with hq | hq
    · exact hw0.gne q hq e
    · have := hw0.rlt
      omega
/-- One more is closed. -/
theorem RcK.step (hw0 : RwIs w B r s L G) (hs : WS L) (hk : k < clkN s L lw) (hkl : k < L.length) {fk : Int} {P : Nat → Prop} {ys : List WC} (hf : s.floor ≤ fk ∧ (lw < s.len → fk = s.floor) ∧ fk ≤ max s.floor (lw / s.len - 1)) (h2 : RwIs W B r { s with floor := fk } (L.drop k) P) (h3 : ∀ q, P q → G q ∨ w.heap.size ≤ q) (h4 : ∀ q, P q → sl.ownBlock ≠ some q)
    (h5 : Only (· = r) w W) (h6 : BlP (fun q => G q ∨ w.heap.size ≤ q) w.heap.size W ys sl) (h7 : L.take k = ys.map (·.x)) {w8 V9 w10 : World} {fa : Option Addr} {fc : Nat} {sl' : Value} (hrd : Rd w8 fa (crf L[k].cr)) (hab : ∀ ad, fa = some ad → P ad.block)
    (hto : RwTo W B r P { s with floor := max fk L[k].num } (L.drop (k + 1)) w8) (hb9 : Below w8.heap.size w8 V9) (happ : AppTo V9 w.heap.size 32 2 sl (k + 1) (wcf ys ++ WC.cells ⟨L[k], fa, fc⟩) sl' w10) : RcK w B r G s L lw (k + 1) sl' w10 := by
  obtain ⟨P8, k1, k2, k3⟩ := hto
  have hrl := hw0.rlt
  have hgn : ∀ q, (G q ∨ w.heap.size ≤ q) → q ≠ r := fun q hq e => by
    rcases hq with hq | hq
    · exact hw0.gne q hq e
    · omega
  have h6' := (h6.only k2 (fun q hq _ e => hgn q hq e) (fun q hq _ e => hgn q (.inr hq) e)).below hb9
  have hyl : ys.length = k := by
    have h9 := congrArg List.length h7
    rw [List.length_take, List.length_map] at h9
    omega
  have hbl := h6'.app (zs := [⟨L[k], fa, fc⟩]) (n := k + 1) (fun z hz => by
    simp only [List.mem_singleton] at hz
    subst hz
    exact ⟨hrd.below hb9 (Nat.le_refl _), fun ad e => ⟨h3 _ (hab ad e), Nat.lt_of_lt_of_le (h2.glt _ (hab ad e)) (Nat.le_trans k2.size hb9.size), h4 _ (hab ad e)⟩⟩) (by simpa [wcf] using happ) (by rw [hyl]; rfl)
  have hot : Only (fun q => sl.ownBlock = some q) V9 w10 := (Only.refl _ _).grown happ.2.1 (fun q hq _ => hq)
  have hP8 : ∀ q, P8 q → sl.ownBlock ≠ some q := fun q hq e => by
    rcases k3 q hq with h9 | h9
    · exact h4 q h9 e
    · have := (h6.1.lt q e).2
      omega
  obtain ⟨hn1, hn2⟩ := clk_num hs hk hkl
  refine ⟨hk, max fk L[k].num, P8, ys ++ [⟨L[k], fa, fc⟩], ⟨by omega, fun h => absurd h hn1, by omega⟩, (k1.new hb9).only hot (fun e => ?_) hP8, fun q hq => ?_, fun q hq e => ?_, ((h5.trans k2 (fun _ _ h => h)).trans (G := fun _ => False) (Only.of_new hb9) (fun _ _ h => h.elim)).grown happ.2.1 (fun q hq hl => ?_), hbl, ?_⟩
  · have := (h6.1.lt r e).1
    omega
  · rcases k3 q hq with h9 | h9
    · exact h3 q h9
    · exact .inr (Nat.le_trans h5.size h9)
  · rcases happ.2.2 with h9 | h9
    · rw [h9] at e
      exact hP8 q hq e
    · rw [h9] at e
      have h8 : V9.heap.size = q := by simpa using e
      have := k1.glt q hq
      have := hb9.size
      omega
  · have := (h6.1.lt q hq).1
    omega
  · rw [List.take_add_one, List.getElem?_eq_getElem hkl, h7]
    simp
end
set_option maxHeartbeats 4000000 in
set_option maxRecDepth 100000 in
theorem rclock_any {w : World} {B r : Nat} {s : Cfg} {L : List WV} {G : Nat → Prop} (h : RwIs w B r s L G) (hs : WS L) (hb : WBd L) (hc : SOk s) (hnl : ∀ v ∈ L, v.num * s.len ≤ 1125899906842624) (now : Int) :
    Calls Try.prog 36 #[.pointer (some ⟨r, 0, none⟩), .int .i64 now] w (RclkP w B r G (clockW s L now)) := by
  have HH := Lib.hid h
  have HS := Lib.hid hs
  have HB := Lib.hid hb
  have HC := Lib.hid hc
  have HNL := Lib.hid hnl
  have hll : L.length ≤ 1000 := hb.len
  have hmk := hc.mark
  have hlt := hc.lat
  have hln := hc.len
  obtain ⟨i0, hi0, hz0, hz1, hz2⟩ := info_parts info_wv
  obtain ⟨a, c, hrow, -⟩ := id h
  obtain ⟨lt, hlt1⟩ : ∃ x, x = s.lat := ⟨_, rfl⟩
  obtain ⟨ln, hln1⟩ : ∃ x, x = s.len := ⟨_, rfl⟩
  obtain ⟨m0, hmk1⟩ : ∃ x, x = s.mark := ⟨_, rfl⟩
  have c5 : w.cell? ⟨r, 5, none⟩ = some (.int .i64 m0) := by rw [hmk1, cell_of_row _ _ _ _ _ _ hrow]; rfl
  rw [← hlt1] at hlt
  rw [← hln1] at hln
  rw [← hmk1] at hmk
  have HLT := Lib.hid hlt1
  have HLN := Lib.hid hln1
  have HMK := Lib.hid hmk1
  have HK0 := Lib.hid (fun lw => RcK.zero (lw := lw) h)
  clear h hs hb hc hnl hrow hlt1 hln1 hmk1
  go_enter Try.func36, Try.ntmps36
  by_cases hnm : now < m0
  · obtain ⟨mx, hmx⟩ : ∃ mx, max now (-1) = mx := ⟨_, rfl⟩
    have HX := Lib.hid hmx
    have hmx2 : mx ≤ m0 ∧ -1 ≤ mx := by omega
    have hmx3 : min m0 (max now (-1)) = mx := by omega
    clear hmx
    go_wp2_with (first
      | (with_reducible refine step_max rfl _ _ _ rfl now (-1) rfl rfl mx HX.out ?_)
      | fail)
    have hmb : -1 ≤ mx ∧ mx ≤ 1125899906842624 := by omega
    have HLA := Lib.hid (show lastW s now = mx - lt by unfold lastW; rw [← HLT.out, ← HMK.out]; omega)
    clear hnm c5
    go_loopw [6] (fun cv wr => ∃ k : Nat, k ≤ L.length ∧ RcK w B r G s L (mx - lt) k cv wr) (fun cv _ => L.length - lenV cv)
    case atStart => exact ⟨0, Nat.zero_le _, HK0.out _⟩
    case round =>
      obtain ⟨k, hkl, hK⟩ := hrel
      obtain ⟨wz, hwz⟩ : ∃ wz, wz = wr := ⟨_, rfl⟩
      subst hwz
      obtain ⟨h0, fz, P, ys, -, h2, -, -, h5, h6, h7⟩ := id hK
      have hyl : ys.length = k := by
        have h9 := congrArg List.length h7
        rw [List.length_take, List.length_map] at h9
        omega
      obtain ⟨sa, sc, hsv, -, -, -, -⟩ := own_slice3 h6.1
      rw [hyl] at hsv
      subst hsv
      obtain ⟨az, cz, hrz, -, hwm, -⟩ := h2
      have d3 : wz.cell? ⟨r, 3, none⟩ = some (.slice az (L.drop k).length cz) := by rw [cell_of_row _ _ _ _ _ _ hrz]; rfl
      rw [List.length_drop] at d3
      have d0 : wz.cell? ⟨r, 0, none⟩ = some (.int .i64 ln) := by rw [HLN.out, cell_of_row _ _ _ _ _ _ hrz]; rfl
      have d1 : wz.cell? ⟨r, 1, none⟩ = some (.int .i64 lt) := by rw [HLT.out, cell_of_row _ _ _ _ _ _ hrz]; rfl
      have d4 : True := trivial
      have HZ4 := Lib.hid (fun V (hb : Below wz.heap.size wz V) => (show V.frozen? ⟨r, 4, none⟩ = false from frozen_of_row V _ _ _ _ (keeph' hb hrz)))
      have HSZ := Lib.hid h5.size
      have HKZ := Lib.hid hK
      have HH0 := Lib.hid h0
      clear h5 h6 h7 hrz hK h0 hyl
      by_cases hc : k < L.length
      · obtain ⟨b, off, ra, rc, rfl, hb, -, e0, -, -, -⟩ := wins_at hwm (k := 0) (by rw [List.length_drop]; omega)
        have hiff := clk_iff (lw := mx - lt) HS.out HB.out HC.out.len.1 hc
        rw [← HLN.out] at hiff
        have hvb := HB.out.num _ (List.getElem_mem hc)
        have hvn := HNL.out _ (List.getElem_mem hc)
        rw [← HLN.out] at hvn
        have e0 : wz.cell? ⟨b, off, none⟩ = some (.int .i64 L[k].num) := by
          rw [show off + 0 * 2 = off by omega] at e0
          rw [e0, List.getElem_drop]
          simp
        obtain ⟨vn, hvn0⟩ : ∃ x, x = L[k].num := ⟨_, rfl⟩
        rw [← hvn0] at e0 hiff hvb hvn
        have HVN := Lib.hid hvn0
        have hpr : (vn + 1) * ln = vn * ln + ln := by rw [Int.add_mul, Int.one_mul]
        have hpr0 : 0 ≤ vn * ln := Int.mul_nonneg hvb.1 (by omega)
        obtain ⟨pr, hpr2⟩ : ∃ x, x = (vn + 1) * ln := ⟨_, rfl⟩
        have hprb : 0 ≤ pr ∧ pr ≤ 2251799813685248 := by omega
        have hwr : IntKind.wrap .i64 ((vn + 1) * ln) = pr := by rw [← hpr2, IntKind.wrap_i64]; omega
        obtain ⟨m5, hm5⟩ : ∃ m, L.length - k = m + 1 := ⟨L.length - k - 1, by omega⟩
        rw [hm5] at d3
        clear hm5
        rw [← hpr2] at hiff
        clear hpr hpr0 hvn hvn0 hwm
        by_cases hcl : pr ≤ mx - lt
        · have hkn := hiff.1 hcl
          have hcl2 : pr + lt ≤ mx := by omega
          have HKN := Lib.hid hkn
          clear hiff hkn
          go_wp2_with fail
          go_quiet (fail)
          obtain ⟨W5, hW5⟩ : ∃ V, V = wz.drewN nq := ⟨_, rfl⟩
          have hb5 : Below wz.heap.size wz W5 := by rw [hW5]; exact below_drewN' (Below.refl _ _) _
          rw [← hW5]
          obtain ⟨-, f5, P5, ys5, hf5, k2, k3, k4, k5, k6, k7⟩ := HKZ.out.new hb5
          have hyl5 : ys5.length = k := by
            have h9 := congrArg List.length k7
            rw [List.length_take, List.length_map] at h9
            omega
          have hdk : L.drop k = L[k] :: L.drop (k + 1) := List.drop_eq_getElem_cons hc
          rw [hdk] at k2
          have HFI := Lib.hid (rfirst_any k2 (by rw [List.length_drop]; omega))
          rw [← hdk] at k2
          have HST := Lib.hid (And.intro hf5 (And.intro k2 (And.intro k3 (And.intro k4 (And.intro k5 (And.intro k6 k7))))))
          have HYL5 := Lib.hid hyl5
          have hk5 := k6.1
          rw [hyl5] at hk5
          have HK5 := Lib.hid hk5
          clear hf5 k2 k3 k4 k5 k6 k7 hyl5 hdk hW5 hb5 nq d0 d1 d3 d4 e0 hcl2 hk5
          go_wp2_with fail
          refine HFI.out.mono ?_
          rintro e w8 ⟨fa, fc, rfl, hfrd, hfab, hfto⟩
          have HFRD := Lib.hid hfrd
          have HFAB := Lib.hid hfab
          have HFTO := Lib.hid hfto
          have HQ := Lib.hid (show ∀ V, V = w8.alloc (.cells #[.int .i64 L[k].num, .slice fa L[k].cr.length fc] 32) → V.ownsRow w.heap.size 32 2 (.slice sa k sc) k (wcf ys5) ∧ Rd V (some ⟨w8.heap.size, 0, none⟩) (WC.cells ⟨L[k], fa, fc⟩) ∧ w.heap.size ≤ V.heap.size ∧ Below w8.heap.size w8 V from fun V hV => by
            have hbV : Below w8.heap.size w8 V := by rw [hV]; exact (Below.refl _ _).alloc (Nat.le_refl _) _
            obtain ⟨_, -, ho8, -⟩ := hfto
            have h1 := ho8.own HK5.out (fun q hq e => by have h9 := (HK5.out.lt q hq).1; have h8 := HH.out.rlt; have e : q = r := e; omega)
            exact ⟨(Only.of_new (F := fun _ => False) hbV).own h1 (fun _ _ h => h), by rw [hV]; exact Rd.new w8 _ _ _ _ (fun j u hu => by simpa [WC.cells] using hu), Nat.le_trans HST.out.2.2.2.2.1.size (Nat.le_trans ho8.size hbV.size), hbV⟩)
          clear hfrd hfab hfto
          go_wp2_with (first
            | (with_reducible refine step_append_any (.inl rfl) _ _ 29 rfl w.heap.size 32 i0 _ 2 32 Try.underlying29 hi0 hz0 hz1 hz2 rfl (by decide) (.slice sa k sc) k (wcf ys5) rfl (HQ.out _ rfl).1 (some ⟨w8.heap.size, 0, none⟩) 1 1 (WC.cells ⟨L[k], fa, fc⟩) rfl rfl (HQ.out _ rfl).2.1 (wc_one _) (by unfold maxLen; omega) (by omega) (HQ.out _ rfl).2.2.1 ?_)
            | fail)
          intro sl' w10 happ
          obtain ⟨va, vc, hsv, -, -, -, -⟩ := own_slice3 happ.1
          subst hsv
          obtain ⟨g1, g2, g3, g4, g5, g6, g7⟩ := HST.out
          have HREL := Lib.hid (RcK.step HH.out HS.out HKN.out hc g1 g2 g3 g4 g5 g6 g7 HFRD.out HFAB.out HFTO.out (HQ.out _ rfl).2.2.2 happ)
          clear happ g1 g2 g3 g4 g5 g6 g7
          go_wp2
          go_roundw
          case rel => exact ⟨k + 1, by omega, HREL.out⟩
          case measure => simp [lenV]; omega
        · have hke : k = clkN s L (mx - lt) := by
            have h9 := HH0.out
            have h8 : ¬ k < clkN s L (mx - lt) := fun h => hcl (hiff.2 h)
            omega
          have hcl2 : ¬ pr + lt ≤ mx := by omega
          clear hiff hcl
          have HKE := Lib.hid hke
          clear hke
          go_wp2_with fail
          go_quiet (fail)
          obtain ⟨W5, hW5⟩ : ∃ V, V = wz.drewN nq := ⟨_, rfl⟩
          have hb5 : Below wz.heap.size wz W5 := by rw [hW5]; exact below_drewN' (Below.refl _ _) _
          rw [← hW5]
          obtain ⟨a9, c9, f9, hsl, q4, hx1, hx2, hx3⟩ := (HKZ.out.new hb5).fin HH.out HLA.out HKE.out
          cases hsl
          have q0 := keepc hb5 d0
          have q1 := keepc hb5 d1
          have y4 := HZ4.out _ hb5
          have hrl5 := Nat.lt_of_lt_of_le HH.out.rlt (Nat.le_trans HSZ.out hb5.size)
          rw [← HLN.out] at hx1 hx2 hx3
          have HX1 := Lib.hid hx1
          have HX2 := Lib.hid hx2
          have HX3 := Lib.hid hx3
          clear hx1 hx2 hx3 hW5 hb5 nq d0 d1 d4 d3
          by_cases hl : mx - lt < ln
          · have HF := Lib.hid (fun V (hb : Below W5.heap.size W5 V) => HX1.out V hb hl)
            have hl2 : (ln ≤ mx - lt) = False := by rw [eq_iff_iff, iff_false]; omega
            go_wp2_with fail
            go_quiet (fail)
            go_wp2
            go_ret
            exact HF.out _ (below_drewN' (Below.refl _ _) _)
          · have hl2 : (ln ≤ mx - lt) = True := by rw [eq_iff_iff, iff_true]; omega
            have hq1 : 1 ≤ (mx - lt) / ln := (Int.le_ediv_iff_mul_le (by omega)).2 (by omega)
            have hq2 : (mx - lt) / ln ≤ mx - lt := Int.ediv_le_self _ (by omega)
            have hq3 : (mx - lt) / ln ≤ 1125899906842624 := by omega
            by_cases hf9 : f9 < (mx - lt) / ln - 1
            · have HF := Lib.hid (fun V (hb : Below W5.heap.size W5 V) => HX3.out hl hf9 V hb)
              go_wp2_with fail
              go_quiet (fail)
              go_wp2
              go_ret
              exact HF.out _ (below_drewN' (Below.refl _ _) _)
            · have HF := Lib.hid (fun V (hb : Below W5.heap.size W5 V) => HX2.out V hb hl hf9)
              go_wp2_with fail
              go_quiet (fail)
              go_wp2
              go_ret
              exact HF.out _ (below_drewN' (Below.refl _ _) _)
      · obtain rfl : k = L.length := by omega
        rw [Nat.sub_self] at d3
        have hke : L.length = clkN s L (mx - lt) := by
          have h9 := HH0.out
          have h8 := clk_le s L (mx - lt)
          omega
        clear hwm
        have HKE := Lib.hid hke
        clear hke
        go_wp2_with fail
        go_quiet (fail)
        obtain ⟨W5, hW5⟩ : ∃ V, V = wz.drewN nq := ⟨_, rfl⟩
        have hb5 : Below wz.heap.size wz W5 := by rw [hW5]; exact below_drewN' (Below.refl _ _) _
        rw [← hW5]
        obtain ⟨a9, c9, f9, hsl, q4, hx1, hx2, hx3⟩ := (HKZ.out.new hb5).fin HH.out HLA.out HKE.out
        cases hsl
        have q0 := keepc hb5 d0
        have q1 := keepc hb5 d1
        have y4 := HZ4.out _ hb5
        have hrl5 := Nat.lt_of_lt_of_le HH.out.rlt (Nat.le_trans HSZ.out hb5.size)
        rw [← HLN.out] at hx1 hx2 hx3
        have HX1 := Lib.hid hx1
        have HX2 := Lib.hid hx2
        have HX3 := Lib.hid hx3
        clear hx1 hx2 hx3 hW5 hb5 nq d0 d1 d4 d3
        by_cases hl : mx - lt < ln
        · have HF := Lib.hid (fun V (hb : Below W5.heap.size W5 V) => HX1.out V hb hl)
          have hl2 : (ln ≤ mx - lt) = False := by rw [eq_iff_iff, iff_false]; omega
          go_wp2_with fail
          go_quiet (fail)
          go_wp2
          go_ret
          exact HF.out _ (below_drewN' (Below.refl _ _) _)
        · have hl2 : (ln ≤ mx - lt) = True := by rw [eq_iff_iff, iff_true]; omega
          have hq1 : 1 ≤ (mx - lt) / ln := (Int.le_ediv_iff_mul_le (by omega)).2 (by omega)
          have hq2 : (mx - lt) / ln ≤ mx - lt := Int.ediv_le_self _ (by omega)
          have hq3 : (mx - lt) / ln ≤ 1125899906842624 := by omega
          by_cases hf9 : f9 < (mx - lt) / ln - 1
          · have HF := Lib.hid (fun V (hb : Below W5.heap.size W5 V) => HX3.out hl hf9 V hb)
            go_wp2_with fail
            go_quiet (fail)
            go_wp2
            go_ret
            exact HF.out _ (below_drewN' (Below.refl _ _) _)
          · have HF := Lib.hid (fun V (hb : Below W5.heap.size W5 V) => HX2.out V hb hl hf9)
            go_wp2_with fail
            go_quiet (fail)
            go_wp2
            go_ret
            exact HF.out _ (below_drewN' (Below.refl _ _) _)
  · go_wp2_with fail
    have hmb : -1 ≤ m0 ∧ m0 ≤ 1125899906842624 := by omega
    have HLA := Lib.hid (show lastW s now = m0 - lt by unfold lastW; rw [← HLT.out, ← HMK.out]; omega)
    clear hnm c5
    go_loopw [6] (fun cv wr => ∃ k : Nat, k ≤ L.length ∧ RcK w B r G s L (m0 - lt) k cv wr) (fun cv _ => L.length - lenV cv)
    case atStart => exact ⟨0, Nat.zero_le _, HK0.out _⟩
    case round =>
      obtain ⟨k, hkl, hK⟩ := hrel
      obtain ⟨wz, hwz⟩ : ∃ wz, wz = wr := ⟨_, rfl⟩
      subst hwz
      obtain ⟨h0, fz, P, ys, -, h2, -, -, h5, h6, h7⟩ := id hK
      have hyl : ys.length = k := by
        have h9 := congrArg List.length h7
        rw [List.length_take, List.length_map] at h9
        omega
      obtain ⟨sa, sc, hsv, -, -, -, -⟩ := own_slice3 h6.1
      rw [hyl] at hsv
      subst hsv
      obtain ⟨az, cz, hrz, -, hwm, -⟩ := h2
      have d3 : wz.cell? ⟨r, 3, none⟩ = some (.slice az (L.drop k).length cz) := by rw [cell_of_row _ _ _ _ _ _ hrz]; rfl
      rw [List.length_drop] at d3
      have d0 : wz.cell? ⟨r, 0, none⟩ = some (.int .i64 ln) := by rw [HLN.out, cell_of_row _ _ _ _ _ _ hrz]; rfl
      have d1 : wz.cell? ⟨r, 1, none⟩ = some (.int .i64 lt) := by rw [HLT.out, cell_of_row _ _ _ _ _ _ hrz]; rfl
      have d4 : True := trivial
      have HZ4 := Lib.hid (fun V (hb : Below wz.heap.size wz V) => (show V.frozen? ⟨r, 4, none⟩ = false from frozen_of_row V _ _ _ _ (keeph' hb hrz)))
      have HSZ := Lib.hid h5.size
      have HKZ := Lib.hid hK
      have HH0 := Lib.hid h0
      clear h5 h6 h7 hrz hK h0 hyl
      by_cases hc : k < L.length
      · obtain ⟨b, off, ra, rc, rfl, hb, -, e0, -, -, -⟩ := wins_at hwm (k := 0) (by rw [List.length_drop]; omega)
        have hiff := clk_iff (lw := m0 - lt) HS.out HB.out HC.out.len.1 hc
        rw [← HLN.out] at hiff
        have hvb := HB.out.num _ (List.getElem_mem hc)
        have hvn := HNL.out _ (List.getElem_mem hc)
        rw [← HLN.out] at hvn
        have e0 : wz.cell? ⟨b, off, none⟩ = some (.int .i64 L[k].num) := by
          rw [show off + 0 * 2 = off by omega] at e0
          rw [e0, List.getElem_drop]
          simp
        obtain ⟨vn, hvn0⟩ : ∃ x, x = L[k].num := ⟨_, rfl⟩
        rw [← hvn0] at e0 hiff hvb hvn
        have HVN := Lib.hid hvn0
        have hpr : (vn + 1) * ln = vn * ln + ln := by rw [Int.add_mul, Int.one_mul]
        have hpr0 : 0 ≤ vn * ln := Int.mul_nonneg hvb.1 (by omega)
        obtain ⟨pr, hpr2⟩ : ∃ x, x = (vn + 1) * ln := ⟨_, rfl⟩
        have hprb : 0 ≤ pr ∧ pr ≤ 2251799813685248 := by omega
        have hwr : IntKind.wrap .i64 ((vn + 1) * ln) = pr := by rw [← hpr2, IntKind.wrap_i64]; omega
        obtain ⟨m5, hm5⟩ : ∃ m, L.length - k = m + 1 := ⟨L.length - k - 1, by omega⟩
        rw [hm5] at d3
        clear hm5
        rw [← hpr2] at hiff
        clear hpr hpr0 hvn hvn0 hwm
        by_cases hcl : pr ≤ m0 - lt
        · have hkn := hiff.1 hcl
          have hcl2 : pr + lt ≤ m0 := by omega
          have HKN := Lib.hid hkn
          clear hiff hkn
          go_wp2_with fail
          go_quiet (fail)
          obtain ⟨W5, hW5⟩ : ∃ V, V = wz.drewN nq := ⟨_, rfl⟩
          have hb5 : Below wz.heap.size wz W5 := by rw [hW5]; exact below_drewN' (Below.refl _ _) _
          rw [← hW5]
          obtain ⟨-, f5, P5, ys5, hf5, k2, k3, k4, k5, k6, k7⟩ := HKZ.out.new hb5
          have hyl5 : ys5.length = k := by
            have h9 := congrArg List.length k7
            rw [List.length_take, List.length_map] at h9
            omega
          have hdk : L.drop k = L[k] :: L.drop (k + 1) := List.drop_eq_getElem_cons hc
          rw [hdk] at k2
          have HFI := Lib.hid (rfirst_any k2 (by rw [List.length_drop]; omega))
          rw [← hdk] at k2
          have HST := Lib.hid (And.intro hf5 (And.intro k2 (And.intro k3 (And.intro k4 (And.intro k5 (And.intro k6 k7))))))
          have HYL5 := Lib.hid hyl5
          have hk5 := k6.1
          rw [hyl5] at hk5
          have HK5 := Lib.hid hk5
          clear hf5 k2 k3 k4 k5 k6 k7 hyl5 hdk hW5 hb5 nq d0 d1 d3 d4 e0 hcl2 hk5
          go_wp2_with fail
          refine HFI.out.mono ?_
          rintro e w8 ⟨fa, fc, rfl, hfrd, hfab, hfto⟩
          have HFRD := Lib.hid hfrd
          have HFAB := Lib.hid hfab
          have HFTO := Lib.hid hfto
          have HQ := Lib.hid (show ∀ V, V = w8.alloc (.cells #[.int .i64 L[k].num, .slice fa L[k].cr.length fc] 32) → V.ownsRow w.heap.size 32 2 (.slice sa k sc) k (wcf ys5) ∧ Rd V (some ⟨w8.heap.size, 0, none⟩) (WC.cells ⟨L[k], fa, fc⟩) ∧ w.heap.size ≤ V.heap.size ∧ Below w8.heap.size w8 V from fun V hV => by
            have hbV : Below w8.heap.size w8 V := by rw [hV]; exact (Below.refl _ _).alloc (Nat.le_refl _) _
            obtain ⟨_, -, ho8, -⟩ := hfto
            have h1 := ho8.own HK5.out (fun q hq e => by have h9 := (HK5.out.lt q hq).1; have h8 := HH.out.rlt; have e : q = r := e; omega)
            exact ⟨(Only.of_new (F := fun _ => False) hbV).own h1 (fun _ _ h => h), by rw [hV]; exact Rd.new w8 _ _ _ _ (fun j u hu => by simpa [WC.cells] using hu), Nat.le_trans HST.out.2.2.2.2.1.size (Nat.le_trans ho8.size hbV.size), hbV⟩)
          clear hfrd hfab hfto
          go_wp2_with (first
            | (with_reducible refine step_append_any (.inl rfl) _ _ 29 rfl w.heap.size 32 i0 _ 2 32 Try.underlying29 hi0 hz0 hz1 hz2 rfl (by decide) (.slice sa k sc) k (wcf ys5) rfl (HQ.out _ rfl).1 (some ⟨w8.heap.size, 0, none⟩) 1 1 (WC.cells ⟨L[k], fa, fc⟩) rfl rfl (HQ.out _ rfl).2.1 (wc_one _) (by unfold maxLen; omega) (by omega) (HQ.out _ rfl).2.2.1 ?_)
            | fail)
          intro sl' w10 happ
          obtain ⟨va, vc, hsv, -, -, -, -⟩ := own_slice3 happ.1
          subst hsv
          obtain ⟨g1, g2, g3, g4, g5, g6, g7⟩ := HST.out
          have HREL := Lib.hid (RcK.step HH.out HS.out HKN.out hc g1 g2 g3 g4 g5 g6 g7 HFRD.out HFAB.out HFTO.out (HQ.out _ rfl).2.2.2 happ)
          clear happ g1 g2 g3 g4 g5 g6 g7
          go_wp2
          go_roundw
          case rel => exact ⟨k + 1, by omega, HREL.out⟩
          case measure => simp [lenV]; omega
        · have hke : k = clkN s L (m0 - lt) := by
            have h9 := HH0.out
            have h8 : ¬ k < clkN s L (m0 - lt) := fun h => hcl (hiff.2 h)
            omega
          have hcl2 : ¬ pr + lt ≤ m0 := by omega
          clear hiff hcl
          have HKE := Lib.hid hke
          clear hke
          go_wp2_with fail
          go_quiet (fail)
          obtain ⟨W5, hW5⟩ : ∃ V, V = wz.drewN nq := ⟨_, rfl⟩
          have hb5 : Below wz.heap.size wz W5 := by rw [hW5]; exact below_drewN' (Below.refl _ _) _
          rw [← hW5]
          obtain ⟨a9, c9, f9, hsl, q4, hx1, hx2, hx3⟩ := (HKZ.out.new hb5).fin HH.out HLA.out HKE.out
          cases hsl
          have q0 := keepc hb5 d0
          have q1 := keepc hb5 d1
          have y4 := HZ4.out _ hb5
          have hrl5 := Nat.lt_of_lt_of_le HH.out.rlt (Nat.le_trans HSZ.out hb5.size)
          rw [← HLN.out] at hx1 hx2 hx3
          have HX1 := Lib.hid hx1
          have HX2 := Lib.hid hx2
          have HX3 := Lib.hid hx3
          clear hx1 hx2 hx3 hW5 hb5 nq d0 d1 d4 d3
          by_cases hl : m0 - lt < ln
          · have HF := Lib.hid (fun V (hb : Below W5.heap.size W5 V) => HX1.out V hb hl)
            have hl2 : (ln ≤ m0 - lt) = False := by rw [eq_iff_iff, iff_false]; omega
            go_wp2_with fail
            go_quiet (fail)
            go_wp2
            go_ret
            exact HF.out _ (below_drewN' (Below.refl _ _) _)
          · have hl2 : (ln ≤ m0 - lt) = True := by rw [eq_iff_iff, iff_true]; omega
            have hq1 : 1 ≤ (m0 - lt) / ln := (Int.le_ediv_iff_mul_le (by omega)).2 (by omega)
            have hq2 : (m0 - lt) / ln ≤ m0 - lt := Int.ediv_le_self _ (by omega)
            have hq3 : (m0 - lt) / ln ≤ 1125899906842624 := by omega
            by_cases hf9 : f9 < (m0 - lt) / ln - 1
            · have HF := Lib.hid (fun V (hb : Below W5.heap.size W5 V) => HX3.out hl hf9 V hb)
              go_wp2_with fail
              go_quiet (fail)
              go_wp2
              go_ret
              exact HF.out _ (below_drewN' (Below.refl _ _) _)
            · have HF := Lib.hid (fun V (hb : Below W5.heap.size W5 V) => HX2.out V hb hl hf9)
              go_wp2_with fail
              go_quiet (fail)
              go_wp2
              go_ret
              exact HF.out _ (below_drewN' (Below.refl _ _) _)
      · obtain rfl : k = L.length := by omega
        rw [Nat.sub_self] at d3
        have hke : L.length = clkN s L (m0 - lt) := by
          have h9 := HH0.out
          have h8 := clk_le s L (m0 - lt)
          omega
        clear hwm
        have HKE := Lib.hid hke
        clear hke
        go_wp2_with fail
        go_quiet (fail)
        obtain ⟨W5, hW5⟩ : ∃ V, V = wz.drewN nq := ⟨_, rfl⟩
        have hb5 : Below wz.heap.size wz W5 := by rw [hW5]; exact below_drewN' (Below.refl _ _) _
        rw [← hW5]
        obtain ⟨a9, c9, f9, hsl, q4, hx1, hx2, hx3⟩ := (HKZ.out.new hb5).fin HH.out HLA.out HKE.out
        cases hsl
        have q0 := keepc hb5 d0
        have q1 := keepc hb5 d1
        have y4 := HZ4.out _ hb5
        have hrl5 := Nat.lt_of_lt_of_le HH.out.rlt (Nat.le_trans HSZ.out hb5.size)
        rw [← HLN.out] at hx1 hx2 hx3
        have HX1 := Lib.hid hx1
        have HX2 := Lib.hid hx2
        have HX3 := Lib.hid hx3
        clear hx1 hx2 hx3 hW5 hb5 nq d0 d1 d4 d3
        by_cases hl : m0 - lt < ln
        · have HF := Lib.hid (fun V (hb : Below W5.heap.size W5 V) => HX1.out V hb hl)
          have hl2 : (ln ≤ m0 - lt) = False := by rw [eq_iff_iff, iff_false]; omega
          go_wp2_with fail
          go_quiet (fail)
          go_wp2
          go_ret
          exact HF.out _ (below_drewN' (Below.refl _ _) _)
        · have hl2 : (ln ≤ m0 - lt) = True := by rw [eq_iff_iff, iff_true]; omega
          have hq1 : 1 ≤ (m0 - lt) / ln := (Int.le_ediv_iff_mul_le (by omega)).2 (by omega)
          have hq2 : (m0 - lt) / ln ≤ m0 - lt := Int.ediv_le_self _ (by omega)
          have hq3 : (m0 - lt) / ln ≤ 1125899906842624 := by omega
          by_cases hf9 : f9 < (m0 - lt) / ln - 1
          · have HF := Lib.hid (fun V (hb : Below W5.heap.size W5 V) => HX3.out hl hf9 V hb)
            go_wp2_with fail
            go_quiet (fail)
            go_wp2
            go_ret
            exact HF.out _ (below_drewN' (Below.refl _ _) _)
          · have HF := Lib.hid (fun V (hb : Below W5.heap.size W5 V) => HX2.out V hb hl hf9)
            go_wp2_with fail
            go_quiet (fail)
            go_wp2
            go_ret
            exact HF.out _ (below_drewN' (Below.refl _ _) _)
end Go.Proofs.Ytbkpgpaanhfjfaa
