/- Windows: Add, Open, Clock: the walks. -/
import Derived.Test.YtbkpgpaanhfjfaaWiF
namespace Go.Proofs.Ytbkpgpaanhfjfaa
open Go.RowKit Go.Sort K
section
variable {w : World} {B g : Nat} {s : Cfg} {L : List WV} {F : List Nat}
theorem add_any (h : WinIs w B g s L F) (hb : WBd L) (hc : SOk s) (nm : List UInt8) (time inc : Int) (rst : Bool) (htm : -9223372036854775808 ≤ time ∧ time ≤ 9223372036854775807) (hinc : inc ≤ 9223372036854775807) :
    Calls Try.prog 13 #[.pointer (some ⟨g, 0, none⟩), .agg #[encStr nm, .int .i64 time, .int .i64 inc, .bool rst]] w (AddP w B g F (addW s L nm time inc)) := by
  unfold addW
  by_cases hl : time < 0 ∨ 1125899906842624 < time ∨ inc < 0 ∨ time.tdiv s.len ≤ s.floor
  · rw [if_pos hl]
    exact add_late h hc nm time inc rst htm hl
  · rw [if_neg hl]
    have h1 : ¬ time < 0 ∧ ¬ 1125899906842624 < time := by omega
    have h2 : ¬ inc < 0 ∧ inc ≤ 9223372036854775807 := by omega
    have h3 : ¬ time.tdiv s.len ≤ s.floor := by omega
    by_cases hin : time.tdiv s.len ∈ L.map (·.num)
    · rw [if_pos (.inl hin)]
      exact add_in h hb hc nm time inc _ rst h1 h2 rfl h3 hin
    · by_cases hrm : (L.length : Int) < s.most
      · rw [if_pos (.inr hrm)]
        exact add_more h hb hc nm time inc _ rst h1 h2 rfl h3 hin hrm
      · rw [if_neg (fun h => h.elim hin hrm)]
        cases hL : L with
        | nil => exact absurd (show (L.length : Int) < s.most by rw [hL]; have := hc.most; simp; omega) hrm
        | cons f t =>
          simp only
          by_cases hlt : time.tdiv s.len < f.num
          · rw [if_pos hlt, ← hL]
            exact add_noroom h hb hc nm time inc _ rst h1 h2 rfl h3 hin (by omega) hL hlt
          · rw [if_neg hlt]
            exact add_full h hb hc nm time inc _ rst h1 h2 rfl h3 hin (by omega) hL hlt
end
/-- A list of windows that grows. -/
def Bld (D : Nat) (W : World) (l : List WV) (sl : Value) : Prop := ∃ ys : List WC, l = ys.map (·.x) ∧ W.ownsRow D 32 2 sl l.length (wcf ys) ∧ ∀ y ∈ ys, Rd W y.a (crf y.x.cr) ∧ ∀ ad, y.a = some ad → D ≤ ad.block ∧ ad.block < W.heap.size ∧ sl.ownBlock ≠ some ad.block
theorem Bld.nil (D : Nat) (W : World) : Bld D W [] (.slice none 0 0) := ⟨[], rfl, World.ownsRow_nil _ _ _ _, fun y hy => by simp at hy⟩
theorem Bld.only {D : Nat} {W W' : World} {l : List WV} {sl : Value} {Q : Nat → Prop} (h : Bld D W l sl) (ho : Only Q W W') (hd : ∀ b, D ≤ b → b < W.heap.size → ¬ Q b) : Bld D W' l sl := by
  obtain ⟨ys, h1, h2, h3⟩ := h
  exact ⟨ys, h1, ho.own h2 (fun k hk => hd k (h2.lt k hk).1 (h2.lt k hk).2), fun y hy => ⟨ho.rd (h3 y hy).1 (fun ad e => hd _ ((h3 y hy).2 ad e).1 ((h3 y hy).2 ad e).2.1), fun ad e => ⟨((h3 y hy).2 ad e).1, Nat.lt_of_lt_of_le ((h3 y hy).2 ad e).2.1 ho.size, ((h3 y hy).2 ad e).2.2⟩⟩⟩
theorem Bld.app {D : Nat} {W V : World} {l : List WV} {sl sl' : Value} {ys : List WC} (h1 : l = ys.map (·.x)) (h2 : W.ownsRow D 32 2 sl l.length (wcf ys)) (h3 : ∀ y ∈ ys, Rd W y.a (crf y.x.cr) ∧ ∀ ad, y.a = some ad → D ≤ ad.block ∧ ad.block < W.heap.size ∧ sl.ownBlock ≠ some ad.block)
    (y : WC) (hy : Rd W y.a (crf y.x.cr) ∧ ∀ ad, y.a = some ad → D ≤ ad.block ∧ ad.block < W.heap.size ∧ sl.ownBlock ≠ some ad.block) (ha : AppTo W D 32 2 sl (l.length + 1) (wcf ys ++ y.cells) sl' V) : Bld D V (l ++ [y.x]) sl' := by
  obtain ⟨k1, k2, k3⟩ := ha
  have hot : Only (fun q => sl.ownBlock = some q) W V := (Only.refl _ _).grown k2 (fun q hq _ => hq)
  refine ⟨ys ++ [y], by rw [h1]; simp, ?_, fun z hz => ?_⟩
  · rw [List.length_append, wcf_app]
    simpa [wcf] using k1
  · have hz2 : Rd W z.a (crf z.x.cr) ∧ ∀ ad, z.a = some ad → D ≤ ad.block ∧ ad.block < W.heap.size ∧ sl.ownBlock ≠ some ad.block := by
      rcases List.mem_append.1 hz with hz | hz
      · exact h3 z hz
      · simp only [List.mem_singleton] at hz
        subst hz
        exact hy
    refine ⟨hot.rd hz2.1 (fun ad e h => (hz2.2 ad e).2.2 h), fun ad e => ⟨(hz2.2 ad e).1, Nat.lt_of_lt_of_le (hz2.2 ad e).2.1 hot.size, fun h => ?_⟩⟩
    rcases k3 with h9 | h9
    · rw [h9] at h
      exact (hz2.2 ad e).2.2 h
    · rw [h9] at h
      have h8 : W.heap.size = ad.block := by simpa using h
      have := (hz2.2 ad e).2.1
      omega
theorem Bld.win {D : Nat} {W : World} {l : List WV} {sl : Value} (h : Bld D W l sl) : ∃ a c, sl = .slice a l.length c ∧ WinsM (fun k => D ≤ k ∧ k < W.heap.size) W l a := by
  obtain ⟨ys, h1, h2, h3⟩ := h
  obtain ⟨a, c, rfl, -, -, -, hr⟩ := own_slice3 h2
  exact ⟨a, c, rfl, ys, h1, fun y hy => ⟨(h3 y hy).1, fun ad e => ⟨((h3 y hy).2 ad e).1, ((h3 y hy).2 ad e).2.1⟩⟩, hr, fun ad e => by subst e; exact h2.lt _ rfl⟩
def ListP (w : World) (L : List WV) (e : Ending) (w' : World) : Prop := ∃ a c, e = .returned (.slice a L.length c) ∧ WinsM (fun k => w.heap.size ≤ k ∧ k < w'.heap.size) w' L a
section
variable {w : World} {B g : Nat} {s : Cfg} {L : List WV} {F : List Nat}
set_option maxHeartbeats 4000000 in
set_option maxRecDepth 100000 in
theorem open_any (h : WinIs w B g s L F) (hb : WBd L) (hl : 1 ≤ s.len) :
    Calls Try.prog 15 #[.pointer (some ⟨g, 0, none⟩)] w fun e w' => ListP w L e w' ∧ Below w.heap.size w w' := by
  obtain ⟨M, es, h1, hp, hs, rfl⟩ := h
  obtain ⟨i0, hi0, hz0, hz1, hz2⟩ := info_parts info_wv
  have HN := Lib.hid (none_any h1 hl)
  have HR := Lib.hid (rising_at h1 hp hs hb)
  have HT := Lib.hid (fun W (hB : Below w.heap.size w W) v (hv : v ∈ L) => told_at (h1.below hB) hp hs hb hv)
  have HLN : L.length ≤ 1000 := hb.len
  have g3 : w.cell? ⟨g, 3, none⟩ = some (.map (some M)) := h1.cell 3 rfl
  clear h1 hp hs hb hl
  go_enter Try.func15, Try.ntmps15
  go_wp2_with fail
  refine HN.out.mono ?_
  rintro e w1 ⟨rfl, rfl⟩
  go_wp2_with fail
  refine HR.out.mono ?_
  rintro e w2 ⟨nv, rfl, hrow, hb2⟩
  obtain ⟨na, nc, rfl, -, -, -, hnr⟩ := own_slice3 hrow
  have HNR := Lib.hid hnr
  have HNB := Lib.hid (show ∀ ad, na = some ad → w.heap.size ≤ ad.block ∧ ad.block < w2.heap.size from fun ad e => by subst e; exact hrow.lt ad.block rfl)
  have HB2 := Lib.hid hb2
  have HBL := Lib.hid (Bld.nil w2.heap.size w2)
  clear hrow hnr hb2 g3 HR HN
  go_wp2
  go_loopw [2, 13] (fun sv iv wr => ∃ k : Nat, iv = .int .i64 k ∧ k ≤ L.length ∧ Below w.heap.size w wr ∧ Bld w2.heap.size wr (L.take k) sv ∧ w2.heap.size ≤ wr.heap.size ∧ Rd wr na ((L.map (·.num)).map encZ)) (fun _ iv _ => L.length - (intOf iv).toNat)
  case atStart => exact ⟨0, rfl, Nat.zero_le _, HB2.out, HBL.out, Nat.le_refl _, HNR.out⟩
  case round =>
    obtain ⟨k, rfl, hk, hbw, hbd, hsz, hrd⟩ := hrel
    obtain ⟨wz, hwz⟩ : ∃ wz, wz = wr := ⟨_, rfl⟩
    subst hwz
    by_cases hc : k < L.length
    · obtain ⟨v, hv⟩ : ∃ v, v = L[k] := ⟨_, rfl⟩
      have hvm : v ∈ L := by rw [hv]; exact List.getElem_mem hc
      obtain ⟨b, off, rfl, hbl, hcell⟩ := hrd.at (k := k) (v := .int .i64 v.num) (by rw [hv]; simp [hc])
      obtain ⟨ys, b1, b2, b3⟩ := hbd
      have hlk : (L.take k).length = k := by rw [List.length_take]; omega
      rw [hlk] at b2
      obtain ⟨sa, sc, hsv, hslc, -, -, -⟩ := own_slice3 b2
      subst hsv
      have HV := Lib.hid hv
      have HBW := Lib.hid hbw
      have HRD := Lib.hid hrd
      have HSZ := Lib.hid hsz
      have HY := Lib.hid (And.intro b1 (And.intro b2 b3))
      have HLK := Lib.hid hlk
      have HTV := Lib.hid (HT.out wz hbw v hvm)
      clear hv hvm hbw hrd hsz b1 b2 b3 hlk hslc HBL
      go_wp2_with fail
      refine HTV.out.mono ?_
      rintro e w4 ⟨a, c, rfl, har, hab, hb4⟩
      have hb45 : Below w4.heap.size w4 (w4.alloc (.cells #[.int .i64 v.num, .slice a v.cr.length c] 32)) := (Below.refl _ _).alloc (Nat.le_refl _) _
      have HP := Lib.hid (show ∀ V, V = w4.alloc (.cells #[.int .i64 v.num, .slice a v.cr.length c] 32) → V.ownsRow w2.heap.size 32 2 (.slice sa k sc) k (wcf ys) ∧ Rd V (some ⟨w4.heap.size, 0, none⟩) (WC.cells ⟨v, a, c⟩) ∧ Below wz.heap.size wz V ∧ w2.heap.size ≤ V.heap.size from fun V hV => by
        have hbV : Below w4.heap.size w4 V := by rw [hV]; exact hb45
        have hbz := hb4.trans (hbV.mono hb4.size)
        exact ⟨(Only.of_new (F := fun _ => False) hbz).own HY.out.2.1 (fun _ _ h => h), by rw [hV]; exact Rd.new w4 _ _ _ _ (fun j u hu => by simpa [WC.cells] using hu), hbz, Nat.le_trans HSZ.out hbz.size⟩)
      have HAR := Lib.hid har
      have HAB := Lib.hid hab
      have HB4 := Lib.hid hb4
      clear har hab hb4 hb45
      have HQ := Lib.hid (HP.out _ rfl)
      go_wp2_with (first
        | (with_reducible refine step_append_any (.inl rfl) _ _ 29 rfl w2.heap.size 32 i0 _ 2 32 Try.underlying29 hi0 hz0 hz1 hz2 rfl (by decide) (.slice sa k sc) k _ rfl HQ.out.1 (some ⟨w4.heap.size, 0, none⟩) 1 1 (WC.cells ⟨v, a, c⟩) rfl rfl HQ.out.2.1 (wc_one _) (by unfold maxLen; omega) (by omega) HQ.out.2.2.2 ?_)
        | fail)
      intro sv' w6 happ
      have hgr := happ.2.1
      have hbz := HQ.out.2.2.1
      have hY := HY.out
      have hown1 : ∀ q, (Value.slice sa k sc).ownBlock = some q → w2.heap.size ≤ q := fun q hq => (hY.2.1.lt q hq).1
      have hbw6 : Below w.heap.size w w6 := ((HBW.out.trans (hbz.mono HBW.out.size))).grown hgr (HBW.out.trans (hbz.mono HBW.out.size)).size (fun q hq => by have := hown1 q hq; have := HB2.out.size; omega)
      have hot : Only (fun q => (Value.slice sa k sc).ownBlock = some q) (w4.alloc (.cells #[.int .i64 v.num, .slice a v.cr.length c] 32)) w6 := (Only.refl _ _).grown hgr (fun q hq _ => hq)
      have h3' : ∀ y ∈ ys, Rd (w4.alloc (.cells #[.int .i64 v.num, .slice a v.cr.length c] 32)) y.a (crf y.x.cr) ∧ ∀ ad, y.a = some ad → w2.heap.size ≤ ad.block ∧ ad.block < (w4.alloc (.cells #[.int .i64 v.num, .slice a v.cr.length c] 32)).heap.size ∧ (Value.slice sa k sc).ownBlock ≠ some ad.block := fun y hy =>
        ⟨(hY.2.2 y hy).1.below hbz (Nat.le_refl _), fun ad e => ⟨((hY.2.2 y hy).2 ad e).1, Nat.lt_of_lt_of_le ((hY.2.2 y hy).2 ad e).2.1 hbz.size, ((hY.2.2 y hy).2 ad e).2.2⟩⟩
      have hb45 : Below w4.heap.size w4 (w4.alloc (.cells #[.int .i64 v.num, .slice a v.cr.length c] 32)) := (Below.refl _ _).alloc (Nat.le_refl _) _
      have hbld := Bld.app (D := w2.heap.size) (sl := .slice sa k sc) (sl' := sv') (l := L.take k) hY.1 (by rw [HLK.out]; exact HQ.out.1) h3' ⟨v, a, c⟩ ⟨HAR.out.below hb45 (Nat.le_refl _), fun ad e => by
        have h9 := HAB.out ad e
        have h8 := HSZ.out
        have h7 := hb45.size
        refine ⟨by omega, by omega, fun hq => ?_⟩
        have h6 := (hY.2.1.lt _ hq).2
        omega⟩ (by rw [HLK.out]; exact happ)
      have htk : L.take (k + 1) = L.take k ++ [v] := by rw [List.take_add_one, List.getElem?_eq_getElem hc, HV.out]; rfl
      rw [← htk] at hbld
      have HREL := Lib.hid (show Below w.heap.size w w6 ∧ Bld w2.heap.size w6 (L.take (k + 1)) sv' ∧ w2.heap.size ≤ w6.heap.size ∧ Rd w6 (some ⟨b, off, none⟩) ((L.map (·.num)).map encZ) from
        ⟨hbw6, hbld, Nat.le_trans HQ.out.2.2.2 hot.size, hot.rd (HRD.out.below hbz (Nat.le_refl _)) (fun ad e hq => by have h9 := hown1 _ hq; have h8 := (HNB.out ad e).2; omega)⟩)
      obtain ⟨va, vc, hsv, -, -, -, -⟩ := own_slice3 happ.1
      subst hsv
      clear hgr hbz hY hown1 hbw6 hot h3' hb45 hbld htk happ HP HQ
      go_wp2
      go_roundw
      case rel => exact ⟨k + 1, by go_num, by omega, HREL.out⟩
      case measure => simp [intOf]; omega
    · obtain rfl : k = L.length := by omega
      rw [List.take_length] at hbd
      obtain ⟨a, c, hsv, hwin⟩ := hbd.win
      subst hsv
      have HF := Lib.hid (show ListP w L (.returned (.slice a L.length c)) wz ∧ Below w.heap.size w wz from ⟨⟨a, c, rfl, hwin.mono (fun k hk => ⟨by have := HB2.out.size; omega, hk.2⟩)⟩, hbw⟩)
      clear hbd hwin hrd hbw
      go_wp2
      go_ret
      exact HF.out
end
end Go.Proofs.Ytbkpgpaanhfjfaa
