/- The walk over the law DeltaAdds. -/
import Derived.Test.YthademifhnkbiaaDlH
namespace Go.Proofs.Ythademifhnkbiaa
open Go.RowKit K
def zv (zs : List Int) : List Value := zs.map fun z => Value.int .i64 z
def zq (zs : List Int) (j : Nat) : Int := zs.getD j 0
theorem zv_get {zs : List Int} {k : Nat} (h : k < zs.length) : (zv zs)[k]? = some (.int .i64 (zq zs k)) := by simp [zv, zq, h]
def stZ (zs : List Int) (k : Nat) : Option (Int × Int) := if k = 0 then none else some (zq zs (k - 1), (k : Int) - 1)
def dZ (zs : List Int) (k : Nat) : Int := if k = 0 then 0 else zq zs (k - 1) - zq zs 0
def AddI (w : World) (m : Nat) (zs : List Int) (k : Nat) (sum want : Int) (wr : World) : Prop :=
  ∃ tal, sum = want + dZ zs k ∧ 0 ≤ want ∧ want ≤ k * 1125899906842624 ∧ (∀ j, j < k → 0 ≤ zq zs j ∧ zq zs j < 1125899906842624) ∧ MLv w [] wr m 1 (stZ zs k) tal ∧ TB k tal
theorem TB.tA {b : Int} {t : Tal} (h : TB b t) (st : Option (Int × Int)) (v : Int) : TB (b + 1) (tA st v t) := by
  cases st with
  | none => exact h.tadd ⟨smpA v 0, 1, false, 0⟩
  | some p => exact h.tadd ⟨smpA v 0, 1, true, p.1⟩
theorem MLv.drop {w0 w : World} {K : List (Nat × Obj)} {m : Nat} {most : Int} {st : Option (Int × Int)} {tal : Tal} (h : MLv w0 K w m most st tal) : MLv w0 [] w m most st tal := by
  obtain ⟨s, F, h1, h2, _⟩ := h
  exact ⟨s, F, h1, h2, fun p hp => by cases hp⟩
set_option maxHeartbeats 4000000 in
set_option maxRecDepth 100000 in
theorem deltaAdds_any (a0 : Option Addr) (c : Nat) (zs : List Int) (w : World) (hzm : zs.length ≤ 9223372036854775807) (hz : ∀ z ∈ zs, I64 z) (hr : Rd w a0 (zv zs)) :
    Calls Try.prog 3 #[.slice a0 zs.length c] w fun e w' => e = .returned (.bool true) ∧ Below w.heap.size w w' := by
  have HR := Lib.hid hr
  have HZ := Lib.hid hz
  clear hr hz
  by_cases b1 : 100 < zs.length
  · go_enter Try.func3, Try.ntmps3
    go_wp2_with fail
    refine (known_any w).mono ?_
    rintro e w2 ⟨rfl, hb2⟩
    go_wp2
    go_ret
    exact ⟨rfl, hb2⟩
  go_enter Try.func3, Try.ntmps3
  go_wp2_with fail
  refine (anew_lv w 1).mono ?_
  rintro e w1 ⟨m, rfl, h1⟩
  have H1 := Lib.hid h1
  clear h1
  go_wp2
  go_loopw [4, 5, 6] (fun s t i wr => ∃ (k : Nat) (sum want : Int), k ≤ zs.length ∧ i = .int .i64 k ∧ s = .int .i64 sum ∧ t = .int .i64 want ∧ AddI w m zs k sum want wr) (fun _ _ i _ => zs.length - (intOf i).toNat)
  case atStart => exact ⟨0, 0, 0, by omega, rfl, rfl, rfl, tal0, rfl, by omega, by omega, fun j hj => by omega, H1.out, by unfold TB tal0; simp⟩
  case round =>
    obtain ⟨k, sum, want, hk, rfl, rfl, rfl, tal, hsum, hw0, hw1, hzb, hlv, htb⟩ := hrel
    have HLV := Lib.hid hlv
    have HTB := Lib.hid htb
    have HZB := Lib.hid hzb
    clear hlv htb hzb
    by_cases hlt : k < zs.length
    · obtain ⟨b, off, rfl, hbl, hcell⟩ := (HR.out.below HLV.out.bel (Nat.le_refl _)).at (zv_get hlt)
      have hi64 : I64 (zq zs k) := by
        have : zq zs k = zs[k] := by simp [zq, hlt]
        rw [this]; exact HZ.out _ (List.getElem_mem hlt)
      obtain ⟨z, hzk⟩ : ∃ z, z = zq zs k := ⟨_, rfl⟩
      rw [← hzk] at hcell hi64
      have HZK := Lib.hid hzk
      clear hzk
      by_cases hr : z < 0 ∨ 1125899906842624 ≤ z
      · have HB := Lib.hid HLV.out.bel
        clear hsum
        rcases hr with hr | hr
        · go_wp2_with fail
          refine (known_any wr).mono ?_
          rintro e w2 ⟨rfl, hb2⟩
          have HB2 := Lib.hid hb2
          clear hb2
          go_wp2
          go_ret
          exact ⟨rfl, HB.out.trans (HB2.out.mono HB.out.size)⟩
        · go_wp2_with fail
          refine (known_any wr).mono ?_
          rintro e w2 ⟨rfl, hb2⟩
          have HB2 := Lib.hid hb2
          clear hb2
          go_wp2
          go_ret
          exact ⟨rfl, HB.out.trans (HB2.out.mono HB.out.size)⟩
      · have hz1 : 0 ≤ z := by omega
        have hz2 : z < 1125899906842624 := by omega
        clear hr
        have HS := Lib.hid hsum
        clear hsum
        go_wp2_with fail
        have hp := aput_lv (HLV.out.alloc (.cells (smpA z k).cells 31 (0, 0))) (by omega) z k hi64 (fun p hp => by
          unfold stZ at hp
          split at hp
          · cases hp
          · cases hp
            have := HZB.out (k - 1) (by omega)
            exact ⟨⟨by omega, by omega⟩, by simp only; omega⟩) wr.heap.size 1 (by simp) k HTB.out (by omega)
        have HP := Lib.hid hp
        clear hp
        refine HP.out.mono ?_
        rintro e w4 ⟨a1, ca1, a2, ca2, rfl, hr2, hl4⟩
        have HL5 := Lib.hid hl4.drop
        have HT5 := Lib.hid (HTB.out.tA (stZ zs k) z)
        clear hl4 HP
        cases k with
        | zero =>
          have HN := Lib.hid (show AddI w m zs (0 + 1) sum want w4 from ⟨_, by
            rw [HS.out]; simp [dZ], hw0, by omega, fun j hj => by
              obtain rfl : j = 0 := by omega
              rw [← HZK.out]; exact ⟨hz1, hz2⟩, by have := HL5.out; simpa [stZ, HZK.out] using this, HT5.out⟩)
          simp only [gA, stZ, if_true, List.length_nil] at hr2 ⊢
          clear hr2 HL5 HT5
          go_wp2
          go_rounds 1
          exact ⟨⟨1, sum, want, by omega, rfl, rfl, rfl, HN.out⟩, by simp [intOf]; omega⟩
        | succ j =>
          obtain ⟨p, hpj⟩ : ∃ p, p = zq zs j := ⟨_, rfl⟩
          have hpb := HZB.out j (by omega)
          have hqb := HZB.out 0 (by omega)
          rw [← hpj] at hpb
          obtain ⟨b', off', he, hcp⟩ := (HR.out.below HL5.out.bel (Nat.le_refl _)) j _ (zv_get (by omega))
          cases he
          rw [← hpj] at hcp
          have e1 : stZ zs (j + 1) = some (p, ((j + 1 : Nat) : Int) - 1) := by simp [stZ, hpj]
          have HST := Lib.hid (show stZ zs (j + 1 + 1) = some (z, ((j + 1 : Nat) : Int)) from by simp [stZ, HZK.out])
          have HD := Lib.hid (show dZ zs (j + 1) = p - zq zs 0 from by simp [dZ, hpj])
          have HD2 := Lib.hid (show dZ zs (j + 1 + 1) = z - zq zs 0 from by simp [dZ, HZK.out])
          rw [e1] at hr2 HT5 HL5 ⊢
          clear e1 hpj
          have e2 : ∀ t : Int, gA (some (p, t)) z ((j + 1 : Nat) : Int) = [⟨nameA, ((j + 1 : Nat) : Int), (gainV p z).1, (gainV p z).2⟩] := fun _ => rfl
          rw [e2] at hr2 ⊢
          clear e2
          have hsb : -1152921504606846976 ≤ sum ∧ sum ≤ 1152921504606846976 := by
            have := HS.out
            rw [HD.out] at this
            omega
          have hwb : want ≤ 1152921504606846976 := by omega
          have hgv : (gainV p z).1 = (if z < p then z else z - p) ∧ (gainV p z).2 = (if z < p then true else false) := by
            unfold gainV subV
            by_cases hh : z < p
            · rw [if_pos hh, if_pos hh, if_pos hh]
              exact ⟨by show max z 0 = z; omega, rfl⟩
            · rw [if_neg hh, if_neg hh, if_neg hh]
              exact ⟨by show (if 9223372036854775807 < z - p then 9223372036854775807 else z - p) = z - p; rw [if_neg (by omega)], rfl⟩
          by_cases hzp : z < p
          · simp only [if_pos hzp] at hgv
            rw [hgv.1, hgv.2] at hr2
            obtain ⟨bg, og, rfl, hbg, q2, q3⟩ := gain_row hr2
            simp only [] at q2 q3
            have HN := Lib.hid (show AddI w m zs (j + 1 + 1) (sum + z) (want + p) w4 from ⟨_, by
              rw [HS.out, HD.out, HD2.out]; omega, by omega, by omega, fun i hi => by
                by_cases hij : i < j + 1
                · exact HZB.out i hij
                · obtain rfl : i = j + 1 := by omega
                  rw [← HZK.out]; exact ⟨hz1, hz2⟩, by have := HL5.out; rw [HST.out]; exact this, HT5.out⟩)
            clear hr2 HL5 HT5 hgv
            simp only [List.length_cons, List.length_nil]
            go_wp2
            go_rounds 2
            exact ⟨⟨j + 1 + 1, _, _, by omega, by go_num, rfl, rfl, HN.out⟩, by simp [intOf]; omega⟩
          · simp only [if_neg hzp] at hgv
            rw [hgv.1, hgv.2] at hr2
            obtain ⟨bg, og, rfl, hbg, q2, q3⟩ := gain_row hr2
            simp only [] at q2 q3
            have HN := Lib.hid (show AddI w m zs (j + 1 + 1) (sum + (z - p)) want w4 from ⟨_, by
              rw [HS.out, HD.out, HD2.out]; omega, by omega, by omega, fun i hi => by
                by_cases hij : i < j + 1
                · exact HZB.out i hij
                · obtain rfl : i = j + 1 := by omega
                  rw [← HZK.out]; exact ⟨hz1, hz2⟩, by have := HL5.out; rw [HST.out]; exact this, HT5.out⟩)
            clear hr2 HL5 HT5 hgv
            simp only [List.length_cons, List.length_nil]
            go_wp2
            go_rounds 2
            exact ⟨⟨j + 1 + 1, _, _, by omega, by go_num, rfl, rfl, HN.out⟩, by simp [intOf]; omega⟩
    · obtain rfl : k = zs.length := by omega
      have HB := Lib.hid HLV.out.bel
      by_cases hn : zs.length = 0
      · have hs0 : sum = want := by rw [hsum, hn]; simp [dZ]
        subst hs0
        clear hsum
        go_wp2_with fail
        refine (known_any wr).mono ?_
        rintro e w2 ⟨rfl, hb2⟩
        have HB2 := Lib.hid hb2
        clear hb2
        go_wp2
        go_ret
        exact ⟨rfl, HB.out.trans (HB2.out.mono HB.out.size)⟩
      · obtain ⟨j, hj⟩ : ∃ j, zs.length = j + 1 := ⟨zs.length - 1, by omega⟩
        obtain ⟨b, off, rfl, hbl, hc0⟩ := (HR.out.below HLV.out.bel (Nat.le_refl _)).at (zv_get (k := 0) (by omega))
        obtain ⟨b', off', he, hcj⟩ := (HR.out.below HLV.out.bel (Nat.le_refl _)) j _ (zv_get (by omega))
        cases he
        have hqj := HZB.out j (by omega)
        have hq0 := HZB.out 0 (by omega)
        have hd : dZ zs zs.length = zq zs j - zq zs 0 := by rw [hj]; simp [dZ]
        rw [hd] at hsum
        generalize zq zs j = p at hcj hqj hsum
        generalize zq zs 0 = q at hc0 hq0 hsum
        have hwb : want ≤ 1152921504606846976 := by omega
        have HSUM := Lib.hid (show (sum == want + p - q) = true by rw [beq_iff_eq]; omega)
        clear hsum hd HZB HTB hn
        simp only [Nat.add_zero] at hc0
        clear HLV HR HZ hk hlt hw1 hzm
        generalize zs.length = L at *
        subst hj
        go_wp2_with fail
        go_quiet (fail)
        have hsq := HSUM.out
        go_wp2_with fail
        refine (known_any _).mono ?_
        rintro e w2 ⟨rfl, hb2⟩
        have HB2 := Lib.hid hb2
        clear hb2
        go_wp2
        go_ret
        exact ⟨rfl, HB.out.trans ((below_drewN (Below.refl _ _) _).trans (HB2.out.mono HB.out.size))⟩
end Go.Proofs.Ythademifhnkbiaa
