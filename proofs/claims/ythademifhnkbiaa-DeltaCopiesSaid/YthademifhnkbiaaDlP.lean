/- The walk over (*delta.Meter).Put. -/
import Derived.Test.YthademifhnkbiaaDlM
import Derived.StillTailTactics
namespace Go.Proofs.Ythademifhnkbiaa
open Go.RowKit K
def MPost (w : World) (B m s : Nat) (most owner : Int) (l : List SV) (F : List Nat) (tal : Tal) (xs : List Smp) (e : Ending) (w' : World) : Prop :=
  ∃ v gv F', e = .returned (.tuple #[v, gv]) ∧ w'.ownsRow (w.heap.size + 1) 68 7 v xs.length (snf (putS most owner l xs)) ∧
    w'.ownsRow w.heap.size 33 4 gv (gainsL (putS most owner l xs)).length (gnf (gainsL (putS most owner l xs))) ∧
    MIs w' B m s most (goneL owner (xs.map (·.name)) (putL most owner l xs)) F' ((putS most owner l xs).foldl tadd tal) ∧ Only (fun b => b = m ∨ b ∈ F) w w' ∧ ∀ b ∈ F', b ∈ F ∨ w.heap.size ≤ b
set_option maxHeartbeats 4000000 in
set_option maxRecDepth 100000 in
theorem mput_any {w : World} {B m s : Nat} {most : Int} {l : List SV} {F : List Nat} {tal : Tal} (h : MIs w B m s most l F tal) (hB : B ≤ w.heap.size) (owner : Int) (a : Option Addr) (c : Nat) (xs : List Smp) (hr : Rd w a (smf xs)) (hx : xs.length ≤ 100000) (hna : ∀ ad, a = some ad → xs ≠ [] → ad.block ∉ F) (hu : Uniq l)
    (hv : ∀ x ∈ putS most owner l xs, I64 x.ahead ∧ I64 x.x.val ∧ 1 ≤ x.verdict ∧ x.verdict ≤ 4) (tb : Int) (htb : TB tb tal) (htb2 : tb ≤ 1000000000000) :
    Calls Try.prog 10 #[.pointer (some ⟨m, 0, none⟩), .int .i64 owner, .slice a xs.length c] w (MPost w B m s most owner l F tal xs) := by
  obtain ⟨i0, hi, hz0, hz1, hz2⟩ := info_parts info_gain
  obtain ⟨hm, hst, hmF, hBm, hBF⟩ := h
  have hput := put_any hst hB owner a c xs hr hx hna hu
  have c0 : w.cell? ⟨m, 0, none⟩ = some (.pointer (some ⟨s, 0, none⟩)) := by rw [cell_of_row _ _ _ _ _ _ hm]; rfl
  have HPUT := Lib.hid hput
  have HM := Lib.hid hm
  have HST := Lib.hid hst
  have HMF := Lib.hid hmF
  have HBF := Lib.hid hBF
  have HV := Lib.hid hv
  have HTB := Lib.hid htb
  clear hput hm hst hmF hBF hv htb hr hna hu
  have hsl := putS_length most owner xs l
  generalize hsn : putS most owner l xs = sn at hsl HV
  have HSN := Lib.hid hsn
  clear hsn
  go_enter Try.func10, Try.ntmps10
  go_wp2_with fail
  refine HPUT.out.mono ?_
  rintro e w1 ⟨v, F', rfl, p1, p2, p3, p4, p5⟩
  rw [HSN.out] at p1
  obtain ⟨a1, c1, rfl, hc1, hr1, hab⟩ := own_cells p1
  have hm1 : w1.heap[m]? = some (.cells (mcells s tal) 65 (0, 0)) := p3.heap HM.out HMF.out
  have hm2 : m < w1.heap.size := (Array.getElem?_eq_some_iff.1 hm1).1
  have hmw : m < w.heap.size := (Array.getElem?_eq_some_iff.1 HM.out).1
  have P1 := Lib.hid p1
  have P2 := Lib.hid p2
  have P3 := Lib.hid p3
  have P4 := Lib.hid p4
  have P5 := Lib.hid p5
  have HR1 := Lib.hid hr1
  have HAB := Lib.hid hab
  have HVM : Hid (∀ ad, a1 = some ad → ad.block ≠ m) := Lib.hid fun ad h e => by have := (p1.lt _ (hab ad h)).1; omega
  have HL0 := Lib.hid (show MtL w1 m s sn tal 0 (.slice none 0 0) w1 from ⟨hm1, World.ownsRow_nil _ _ _ _, Only.refl _ _⟩)
  clear p1 p2 p3 p4 p5 hr1 hab hm1 c0 HPUT HM
  go_wp2
  go_loopw [9, 34] (fun gv i wr => ∃ k : Nat, k ≤ xs.length ∧ i = .int .i64 k ∧ MtL w1 m s sn tal k gv wr) (fun _ i _ => xs.length - (intOf i).toNat)
  case atStart => exact ⟨0, by omega, rfl, HL0.out⟩
  case round =>
    obtain ⟨k, hk, rfl, hl1, hl2, hl3⟩ := hrel
    by_cases hlt : k < xs.length
    · have hks : k < sn.length := by omega
      obtain ⟨b, off, rfl, hb, hq⟩ := seen_cells (hl3.rd HR1.out HVM.out) hks
      obtain ⟨vx1, vx2, vx3, vx4⟩ := HV.out sn[k] (List.getElem_mem hks)
      have HTK := Lib.hid (take_succ sn k hks)
      have tbk := (HTB.out.fold (sn.take k))
      have hgl := gainsL_le (sn.take k)
      have hlk : (sn.take k).length = k := by simp; omega
      rw [hlk] at tbk hgl
      obtain ⟨tk, htk⟩ : ∃ tk, tk = (sn.take k).foldl tadd tal := ⟨_, rfl⟩
      rw [← htk] at tbk hl1
      have HTK2 := Lib.hid htk
      clear htk
      generalize sn[k] = x at hq vx1 vx2 vx3 vx4 HTK
      obtain ⟨⟨n, v, t, cc⟩, vd, ch, ahd⟩ := x
      have q0 := hq 0 _ (by omega) rfl
      have q1 := hq 1 _ (by omega) rfl
      have q2 := hq 2 _ (by omega) rfl
      have q3 := hq 3 _ (by omega) rfl
      have q4 := hq 4 _ (by omega) rfl
      have q5 := hq 5 _ (by omega) rfl
      have q6 := hq 6 _ (by omega) rfl
      simp only [Nat.add_zero] at q0
      simp only [] at vx1 vx2 vx3 vx4
      have hmr : m < wr.heap.size := (Array.getElem?_eq_some_iff.1 hl1).1
      have d1 : w.cell? ⟨m, 1, none⟩ = w.cell? ⟨m, 1, none⟩ := rfl
      have e1 : wr.cell? ⟨m, 1, none⟩ = some (.int .i64 tk.p) := by rw [cell_of_row _ _ _ _ _ _ hl1]; rfl
      have f1 : wr.frozen? ⟨m, 1, none⟩ = false := frozen_of_row _ _ _ _ _ hl1
      have tp := tbk.1
      have HQ := Lib.hid hl1
      have HL2 := Lib.hid hl2
      have HL3 := Lib.hid hl3
      have TBK := Lib.hid tbk
      clear hq hl1 hl2 hl3 d1 tbk
      go_wp2_with fail
      obtain ⟨u1, hu1⟩ : ∃ u, u = (wr.setCell ⟨m, 1, none⟩ (.int .i64 (tk.p + 1))).alloc (.cells #[.string n, .int .i64 v, .int .i64 t, .bool cc, .int .i64 vd, .bool ch, .int .i64 ahd] 68) := ⟨_, rfl⟩
      rw [← hu1]
      have hm1 : u1.heap[m]? = some (.cells (mcells s tk.par) 65 (0, 0)) := by
        rw [hu1, Below.heap_alloc _ _ _ (by simp; exact hmr), heap_setCell_same _ _ _ _ _ _ HQ.out]
        rfl
      have hx1 : u1.heap[wr.heap.size]? = some (.cells #[.string n, .int .i64 v, .int .i64 t, .bool cc, .int .i64 vd, .bool ch, .int .i64 ahd] 68 (0, 0)) := by
        have := heap_alloc_new (wr.setCell ⟨m, 1, none⟩ (.int .i64 (tk.p + 1))) (.cells #[.string n, .int .i64 v, .int .i64 t, .bool cc, .int .i64 vd, .bool ch, .int .i64 ahd] 68)
        rw [World.size_setCell] at this
        rw [hu1]
        exact this
      have ho1 : Only (· = m) wr u1 := by rw [hu1]; exact ((Only.refl (· = m) wr).setCell ⟨m, 1, none⟩ _ (fun _ => rfl)).alloc _
      clear hu1 q0 q1 q2 q3 q4 q5 q6 e1 f1
      obtain ⟨X, hX⟩ : ∃ X, X = wr.heap.size := ⟨_, rfl⟩
      rw [← hX] at hx1 ⊢
      have hXm : X ≠ m := by omega
      have HXX := Lib.hid hX
      clear hX
      have x4 : u1.cell? ⟨X, 4, none⟩ = some (.int .i64 vd) := (cell_of_row u1 _ _ _ _ _ hx1).trans rfl
      have x4b : u1.drew.cell? ⟨X, 4, none⟩ = some (.int .i64 vd) := x4
      go_still_tail 5, (by kernel_rfl)
      change wpList _ _ _ _ _ u1.drew
      obtain ⟨u2, hu2⟩ : ∃ u, u = u1.drew := ⟨_, rfl⟩
      rw [← hu2]
      have hm2 : u2.heap[m]? = some (.cells (mcells s tk.par) 65 (0, 0)) := by rw [hu2]; exact hm1
      have hx2 : u2.heap[X]? = some (.cells #[.string n, .int .i64 v, .int .i64 t, .bool cc, .int .i64 vd, .bool ch, .int .i64 ahd] 68 (0, 0)) := by rw [hu2]; exact hx1
      have ho2 : Only (· = m) wr u2 := by rw [hu2]; exact ho1.drew
      have HO2 := Lib.hid ho2
      have HM2 := Lib.hid hm2
      have HX2 := Lib.hid hx2
      clear hu2 hm1 hx1 ho1 x4 x4b hm2 hx2 ho2
      go_wp2_with fail
      refine (counter_any u2 m 1 vd ⟨vx3, vx4⟩).mono ?_
      rintro e u3 ⟨rfl, hb3⟩
      have ho3 : Only (· = m) wr u3 := HO2.out.trans (Only.of_new (F := (· = m)) hb3) (fun _ _ h => h)
      have hm3 : u3.heap[m]? = some (.cells (mcells s tk.par) 65 (0, 0)) := (hb3.block m (Array.getElem?_eq_some_iff.1 HM2.out).1).trans HM2.out
      have hx3 : u3.heap[X]? = some (.cells #[.string n, .int .i64 v, .int .i64 t, .bool cc, .int .i64 vd, .bool ch, .int .i64 ahd] 68 (0, 0)) := (hb3.block X (Array.getElem?_eq_some_iff.1 HX2.out).1).trans HX2.out
      have hcb := cnt_b TBK.out.par vd
      have cm3 : u3.cell? ⟨m, 1 + vd.toNat, none⟩ = some (.int .i64 (tk.par.cnt vd)) := by rw [cell_of_row _ _ _ _ _ _ hm3]; exact cnt_cell s tk.par vd ⟨vx3, vx4⟩
      have fm3 : u3.frozen? ⟨m, 1 + vd.toNat, none⟩ = false := frozen_of_row _ _ _ _ _ hm3
      have hm4 : (u3.setCell ⟨m, 1 + vd.toNat, none⟩ (.int .i64 (tk.par.cnt vd + 1))).heap[m]? = some (.cells (mcells s (tk.par.one vd)) 65 (0, 0)) := by
        rw [heap_setCell_same _ _ _ _ _ _ hm3, cnt_set s tk.par vd ⟨vx3, vx4⟩]
      have hx4 : (u3.setCell ⟨m, 1 + vd.toNat, none⟩ (.int .i64 (tk.par.cnt vd + 1))).heap[X]? = some (.cells #[.string n, .int .i64 v, .int .i64 t, .bool cc, .int .i64 vd, .bool ch, .int .i64 ahd] 68 (0, 0)) := by
        rw [Below.heap_setCell _ _ _ X hXm]; exact hx3
      have ho4 : Only (· = m) wr (u3.setCell ⟨m, 1 + vd.toNat, none⟩ (.int .i64 (tk.par.cnt vd + 1))) := ho3.setCell _ _ (fun _ => rfl)
      have HM4 := Lib.hid hm4
      have HX4 := Lib.hid hx4
      have HO4 := Lib.hid ho4
      have x5 : u3.cell? ⟨X, 5, none⟩ = some (.bool ch) := by rw [cell_of_row _ _ _ _ _ _ hx3]; rfl
      have x3 : u3.cell? ⟨X, 3, none⟩ = some (.bool cc) := by rw [cell_of_row _ _ _ _ _ _ hx3]; rfl
      have x6 : u3.cell? ⟨X, 6, none⟩ = some (.int .i64 ahd) := by rw [cell_of_row _ _ _ _ _ _ hx3]; rfl
      have x1 : u3.cell? ⟨X, 1, none⟩ = some (.int .i64 v) := by rw [cell_of_row _ _ _ _ _ _ hx3]; rfl
      clear hb3 ho3 hm3 hx3 hm4 hx4 ho4
      generalize tk.par.cnt vd = cv at cm3 hcb HM4 HX4 HO4
      simp only [cPtr]
      have HGO : Hid (∀ u', Only (· = m) wr u' → u'.ownsRow w1.heap.size 33 4 u9 (gainsL (sn.take k)).length (gnf (gainsL (sn.take k)))) := Lib.hid fun u' ho => ho.own HL2.out (fun b hb e => by have := (HL2.out.lt b hb).1; omega)
      by_cases hcc : (ch && cc) = true
      · have h1 : ch = true := by simp at hcc; exact hcc.1
        have h2 : cc = true := by simp at hcc; exact hcc.2
        subst h1 h2
        clear hcc
        obtain ⟨u4, hu4⟩ : ∃ u, u = u3.setCell ⟨m, 1 + vd.toNat, none⟩ (.int .i64 (cv + 1)) := ⟨_, rfl⟩
        rw [← hu4] at HM4 HX4 HO4
        go_wp2_with fail
        rw [← hu4]
        clear hu4 cm3 fm3 x5 x3 x6 x1
        refine (gain_any u4 ahd v vx1 vx2).mono ?_
        rintro e u5 ⟨rfl, hu5⟩
        rw [hu5]
        clear hu5
        have hgr := one_gr tk.par vd
        have htb1 := TBK.out.2.2.2.2.2.1
        have htb2' := TBK.out.2.2.2.2.2.2
        have hm4 := HM4.out
        have g6 : u4.cell? ⟨m, 6, none⟩ = some (.int .i64 (tk.par.one vd).g) := by rw [cell_of_row _ _ _ _ _ _ hm4]; rfl
        have g7 : u4.cell? ⟨m, 7, none⟩ = some (.int .i64 (tk.par.one vd).r) := by rw [cell_of_row _ _ _ _ _ _ hm4]; rfl
        have gf : ∀ i, u4.frozen? ⟨m, i, none⟩ = false := fun i => frozen_of_row _ _ _ _ _ hm4
        have x0 : u4.cell? ⟨X, 0, none⟩ = some (.string n) := by rw [cell_of_row _ _ _ _ _ _ HX4.out]; rfl
        have x2 : u4.cell? ⟨X, 2, none⟩ = some (.int .i64 t) := by rw [cell_of_row _ _ _ _ _ _ HX4.out]; rfl
        rw [hgr.1] at g6
        rw [hgr.2] at g7
        have e6 : tk.par.g = tk.g := rfl
        have e7 : tk.par.r = tk.r := rfl
        rw [e6] at g6
        rw [e7] at g7
        have HTG := Lib.hid (show tk.g = (tk.par.one vd).g from by rw [hgr.1]; rfl)
        have HTR := Lib.hid (show tk.r = (tk.par.one vd).r from by rw [hgr.2]; rfl)
        clear hm4 hgr e6 e7
        obtain ⟨tg, htg⟩ : ∃ tg, tg = tk.g := ⟨_, rfl⟩
        obtain ⟨tr, htr⟩ : ∃ tr, tr = tk.r := ⟨_, rfl⟩
        rw [← htg] at g6 HTG htb1
        rw [← htr] at g7 HTR htb2'
        clear htg htr
        have hgle : (gainsL (sn.take k)).length ≤ 100000 := by omega
        have HGP := Lib.hid (show gainV ahd v = gainV ahd v from rfl)
        generalize hgp : gainV ahd v = gp
        have HGV := Lib.hid hgp
        clear hgp HGP
        obtain ⟨gi, gr⟩ := gp
        simp only []
        cases gr with
        | true =>
          have hw : ((u4.setCell ⟨m, 6, none⟩ (.int .i64 (tg + 1))).setCell ⟨m, 7, none⟩ (.int .i64 (tr + 1))).heap[m]? = some (.cells (mcells s ((tk.par.one vd).gain true)) 65 (0, 0)) := by
            rw [heap_setCell_same _ _ _ _ _ _ (heap_setCell_same _ _ _ _ _ _ HM4.out), HTG.out, HTR.out]
            rfl
          have how : Only (· = m) wr ((u4.setCell ⟨m, 6, none⟩ (.int .i64 (tg + 1))).setCell ⟨m, 7, none⟩ (.int .i64 (tr + 1))) := (HO4.out.setCell _ _ (fun _ => rfl)).setCell _ _ (fun _ => rfl)
          have HW := Lib.hid hw
          have HOW := Lib.hid how
          clear hw how
          have HROW := Lib.hid (show ∀ j u, (#[.string n, .int .i64 t, .int .i64 gi, .bool true] : Array Value).toList[j]? = some u → (((u4.setCell ⟨m, 6, none⟩ (.int .i64 (tg + 1))).setCell ⟨m, 7, none⟩ (.int .i64 (tr + 1))).alloc (.cells #[.string n, .int .i64 t, .int .i64 gi, .bool true] 33 (0, 0))).cell? ((⟨u4.heap.size, 0, none⟩ : Addr).add j) = some u from by
            have := row_new ((u4.setCell ⟨m, 6, none⟩ (.int .i64 (tg + 1))).setCell ⟨m, 7, none⟩ (.int .i64 (tr + 1))) #[.string n, .int .i64 t, .int .i64 gi, .bool true] 33 (0, 0)
            simpa only [World.size_setCell] using this)
          have HSZ := Lib.hid (show w1.heap.size ≤ ((u4.setCell ⟨m, 6, none⟩ (.int .i64 (tg + 1))).setCell ⟨m, 7, none⟩ (.int .i64 (tr + 1))).heap.size from by have h1 := HL3.out.size; have h2 := HOW.out.size; omega)
          go_wp2_with (first
            | (at_builtin; refine step_append_at _ rfl _ _ 27 rfl w1.heap.size 33 i0 _ 4 40 Try.underlying27 hi hz0 hz1 hz2 rfl (by decide) _ _ _ rfl ((((Only.refl (fun _ => False) ((u4.setCell ⟨m, 6, none⟩ (.int .i64 (tg + 1))).setCell ⟨m, 7, none⟩ (.int .i64 (tr + 1)))).alloc _).own (HGO.out _ HOW.out) (fun _ _ h => h))) ⟨u4.heap.size, 0, none⟩ 1 1 _ rfl rfl HROW.out ?g1b ?g2b ?g3b ?g4b ?_)
            | fail)
          case g1b => simp [Value.oneCell']
          case g2b => simp only [maxLen]; omega
          case g3b => omega
          case g4b => have h9 := HSZ.out; simp only [World.size_setCell] at h9; omega
          intro v' w' hown' hgr hnil hv'
          have HN := Lib.hid (show MtL w1 m s sn tal (k + 1) v' w' from by
            refine MtL.gain (u := ((u4.setCell ⟨m, 6, none⟩ (.int .i64 (tg + 1))).setCell ⟨m, 7, none⟩ (.int .i64 (tr + 1))).alloc (.cells #[.string n, .int .i64 t, .int .i64 gi, .bool true] 33)) (x := ⟨⟨n, v, t, true⟩, vd, true, ahd⟩) HTK2.out HTK.out rfl hm2 ?_ ((HL3.out.trans HOW.out (fun _ _ h => h)).alloc _) (fun b hb => (HL2.out.lt b hb).1) ?_ hgr
            · rw [Below.heap_alloc _ _ _ (Array.getElem?_eq_some_iff.1 HW.out).1]
              have e : (gainV ahd v).2 = true := by rw [HGV.out]
              simp only []
              rw [e]
              exact HW.out
            · have e : (gainOf ⟨⟨n, v, t, true⟩, vd, true, ahd⟩).cells.toList = [.string n, .int .i64 t, .int .i64 gi, .bool true] := by
                simp only [gainOf, HGV.out]
                rfl
              rw [e]
              exact hown')
          clear hown' hgr hnil hv'
          go_wp2
          go_roundw
          case rel => exact ⟨k + 1, by omega, by go_num, HN.out⟩
          case measure => simp [intOf]; omega
        | false =>
          have hw : (u4.setCell ⟨m, 6, none⟩ (.int .i64 (tg + 1))).heap[m]? = some (.cells (mcells s ((tk.par.one vd).gain false)) 65 (0, 0)) := by
            rw [heap_setCell_same _ _ _ _ _ _ HM4.out, HTG.out]
            rfl
          have how : Only (· = m) wr (u4.setCell ⟨m, 6, none⟩ (.int .i64 (tg + 1))) := HO4.out.setCell _ _ (fun _ => rfl)
          have HW := Lib.hid hw
          have HOW := Lib.hid how
          clear hw how
          have HROW := Lib.hid (show ∀ j u, (#[.string n, .int .i64 t, .int .i64 gi, .bool false] : Array Value).toList[j]? = some u → ((u4.setCell ⟨m, 6, none⟩ (.int .i64 (tg + 1))).alloc (.cells #[.string n, .int .i64 t, .int .i64 gi, .bool false] 33 (0, 0))).cell? ((⟨u4.heap.size, 0, none⟩ : Addr).add j) = some u from by
            have := row_new (u4.setCell ⟨m, 6, none⟩ (.int .i64 (tg + 1))) #[.string n, .int .i64 t, .int .i64 gi, .bool false] 33 (0, 0)
            simpa only [World.size_setCell] using this)
          have HSZ := Lib.hid (show w1.heap.size ≤ (u4.setCell ⟨m, 6, none⟩ (.int .i64 (tg + 1))).heap.size from by have h1 := HL3.out.size; have h2 := HOW.out.size; omega)
          go_wp2_with (first
            | (at_builtin; refine step_append_at _ rfl _ _ 27 rfl w1.heap.size 33 i0 _ 4 40 Try.underlying27 hi hz0 hz1 hz2 rfl (by decide) _ _ _ rfl ((((Only.refl (fun _ => False) (u4.setCell ⟨m, 6, none⟩ (.int .i64 (tg + 1)))).alloc _).own (HGO.out _ HOW.out) (fun _ _ h => h))) ⟨u4.heap.size, 0, none⟩ 1 1 _ rfl rfl HROW.out ?g1a ?g2a ?g3a ?g4a ?_)
            | fail)
          case g1a => simp [Value.oneCell']
          case g2a => simp only [maxLen]; omega
          case g3a => omega
          case g4a => have h9 := HSZ.out; simp only [World.size_setCell] at h9; omega
          intro v' w' hown' hgr hnil hv'
          have HN := Lib.hid (show MtL w1 m s sn tal (k + 1) v' w' from by
            refine MtL.gain (u := (u4.setCell ⟨m, 6, none⟩ (.int .i64 (tg + 1))).alloc (.cells #[.string n, .int .i64 t, .int .i64 gi, .bool false] 33)) (x := ⟨⟨n, v, t, true⟩, vd, true, ahd⟩) HTK2.out HTK.out rfl hm2 ?_ ((HL3.out.trans HOW.out (fun _ _ h => h)).alloc _) (fun b hb => (HL2.out.lt b hb).1) ?_ hgr
            · rw [Below.heap_alloc _ _ _ (Array.getElem?_eq_some_iff.1 HW.out).1]
              have e : (gainV ahd v).2 = false := by rw [HGV.out]
              simp only []
              rw [e]
              exact HW.out
            · have e : (gainOf ⟨⟨n, v, t, true⟩, vd, true, ahd⟩).cells.toList = [.string n, .int .i64 t, .int .i64 gi, .bool false] := by
                simp only [gainOf, HGV.out]
                rfl
              rw [e]
              exact hown')
          clear hown' hgr hnil hv'
          go_wp2
          go_roundw
          case rel => exact ⟨k + 1, by omega, by go_num, HN.out⟩
          case measure => simp [intOf]; omega
      · have HN := Lib.hid (show MtL w1 m s sn tal (k + 1) u9 (u3.setCell ⟨m, 1 + vd.toNat, none⟩ (.int .i64 (cv + 1))) from by
          have hcc2 : ¬ (((⟨⟨n, v, t, cc⟩, vd, ch, ahd⟩ : Sn).chain && (⟨⟨n, v, t, cc⟩, vd, ch, ahd⟩ : Sn).x.counts) = true) := hcc
          refine ⟨?_, ?_, HL3.out.trans HO4.out (fun _ _ h => h)⟩
          · rw [HTK.out, fold_add, ← HTK2.out, tadd, if_neg hcc2]
            exact HM4.out
          · rw [HTK.out, gainsL_add, if_neg hcc2, List.append_nil]
            exact HGO.out _ HO4.out)
        cases ch with
        | false =>
          clear hcc
          go_wp2
          go_roundw
          case rel => exact ⟨k + 1, by omega, by go_num, HN.out⟩
          case measure => simp [intOf]; omega
        | true =>
          have h2 : cc = false := by simpa using hcc
          subst h2
          clear hcc
          go_wp2
          go_roundw
          case rel => exact ⟨k + 1, by omega, by go_num, HN.out⟩
          case measure => simp [intOf]; omega
    · obtain rfl : k = xs.length := by omega
      have hP := Lib.hid (show MPost w B m s most owner l F tal xs (.returned (.tuple #[.slice a1 xs.length c1, u9])) wr from by
        have hT : sn.take xs.length = sn := List.take_of_length_le (by omega)
        rw [hT] at hl1 hl2
        refine ⟨_, _, F', rfl, ?_, ?_, ⟨?_, ?_, ?_, hBm, ?_⟩, ?_, P4.out⟩
        · rw [HSN.out]
          exact hl3.own P1.out (fun b hb e => by have := (P1.out.lt b hb).1; omega)
        · rw [HSN.out]
          refine ⟨hl2.1, ?_⟩
          rcases hl2.2 with h | ⟨g, cap, cur, e, h1, h2⟩
          · exact .inl h
          · exact .inr ⟨g, cap, cur, e, Nat.le_trans P3.out.size h1, h2⟩
        · rw [HSN.out]; exact hl1
        · exact P2.out.only hl3 (fun b hb e => by
            subst e
            rcases P4.out _ hb with h | h
            · exact HMF.out h
            · omega)
        · intro hb
          rcases P4.out _ hb with h | h
          · exact HMF.out h
          · omega
        · intro b hb
          rcases P4.out _ hb with h | h
          · exact HBF.out b h
          · omega
        · exact (P3.out.mono (fun b _ hb => .inr hb)).trans hl3 (fun b _ e => .inl e))
      clear hl1 hl2 hl3
      go_wp2
      go_ret2
      exact hP.out
end Go.Proofs.Ythademifhnkbiaa
