/- The walk over the reference's (*Meter).Put. -/
import Derived.Test.YthademifhnkbiaaDpI
namespace Go.Proofs.Ythademifhnkbiaa
open Go.RowKit K
/-- The loop of Put. -/
def RMtL (w1 : World) (m r : Nat) (sn : List Sn) (tal : Tal) (k : Nat) (gv : Value) (wr : World) : Prop :=
  wr.heap[m]? = some (.cells (mcells r ((sn.take k).foldl tadd tal)) 57 (0, 0)) ∧ wr.ownsRow w1.heap.size 33 4 gv (gainsL (sn.take k)).length (gnf (gainsL (sn.take k))) ∧ Only (· = m) w1 wr
def RMPut (w : World) (B m r : Nat) (most owner : Int) (L : List SV) (G : Nat → Prop) (tal : Tal) (xs : List Smp) (e : Ending) (w' : World) : Prop :=
  ∃ v gv G', e = .returned (.tuple #[v, gv]) ∧ w'.ownsRow w.heap.size 68 7 v xs.length (snf (rputS most owner L xs)) ∧
    w'.ownsRow w.heap.size 33 4 gv (gainsL (rputS most owner L xs)).length (gnf (gainsL (rputS most owner L xs))) ∧
    RmIs w' B m r most (goneL owner (xs.map (·.name)) (rputL most owner L xs)) G' ((rputS most owner L xs).foldl tadd tal) ∧ Only (fun b => b = m ∨ G b) w w' ∧ ∀ b, G' b → G b ∨ w.heap.size ≤ b
/-- A round without a gain. -/
theorem RMtL.none {w1 wr u : World} {m r k : Nat} {sn : List Sn} {tal tk : Tal} {gv : Value} {x : Sn} (htk : tk = (sn.take k).foldl tadd tal) (hT : sn.take (k + 1) = sn.take k ++ [x]) (hc : (x.chain && x.x.counts) = false) (h : RMtL w1 m r sn tal k gv wr) (hm : m < w1.heap.size)
    (hu : u.heap[m]? = some (.cells (mcells r (tk.par.one x.verdict)) 57 (0, 0))) (ho : Only (· = m) wr u) : RMtL w1 m r sn tal (k + 1) gv u := by
  obtain ⟨h1, h2, h3⟩ := h
  refine ⟨?_, ?_, h3.trans ho (fun _ _ h => h)⟩
  · rw [hT, fold_add, ← htk, tadd, if_neg (by rw [hc]; simp)]
    exact hu
  · rw [hT, gainsL_add, if_neg (by rw [hc]; simp), List.append_nil]
    exact ho.own h2 (fun b hb e => by have := (h2.lt b hb).1; have e : b = m := e; omega)
/-- A round with a gain: the append, then the counts. -/
theorem RMtL.gain {w1 wr u w' z : World} {Y : Obj} {m r k : Nat} {sn : List Sn} {tal tk : Tal} {gv v' : Value} {x : Sn} (htk : tk = (sn.take k).foldl tadd tal) (hT : sn.take (k + 1) = sn.take k ++ [x]) (hc : (x.chain && x.x.counts) = true) (h : RMtL w1 m r sn tal k gv wr) (hm : m < w1.heap.size)
    (ho : Only (· = m) wr u) (happ : AppTo (u.alloc Y) w1.heap.size 33 4 gv ((gainsL (sn.take k)).length + 1) (gnf (gainsL (sn.take k)) ++ (gainOf x).cells.toList) v' w')
    (hz : z.heap[m]? = some (.cells (mcells r ((tk.par.one x.verdict).gain (gainV x.ahead x.x.val).2)) 57 (0, 0))) (hoz : Only (· = m) w' z) : RMtL w1 m r sn tal (k + 1) v' z := by
  obtain ⟨h1, h2, h3⟩ := h
  obtain ⟨a1, a2, a3⟩ := happ
  have hlt := h2.lt
  refine ⟨?_, ?_, ?_⟩
  · rw [hT, fold_add, ← htk, tadd, if_pos hc]
    exact hz
  · rw [hT, gainsL_add, if_pos hc, gnf_add, List.length_append]
    exact hoz.own a1 (fun b hb e => by have := (a1.lt b hb).1; have e : b = m := e; omega)
  · have h4 : Only (· = m) w1 (u.alloc Y) := (h3.trans ho (fun _ _ h => h)).alloc Y
    exact (h4.grown a2 (fun b hb hl => by have := (hlt b hb).1; omega)).trans hoz (fun _ _ h => h)
set_option maxHeartbeats 4000000 in
set_option maxRecDepth 100000 in
theorem rmput_any {w : World} {B m r : Nat} {most : Int} {L : List SV} {G : Nat → Prop} {tal : Tal} (h : RmIs w B m r most L G tal) (hB : B ≤ w.heap.size) (owner : Int) (a : Option Addr) (c : Nat) (xs : List Smp) (hr : Rd w a (smf xs)) (hx : xs.length ≤ 10000) (hl : L.length ≤ 10000) (hna : ∀ ad, a = some ad → xs ≠ [] → ¬ G ad.block)
    (hv : ∀ x ∈ rputS most owner L xs, I64 x.ahead ∧ I64 x.x.val ∧ 1 ≤ x.verdict ∧ x.verdict ≤ 4 ∧ (x.chain = true → x.verdict = 1)) (tb : Int) (htb : TB tb tal) (htb2 : tb ≤ 1000000000000) :
    Calls Try.prog 28 #[.pointer (some ⟨m, 0, none⟩), .int .i64 owner, .slice a xs.length c] w (RMPut w B m r most owner L G tal xs) := by
  obtain ⟨i0, hi, hz0, hz1, hz2⟩ := info_parts info_gain
  obtain ⟨hm, hst, hmG, hBm⟩ := h
  have HPUT := Lib.hid (rput16_any hst hB owner a c xs hr hx hl hna)
  have c0 : w.cell? ⟨m, 0, none⟩ = some (.pointer (some ⟨r, 0, none⟩)) := by rw [cell_of_row _ _ _ _ _ _ hm]; rfl
  have HM := Lib.hid hm
  have HMG := Lib.hid hmG
  have HBM := Lib.hid hBm
  have HV := Lib.hid hv
  have HTB := Lib.hid htb
  have HST := Lib.hid hst
  have hsl := rputS_length most owner xs L
  generalize hsn : rputS most owner L xs = sn at hsl HV
  have HSN := Lib.hid hsn
  clear hsn hm hst hmG hv htb hr hna hBm
  go_enter Try.func28, Try.ntmps28
  go_wp2_with fail
  refine HPUT.out.mono ?_
  rintro e w1 ⟨v, G', rfl, p1, p2, p3, p4, p5⟩
  rw [HSN.out] at p1
  obtain ⟨a1, c1, rfl, hc1, hr1, hab⟩ := own_cells p1
  have hm1 : w1.heap[m]? = some (.cells (mcells r tal) 57 (0, 0)) := p3.heap HM.out HMG.out
  have hm2 : m < w1.heap.size := (Array.getElem?_eq_some_iff.1 hm1).1
  have hmw : m < w.heap.size := (Array.getElem?_eq_some_iff.1 HM.out).1
  have P1 := Lib.hid p1
  have P2 := Lib.hid p2
  have P3 := Lib.hid p3
  have P4 := Lib.hid p4
  have P5 := Lib.hid p5
  have HR1 := Lib.hid hr1
  have HAB := Lib.hid hab
  have HVM := Lib.hid (show ∀ ad, a1 = some ad → ¬ ad.block = m from fun ad h e => by have := (p1.lt _ (hab ad h)).1; omega)
  have HL0 := Lib.hid (show RMtL w1 m r sn tal 0 (.slice none 0 0) w1 from ⟨hm1, World.ownsRow_nil _ _ _ _, Only.refl _ _⟩)
  clear p1 p2 p3 p4 p5 hr1 hab hm1 c0 HPUT HM
  go_wp2
  go_loopw [9, 10] (fun gv i wr => ∃ k : Nat, k ≤ xs.length ∧ i = .int .i64 k ∧ RMtL w1 m r sn tal k gv wr) (fun _ i _ => xs.length - (intOf i).toNat)
  case atStart => exact ⟨0, by omega, rfl, HL0.out⟩
  case round =>
    obtain ⟨k, hk, rfl, hrm⟩ := hrel
    have HRM := Lib.hid hrm
    obtain ⟨hl1, hl2, hl3⟩ := hrm
    by_cases hlt : k < xs.length
    · have hks : k < sn.length := by omega
      obtain ⟨b, off, rfl, hb, hq⟩ := seen_cells (hl3.rd HR1.out HVM.out) hks
      obtain ⟨vx1, vx2, vx3, vx4, vx5⟩ := HV.out sn[k] (List.getElem_mem hks)
      have HTK := Lib.hid (take_succ sn k hks)
      have tbk := (HTB.out.fold (sn.take k))
      have hgl := gainsL_le (sn.take k)
      have hlk : (sn.take k).length = k := by simp; omega
      rw [hlk] at tbk hgl
      obtain ⟨tk, htk⟩ : ∃ tk, tk = (sn.take k).foldl tadd tal := ⟨_, rfl⟩
      rw [← htk] at tbk hl1
      have HTK2 := Lib.hid htk
      clear htk
      generalize sn[k] = x at hq vx1 vx2 vx3 vx4 vx5 HTK
      obtain ⟨⟨n, v, t, cc⟩, vd, ch, ahd⟩ := x
      have q0 := hq 0 _ (by omega) rfl
      have q1 := hq 1 _ (by omega) rfl
      have q2 := hq 2 _ (by omega) rfl
      have q3 := hq 3 _ (by omega) rfl
      have q4 := hq 4 _ (by omega) rfl
      have q5 := hq 5 _ (by omega) rfl
      have q6 := hq 6 _ (by omega) rfl
      simp only [Nat.add_zero] at q0
      simp only [] at vx1 vx2 vx3 vx4 vx5
      have hmr : m < wr.heap.size := (Array.getElem?_eq_some_iff.1 hl1).1
      have hmr1 : m < wr.heap.size + 1 := by omega
      have e1 : wr.cell? ⟨m, 1, none⟩ = some (.int .i64 tk.p) := by rw [cell_of_row _ _ _ _ _ _ hl1]; rfl
      have e2 : wr.cell? ⟨m, 2, none⟩ = some (.int .i64 tk.a) := by rw [cell_of_row _ _ _ _ _ _ hl1]; rfl
      have e3 : wr.cell? ⟨m, 3, none⟩ = some (.int .i64 tk.o) := by rw [cell_of_row _ _ _ _ _ _ hl1]; rfl
      have e4 : wr.cell? ⟨m, 4, none⟩ = some (.int .i64 tk.t) := by rw [cell_of_row _ _ _ _ _ _ hl1]; rfl
      have e5 : wr.cell? ⟨m, 5, none⟩ = some (.int .i64 tk.f) := by rw [cell_of_row _ _ _ _ _ _ hl1]; rfl
      have ff : ∀ i, wr.frozen? ⟨m, i, none⟩ = false := fun i => frozen_of_row _ _ _ _ _ hl1
      have f1 := ff 1
      have f2 := ff 2
      have f3 := ff 3
      have f4 := ff 4
      have f5 := ff 5
      obtain ⟨k1, k2, k3, k4, k5, k6, k7⟩ := tbk
      have HQ := Lib.hid hl1
      have HL2 := Lib.hid hl2
      have HL3 := Lib.hid hl3
      clear hq hl1 hl2 hl3 ff
      obtain ⟨gk, hgk⟩ : ∃ gk, gk = (gainsL (sn.take k)).length := ⟨_, rfl⟩
      have hvd : vd = 1 ∨ vd = 2 ∨ vd = 3 ∨ vd = 4 := by omega
      rcases hvd with rfl | rfl | rfl | rfl
      · cases ch with
        | false =>
          have hu : (((wr.setCell ⟨m, 1, none⟩ (.int .i64 (tk.p + 1))).setCell ⟨m, 2, none⟩ (.int .i64 (tk.a + 1))).alloc (.cells #[.string n, .int .i64 v, .int .i64 t, .bool cc, .int .i64 1, .bool false, .int .i64 ahd] 68)).heap[m]? = some (.cells (mcells r (tk.par.one 1)) 57 (0, 0)) := by
            rw [Below.heap_alloc _ _ _ (by simp; exact hmr), heap_setCell_same _ _ _ _ _ _ (heap_setCell_same _ _ _ _ _ _ HQ.out)]
            rfl
          have ho : Only (· = m) wr (((wr.setCell ⟨m, 1, none⟩ (.int .i64 (tk.p + 1))).setCell ⟨m, 2, none⟩ (.int .i64 (tk.a + 1))).alloc (.cells #[.string n, .int .i64 v, .int .i64 t, .bool cc, .int .i64 1, .bool false, .int .i64 ahd] 68)) := (((Only.refl (· = m) wr).setCell _ _ (fun _ => rfl)).setCell _ _ (fun _ => rfl)).alloc _
          have HN := Lib.hid (RMtL.none (x := ⟨⟨n, v, t, cc⟩, 1, false, ahd⟩) HTK2.out HTK.out rfl HRM.out hm2 hu ho)
          clear hu ho
          go_wp2
          go_roundw
          case rel => exact ⟨k + 1, by omega, by go_num, HN.out⟩
          case measure => simp [intOf]; omega
        | true =>
          cases cc with
          | false =>
            have hu : (((wr.setCell ⟨m, 1, none⟩ (.int .i64 (tk.p + 1))).setCell ⟨m, 2, none⟩ (.int .i64 (tk.a + 1))).alloc (.cells #[.string n, .int .i64 v, .int .i64 t, .bool false, .int .i64 1, .bool true, .int .i64 ahd] 68)).heap[m]? = some (.cells (mcells r (tk.par.one 1)) 57 (0, 0)) := by
              rw [Below.heap_alloc _ _ _ (by simp; exact hmr), heap_setCell_same _ _ _ _ _ _ (heap_setCell_same _ _ _ _ _ _ HQ.out)]
              rfl
            have ho : Only (· = m) wr (((wr.setCell ⟨m, 1, none⟩ (.int .i64 (tk.p + 1))).setCell ⟨m, 2, none⟩ (.int .i64 (tk.a + 1))).alloc (.cells #[.string n, .int .i64 v, .int .i64 t, .bool false, .int .i64 1, .bool true, .int .i64 ahd] 68)) := (((Only.refl (· = m) wr).setCell _ _ (fun _ => rfl)).setCell _ _ (fun _ => rfl)).alloc _
            have HN := Lib.hid (RMtL.none (x := ⟨⟨n, v, t, false⟩, 1, true, ahd⟩) HTK2.out HTK.out rfl HRM.out hm2 hu ho)
            clear hu ho
            go_wp2
            go_roundw
            case rel => exact ⟨k + 1, by omega, by go_num, HN.out⟩
            case measure => simp [intOf]; omega
          | true =>
            have hu : (((wr.setCell ⟨m, 1, none⟩ (.int .i64 (tk.p + 1))).setCell ⟨m, 2, none⟩ (.int .i64 (tk.a + 1))).alloc (.cells #[.string n, .int .i64 v, .int .i64 t, .bool true, .int .i64 1, .bool true, .int .i64 ahd] 68)).heap[m]? = some (.cells (mcells r (tk.par.one 1)) 57 (0, 0)) := by
              rw [Below.heap_alloc _ _ _ (by simp; exact hmr), heap_setCell_same _ _ _ _ _ _ (heap_setCell_same _ _ _ _ _ _ HQ.out)]
              rfl
            have ho : Only (· = m) wr (((wr.setCell ⟨m, 1, none⟩ (.int .i64 (tk.p + 1))).setCell ⟨m, 2, none⟩ (.int .i64 (tk.a + 1))).alloc (.cells #[.string n, .int .i64 v, .int .i64 t, .bool true, .int .i64 1, .bool true, .int .i64 ahd] 68)) := (((Only.refl (· = m) wr).setCell _ _ (fun _ => rfl)).setCell _ _ (fun _ => rfl)).alloc _
            have h6 : wr.cell? ⟨m, 6, none⟩ = some (.int .i64 tk.g) := by rw [cell_of_row _ _ _ _ _ _ HQ.out]; rfl
            clear h6
            go_wp2_with fail
            obtain ⟨u, hue⟩ : ∃ u, u = ((wr.setCell ⟨m, 1, none⟩ (.int .i64 (tk.p + 1))).setCell ⟨m, 2, none⟩ (.int .i64 (tk.a + 1))).alloc (.cells #[.string n, .int .i64 v, .int .i64 t, .bool true, .int .i64 1, .bool true, .int .i64 ahd] 68) := ⟨_, rfl⟩
            rw [← hue] at hu ho ⊢
            have hxu : u.heap[wr.heap.size]? = some (.cells #[.string n, .int .i64 v, .int .i64 t, .bool true, .int .i64 1, .bool true, .int .i64 ahd] 68 (0, 0)) := by
              rw [hue]
              have := heap_alloc_new ((wr.setCell ⟨m, 1, none⟩ (.int .i64 (tk.p + 1))).setCell ⟨m, 2, none⟩ (.int .i64 (tk.a + 1))) (.cells #[.string n, .int .i64 v, .int .i64 t, .bool true, .int .i64 1, .bool true, .int .i64 ahd] 68)
              simpa only [World.size_setCell] using this
            clear hue q0 q1 q2 q3 q4 q5 q6 e1 e2 e3 e4 e5 f1 f2 f3 f4 f5
            have x0 : u.cell? ⟨wr.heap.size, 0, none⟩ = some (.string n) := by rw [cell_of_row _ _ _ _ _ _ hxu]; rfl
            have x2 : u.cell? ⟨wr.heap.size, 2, none⟩ = some (.int .i64 t) := by rw [cell_of_row _ _ _ _ _ _ hxu]; rfl
            obtain ⟨X, hX⟩ : ∃ X, X = wr.heap.size := ⟨_, rfl⟩
            rw [← hX] at x0 x2 ⊢
            clear hxu hX
            refine (refGain_any u ahd v vx1 vx2).mono ?_
            rintro e u5 ⟨rfl, rfl⟩
            have HGO := Lib.hid (fun Y => (ho.alloc Y).own HL2.out (fun b hb e => by have := (HL2.out.lt b hb).1; have e : b = m := e; omega))
            have HUS := Lib.hid (show w1.heap.size ≤ u5.heap.size from by have h1 := HL3.out.size; have h2 := ho.size; omega)
            have HU := Lib.hid hu
            have HO := Lib.hid ho
            have hgkb : gk ≤ 100000 := by omega
            rw [← hgk] at HGO
            have HGK := Lib.hid hgk
            clear hu ho hgk hgl
            generalize hgp : gainV ahd v = gp
            have HGV := Lib.hid hgp
            clear hgp
            obtain ⟨gi, gr⟩ := gp
            simp only []
            go_wp2_with (first
              | (at_builtin; refine step_append_at _ rfl _ _ 27 rfl w1.heap.size 33 i0 _ 4 40 Try.underlying27 hi hz0 hz1 hz2 rfl (by decide) _ _ _ rfl (HGO.out _) ⟨u5.heap.size, 0, none⟩ 1 1 _ rfl ?g0 (row_new _ _ _ _) ?g1 ?g2 ?g3 ?g4 ?_)
              | fail)
            case g1 => simp [Value.oneCell']
            case g2 => simp only [maxLen]; omega
            case g3 => omega
            case g4 => rw [World.size_alloc]; have := HUS.out; omega
            intro v' w' hown' hgr hnil hv'
            have hm' : w'.heap[m]? = some (.cells (mcells r (tk.par.one 1)) 57 (0, 0)) :=
              ((Only.refl (fun b => u9.ownBlock = some b) _).grown hgr (fun b hb _ => hb)).heap ((Below.heap_alloc _ _ _ (Array.getElem?_eq_some_iff.1 HU.out).1).trans HU.out) (fun hb => by have := (HL2.out.lt m hb).1; omega)
            have g6 : w'.cell? ⟨m, 6, none⟩ = some (.int .i64 tk.g) := by rw [cell_of_row _ _ _ _ _ _ hm']; rfl
            have g7 : w'.cell? ⟨m, 7, none⟩ = some (.int .i64 tk.r) := by rw [cell_of_row _ _ _ _ _ _ hm']; rfl
            have gf6 : w'.frozen? ⟨m, 6, none⟩ = false := frozen_of_row _ _ _ _ _ hm'
            have gf7 : w'.frozen? ⟨m, 7, none⟩ = false := frozen_of_row _ _ _ _ _ hm'
            have HM' := Lib.hid hm'
            have HAPP := Lib.hid (show AppTo (u5.alloc _) w1.heap.size 33 4 u9 (gk + 1) _ v' w' from ⟨hown', hgr, by rw [World.size_alloc]; exact hv'⟩)
            clear hm' hown' hgr hnil hv'
            cases gr with
            | true =>
              have HN := Lib.hid (show RMtL w1 m r sn tal (k + 1) v' ((w'.setCell ⟨m, 6, none⟩ (.int .i64 (tk.g + 1))).setCell ⟨m, 7, none⟩ (.int .i64 (tk.r + 1))) from RMtL.gain (x := ⟨⟨n, v, t, true⟩, 1, true, ahd⟩) HTK2.out HTK.out rfl HRM.out hm2 HO.out (by rw [← HGK.out]; simp only [gainOf, HGV.out]; exact HAPP.out) (by
                rw [heap_setCell_same _ _ _ _ _ _ (heap_setCell_same _ _ _ _ _ _ HM'.out)]
                simp only [HGV.out]
                rfl) (((Only.refl (· = m) w').setCell _ _ (fun _ => rfl)).setCell _ _ (fun _ => rfl)))
              go_wp2
              go_roundw
              case rel => exact ⟨k + 1, by omega, by go_num, HN.out⟩
              case measure => simp [intOf]; omega
            | false =>
              have HN := Lib.hid (show RMtL w1 m r sn tal (k + 1) v' (w'.setCell ⟨m, 6, none⟩ (.int .i64 (tk.g + 1))) from RMtL.gain (x := ⟨⟨n, v, t, true⟩, 1, true, ahd⟩) HTK2.out HTK.out rfl HRM.out hm2 HO.out (by rw [← HGK.out]; simp only [gainOf, HGV.out]; exact HAPP.out) (by
                rw [heap_setCell_same _ _ _ _ _ _ HM'.out]
                simp only [HGV.out]
                rfl) ((Only.refl (· = m) w').setCell _ _ (fun _ => rfl)))
              go_wp2
              go_roundw
              case rel => exact ⟨k + 1, by omega, by go_num, HN.out⟩
              case measure => simp [intOf]; omega
      · obtain rfl : ch = false := by cases ch with | false => rfl | true => exact absurd (vx5 rfl) (by decide)
        have hu : (((wr.setCell ⟨m, 1, none⟩ (.int .i64 (tk.p + 1))).setCell ⟨m, 3, none⟩ (.int .i64 (tk.o + 1))).alloc (.cells #[.string n, .int .i64 v, .int .i64 t, .bool cc, .int .i64 2, .bool false, .int .i64 ahd] 68)).heap[m]? = some (.cells (mcells r (tk.par.one 2)) 57 (0, 0)) := by
          rw [Below.heap_alloc _ _ _ (by simp; exact hmr), heap_setCell_same _ _ _ _ _ _ (heap_setCell_same _ _ _ _ _ _ HQ.out)]
          rfl
        have ho : Only (· = m) wr (((wr.setCell ⟨m, 1, none⟩ (.int .i64 (tk.p + 1))).setCell ⟨m, 3, none⟩ (.int .i64 (tk.o + 1))).alloc (.cells #[.string n, .int .i64 v, .int .i64 t, .bool cc, .int .i64 2, .bool false, .int .i64 ahd] 68)) := (((Only.refl (· = m) wr).setCell _ _ (fun _ => rfl)).setCell _ _ (fun _ => rfl)).alloc _
        have HN := Lib.hid (RMtL.none (x := ⟨⟨n, v, t, cc⟩, 2, false, ahd⟩) HTK2.out HTK.out rfl HRM.out hm2 hu ho)
        clear hu ho
        go_wp2
        go_roundw
        case rel => exact ⟨k + 1, by omega, by go_num, HN.out⟩
        case measure => simp [intOf]; omega
      · obtain rfl : ch = false := by cases ch with | false => rfl | true => exact absurd (vx5 rfl) (by decide)
        have hu : (((wr.setCell ⟨m, 1, none⟩ (.int .i64 (tk.p + 1))).setCell ⟨m, 4, none⟩ (.int .i64 (tk.t + 1))).alloc (.cells #[.string n, .int .i64 v, .int .i64 t, .bool cc, .int .i64 3, .bool false, .int .i64 ahd] 68)).heap[m]? = some (.cells (mcells r (tk.par.one 3)) 57 (0, 0)) := by
          rw [Below.heap_alloc _ _ _ (by simp; exact hmr), heap_setCell_same _ _ _ _ _ _ (heap_setCell_same _ _ _ _ _ _ HQ.out)]
          rfl
        have ho : Only (· = m) wr (((wr.setCell ⟨m, 1, none⟩ (.int .i64 (tk.p + 1))).setCell ⟨m, 4, none⟩ (.int .i64 (tk.t + 1))).alloc (.cells #[.string n, .int .i64 v, .int .i64 t, .bool cc, .int .i64 3, .bool false, .int .i64 ahd] 68)) := (((Only.refl (· = m) wr).setCell _ _ (fun _ => rfl)).setCell _ _ (fun _ => rfl)).alloc _
        have HN := Lib.hid (RMtL.none (x := ⟨⟨n, v, t, cc⟩, 3, false, ahd⟩) HTK2.out HTK.out rfl HRM.out hm2 hu ho)
        clear hu ho
        go_wp2
        go_roundw
        case rel => exact ⟨k + 1, by omega, by go_num, HN.out⟩
        case measure => simp [intOf]; omega
      · obtain rfl : ch = false := by cases ch with | false => rfl | true => exact absurd (vx5 rfl) (by decide)
        have hu : (((wr.setCell ⟨m, 1, none⟩ (.int .i64 (tk.p + 1))).setCell ⟨m, 5, none⟩ (.int .i64 (tk.f + 1))).alloc (.cells #[.string n, .int .i64 v, .int .i64 t, .bool cc, .int .i64 4, .bool false, .int .i64 ahd] 68)).heap[m]? = some (.cells (mcells r (tk.par.one 4)) 57 (0, 0)) := by
          rw [Below.heap_alloc _ _ _ (by simp; exact hmr), heap_setCell_same _ _ _ _ _ _ (heap_setCell_same _ _ _ _ _ _ HQ.out)]
          rfl
        have ho : Only (· = m) wr (((wr.setCell ⟨m, 1, none⟩ (.int .i64 (tk.p + 1))).setCell ⟨m, 5, none⟩ (.int .i64 (tk.f + 1))).alloc (.cells #[.string n, .int .i64 v, .int .i64 t, .bool cc, .int .i64 4, .bool false, .int .i64 ahd] 68)) := (((Only.refl (· = m) wr).setCell _ _ (fun _ => rfl)).setCell _ _ (fun _ => rfl)).alloc _
        have HN := Lib.hid (RMtL.none (x := ⟨⟨n, v, t, cc⟩, 4, false, ahd⟩) HTK2.out HTK.out rfl HRM.out hm2 hu ho)
        clear hu ho
        go_wp2
        go_roundw
        case rel => exact ⟨k + 1, by omega, by go_num, HN.out⟩
        case measure => simp [intOf]; omega
    · obtain rfl : k = xs.length := by omega
      obtain ⟨h1, h2, h3⟩ := HRM.out
      have hsk : sn.take xs.length = sn := by rw [← hsl]; exact List.take_length
      rw [hsk] at h1 h2
      have HF := Lib.hid (show RMPut w B m r most owner L G tal xs (.returned (.tuple #[.slice a1 xs.length c1, u9])) wr from ⟨_, _, G', rfl, by
          rw [HSN.out]
          exact h3.own P1.out (fun b hb e => by have := (P1.out.lt b hb).1; have e : b = m := e; omega), by
          rw [HSN.out]
          exact own_base h2 P3.out.size, ⟨by rw [HSN.out]; exact h1, P2.out.only h3 (fun b hb e => by
            have e : b = m := e
            rw [e] at hb
            rcases P4.out m hb with h | h
            · exact HMG.out h
            · omega), fun hb => by
            rcases P4.out m hb with h | h
            · exact HMG.out h
            · omega, HBM.out⟩, (P3.out.mono (fun _ _ h => .inr h)).trans h3 (fun _ _ h => .inl h), P4.out⟩)
      clear h1 h2 h3
      go_wp2
      go_ret2
      exact HF.out
    end Go.Proofs.Ythademifhnkbiaa
