/- The walk over frame.May. -/
import Derived.Test.YtdomnjakhecbaaaFrM
namespace Go.Proofs.Ytdomnjakhecbaaa
open Go.RowKit K
/-- Which records may be in a frame of a window. -/
def recOk (win : Int) (r : Rec) : Bool := (r.win == win) && (decide (r.name.size ≤ 65536) && (decide (0 ≤ r.inc) && (decide (0 ≤ r.rate) && !((r.inc == 0) && !r.over))))
def risesB (xs : List Rec) (k : Nat) : Bool := match k with
  | 0 => true
  | j + 1 => match xs[j]?, xs[j + 1]? with
    | some p, some r => Op.bytesLess p.name.toList r.name.toList
    | _, _ => true
def okAt (win : Int) (xs : List Rec) (k : Nat) : Bool := risesB xs k && ((xs[k]?).map (recOk win)).getD true
def allOk (win : Int) (xs : List Rec) (k : Nat) : Bool := (List.range k).all (okAt win xs)
def mayB (q win : Int) (xs : List Rec) : Bool := decide (1 ≤ q) && (decide (1 ≤ xs.length) && (decide (xs.length ≤ 4096) && allOk win xs xs.length))
theorem allOk_succ (win : Int) (xs : List Rec) (k : Nat) : allOk win xs (k + 1) = (allOk win xs k && okAt win xs k) := by
  simp [allOk, List.range_succ]
theorem allOk_no (win : Int) (xs : List Rec) (k n : Nat) (hk : k < n) (h : okAt win xs k = false) : allOk win xs n = false := by
  unfold allOk
  rw [List.all_eq_false]
  exact ⟨k, by simpa using hk, by simp [h]⟩
set_option maxHeartbeats 4000000 in
theorem may_any (w : World) (q win : Int) (a : Option Addr) (c : Nat) (xs : List Rec) (hl : xs.length ≤ 9223372036854775807) (hs : ∀ x ∈ xs, x.name.size ≤ 140737488355328) (hr : Rd w a (rcf xs)) :
    Calls Try.prog 32 #[frv q win (.slice a xs.length c)] w fun e w' => e = .returned (.bool (mayB q win xs)) ∧ Below w.heap.size w w' := by
  have HR := Lib.hid hr
  have HS := Lib.hid hs
  have hb0 : ∀ o, Below w.heap.size w (w.alloc o) := fun o => (Below.refl _ _).alloc (Nat.le_refl _) o
  clear hr hs
  unfold frv
  by_cases hq : q < 1
  · have HM := Lib.hid (show mayB q win xs = false by simp [mayB]; omega)
    go_enter Try.func32, Try.ntmps32
    go_wp2
    go_ret
    exact ⟨ret_bool HM.out.symm, hb0 _⟩
  by_cases hn : xs.length < 1
  · have HM := Lib.hid (show mayB q win xs = false by simp [mayB]; omega)
    go_enter Try.func32, Try.ntmps32
    go_wp2
    go_ret
    exact ⟨ret_bool HM.out.symm, hb0 _⟩
  by_cases hm : 4096 < xs.length
  · have HM := Lib.hid (show mayB q win xs = false by simp [mayB]; omega)
    go_enter Try.func32, Try.ntmps32
    go_wp2
    go_ret
    exact ⟨ret_bool HM.out.symm, hb0 _⟩
  have HMY := Lib.hid (show mayB q win xs = allOk win xs xs.length by
    unfold mayB
    rw [decide_eq_true (by omega), decide_eq_true (by omega), decide_eq_true (by omega)]
    rfl)
  go_enter Try.func32, Try.ntmps32
  go_wp2
  obtain ⟨wf, hwf⟩ : ∃ wf, wf = w.alloc (.cells #[.int .u64 q, .int .i64 win, .slice a xs.length c] 38) := ⟨_, rfl⟩
  rw [← hwf]
  have hbf : Below w.heap.size w wf := by rw [hwf]; exact hb0 _
  have hff : wf.heap[w.heap.size]? = some (.cells #[.int .u64 q, .int .i64 win, .slice a xs.length c] 38 (0, 0)) := by rw [hwf]; exact heap_alloc_new w _
  have hwz : wf.heap.size = w.heap.size + 1 := by rw [hwf]; simp
  have HRF := Lib.hid (HR.out.below hbf (Nat.le_refl _))
  clear hwf hb0
  obtain ⟨g, hg⟩ : ∃ g, g = w.heap.size := ⟨_, rfl⟩
  rw [← hg] at hff ⊢
  have hgl : g < wf.heap.size := by omega
  have HBF := Lib.hid hbf
  have HFF := Lib.hid hff
  have HG := Lib.hid hg
  have HWZ := Lib.hid hwz
  clear hbf hff hg hwz
  go_loopw [24] (fun i wr => ∃ k : Nat, k ≤ xs.length ∧ i = .int .i64 k ∧ Below wf.heap.size wf wr ∧ allOk win xs k = true) (fun i _ => xs.length - (intOf i).toNat)
  case atStart => exact ⟨0, by omega, rfl, Below.refl _ _, rfl⟩
  case round =>
    obtain ⟨k, hk, rfl, hb, ht⟩ := hrel
    have HB := Lib.hid hb
    have HT := Lib.hid ht
    clear hb ht
    by_cases hlt : k < xs.length
    · obtain ⟨b, off, rfl, hbl, hq⟩ := rec_cells ((HRF.out.below HB.out (Nat.le_refl _))) hlt
      have hsz := HS.out _ (List.getElem_mem hlt)
      have HOK := Lib.hid (show okAt win xs k = (risesB xs k && recOk win xs[k]) by simp [okAt, hlt])
      have HNO := Lib.hid (fun (h : okAt win xs k = false) => HMY.out.trans (allOk_no win xs k xs.length hlt h))
      have HYES := Lib.hid (fun (h : okAt win xs k = true) => show allOk win xs (k + 1) = true by rw [allOk_succ, HT.out, h]; rfl)
      have HRI := Lib.hid (show ∀ j, k = j + 1 → ∃ p : Rec, wr.cell? ⟨b, off + j * 5, none⟩ = some (.string p.name) ∧ risesB xs k = Op.bytesLess p.name.toList xs[k].name.toList from fun j hj => by
        subst hj
        obtain ⟨b2, off2, he, _, hq2⟩ := rec_cells (HRF.out.below HB.out (Nat.le_refl _)) (show j < xs.length by omega)
        cases he
        exact ⟨xs[j], by simpa using hq2 0 _ (by omega) rfl, by simp [risesB, hlt, show j < xs.length by omega]⟩)
      generalize xs[k] = x at hq hsz HOK HRI
      obtain ⟨nm, wn, inc, rate, ov⟩ := x
      have q0 := hq 0 _ (by omega) rfl
      have q1 := hq 1 _ (by omega) rfl
      have q2 := hq 2 _ (by omega) rfl
      have q3 := hq 3 _ (by omega) rfl
      have q4 := hq 4 _ (by omega) rfl
      simp only [Nat.add_zero] at q0
      simp only [] at q0 q1 q2 q3 q4 hsz
      clear hq
      have hfr := (HB.out.block g hgl).trans HFF.out
      have cf1 : wr.cell? ⟨g, 1, none⟩ = some (.int .i64 win) := by rw [cell_of_row _ _ _ _ _ _ hfr]; rfl
      have cf2 : wr.cell? ⟨g, 2, none⟩ = some (.slice (some ⟨b, off, none⟩) xs.length c) := by rw [cell_of_row _ _ _ _ _ _ hfr]; rfl
      have hgw : g < wr.heap.size := by have := HB.out.size; omega
      clear hfr
      have HEND := Lib.hid (fun (o : Obj) (n : Nat) => show Below wf.heap.size wf ((wr.alloc o).drewN n) from below_drewN (HB.out.alloc HB.out.size _) n)
      have HEN2 := Lib.hid (fun (o : Obj) (n : Nat) => HBF.out.trans ((HEND.out o n).mono HBF.out.size))
      cases k with
      | zero =>
        have HRT := Lib.hid (show risesB xs 0 = true from rfl)
        simp only [Nat.zero_mul, Nat.add_zero] at q0 q1 q2 q3 q4
        by_cases hw : wn = win
        · subst hw
          have t1 : (wn != wn) = false := by simp
          by_cases hz : 65536 < nm.size
          · skip
            have HN := Lib.hid (HNO.out (by rw [HOK.out]; simp [recOk]; intros; omega))
            go_wp2
            go_quiet (fail)
            go_wp2
            go_ret
            exact ⟨ret_bool HN.out.symm, HEN2.out _ _⟩
          by_cases hi : inc < 0
          · skip
            have HN := Lib.hid (HNO.out (by rw [HOK.out]; simp [recOk]; intros; omega))
            go_wp2
            go_quiet (fail)
            go_wp2
            go_ret
            exact ⟨ret_bool HN.out.symm, HEN2.out _ _⟩
          by_cases hra : rate < 0
          · skip
            have HN := Lib.hid (HNO.out (by rw [HOK.out]; simp [recOk]; intros; omega))
            go_wp2
            go_quiet (fail)
            go_wp2
            go_ret
            exact ⟨ret_bool HN.out.symm, HEN2.out _ _⟩
          by_cases hi0 : inc = 0
          · have t2 : (inc == 0) = true := by simpa using hi0
            have HI0 := Lib.hid hi0
            clear hi0
            cases ov with
            | false =>
              have HN := Lib.hid (HNO.out (by rw [HOK.out]; simp [recOk, HI0.out]))
              go_wp2
              go_quiet (fail)
              go_wp2
              go_ret
              exact ⟨ret_bool HN.out.symm, HEN2.out _ _⟩
            | true =>
              have HN := Lib.hid (HYES.out (by rw [HOK.out]; rw [HRT.out]; simp [recOk]; omega))
              go_wp2
              go_quiet (fail)
              go_wp2
              go_roundw
              case rel => exact ⟨_, hlt, by go_num, HEND.out _ _, HN.out⟩
              case measure => simp [intOf]; omega
          · have t2 : (inc == 0) = false := by simpa using hi0
            have HI0 := Lib.hid hi0
            clear hi0
            have HN := Lib.hid (HYES.out (by rw [HOK.out]; rw [HRT.out]; simp [recOk, HI0.out]; omega))
            go_wp2
            go_quiet (fail)
            go_wp2
            go_roundw
            case rel => exact ⟨_, hlt, by go_num, HEND.out _ _, HN.out⟩
            case measure => simp [intOf]; omega
        · have t1 : (wn != win) = true := by simpa using hw
          have HW := Lib.hid hw
          clear hw
          have HN := Lib.hid (HNO.out (by rw [HOK.out]; simp [recOk, HW.out]))
          go_wp2
          go_quiet (fail)
          go_wp2
          go_ret
          exact ⟨ret_bool HN.out.symm, HEN2.out _ _⟩
      | succ j =>
        obtain ⟨p, hp0, hri⟩ := HRI.out j rfl
        obtain ⟨pn, hpn⟩ : ∃ pn, pn = p.name := ⟨_, rfl⟩
        rw [← hpn] at hp0 hri
        have HRB := Lib.hid hri
        clear hpn hri HRI
        have e0 : (((j : Int) + 1) == 0) = false := by rw [beq_eq_false_iff_ne]; omega
        have hjl : j < xs.length := by omega
        have w1 : IntKind.i64.wrap ((j : Int) + 1 - 1) = (j : Int) := by rw [IntKind.wrap_i64]; omega
        cases hbl2 : Op.bytesLess pn.toList nm.toList with
        | false =>
          have HBL := Lib.hid hbl2
          have HN := Lib.hid (HNO.out (by rw [HOK.out]; rw [HRB.out, HBL.out]; rfl))
          go_wp2
          go_quiet (fail)
          go_wp2
          go_ret
          exact ⟨ret_bool HN.out.symm, HEN2.out _ _⟩
        | true =>
          have HRT := Lib.hid (HRB.out.trans hbl2)
          by_cases hw : wn = win
          · subst hw
            have t1 : (wn != wn) = false := by simp
            by_cases hz : 65536 < nm.size
            · skip
              have HN := Lib.hid (HNO.out (by rw [HOK.out]; simp [recOk]; intros; omega))
              go_wp2
              go_quiet (fail)
              go_wp2
              go_ret
              exact ⟨ret_bool HN.out.symm, HEN2.out _ _⟩
            by_cases hi : inc < 0
            · skip
              have HN := Lib.hid (HNO.out (by rw [HOK.out]; simp [recOk]; intros; omega))
              go_wp2
              go_quiet (fail)
              go_wp2
              go_ret
              exact ⟨ret_bool HN.out.symm, HEN2.out _ _⟩
            by_cases hra : rate < 0
            · skip
              have HN := Lib.hid (HNO.out (by rw [HOK.out]; simp [recOk]; intros; omega))
              go_wp2
              go_quiet (fail)
              go_wp2
              go_ret
              exact ⟨ret_bool HN.out.symm, HEN2.out _ _⟩
            by_cases hi0 : inc = 0
            · have t2 : (inc == 0) = true := by simpa using hi0
              have HI0 := Lib.hid hi0
              clear hi0
              cases ov with
              | false =>
                have HN := Lib.hid (HNO.out (by rw [HOK.out]; simp [recOk, HI0.out]))
                go_wp2
                go_quiet (fail)
                go_wp2
                go_ret
                exact ⟨ret_bool HN.out.symm, HEN2.out _ _⟩
              | true =>
                have HN := Lib.hid (HYES.out (by rw [HOK.out]; rw [HRT.out]; simp [recOk]; omega))
                go_wp2
                go_quiet (fail)
                go_wp2
                go_roundw
                case rel => exact ⟨_, hlt, by go_num, HEND.out _ _, HN.out⟩
                case measure => simp [intOf]; omega
            · have t2 : (inc == 0) = false := by simpa using hi0
              have HI0 := Lib.hid hi0
              clear hi0
              have HN := Lib.hid (HYES.out (by rw [HOK.out]; rw [HRT.out]; simp [recOk, HI0.out]; omega))
              go_wp2
              go_quiet (fail)
              go_wp2
              go_roundw
              case rel => exact ⟨_, hlt, by go_num, HEND.out _ _, HN.out⟩
              case measure => simp [intOf]; omega
          · have t1 : (wn != win) = true := by simpa using hw
            have HW := Lib.hid hw
            clear hw
            have HN := Lib.hid (HNO.out (by rw [HOK.out]; simp [recOk, HW.out]))
            go_wp2
            go_quiet (fail)
            go_wp2
            go_ret
            exact ⟨ret_bool HN.out.symm, HEN2.out _ _⟩
    · obtain rfl : k = xs.length := by omega
      have HE := Lib.hid (HMY.out.trans HT.out)
      go_wp2
      go_ret
      exact ⟨ret_bool HE.out.symm, HBF.out.trans (HB.out.mono HBF.out.size)⟩
end Go.Proofs.Ytdomnjakhecbaaa
