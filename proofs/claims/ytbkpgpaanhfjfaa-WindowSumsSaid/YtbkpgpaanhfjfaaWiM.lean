/- WindowOnce: its closure: the walk. -/
import Derived.Test.YtbkpgpaanhfjfaaWiL
namespace Go.Proofs.Ytbkpgpaanhfjfaa
open Go.RowKit Go.Sort K
def icell (x : Int) : Obj := .cells #[.int .i64 x] 2 (0, 0)
theorem wins_at {P : Nat → Prop} {w : World} {l : List WV} {a : Option Addr} (h : WinsM P w l a) {k : Nat} (hk : k < l.length) :
    ∃ b off ra rc, a = some ⟨b, off, none⟩ ∧ b < w.heap.size ∧ P b ∧ w.cell? ⟨b, off + k * 2, none⟩ = some (.int .i64 l[k].num) ∧ w.cell? ⟨b, off + k * 2 + 1, none⟩ = some (.slice ra l[k].cr.length rc) ∧ Rd w ra (crf l[k].cr) ∧ ∀ ad, ra = some ad → P ad.block := by
  obtain ⟨ys, rfl, hq, hr, hp⟩ := h
  have hk2 : k < ys.length := by simpa using hk
  have hy : ys[k]? = some ys[k] := List.getElem?_eq_getElem hk2
  have hg : ∀ j v, j < 2 → ys[k].cells[j]? = some v → (wcf ys)[2 * k + j]? = some v := fun j v hj hv => (flat_get _ 2 (fun _ => rfl) ys k j _ hy hj).trans hv
  obtain ⟨b, off, rfl, hb, h0⟩ := hr.at (hg 0 _ (by omega) rfl)
  obtain ⟨b', off', e, -, h1⟩ := hr.at (hg 1 _ (by omega) rfl)
  cases e
  obtain ⟨h2, h3⟩ := hq _ (List.getElem_mem hk2)
  have e0 : (ys.map (·.x))[k] = ys[k].x := by simp
  rw [e0]
  refine ⟨b, off, ys[k].a, ys[k].c, rfl, hb, hp _ rfl, ?_, ?_, h2, h3⟩
  · rw [← h0]; congr 2; omega
  · rw [← h1]; congr 2; omega
theorem crs_at {w : World} {cr : List Cr} {a : Option Addr} (h : Rd w a (crf cr)) {k : Nat} (hk : k < cr.length) :
    ∃ b off, a = some ⟨b, off, none⟩ ∧ b < w.heap.size ∧ w.cell? ⟨b, off + k * 3 + 1, none⟩ = some (.int .i64 cr[k].inc) := by
  have hy : cr[k]? = some cr[k] := List.getElem?_eq_getElem hk
  have hg : ∀ j v, j < 3 → cr[k].cells[j]? = some v → (crf cr)[3 * k + j]? = some v := fun j v hj hv => (flat_get _ 3 (fun _ => rfl) cr k j _ hy hj).trans hv
  obtain ⟨b, off, rfl, hb, h1⟩ := h.at (hg 1 _ (by omega) rfl)
  refine ⟨b, off, rfl, hb, ?_⟩
  rw [← h1]; congr 2; omega
theorem totC_take {cr : List Cr} {k : Nat} (hk : k < cr.length) : totC (cr.take (k + 1)) = totC (cr.take k) + cr[k].inc := by
  rw [List.take_succ_eq_append_getElem hk]
  have : ∀ a b : List Cr, totC (a ++ b) = totC a + totC b := fun a b => by
    induction a with
    | nil => simp [totC]
    | cons x a ih => simp only [List.cons_append, totC, ih]; omega
  rw [this]
  simp [totC]
theorem totW_take {L : List WV} {k : Nat} (hk : k < L.length) : totW (L.take (k + 1)) = totW (L.take k) + totC L[k].cr := by
  rw [List.take_succ_eq_append_getElem hk, totW_app]
  simp [totW]
theorem totC_take_le {cr : List Cr} (h : ∀ c ∈ cr, CrB c) (k : Nat) : 0 ≤ totC (cr.take k) ∧ totC (cr.take k) ≤ totC cr := by
  have h1 := totC_nn (cr := cr.take k) fun c hc => h c (List.mem_of_mem_take hc)
  have h2 := totC_nn (cr := cr.drop k) fun c hc => h c (List.mem_of_mem_drop hc)
  have : ∀ a b : List Cr, totC (a ++ b) = totC a + totC b := fun a b => by
    induction a with
    | nil => simp [totC]
    | cons x a ih => simp only [List.cons_append, totC, ih]; omega
  have h3 := this (cr.take k) (cr.drop k)
  rw [List.take_append_drop] at h3
  omega
theorem totW_take_le {L : List WV} (h : ∀ v ∈ L, ∀ c ∈ v.cr, CrB c) (k : Nat) : 0 ≤ totW (L.take k) ∧ totW (L.take k) ≤ totW L := by
  have h1 := totW_nn (L := L.take k) fun c hc => h c (List.mem_of_mem_take hc)
  have h2 := totW_nn (L := L.drop k) fun c hc => h c (List.mem_of_mem_drop hc)
  have h3 := totW_app (L.take k) (L.drop k)
  rw [List.take_append_drop] at h3
  omega
theorem lastN_lt {l : List WV} (hs : WS l) {a : Int} (ha : ∀ v ∈ l, a < v.num) {k : Nat} (hk : k < l.length) : lastN a (l.take k) < l[k].num := by
  cases k with
  | zero => exact ha _ (List.getElem_mem hk)
  | succ k =>
    rw [lastN_take a l (by omega)]
    have h1 := hs
    unfold WS at h1
    have h2 := List.pairwise_iff_getElem.1 h1 k (k + 1) (by simp; omega) (by simpa using hk) (by omega)
    simpa using h2
/-- What closing leaves in the two variables. -/
def ClP (w : World) (pl ps : Nat) (last sum : Int) (l : List WV) (e : Ending) (w' : World) : Prop :=
  e = .returned (.bool true) ∧ w'.heap[pl]? = some (icell (lastN last l)) ∧ w'.heap[ps]? = some (icell (sum - totW l)) ∧ Only (fun q => q = pl ∨ q = ps) w w'
set_option maxHeartbeats 4000000 in
set_option maxRecDepth 100000 in
theorem closed_any {w : World} {pl ps : Nat} {last sum : Int} {l : List WV} {a : Option Addr} {c : Nat} {P : Nat → Prop} (hl : w.heap[pl]? = some (icell last)) (hs : w.heap[ps]? = some (icell sum)) (hne : pl ≠ ps) (hw : WinsM P w l a) (hP : ∀ k, P k → ¬ (k = pl ∨ k = ps)) (hc : Clos l last sum) :
    Calls Try.prog 11 #[.slice a l.length c, .pointer (some ⟨pl, 0, none⟩), .pointer (some ⟨ps, 0, none⟩)] w (ClP w pl ps last sum l) := by
  have HL := Lib.hid (And.intro hl hs)
  have HW := Lib.hid hw
  have HP := Lib.hid hP
  have HC := Lib.hid hc
  have hlen := hc.len
  clear hl hs hw hP hc
  have hn1 : (pl = ps) = False := by rw [eq_iff_iff, iff_false]; exact hne
  have hn2 : (ps = pl) = False := by rw [eq_iff_iff, iff_false]; exact fun e => hne e.symm
  go_enter Try.func11, Try.ntmps11
  go_wp2_with fail
  go_loopw [5] (fun iv wr => ∃ k : Nat, iv = .int .i64 k ∧ k ≤ l.length ∧ wr.heap[pl]? = some (icell (lastN last (l.take k))) ∧ wr.heap[ps]? = some (icell (sum - totW (l.take k))) ∧ Only (fun q => q = pl ∨ q = ps) w wr) (fun iv _ => l.length - (intOf iv).toNat)
  case atStart => exact ⟨0, rfl, Nat.zero_le _, HL.out.1, by rw [List.take_zero]; simpa [totW] using HL.out.2, Only.refl _ _⟩
  case round =>
    obtain ⟨k, rfl, hk, g1, g2, ho⟩ := hrel
    obtain ⟨wz, hwz⟩ : ∃ wz, wz = wr := ⟨_, rfl⟩
    subst hwz
    by_cases hc : k < l.length
    · obtain ⟨b, off, ra, rc, rfl, hb, hPb, d0, d1, hcr, hPr⟩ := wins_at (HW.out.only ho HP.out) hc
      have hlt := lastN_lt HC.out.ws (fun v hv => (HC.out.mem v hv).1) hc
      have hcm := HC.out.mem _ (List.getElem_mem hc)
      have htk := totW_take hc
      have htb := totW_take_le (L := l) (fun v hv => (HC.out.mem v hv).2.2.2.2) k
      have htc := totW_take_le (L := l) (fun v hv => (HC.out.mem v hv).2.2.2.2) (k + 1)
      have hlk := lastN_take last l hc
      obtain ⟨v, hv⟩ : ∃ v, v = l[k] := ⟨_, rfl⟩
      rw [← hv] at d0 d1 hcr hlt hcm htk hlk
      obtain ⟨la, hla⟩ : ∃ x, x = lastN last (l.take k) := ⟨_, rfl⟩
      obtain ⟨sa, hsa⟩ : ∃ x, x = sum - totW (l.take k) := ⟨_, rfl⟩
      rw [← hla] at g1 hlt
      rw [← hsa] at g2
      have hvl : 1 ≤ v.cr.length ∧ v.cr.length ≤ 1000 := ⟨by have := List.length_pos_iff.2 hcm.2.2.1; omega, hcm.2.2.2.1⟩
      have cl : wz.cell? ⟨pl, 0, none⟩ = some (.int .i64 la) := by rw [cell_of_row _ _ _ _ _ _ g1]; rfl
      have zl : wz.frozen? ⟨pl, 0, none⟩ = false := frozen_of_row wz _ _ _ _ g1
      have hbn1 : (b = pl) = False := by rw [eq_iff_iff, iff_false]; exact fun e => HP.out b hPb (.inl e)
      have hbn2 : (b = ps) = False := by rw [eq_iff_iff, iff_false]; exact fun e => HP.out b hPb (.inr e)
      have hbn3 : (pl = b) = False := by rw [eq_iff_iff, iff_false]; exact fun e => HP.out b hPb (.inl e.symm)
      have H1 := Lib.hid (show ∀ (n : Nat) V, V = (wz.drewN n).setCell ⟨pl, 0, none⟩ (.int .i64 v.num) → V.heap[pl]? = some (icell v.num) ∧ V.heap[ps]? = some (icell sa) ∧ Only (fun q => q = pl ∨ q = ps) wz V from fun n V hV => by
        rw [hV]
        refine ⟨heap_setCell_same _ _ _ _ _ _ g1, (Below.heap_setCell _ _ _ _ (fun e => hne e.symm)).trans g2, ((Only.refl _ _).drewN n).setCell _ _ (fun _ => .inl rfl)⟩)
      have HV := Lib.hid hv
      have HCR := Lib.hid (And.intro hcr hPr)
      have HCM := Lib.hid hcm
      have HTK := Lib.hid (And.intro htk (And.intro htb htc))
      have HLK := Lib.hid hlk
      have HSA := Lib.hid hsa
      have HO := Lib.hid ho
      have HD := Lib.hid (And.intro d0 d1)
      have HBL := Lib.hid hb
      have HPB := Lib.hid hPb
      have q1 : decide (v.num ≤ la) = false := by simp; omega
      have q2 : ((v.cr.length : Int) == 0) = false := by simp; exact hcm.2.2.1
      have q3 : ((v.cr.length : Int) = 0) = False := by rw [eq_iff_iff, iff_false]; omega
      have q4 : (v.num ≤ la) = False := by rw [eq_iff_iff, iff_false]; omega
      clear hv hcr hPr htk htb htc hlk hsa ho hla hPb g1 g2
      go_wp2_with fail
      go_quiet (fail)
      go_wp2_with fail
      obtain ⟨V, hV⟩ : ∃ V, V = (wz.drewN nq).setCell ⟨pl, 0, none⟩ (.int .i64 v.num) := ⟨_, rfl⟩
      have HG := Lib.hid (H1.out nq V hV)
      rw [← hV]
      clear hV q1 q2 q3 q4 cl zl hlt
      have HD1 := Lib.hid d1
      go_loopw [6] (fun jv wr => ∃ j : Nat, jv = .int .i64 j ∧ j ≤ v.cr.length ∧ wr.heap[pl]? = some (icell v.num) ∧ wr.heap[ps]? = some (icell (sa - totC (v.cr.take j))) ∧ Only (fun q => q = pl ∨ q = ps) wz wr) (fun jv _ => v.cr.length - (intOf jv).toNat)
      case atStart => exact ⟨0, rfl, Nat.zero_le _, HG.out.1, by rw [List.take_zero]; simpa [totC] using HG.out.2.1, HG.out.2.2⟩
      case round =>
        obtain ⟨j, rfl, hj, g1, g2, ho⟩ := hrel
        obtain ⟨wy, hwy⟩ : ∃ wy, wy = wr := ⟨_, rfl⟩
        subst hwy
        have e1 : wy.cell? ⟨b, off + k * 2 + 1, none⟩ = some (.slice ra v.cr.length rc) := ho.cell HD1.out (HP.out b HPB.out)
        by_cases hcj : j < v.cr.length
        · obtain ⟨b2, off2, rfl, hb2, e2⟩ := crs_at (ho.rd HCR.out.1 (fun ad e => HP.out _ (HCR.out.2 ad e))) hcj
          have hP2 := HP.out b2 (HCR.out.2 _ rfl)
          have hx : v.cr[j] ∈ v.cr := List.getElem_mem hcj
          have hxb := HCM.out.2.2.2.2 _ hx
          have htj := totC_take hcj
          have htb := totC_take_le HCM.out.2.2.2.2 j
          have htc := totC_take_le HCM.out.2.2.2.2 (j + 1)
          have hT := HTK.out
          have hct := HC.out.tot
          have hcb := HC.out.bd
          have hsa := HSA.out
          obtain ⟨x, hx2⟩ : ∃ x, x = v.cr[j].inc := ⟨_, rfl⟩
          obtain ⟨sb, hsb⟩ : ∃ x, x = sa - totC (v.cr.take j) := ⟨_, rfl⟩
          rw [← hx2] at htj e2
          rw [← hsb] at g2
          have hr1 : 0 ≤ x ∧ 0 ≤ sb - x ∧ sb ≤ 1152921504606846976 := by
            have h0 : 0 ≤ v.cr[j].inc := hxb.1
            rw [← hx2] at h0
            omega
          have hr2 : IntKind.wrap .i64 (sb - x) = sb - x := by rw [IntKind.wrap_i64]; omega
          have HX := Lib.hid (show sb - x = sa - totC (v.cr.take (j + 1)) from by omega)
          have HG1 := Lib.hid g1
          have HG2 := Lib.hid g2
          have HO2 := Lib.hid ho
          have HE1 := Lib.hid e1
          have HE2 := Lib.hid e2
          have HN1 := Lib.hid (show ¬ b = ps from fun e => HP.out b HPB.out (.inr e))
          have HN2 := Lib.hid (show ¬ b2 = ps from fun e => hP2 (.inr e))
          have HCS := Lib.hid (show wy.drew.cell? ⟨ps, 0, none⟩ = some (.int .i64 sb) from by rw [cell_of_row wy.drew _ _ _ _ _ g2]; rfl)
          have HZS := Lib.hid (show wy.drew.frozen? ⟨ps, 0, none⟩ = false from frozen_of_row wy.drew _ _ _ _ g2)
          have hb1 : b < wy.heap.size := Nat.lt_of_lt_of_le HBL.out ho.size
          clear hP2 hx hxb htj htb htc hT hct hcb hsa hx2 hsb g1 g2 ho
          go_wp2_with fail
          refine wp_region_noPanic ?_
          refine wp_region_held_drew (S := (fun w' => Only (· = ps) wy w')) (by kernel_rfl) ?_ (fun hHeld => ?_)
          · exact (Only.refl _ _).drew
          refine wpAnyH_take (i := 1) (oi := _) (v := ?_) rfl (by kernel_rfl) (by kernel_rfl) (by kernel_rfl) (fun _ _ _ h => h) (Or.inl ⟨by rfl, ?_⟩) (by assumption) ?_
          rotate_left 1
          · (intro w hSw; (try dsimp only at hSw); go_simp; (try with_reducible rfl))
          try simp only [Act.put, List.getElem_toArray, List.getElem_cons_succ, List.getElem_cons_zero, List.setIfInBounds_toArray, List.set_cons_zero, List.set_cons_succ]
          refine wpAnyH_take (i := 2) (oi := _) (v := ?_) rfl (by kernel_rfl) (by kernel_rfl) (by kernel_rfl) (fun _ _ _ h => h) (Or.inl ⟨by rfl, ?_⟩) (by assumption) ?_
          rotate_left 1
          · (intro w hSw; (try dsimp only at hSw); go_simp; (try with_reducible rfl))
          try simp only [Act.put, List.getElem_toArray, List.getElem_cons_succ, List.getElem_cons_zero, List.setIfInBounds_toArray, List.set_cons_zero, List.set_cons_succ]
          refine wpAnyH_take (i := 3) (oi := _) (v := ?_) rfl (by kernel_rfl) (by kernel_rfl) (by kernel_rfl) (fun _ _ _ h => h) (Or.inl ⟨by rfl, ?_⟩) (by assumption) ?_
          rotate_left 1
          · (intro w hSw; (try dsimp only at hSw); go_simp; (try with_reducible rfl))
          try simp only [Act.put, List.getElem_toArray, List.getElem_cons_succ, List.getElem_cons_zero, List.setIfInBounds_toArray, List.set_cons_zero, List.set_cons_succ]
          refine wpAnyH_take (i := 4) (oi := _) (v := ?_) rfl (by kernel_rfl) (by kernel_rfl) (by kernel_rfl) (fun _ _ _ h => h) (Or.inl ⟨by rfl, ?_⟩) (by assumption) ?_
          rotate_left 1
          · (intro w hSw; (try dsimp only at hSw); go_simp; (try with_reducible rfl))
          try simp only [Act.put, List.getElem_toArray, List.getElem_cons_succ, List.getElem_cons_zero, List.setIfInBounds_toArray, List.set_cons_zero, List.set_cons_succ]
          refine wpAnyH_take (i := 5) (oi := _) (v := ?_) rfl (by kernel_rfl) (by kernel_rfl) (by kernel_rfl) (fun _ _ _ h => h) (Or.inl ⟨by rfl, ?_⟩) (by assumption) ?_
          rotate_left 1
          · (intro w hSw; (try dsimp only at hSw); (have q5 := hSw.cell HE1.out HN1.out; go_simp); (try with_reducible rfl))
          try simp only [Act.put, List.getElem_toArray, List.getElem_cons_succ, List.getElem_cons_zero, List.setIfInBounds_toArray, List.set_cons_zero, List.set_cons_succ]
          refine wpAnyH_take (i := 6) (oi := _) (v := ?_) rfl (by kernel_rfl) (by kernel_rfl) (by kernel_rfl) (fun _ _ _ h => h) (Or.inl ⟨by rfl, ?_⟩) (by assumption) ?_
          rotate_left 1
          · (intro w hSw; (try dsimp only at hSw); go_simp; (try with_reducible rfl))
          try simp only [Act.put, List.getElem_toArray, List.getElem_cons_succ, List.getElem_cons_zero, List.setIfInBounds_toArray, List.set_cons_zero, List.set_cons_succ]
          refine wpAnyH_take (i := 7) (oi := _) (v := ?_) rfl (by kernel_rfl) (by kernel_rfl) (by kernel_rfl) (fun _ _ _ h => h) (Or.inl ⟨by rfl, ?_⟩) (by assumption) ?_
          rotate_left 1
          · (intro w hSw; (try dsimp only at hSw); go_simp; (try with_reducible rfl))
          try simp only [Act.put, List.getElem_toArray, List.getElem_cons_succ, List.getElem_cons_zero, List.setIfInBounds_toArray, List.set_cons_zero, List.set_cons_succ]
          refine wpAnyH_take (i := 8) (oi := _) (v := ?_) rfl (by kernel_rfl) (by kernel_rfl) (by kernel_rfl) (fun _ _ _ h => h) (Or.inl ⟨by rfl, ?_⟩) (by assumption) ?_
          rotate_left 1
          · (intro w hSw; (try dsimp only at hSw); go_simp; (try with_reducible rfl))
          try simp only [Act.put, List.getElem_toArray, List.getElem_cons_succ, List.getElem_cons_zero, List.setIfInBounds_toArray, List.set_cons_zero, List.set_cons_succ]
          refine wpAnyH_take (i := 9) (oi := _) (v := ?_) rfl (by kernel_rfl) (by kernel_rfl) (by kernel_rfl) (fun _ _ _ h => h) (Or.inl ⟨by rfl, ?_⟩) (by assumption) ?_
          rotate_left 1
          · (intro w hSw; (try dsimp only at hSw); (have q9 := hSw.cell HE2.out HN2.out; go_simp); (try with_reducible rfl))
          try simp only [Act.put, List.getElem_toArray, List.getElem_cons_succ, List.getElem_cons_zero, List.setIfInBounds_toArray, List.set_cons_zero, List.set_cons_succ]
          refine wpAnyH_ready (rs := [0]) (by kernel_rfl) (by simp) ?_
          refine AllReadyH.cons (o := _) rfl (fun K hK => ?_) AllReadyH.nil
          have q0 := HCS.out
          go_simp
          refine hK.out _ _ ?_ (fun _ => ?_)
          · exact hHeld
          clear hK K
          try simp only [Act.put, List.getElem_toArray, List.getElem_cons_succ, List.getElem_cons_zero, List.setIfInBounds_toArray, List.set_cons_zero, List.set_cons_succ]
          refine wpAnyH_take (i := 10) (oi := _) (v := ?_) rfl (by kernel_rfl) (by kernel_rfl) (by kernel_rfl) (fun _ _ _ h => h) (Or.inl ⟨by rfl, ?_⟩) (by assumption) ?_
          rotate_left 1
          · (intro w hSw; (try dsimp only at hSw); go_simp; (try with_reducible rfl))
          try simp only [Act.put, List.getElem_toArray, List.getElem_cons_succ, List.getElem_cons_zero, List.setIfInBounds_toArray, List.set_cons_zero, List.set_cons_succ]
          refine wpAnyH_ready (rs := [11]) (by kernel_rfl) (by simp) ?_
          refine AllReadyH.cons (o := _) rfl (fun K hK => ?_) AllReadyH.nil
          have q0 := HZS.out
          go_simp
          refine hK.out _ _ ?_ (fun _ => ?_)
          · first | exact (((Only.refl _ _).drew).setCell _ _ (fun _ => rfl)) | exact (((Only.refl _ _).setCell _ _ (fun _ => rfl)).drew)
          clear hK K
          try simp only [Act.put, List.getElem_toArray, List.getElem_cons_succ, List.getElem_cons_zero, List.setIfInBounds_toArray, List.set_cons_zero, List.set_cons_succ]
          refine wpAnyH_done (by kernel_rfl) ?_ _
          refine NoPanic.normal ?_
          have HF := Lib.hid (show ∀ W, W = wy.drew.setCell ⟨ps, 0, none⟩ (.int .i64 (sb - x)) → W.heap[pl]? = some (icell v.num) ∧ W.heap[ps]? = some (icell (sa - totC (v.cr.take (j + 1)))) ∧ Only (fun q => q = pl ∨ q = ps) wz W from fun W hW => by
            rw [hW, ← HX.out]
            exact ⟨(Below.heap_setCell _ _ _ _ hne).trans HG1.out, heap_setCell_same _ _ _ _ _ _ HG2.out, (HO2.out.drew).setCell _ _ (fun _ => .inr rfl)⟩)
          have HF := Lib.hid (HF.out _ rfl)
          go_wp2
          go_roundw
          case rel => exact ⟨j + 1, by go_num, by omega, HF.out⟩
          case measure => simp [intOf]; omega
        · obtain rfl : j = v.cr.length := by omega
          rw [List.take_length] at g2
          have HREL := Lib.hid (show wy.heap[pl]? = some (icell (lastN last (l.take (k + 1)))) ∧ wy.heap[ps]? = some (icell (sum - totW (l.take (k + 1)))) ∧ Only (fun q => q = pl ∨ q = ps) w wy from by
            rw [HLK.out, HTK.out.1, show sum - (totW (l.take k) + totC v.cr) = sa - totC v.cr by rw [HSA.out]; omega]
            exact ⟨g1, g2, HO.out.trans ho (fun _ _ h => h)⟩)
          have hb1 : b < wy.heap.size := Nat.lt_of_lt_of_le HBL.out ho.size
          clear g1 g2 ho
          go_wp2
          go_roundw
          case rel => exact ⟨k + 1, by go_num, by omega, HREL.out⟩
          case measure => simp [intOf]; omega
    · obtain rfl : k = l.length := by omega
      rw [List.take_length] at g1 g2
      have HF := Lib.hid (show ClP w pl ps last sum l (.returned (.bool true)) wz from ⟨rfl, g1, g2, ho⟩)
      clear g1 g2 ho
      go_wp2
      go_ret
      exact HF.out
end Go.Proofs.Ytbkpgpaanhfjfaa
