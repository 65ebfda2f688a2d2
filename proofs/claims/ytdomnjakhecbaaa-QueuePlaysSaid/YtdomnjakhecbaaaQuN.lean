/- The walks over the reference's Hand and Answer. -/
import Derived.Test.YtdomnjakhecbaaaQuM
import Derived.Test.YtdomnjakhecbaaaQuG
import Derived.Test.YtdomnjakhecbaaaFrU
import Derived.Deep.RegionHeld3
namespace Go.Proofs.Ytdomnjakhecbaaa
open Go.RowKit K
theorem quiet_left {P : Program} {f : FuncId} {args : Array Value} {w : World} {n : Nat} {v : Value} (h : Calls P f args (w.drewN n) fun e w' => e = .returned v ∧ w.drewN n = w') :
    Calls P f args (w.drewN n) fun e w'' => e = .returned v ∧ ∃ m, w'' = w.drewN m :=
  h.mono fun _ _ ⟨he, hm⟩ => ⟨he, n, hm.symm⟩
def ransR (s : RQ) (ok : Bool) (now : Int) : Int × RQ :=
  if s.at_ = false then (7, s)
  else if ok = true then (0, { s with at_ := false, gone := s.gone + 1, timed := false, when_ := 0, tries := 0 })
  else (0, { s with at_ := false, timed := true, when_ := if now ≤ 9223372036854775807 - dbl s.longest s.tries.toNat s.base then now + dbl s.longest s.tries.toNat s.base else 9223372036854775807, tries := s.tries + 1 })
def RAnsP (w : World) (g : Nat) (L : List Frm) (M : Nat → Prop) (r : Int × RQ) (e : Ending) (w' : World) : Prop :=
  e = .returned (.int .i64 r.1) ∧ RSt w' g r.2 L M ∧ Only M w w'
section
variable {w : World} {g : Nat} {s : RQ} {L : List Frm} {M : Nat → Prop}
theorem RSt.only_g (h : RSt w g s L M) {w' : World} (ho : Only (· = g) w w') : Only M w w' := ho.mono (fun k _ e => by have e : k = g := e; rw [e]; exact h.mem)
set_option maxHeartbeats 1000000 in
set_option maxRecDepth 100000 in
theorem ranswer_no (h : RSt w g s L M) (ok : Bool) (now : Int) (hs : s.at_ = false) : Calls Try.prog 25 #[.pointer (some ⟨g, 0, none⟩), .bool ok, .int .i64 now] w (RAnsP w g L M (ransR s ok now)) := by
  have hr : ransR s ok now = (7, s) := by unfold ransR; rw [if_pos hs]
  obtain ⟨a, c, hbox⟩ := h.box
  obtain ⟨gone, most, base, longest, drop, at_, timed, when_, tries⟩ := s
  simp only at hs
  subst hs
  have c6 := hbox.c6
  have H := Lib.hid h
  have HR := Lib.hid hr
  clear h hr hbox
  go_enter Try.func25, Try.ntmps25
  go_wp2
  go_ret
  rw [HR.out]
  exact ⟨rfl, H.out, Only.refl _ _⟩
set_option maxHeartbeats 1000000 in
set_option maxRecDepth 100000 in
theorem ranswer_ok (h : RSt w g s L M) (now : Int) (hs : s.at_ = true) (ha : 0 ≤ s.gone ∧ s.gone ≤ 1000000) : Calls Try.prog 25 #[.pointer (some ⟨g, 0, none⟩), .bool true, .int .i64 now] w (RAnsP w g L M (ransR s true now)) := by
  have hr : ransR s true now = (0, { s with at_ := false, gone := s.gone + 1, timed := false, when_ := 0, tries := 0 }) := by unfold ransR; rw [if_neg (by simp [hs]), if_pos rfl]
  obtain ⟨a, c, hbox⟩ := h.box
  obtain ⟨gone, most, base, longest, drop, at_, timed, when_, tries⟩ := s
  simp only at hs ha
  subst hs
  have c1 := hbox.c1
  have c6 := hbox.c6
  have c7 := hbox.c7
  have c8 := hbox.c8
  have c9 := hbox.c9
  have z1 := hbox.fz 1
  have z6 := hbox.fz 6
  have z7 := hbox.fz 7
  have z8 := hbox.fz 8
  have z9 := hbox.fz 9
  have H := Lib.hid h
  have HR := Lib.hid hr
  clear h hr hbox
  go_enter Try.func25, Try.ntmps25
  go_wp2
  go_ret
  rw [HR.out]
  have ho : Only (· = g) w (((((w.setCell ⟨g, 6, none⟩ (.bool false)).setCell ⟨g, 1, none⟩ (.int .i64 (gone + 1))).setCell ⟨g, 7, none⟩ (.bool false)).setCell ⟨g, 8, none⟩ (.int .i64 0)).setCell ⟨g, 9, none⟩ (.int .i64 0)) := (((((Only.refl (· = g) w).setCell _ _ (fun _ => rfl)).setCell _ _ (fun _ => rfl)).setCell _ _ (fun _ => rfl)).setCell _ _ (fun _ => rfl)).setCell _ _ (fun _ => rfl)
  refine ⟨rfl, H.out.turn (fun v hv => ?_) ho, H.out.only_g ho⟩
  unfold RQBox at hv ⊢
  rw [heap_setCell_same _ _ _ _ _ _ (heap_setCell_same _ _ _ _ _ _ (heap_setCell_same _ _ _ _ _ _ (heap_setCell_same _ _ _ _ _ _ (heap_setCell_same _ _ _ _ _ _ hv))))]
  rfl
set_option maxHeartbeats 1000000 in
set_option maxRecDepth 100000 in
theorem ranswer_off (h : RSt w g s L M) (now : Int) (hs : s.at_ = true) (hb : 1 ≤ s.base) (hb2 : s.base ≤ s.longest) (hlg : s.longest ≤ 9223372036854775807) (hnow : -9223372036854775808 ≤ now ∧ now ≤ 9223372036854775807) (t : Nat) (htr : s.tries = t) (ht : t ≤ 1000000) : Calls Try.prog 25 #[.pointer (some ⟨g, 0, none⟩), .bool false, .int .i64 now] w (RAnsP w g L M (ransR s false now)) := by
  obtain ⟨a, c, hbox⟩ := h.box
  obtain ⟨gone, most, base, longest, drop, at_, timed, when_, tries⟩ := s
  simp only at hs hb hb2 hlg htr
  subst hs htr
  have hdl := dbl_le longest (by omega) t base hb hb2
  obtain ⟨D, hD⟩ : ∃ D, D = dbl longest t base := ⟨_, rfl⟩
  have hw := fun W => rwait_any W base longest t ht hb hb2 hlg
  rw [← hD] at hw hdl
  have HW := Lib.hid hw
  have hr : ransR ⟨gone, most, base, longest, drop, true, timed, when_, t⟩ false now = (0, ⟨gone, most, base, longest, drop, false, true, if now ≤ 9223372036854775807 - D then now + D else 9223372036854775807, (t : Int) + 1⟩) := by
    unfold ransR
    rw [if_neg (by simp), if_neg (by simp), hD]
    simp
  have HR := Lib.hid hr
  have c3 := hbox.c3
  have c4 := hbox.c4
  have c6 := hbox.c6
  have c7 := hbox.c7
  have c8 := hbox.c8
  have c9 := hbox.c9
  have z6 := hbox.fz 6
  have z7 := hbox.fz 7
  have z8 := hbox.fz 8
  have z9 := hbox.fz 9
  have H := Lib.hid h
  have HFIN := Lib.hid (show ∀ W', (∀ v, RQBox w g v ⟨gone, most, base, longest, drop, true, timed, when_, t⟩ → RQBox W' g v ⟨gone, most, base, longest, drop, false, true, if now ≤ 9223372036854775807 - D then now + D else 9223372036854775807, (t : Int) + 1⟩) → Only (· = g) w W' → RAnsP w g L M (ransR ⟨gone, most, base, longest, drop, true, timed, when_, t⟩ false now) (.returned (.int .i64 0)) W' from fun W' h1 h2 => by
    rw [hr]
    exact ⟨rfl, h.turn h1 h2, h.only_g h2⟩)
  clear h hbox hw hr hD
  go_enter Try.func25, Try.ntmps25
  go_wp2_with fail
  have hwq := HW.out
  go_quiet ((go_at_call 44; exact quiet_left (HW.out _)))
  clear hwq
  by_cases n1 : now < 0
  · have n2 : (if now ≤ 9223372036854775807 - D then now + D else 9223372036854775807) = now + D := if_pos (by omega)
    rw [n2] at HFIN
    clear n2
    go_wp2
    go_ret
    refine HFIN.out _ (fun v hv => ?_) (((((((Only.refl (· = g) w).setCell ⟨g, 6, none⟩ (.bool false) (fun _ => rfl)).drewN nq).setCell ⟨g, 7, none⟩ (.bool true) (fun _ => rfl)).setCell ⟨g, 8, none⟩ (.int .i64 9223372036854775807) (fun _ => rfl)).setCell ⟨g, 8, none⟩ (.int .i64 (now + D)) (fun _ => rfl)).setCell ⟨g, 9, none⟩ (.int .i64 (t + 1)) (fun _ => rfl))
    unfold RQBox at hv ⊢
    rw [heap_setCell_same _ _ _ _ _ _ (heap_setCell_same _ _ _ _ _ _ (heap_setCell_same _ _ _ _ _ _ (heap_setCell_same ((w.setCell ⟨g, 6, none⟩ (.bool false)).drewN nq) _ _ _ _ _ (heap_setCell_same w _ _ _ _ _ hv))))]
    rfl
  · by_cases n2 : now < 9223372036854775807 - D
    · have n3 : (if now ≤ 9223372036854775807 - D then now + D else 9223372036854775807) = now + D := if_pos (by omega)
      rw [n3] at HFIN
      clear n3
      go_wp2
      go_ret
      refine HFIN.out _ (fun v hv => ?_) (((((((Only.refl (· = g) w).setCell ⟨g, 6, none⟩ (.bool false) (fun _ => rfl)).drewN nq).setCell ⟨g, 7, none⟩ (.bool true) (fun _ => rfl)).setCell ⟨g, 8, none⟩ (.int .i64 9223372036854775807) (fun _ => rfl)).setCell ⟨g, 8, none⟩ (.int .i64 (now + D)) (fun _ => rfl)).setCell ⟨g, 9, none⟩ (.int .i64 (t + 1)) (fun _ => rfl))
      unfold RQBox at hv ⊢
      rw [heap_setCell_same _ _ _ _ _ _ (heap_setCell_same _ _ _ _ _ _ (heap_setCell_same _ _ _ _ _ _ (heap_setCell_same ((w.setCell ⟨g, 6, none⟩ (.bool false)).drewN nq) _ _ _ _ _ (heap_setCell_same w _ _ _ _ _ hv))))]
      rfl
    · have n3 : (if now ≤ 9223372036854775807 - D then now + D else 9223372036854775807) = 9223372036854775807 := by split <;> omega
      rw [n3] at HFIN
      clear n3
      go_wp2
      go_ret
      refine HFIN.out _ (fun v hv => ?_) ((((((Only.refl (· = g) w).setCell ⟨g, 6, none⟩ (.bool false) (fun _ => rfl)).drewN nq).setCell ⟨g, 7, none⟩ (.bool true) (fun _ => rfl)).setCell ⟨g, 8, none⟩ (.int .i64 9223372036854775807) (fun _ => rfl)).setCell ⟨g, 9, none⟩ (.int .i64 (t + 1)) (fun _ => rfl))
      unfold RQBox at hv ⊢
      rw [heap_setCell_same _ _ _ _ _ _ (heap_setCell_same _ _ _ _ _ _ (heap_setCell_same ((w.setCell ⟨g, 6, none⟩ (.bool false)).drewN nq) _ _ _ _ _ (heap_setCell_same w _ _ _ _ _ hv)))]
      rfl
def RHandP (w : World) (g : Nat) (s : RQ) (L : List Frm) (M : Nat → Prop) (now : Int) (e : Ending) (w' : World) : Prop :=
  match L.drop s.gone.toNat with
  | [] => e = .returned (.tuple #[.slice none 0 0, .bool false]) ∧ RSt w' g s L M ∧ Only M w w'
  | f :: _ => if s.at_ = true ∨ now < (if s.timed = true then s.when_ else once) then e = .returned (.tuple #[.slice none 0 0, .bool false]) ∧ RSt w' g s L M ∧ Only M w w' else
    ∃ v, e = .returned (.tuple #[v, .bool true]) ∧ w'.ownsRow w.heap.size 5 1 v (encB f.seq f.win f.recs).length (bv (encB f.seq f.win f.recs)) ∧ RSt w' g { s with at_ := true } L M ∧ Only M w w'
theorem only_drewN (M : Nat → Prop) (w : World) (n : Nat) : Only M w (w.drewN n) := (Only.refl M w).drewN n
theorem RSt.drewN (h : RSt w g s L M) (n : Nat) : RSt (w.drewN n) g s L M := h.new ⟨rfl, rfl, rfl, Nat.le_refl _, fun _ _ => rfl⟩
set_option maxHeartbeats 1000000 in
set_option maxRecDepth 100000 in
theorem rhand (h : RSt w g s L M) (now : Int) (hf : ∀ f ∈ L, FOk f) (hm : L.length ≤ 1000000) (hg : 0 ≤ s.gone ∧ s.gone ≤ L.length) : Calls Try.prog 24 #[.pointer (some ⟨g, 0, none⟩), .int .i64 now] w (RHandP w g s L M now) := by
  have HN := Lib.hid (rnext_any h hg hm)
  by_cases hno : s.at_ = true ∨ (L.length : Int) - s.gone = 0
  · have hv : rnextV L.length s = .tuple #[.int .i64 0, .bool false] := by unfold rnextV; rw [if_pos hno]
    rw [hv] at HN
    have HP := Lib.hid (show ∀ n, RHandP w g s L M now (.returned (.tuple #[.slice none 0 0, .bool false])) (w.drewN n) from fun n => by
      unfold RHandP
      split
      · exact ⟨rfl, h.drewN n, only_drewN M w n⟩
      · rename_i f r hd
        have hl := congrArg List.length hd
        rw [List.length_drop, List.length_cons] at hl
        rw [if_pos (.inl (hno.resolve_right (by omega)))]
        exact ⟨rfl, h.drewN n, only_drewN M w n⟩)
    clear hf hm h hv hno
    go_enter Try.func24, Try.ntmps24
    go_wp2_with fail
    refine HN.out.mono ?_
    rintro e w1 ⟨rfl, n, rfl⟩
    go_wp2
    go_ret2
    exact HP.out n
  · have hv : rnextV L.length s = .tuple #[.int .i64 (if s.timed = true then s.when_ else once), .bool true] := by unfold rnextV; rw [if_neg hno]
    rw [hv] at HN
    have hat : s.at_ = false := by cases h : s.at_ with | false => rfl | true => exact absurd (.inl h) hno
    have hlt : s.gone.toNat < L.length := by omega
    have hd := List.drop_eq_getElem_cons hlt
    obtain ⟨time, htm⟩ : ∃ t, t = (if s.timed = true then s.when_ else once) := ⟨_, rfl⟩
    rw [← htm] at HN
    have hP1 : ∀ e w', now < time → e = .returned (.tuple #[.slice none 0 0, .bool false]) ∧ RSt w' g s L M ∧ Only M w w' → RHandP w g s L M now e w' := fun e w' h1 h2 => by
      unfold RHandP
      rw [hd]
      show (if _ then _ else _)
      rw [if_pos (.inr (by rw [← htm]; exact h1))]
      exact h2
    have hP2 : ∀ v w', ¬ now < time → w'.ownsRow w.heap.size 5 1 v (encB L[s.gone.toNat].seq L[s.gone.toNat].win L[s.gone.toNat].recs).length (bv (encB L[s.gone.toNat].seq L[s.gone.toNat].win L[s.gone.toNat].recs)) → RSt w' g { s with at_ := true } L M → Only M w w' → RHandP w g s L M now (.returned (.tuple #[v, .bool true])) w' := fun v w' h1 h2 h3 h4 => by
      unfold RHandP
      rw [hd]
      show (if _ then _ else _)
      rw [if_neg (by rw [hat, ← htm]; simp; omega)]
      exact ⟨v, rfl, h2, h3, h4⟩
    have HP1 := Lib.hid hP1
    have HP2 := Lib.hid hP2
    have H := Lib.hid h
    by_cases hnw : now < time
    · clear hf hm h hv hno hat hlt hd htm hP1 hP2 HP2
      go_enter Try.func24, Try.ntmps24
      go_wp2_with fail
      refine HN.out.mono ?_
      rintro e w1 ⟨rfl, n, rfl⟩
      go_wp2
      go_ret2
      exact HP1.out _ _ (by omega) ⟨rfl, H.out.drewN n, only_drewN M w n⟩
    · obtain ⟨a, c, xs, N, hbox, hcc, hrx, hrN, hfr, hMg, hNg, hNM, hMl⟩ := h
      obtain ⟨cs, ⟨ra, rc, rfl, hrc, hrr, hrN2⟩, h2⟩ := hfr.at s.gone.toNat hlt
      obtain ⟨f, hfe⟩ : ∃ f, f = L[s.gone.toNat] := ⟨_, rfl⟩
      have hfo := hf f (by rw [hfe]; exact List.getElem_mem hlt)
      rw [← hfe] at h2 hrr HP2
      obtain ⟨hq2, ⟨hw1, hw2⟩, hs, hmay⟩ := hfo
      obtain ⟨hp1, hp2, hp3, hp4⟩ := may_parts hmay
      obtain ⟨ab, ao, rfl, hab, k0⟩ := hrx.at (k := 3 * s.gone.toNat) (v := .int .u64 f.seq) (by have := h2 0 (by omega); rw [Nat.add_zero] at this; rw [this, hfe]; rfl)
      have hcell : ∀ j u, xs[j]? = some u → w.cell? ⟨ab, ao + j, none⟩ = some u := fun j u hu => by
        obtain ⟨b', o', e, _, hc⟩ := hrx.at hu
        cases e
        exact hc
      have k1 : w.cell? ⟨ab, ao + (3 * s.gone.toNat + 1), none⟩ = some (.int .i64 f.win) := hcell _ _ (by rw [h2 1 (by omega), hfe]; rfl)
      have k2 : w.cell? ⟨ab, ao + (3 * s.gone.toNat + 2), none⟩ = some (.slice ra f.recs.length rc) := hcell _ _ (by rw [h2 2 (by omega), hfe]; rfl)
      have c0 := hbox.c0
      have c1 := hbox.c1
      have c6 := hbox.c6
      have z6 := hbox.fz 6
      have hag : ab ≠ g := fun e => hNg (by rw [← e]; exact hrN _ rfl)
      have HS := Lib.hid hs
      have HPN := Lib.hid (show ∀ x ∈ f.recs, x.name.size ≤ 65536 ∧ 0 ≤ x.inc ∧ 0 ≤ x.rate from fun x hx => (hp4 x hx).2)
      have HMAY := Lib.hid hmay
      have HRN := Lib.hid (show ∀ ad, ra = some ad → ¬ ad.block = g from fun ad e h => hNg (by rw [← h]; exact hrN2 ad e))
      have HR := Lib.hid hrr
      have HBOX := Lib.hid hbox
      clear hf hm h2 hfr hrx hrN hrN2 hP1 hP2 HP1 hNM hMl hcell hv hno hd hs hmay hp4 htm hfe
      go_enter Try.func24, Try.ntmps24
      go_wp2_with fail
      refine HN.out.mono ?_
      rintro e w1 ⟨rfl, n, rfl⟩
      go_wp2_with fail
      have ho : Only (· = g) w ((w.drewN n).setCell ⟨g, 6, none⟩ (.bool true)) := ((Only.refl (· = g) w).drewN n).setCell _ _ (fun _ => rfl)
      have hb2 : RQBox ((w.drewN n).setCell ⟨g, 6, none⟩ (.bool true)) g (.slice (some ⟨ab, ao, none⟩) L.length c) { s with at_ := true } := by
        have hv := HBOX.out
        unfold RQBox at hv ⊢
        rw [heap_setCell_same (w.drewN n) _ _ _ _ _ hv]
        rfl
      have hq2' : RSt ((w.drewN n).setCell ⟨g, 6, none⟩ (.bool true)) g { s with at_ := true } L M := H.out.turn (fun v hv => by
        unfold RQBox at hv ⊢
        rw [heap_setCell_same (w.drewN n) _ _ _ _ _ hv]
        rfl) ho
      obtain ⟨w2, hw2⟩ : ∃ w2, w2 = (w.drewN n).setCell ⟨g, 6, none⟩ (.bool true) := ⟨_, rfl⟩
      rw [← hw2] at ho hb2 hq2' ⊢
      have HQ2 := Lib.hid (hq2'.drewN 1)
      clear hq2'
      obtain ⟨gn, hgn⟩ : ∃ gn : Nat, s.gone = gn := ⟨s.gone.toNat, by omega⟩
      have hgn2 : s.gone.toNat = gn := by omega
      have d0 : w2.cell? ⟨g, 0, none⟩ = some (.slice (some ⟨ab, ao, none⟩) L.length c) := hb2.c0
      have d1 : w2.cell? ⟨g, 1, none⟩ = some (.int .i64 gn) := by rw [← hgn]; exact hb2.c1
      have l0 : w2.cell? ⟨ab, ao + gn * 3, none⟩ = some (.int .u64 f.seq) := by have h := ho.cell k0 hag; rw [hgn2, Nat.mul_comm] at h; exact h
      have l1 : w2.cell? ⟨ab, ao + gn * 3 + 1, none⟩ = some (.int .i64 f.win) := by have h := ho.cell k1 hag; rw [hgn2, Nat.mul_comm] at h; exact h
      have l2 : w2.cell? ⟨ab, ao + gn * 3 + 2, none⟩ = some (.slice ra f.recs.length rc) := by have h := ho.cell k2 hag; rw [hgn2, Nat.mul_comm] at h; exact h
      have hgl : (gn : Int) < L.length := by omega
      rw [hgn2] at hlt
      have HO2 := Lib.hid ho
      have HB2 := Lib.hid hb2
      clear hw2 ho hb2 k0 k1 k2 c0 c1 c6 z6 hgn hgn2 hg
      have HE := Lib.hid (rencode_yes w2.drew f.seq f.win ra rc f.recs (by omega) hq2 hw1 hw2 hp3 HS.out HPN.out ((HO2.out.drew).rd HR.out HRN.out) HMAY.out)
      unfold frv at HE
      refine wp_region_noPanic ?_
      refine wp_region_held_drew (S := (fun w' => w'.cell? ⟨g, 0, none⟩ = some (.slice (some ⟨ab, ao, none⟩) L.length c) ∧ w'.cell? ⟨g, 1, none⟩ = some (.int .i64 gn) ∧ w'.cell? ⟨ab, ao + gn * 3, none⟩ = some (.int .u64 f.seq) ∧ w'.cell? ⟨ab, ao + gn * 3 + 1, none⟩ = some (.int .i64 f.win) ∧ w'.cell? ⟨ab, ao + gn * 3 + 2, none⟩ = some (.slice ra f.recs.length rc))) (by kernel_rfl) ?_ (fun hHeld => ?_)
      · exact ⟨d0, d1, l0, l1, l2⟩
      refine wpAnyH_take (i := 0) (oi := _) (v := ?_) rfl (by kernel_rfl) (by kernel_rfl) (by kernel_rfl) (fun _ _ _ h => h) (Or.inl ⟨by rfl, ?_⟩) (by assumption) ?_
      rotate_left 1
      · (intro w hSw; (try dsimp only at hSw); (obtain ⟨q0, q1, q2, q3, q4⟩ := hSw; go_simp); (try with_reducible rfl))
      try simp only [Act.put, List.getElem_toArray, List.getElem_cons_zero, List.setIfInBounds_toArray, List.set_cons_zero, List.set_cons_succ]
      refine wpAnyH_take (i := 1) (oi := _) (v := ?_) rfl (by kernel_rfl) (by kernel_rfl) (by kernel_rfl) (fun _ _ _ h => h) (Or.inl ⟨by rfl, ?_⟩) (by assumption) ?_
      rotate_left 1
      · (intro w hSw; (try dsimp only at hSw); (obtain ⟨q0, q1, q2, q3, q4⟩ := hSw; go_simp); (try with_reducible rfl))
      try simp only [Act.put, List.getElem_toArray, List.getElem_cons_succ, List.getElem_cons_zero, List.setIfInBounds_toArray, List.set_cons_zero, List.set_cons_succ]
      refine wpAnyH_take (i := 2) (oi := _) (v := ?_) rfl (by kernel_rfl) (by kernel_rfl) (by kernel_rfl) (fun _ _ _ h => h) (Or.inl ⟨by rfl, ?_⟩) (by assumption) ?_
      rotate_left 1
      · (intro w hSw; (try dsimp only at hSw); (obtain ⟨q0, q1, q2, q3, q4⟩ := hSw; go_simp); (try with_reducible rfl))
      try simp only [Act.put, List.getElem_toArray, List.getElem_cons_succ, List.getElem_cons_zero, List.setIfInBounds_toArray, List.set_cons_zero, List.set_cons_succ]
      refine wpAnyH_take (i := 3) (oi := _) (v := ?_) rfl (by kernel_rfl) (by kernel_rfl) (by kernel_rfl) (fun _ _ _ h => h) (Or.inl ⟨by rfl, ?_⟩) (by assumption) ?_
      rotate_left 1
      · (intro w hSw; (try dsimp only at hSw); (obtain ⟨q0, q1, q2, q3, q4⟩ := hSw; go_simp); (try with_reducible rfl))
      try simp only [Act.put, List.getElem_toArray, List.getElem_cons_succ, List.getElem_cons_zero, List.setIfInBounds_toArray, List.set_cons_zero, List.set_cons_succ]
      refine wpAnyH_take (i := 4) (oi := _) (v := ?_) rfl (by kernel_rfl) (by kernel_rfl) (by kernel_rfl) (fun _ _ _ h => h) (Or.inl ⟨by rfl, ?_⟩) (by assumption) ?_
      rotate_left 1
      · (intro w hSw; (try dsimp only at hSw); (obtain ⟨q0, q1, q2, q3, q4⟩ := hSw; go_simp); (try with_reducible rfl))
      try simp only [Act.put, List.getElem_toArray, List.getElem_cons_succ, List.getElem_cons_zero, List.setIfInBounds_toArray, List.set_cons_zero, List.set_cons_succ]
      refine wpAnyH_take (i := 5) (oi := _) (v := ?_) rfl (by kernel_rfl) (by kernel_rfl) (by kernel_rfl) (fun _ _ _ h => h) (Or.inl ⟨by rfl, ?_⟩) (by assumption) ?_
      rotate_left 1
      · (intro w hSw; (try dsimp only at hSw); (obtain ⟨q0, q1, q2, q3, q4⟩ := hSw; go_simp); (try with_reducible rfl))
      try simp only [Act.put, List.getElem_toArray, List.getElem_cons_succ, List.getElem_cons_zero, List.setIfInBounds_toArray, List.set_cons_zero, List.set_cons_succ]
      refine wpAnyH_take (i := 6) (oi := _) (v := ?_) rfl (by kernel_rfl) (by kernel_rfl) (by kernel_rfl) (fun _ _ _ h => h) (Or.inl ⟨by rfl, ?_⟩) (by assumption) ?_
      rotate_left 1
      · (intro w hSw; (try dsimp only at hSw); (obtain ⟨q0, q1, q2, q3, q4⟩ := hSw; go_simp); (try with_reducible rfl))
      try simp only [Act.put, List.getElem_toArray, List.getElem_cons_succ, List.getElem_cons_zero, List.setIfInBounds_toArray, List.set_cons_zero, List.set_cons_succ]
      refine wpAnyH_take (i := 7) (oi := _) (v := ?_) rfl (by kernel_rfl) (by kernel_rfl) (by kernel_rfl) (fun _ _ _ h => h) (Or.inl ⟨by rfl, ?_⟩) (by assumption) ?_
      rotate_left 1
      · (intro w hSw; (try dsimp only at hSw); (obtain ⟨q0, q1, q2, q3, q4⟩ := hSw; go_simp); (try with_reducible rfl))
      try simp only [Act.put, List.getElem_toArray, List.getElem_cons_succ, List.getElem_cons_zero, List.setIfInBounds_toArray, List.set_cons_zero, List.set_cons_succ]
      refine wpAnyH_take (i := 8) (oi := _) (v := ?_) rfl (by kernel_rfl) (by kernel_rfl) (by kernel_rfl) (fun _ _ _ h => h) (Or.inl ⟨by rfl, ?_⟩) (by assumption) ?_
      rotate_left 1
      · (intro w hSw; (try dsimp only at hSw); (obtain ⟨q0, q1, q2, q3, q4⟩ := hSw; go_simp); (try with_reducible rfl))
      try simp only [Act.put, List.getElem_toArray, List.getElem_cons_succ, List.getElem_cons_zero, List.setIfInBounds_toArray, List.set_cons_zero, List.set_cons_succ]
      refine wpAnyH_take (i := 9) (oi := _) (v := ?_) rfl (by kernel_rfl) (by kernel_rfl) (by kernel_rfl) (fun _ _ _ h => h) (Or.inl ⟨by rfl, ?_⟩) (by assumption) ?_
      rotate_left 1
      · (intro w hSw; (try dsimp only at hSw); (obtain ⟨q0, q1, q2, q3, q4⟩ := hSw; go_simp); (try with_reducible rfl))
      try simp only [Act.put, List.getElem_toArray, List.getElem_cons_succ, List.getElem_cons_zero, List.setIfInBounds_toArray, List.set_cons_zero, List.set_cons_succ]
      refine wpAnyH_ready (rs := [10]) (by kernel_rfl) (by simp) ?_
      refine AllReadyH.cons (o := _) rfl (fun K hK => ?_) AllReadyH.nil
      go_simp
      refine HE.out.mono ?_
      rintro e w5 ⟨v, rfl, hown, hb5⟩
      have HW5 := Lib.hid hown
      have HB5 := Lib.hid hb5
      clear hown
      go_wp2_with fail
      refine hK.out _ _ ?_ (fun hHeld10 => ?_)
      · exact ⟨keepc hb5 hHeld.1, keepc hb5 hHeld.2.1, keepc hb5 hHeld.2.2.1, keepc hb5 hHeld.2.2.2.1, keepc hb5 hHeld.2.2.2.2⟩
      clear hK K
      try simp only [Act.put, List.getElem_toArray, List.getElem_cons_succ, List.getElem_cons_zero, List.setIfInBounds_toArray, List.set_cons_zero, List.set_cons_succ]
      refine wpAnyH_take (i := 11) (oi := _) (v := ?_) rfl (by kernel_rfl) (by kernel_rfl) (by kernel_rfl) (fun _ _ _ h => h) (Or.inl ⟨by rfl, ?_⟩) (by assumption) ?_
      rotate_left 1
      · (intro w hSw; (try dsimp only at hSw); go_simp; (try with_reducible rfl))
      try simp only [Act.put, List.getElem_toArray, List.getElem_cons_succ, List.getElem_cons_zero, List.setIfInBounds_toArray, List.set_cons_zero, List.set_cons_succ]
      refine wpAnyH_take (i := 12) (oi := _) (v := ?_) rfl (by kernel_rfl) (by kernel_rfl) (by kernel_rfl) (fun _ _ _ h => h) (Or.inl ⟨by rfl, ?_⟩) (by assumption) ?_
      rotate_left 1
      · (intro w hSw; (try dsimp only at hSw); go_simp; (try with_reducible rfl))
      try simp only [Act.put, List.getElem_toArray, List.getElem_cons_succ, List.getElem_cons_zero, List.setIfInBounds_toArray, List.set_cons_zero, List.set_cons_succ]
      refine wpAnyH_take (i := 13) (oi := _) (v := ?_) rfl (by kernel_rfl) (by kernel_rfl) (by kernel_rfl) (fun _ _ _ h => h) (Or.inl ⟨by rfl, ?_⟩) (by assumption) ?_
      rotate_left 1
      · (intro w hSw; (try dsimp only at hSw); go_simp; (try with_reducible rfl))
      try simp only [Act.put, List.getElem_toArray, List.getElem_cons_succ, List.getElem_cons_zero, List.setIfInBounds_toArray, List.set_cons_zero, List.set_cons_succ]
      refine wpAnyH_take (i := 14) (oi := _) (v := ?_) rfl (by kernel_rfl) (by kernel_rfl) (by kernel_rfl) (fun _ _ _ h => h) (Or.inl ⟨by rfl, ?_⟩) (by assumption) ?_
      rotate_left 1
      · (intro w hSw; (try dsimp only at hSw); go_simp; (try with_reducible rfl))
      try simp only [Act.put, List.getElem_toArray, List.getElem_cons_succ, List.getElem_cons_zero, List.setIfInBounds_toArray, List.set_cons_zero, List.set_cons_succ]
      refine wpAnyH_take (i := 15) (oi := _) (v := ?_) rfl (by kernel_rfl) (by kernel_rfl) (by kernel_rfl) (fun _ _ _ h => h) (Or.inl ⟨by rfl, ?_⟩) (by assumption) ?_
      rotate_left 1
      · (intro w hSw; (try dsimp only at hSw); go_simp; (try with_reducible rfl))
      try simp only [Act.put, List.getElem_toArray, List.getElem_cons_succ, List.getElem_cons_zero, List.setIfInBounds_toArray, List.set_cons_zero, List.set_cons_succ]
      refine wpAnyH_done (by kernel_rfl) ?_ _
      refine NoPanic.normal ?_
      go_wp2
      go_ret2
      exact HP2.out v w5 (by omega) (own_base HW5.out (show w.heap.size ≤ w2.heap.size from HO2.out.size)) (HQ2.out.new HB5.out) ((H.out.only_g HO2.out.drew).trans (Only.of_new HB5.out) (fun _ _ h => h))
end
end Go.Proofs.Ytdomnjakhecbaaa
