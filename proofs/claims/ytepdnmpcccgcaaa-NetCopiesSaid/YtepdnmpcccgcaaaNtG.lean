/- The reference's net: the walks over Arrive, Send, Read. -/
import Derived.Test.YtepdnmpcccgcaaaNtF
namespace Go.Proofs.Ytepdnmpcccgcaaa
open Go.RowKit K
section
variable {w : World} {B r : Nat} {most dial : Int} {L : List RC} {G : Nat → Prop}
set_option maxHeartbeats 4000000 in
set_option maxRecDepth 100000 in
theorem rarrive_any (h : RfIs w B r most dial L G) (x : Int) (hl : L.length ≤ 1000000) (ba : Option Addr) (bc : Nat) (b : List UInt8) (hb : Rd w ba (bv b)) (hs : ∀ v ∈ L, v.inn.size + b.length ≤ 1000000) (hna : ∀ ad, ba = some ad → b ≠ [] → ¬ G ad.block) :
    Calls Try.prog 38 #[.pointer (some ⟨r, 0, none⟩), .int .i64 x, .slice ba b.length bc] w fun e w' => e = .returned (.int .i64 (rmust x 2 L)) ∧ RfTo w B r most dial (ract x 2 (fun v => { v with inn := v.inn ++ ⟨b.toArray⟩ }) L) G w' := by
  have HM := Lib.hid (rmust_any h x 2 hl)
  by_cases hm : rmust x 2 L = 0
  · obtain ⟨k, hf, -, hact⟩ := rmust_zero hm
    rw [hm] at HM ⊢
    rw [hact]
    have HOF := Lib.hid (rof_at h hf hl)
    obtain ⟨g, c, hbr, hgr, hgl, hq, hfz, hlc, hset⟩ := h.row hf.1
    have hgG : G g := by
      obtain ⟨v, h1, h2, h3, h4, h5⟩ := h
      rw [h1] at hbr
      cases hbr
      exact (h3 g rfl).1
    obtain ⟨v, hv⟩ : ∃ v, v = L[k]'hf.1 := ⟨_, rfl⟩
    rw [← hv] at hq hset ⊢
    have hvs : v.inn.size + b.length ≤ 1000000 := by rw [hv]; exact hs _ (List.getElem_mem _)
    have C0 := Lib.hid (show w.cell? ⟨r, 0, none⟩ = some (.slice (some ⟨g, 0, none⟩) L.length c) by rw [cell_of_row _ _ _ _ _ _ hbr]; rfl)
    have HFZ := Lib.hid hfz
    have HK := Lib.hid (show k < L.length ∧ L.length ≤ c from ⟨hf.1, hlc⟩)
    have Q3 := Lib.hid (hq 3 (.string v.inn) (by omega) rfl)
    have HCV := Lib.hid (fun W (hW : ∀ (p : Addr) (u : Value), p ≠ ⟨g, k * 6 + 3, none⟩ → w.cell? p = some u → W.cell? p = some u) => (show Sem.run Try.prog (convert 22 9 (.slice ba b.length bc)) W = .ok (.string ⟨b.toArray⟩) W from
      run_bytes_string W 22 9 5 Try.underlying22 Try.underlying5 Try.underlying9 ba bc b (fun i u hu => by
        obtain ⟨b', off', e, hc⟩ := hb i u hu
        refine ⟨b', off', e, hW _ _ (fun ee => ?_) hc⟩
        refine hna _ e (fun hn => by rw [hn] at hu; simp [bv] at hu) ?_
        have e2 := congrArg Addr.block ee
        simp only at e2
        rw [e2]
        exact hgG)))
    have HAD := Lib.hid (show ¬ 9223372036854775807 < v.inn.size + b.length by omega)
    have HFIN := Lib.hid (fun W (hb : Below w.heap.size w W) => hset W hb 3 (.string (v.inn ++ ⟨b.toArray⟩)) { v with inn := v.inn ++ ⟨b.toArray⟩ } (by omega) rfl)
    clear hact hq hset hfz hbr hgr hlc hgG hv hvs hs hna hb hf h hm
    go_enter Try.func38, Try.ntmps38
    go_wp2_with fail
    refine HM.out.mono ?_
    rintro e wb ⟨rfl, rfl⟩
    go_wp2_with fail
    refine HOF.out.mono ?_
    rintro e w2 ⟨rfl, rfl⟩
    clear HOF HM
    go_wp2_with fail
    refine wp_region_noPanic ?_
    refine wp_region_held_drew (S := (fun w' => ∀ (p : Addr) (v : Value), p ≠ ⟨g, k * 6 + 3, none⟩ → w.cell? p = some v → w'.cell? p = some v)) (by kernel_rfl) ?_ (fun hHeld => ?_)
    · exact fun _ _ _ h => h
    refine wpAnyH_take (i := 0) (oi := _) (v := ?_) rfl (by kernel_rfl) (by kernel_rfl) (by kernel_rfl) (fun _ _ _ h => h) (Or.inl ⟨by rfl, ?_⟩) (by assumption) ?_
    rotate_left 1
    · (intro w hSw; (try dsimp only at hSw); go_simp; (try with_reducible rfl))
    try simp only [Act.put, List.getElem_toArray, List.getElem_cons_zero, List.setIfInBounds_toArray, List.set_cons_zero, List.set_cons_succ]
    refine wpAnyH_take (i := 1) (oi := _) (v := ?_) rfl (by kernel_rfl) (by kernel_rfl) (by kernel_rfl) (fun _ _ _ h => h) (Or.inl ⟨by rfl, ?_⟩) (by assumption) ?_
    rotate_left 1
    · (intro w hSw; (try dsimp only at hSw); go_simp; (try with_reducible rfl))
    try simp only [Act.put, List.getElem_toArray, List.getElem_cons_succ, List.getElem_cons_zero, List.setIfInBounds_toArray, List.set_cons_zero, List.set_cons_succ]
    refine wpAnyH_take (i := 2) (oi := _) (v := ?_) rfl (by kernel_rfl) (by kernel_rfl) (by kernel_rfl) (fun _ _ _ h => h) (Or.inl ⟨by rfl, ?_⟩) (by assumption) ?_
    rotate_left 1
    · (intro w hSw; (try dsimp only at hSw); go_simp; (try with_reducible rfl))
    try simp only [Act.put, List.getElem_toArray, List.getElem_cons_succ, List.getElem_cons_zero, List.setIfInBounds_toArray, List.set_cons_zero, List.set_cons_succ]
    refine wpAnyH_take (i := 3) (oi := _) (v := ?_) rfl (by kernel_rfl) (by kernel_rfl) (by kernel_rfl) (fun _ _ _ h => h) (Or.inl ⟨by rfl, ?_⟩) (by assumption) ?_
    rotate_left 1
    · (intro w hSw; (try dsimp only at hSw); (have q := hSw ⟨r, 0, none⟩ _ (by intro e; cases e) C0.out; go_simp); (try with_reducible rfl))
    try simp only [Act.put, List.getElem_toArray, List.getElem_cons_succ, List.getElem_cons_zero, List.setIfInBounds_toArray, List.set_cons_zero, List.set_cons_succ]
    refine wpAnyH_take (i := 4) (oi := _) (v := ?_) rfl (by kernel_rfl) (by kernel_rfl) (by kernel_rfl) (fun _ _ _ h => h) (Or.inl ⟨by rfl, ?_⟩) (by assumption) ?_
    rotate_left 1
    · (intro w hSw; (try dsimp only at hSw); go_simp; (try with_reducible rfl))
    try simp only [Act.put, List.getElem_toArray, List.getElem_cons_succ, List.getElem_cons_zero, List.setIfInBounds_toArray, List.set_cons_zero, List.set_cons_succ]
    refine wpAnyH_take (i := 5) (oi := _) (v := ?_) rfl (by kernel_rfl) (by kernel_rfl) (by kernel_rfl) (fun _ _ _ h => h) (Or.inl ⟨by rfl, ?_⟩) (by assumption) ?_
    rotate_left 1
    · (intro w hSw; (try dsimp only at hSw); go_simp; (try with_reducible rfl))
    try simp only [Act.put, List.getElem_toArray, List.getElem_cons_succ, List.getElem_cons_zero, List.setIfInBounds_toArray, List.set_cons_zero, List.set_cons_succ]
    refine wpAnyH_take (i := 6) (oi := _) (v := ?_) rfl (by kernel_rfl) (by kernel_rfl) (by kernel_rfl) (fun _ _ _ h => h) (Or.inl ⟨by rfl, ?_⟩) (by assumption) ?_
    rotate_left 1
    · (intro w hSw; (try dsimp only at hSw); go_simp; (try with_reducible rfl))
    try simp only [Act.put, List.getElem_toArray, List.getElem_cons_succ, List.getElem_cons_zero, List.setIfInBounds_toArray, List.set_cons_zero, List.set_cons_succ]
    refine wpAnyH_take (i := 7) (oi := _) (v := ?_) rfl (by kernel_rfl) (by kernel_rfl) (by kernel_rfl) (fun _ _ _ h => h) (Or.inl ⟨by rfl, ?_⟩) (by assumption) ?_
    rotate_left 1
    · (intro w hSw; (try dsimp only at hSw); go_simp; (try with_reducible rfl))
    try simp only [Act.put, List.getElem_toArray, List.getElem_cons_succ, List.getElem_cons_zero, List.setIfInBounds_toArray, List.set_cons_zero, List.set_cons_succ]
    refine wpAnyH_take (i := 8) (oi := _) (v := ?_) rfl (by kernel_rfl) (by kernel_rfl) (by kernel_rfl) (fun _ _ _ h => h) (Or.inl ⟨by rfl, ?_⟩) (by assumption) ?_
    rotate_left 1
    · (intro w hSw; (try dsimp only at hSw); (have q := hSw ⟨r, 0, none⟩ _ (by intro e; cases e) C0.out; go_simp); (try with_reducible rfl))
    try simp only [Act.put, List.getElem_toArray, List.getElem_cons_succ, List.getElem_cons_zero, List.setIfInBounds_toArray, List.set_cons_zero, List.set_cons_succ]
    refine wpAnyH_take (i := 9) (oi := _) (v := ?_) rfl (by kernel_rfl) (by kernel_rfl) (by kernel_rfl) (fun _ _ _ h => h) (Or.inl ⟨by rfl, ?_⟩) (by assumption) ?_
    rotate_left 1
    · (intro w hSw; (try dsimp only at hSw); go_simp; (try with_reducible rfl))
    try simp only [Act.put, List.getElem_toArray, List.getElem_cons_succ, List.getElem_cons_zero, List.setIfInBounds_toArray, List.set_cons_zero, List.set_cons_succ]
    refine wpAnyH_take (i := 10) (oi := _) (v := ?_) rfl (by kernel_rfl) (by kernel_rfl) (by kernel_rfl) (fun _ _ _ h => h) (Or.inl ⟨by rfl, ?_⟩) (by assumption) ?_
    rotate_left 1
    · (intro w hSw; (try dsimp only at hSw); (have hkl := HK.out; go_simp); (try with_reducible rfl))
    try simp only [Act.put, List.getElem_toArray, List.getElem_cons_succ, List.getElem_cons_zero, List.setIfInBounds_toArray, List.set_cons_zero, List.set_cons_succ]
    refine wpAnyH_take (i := 11) (oi := _) (v := ?_) rfl (by kernel_rfl) (by kernel_rfl) (by kernel_rfl) (fun _ _ _ h => h) (Or.inl ⟨by rfl, ?_⟩) (by assumption) ?_
    rotate_left 1
    · (intro w hSw; (try dsimp only at hSw); go_simp; (try with_reducible rfl))
    try simp only [Act.put, List.getElem_toArray, List.getElem_cons_succ, List.getElem_cons_zero, List.setIfInBounds_toArray, List.set_cons_zero, List.set_cons_succ]
    refine wpAnyH_take (i := 13) (oi := _) (v := ?_) rfl (by kernel_rfl) (by kernel_rfl) (by kernel_rfl) (fun _ _ _ h => h) (Or.inl ⟨by rfl, ?_⟩) (by assumption) ?_
    rotate_left 1
    · (intro w hSw; (try dsimp only at hSw); go_simp; (try with_reducible rfl))
    try simp only [Act.put, List.getElem_toArray, List.getElem_cons_succ, List.getElem_cons_zero, List.setIfInBounds_toArray, List.set_cons_zero, List.set_cons_succ]
    refine wpAnyH_take (i := 14) (oi := _) (v := ?_) rfl (by kernel_rfl) (by kernel_rfl) (by kernel_rfl) (fun _ _ _ h => h) (Or.inl ⟨by rfl, ?_⟩) (by assumption) ?_
    rotate_left 1
    · (intro w hSw; (try dsimp only at hSw); (have q := HCV.out _ hSw; go_simp); (try with_reducible rfl))
    try simp only [Act.put, List.getElem_toArray, List.getElem_cons_succ, List.getElem_cons_zero, List.setIfInBounds_toArray, List.set_cons_zero, List.set_cons_succ]
    refine wpAnyH_ready (rs := [12]) (by kernel_rfl) (by simp) ?_
    refine AllReadyH.cons (o := _) rfl (fun K hK => ?_) AllReadyH.nil
    have q := Q3.out
    go_simp
    refine hK.out _ _ ?_ (fun hHeld12 => ?_)
    · exact fun _ _ _ h => h
    clear hK K
    try simp only [Act.put, List.getElem_toArray, List.getElem_cons_succ, List.getElem_cons_zero, List.setIfInBounds_toArray, List.set_cons_zero, List.set_cons_succ]
    refine wpAnyH_take (i := 15) (oi := _) (v := ?_) rfl (by kernel_rfl) (by kernel_rfl) (by kernel_rfl) (fun _ _ _ h => h) (Or.inl ⟨by rfl, ?_⟩) (by assumption) ?_
    rotate_left 1
    · (intro w hSw; (try dsimp only at hSw); (go_simp; rw [if_neg HAD.out]); (try with_reducible rfl))
    try simp only [Act.put, List.getElem_toArray, List.getElem_cons_succ, List.getElem_cons_zero, List.setIfInBounds_toArray, List.set_cons_zero, List.set_cons_succ]
    refine wpAnyH_take (i := 16) (oi := _) (v := ?_) rfl (by kernel_rfl) (by kernel_rfl) (by kernel_rfl) (fun _ _ _ h => h) (Or.inl ⟨by rfl, ?_⟩) (by assumption) ?_
    rotate_left 1
    · (intro w hSw; (try dsimp only at hSw); (have hkl := HK.out; go_simp); (try with_reducible rfl))
    try simp only [Act.put, List.getElem_toArray, List.getElem_cons_succ, List.getElem_cons_zero, List.setIfInBounds_toArray, List.set_cons_zero, List.set_cons_succ]
    refine wpAnyH_take (i := 17) (oi := _) (v := ?_) rfl (by kernel_rfl) (by kernel_rfl) (by kernel_rfl) (fun _ _ _ h => h) (Or.inl ⟨by rfl, ?_⟩) (by assumption) ?_
    rotate_left 1
    · (intro w hSw; (try dsimp only at hSw); go_simp; (try with_reducible rfl))
    try simp only [Act.put, List.getElem_toArray, List.getElem_cons_succ, List.getElem_cons_zero, List.setIfInBounds_toArray, List.set_cons_zero, List.set_cons_succ]
    refine wpAnyH_ready (rs := [18]) (by kernel_rfl) (by simp) ?_
    refine AllReadyH.cons (o := _) rfl (fun K hK => ?_) AllReadyH.nil
    have fz := HFZ.out (k * 6 + 3)
    have q := Q3.out
    go_simp
    refine hK.out _ _ ?_ (fun _ => ?_)
    · intro p u hp hu
      exact (World.cell?_setCell_other _ _ _ _ (Ne.symm hp)).trans hu
    clear hK K
    try simp only [Act.put, List.getElem_toArray, List.getElem_cons_succ, List.getElem_cons_zero, List.setIfInBounds_toArray, List.set_cons_zero, List.set_cons_succ]
    refine wpAnyH_done (by kernel_rfl) ?_ _
    refine NoPanic.normal ?_
    go_wp2
    go_ret
    exact ⟨rfl, HFIN.out _ (drew_below _)⟩
  · have hrest : ∀ f, ract x 2 f L = L := fun f => by unfold ract; rw [if_neg hm]
    rw [hrest]
    generalize rmust x 2 L = c at HM hm
    have hbq : (c == 0) = false := by rw [beq_eq_false_iff_ne]; exact hm
    have HX := Lib.hid (RfTo.same h (Below.refl _ _))
    clear h hrest hb hs hna
    go_enter Try.func38, Try.ntmps38
    go_wp2_with fail
    refine HM.out.mono ?_
    rintro e wb ⟨rfl, rfl⟩
    go_wp2
    go_ret
    exact ⟨rfl, HX.out⟩
set_option maxHeartbeats 4000000 in
set_option maxRecDepth 100000 in
theorem rsend_any (h : RfIs w B r most dial L G) (x : Int) (hl : L.length ≤ 1000000) (ba : Option Addr) (bc : Nat) (b : List UInt8) (hb : Rd w ba (bv b)) (hs : ∀ v ∈ L, v.out.size + b.length ≤ 1000000) (hna : ∀ ad, ba = some ad → b ≠ [] → ¬ G ad.block) :
    Calls Try.prog 39 #[.pointer (some ⟨r, 0, none⟩), .int .i64 x, .slice ba b.length bc] w fun e w' => e = .returned (.int .i64 (rmust x 2 L)) ∧ RfTo w B r most dial (ract x 2 (fun v => { v with out := v.out ++ ⟨b.toArray⟩ }) L) G w' := by
  have HM := Lib.hid (rmust_any h x 2 hl)
  by_cases hm : rmust x 2 L = 0
  · obtain ⟨k, hf, -, hact⟩ := rmust_zero hm
    rw [hm] at HM ⊢
    rw [hact]
    have HOF := Lib.hid (rof_at h hf hl)
    obtain ⟨g, c, hbr, hgr, hgl, hq, hfz, hlc, hset⟩ := h.row hf.1
    have hgG : G g := by
      obtain ⟨v, h1, h2, h3, h4, h5⟩ := h
      rw [h1] at hbr
      cases hbr
      exact (h3 g rfl).1
    obtain ⟨v, hv⟩ : ∃ v, v = L[k]'hf.1 := ⟨_, rfl⟩
    rw [← hv] at hq hset ⊢
    have hvs : v.out.size + b.length ≤ 1000000 := by rw [hv]; exact hs _ (List.getElem_mem _)
    have C0 := Lib.hid (show w.cell? ⟨r, 0, none⟩ = some (.slice (some ⟨g, 0, none⟩) L.length c) by rw [cell_of_row _ _ _ _ _ _ hbr]; rfl)
    have HFZ := Lib.hid hfz
    have HK := Lib.hid (show k < L.length ∧ L.length ≤ c from ⟨hf.1, hlc⟩)
    have Q5 := Lib.hid (hq 5 (.string v.out) (by omega) rfl)
    have HCV := Lib.hid (fun W (hW : ∀ (p : Addr) (u : Value), p ≠ ⟨g, k * 6 + 5, none⟩ → w.cell? p = some u → W.cell? p = some u) => (show Sem.run Try.prog (convert 22 9 (.slice ba b.length bc)) W = .ok (.string ⟨b.toArray⟩) W from
      run_bytes_string W 22 9 5 Try.underlying22 Try.underlying5 Try.underlying9 ba bc b (fun i u hu => by
        obtain ⟨b', off', e, hc⟩ := hb i u hu
        refine ⟨b', off', e, hW _ _ (fun ee => ?_) hc⟩
        refine hna _ e (fun hn => by rw [hn] at hu; simp [bv] at hu) ?_
        have e2 := congrArg Addr.block ee
        simp only at e2
        rw [e2]
        exact hgG)))
    have HAD := Lib.hid (show ¬ 9223372036854775807 < v.out.size + b.length by omega)
    have HFIN := Lib.hid (fun W (hb : Below w.heap.size w W) => hset W hb 5 (.string (v.out ++ ⟨b.toArray⟩)) { v with out := v.out ++ ⟨b.toArray⟩ } (by omega) rfl)
    clear hact hq hset hfz hbr hgr hlc hgG hv hvs hs hna hb hf h hm
    go_enter Try.func39, Try.ntmps39
    go_wp2_with fail
    refine HM.out.mono ?_
    rintro e wb ⟨rfl, rfl⟩
    go_wp2_with fail
    refine HOF.out.mono ?_
    rintro e w2 ⟨rfl, rfl⟩
    clear HOF HM
    go_wp2_with fail
    refine wp_region_noPanic ?_
    refine wp_region_held_drew (S := (fun w' => ∀ (p : Addr) (v : Value), p ≠ ⟨g, k * 6 + 5, none⟩ → w.cell? p = some v → w'.cell? p = some v)) (by kernel_rfl) ?_ (fun hHeld => ?_)
    · exact fun _ _ _ h => h
    refine wpAnyH_take (i := 0) (oi := _) (v := ?_) rfl (by kernel_rfl) (by kernel_rfl) (by kernel_rfl) (fun _ _ _ h => h) (Or.inl ⟨by rfl, ?_⟩) (by assumption) ?_
    rotate_left 1
    · (intro w hSw; (try dsimp only at hSw); go_simp; (try with_reducible rfl))
    try simp only [Act.put, List.getElem_toArray, List.getElem_cons_zero, List.setIfInBounds_toArray, List.set_cons_zero, List.set_cons_succ]
    refine wpAnyH_take (i := 1) (oi := _) (v := ?_) rfl (by kernel_rfl) (by kernel_rfl) (by kernel_rfl) (fun _ _ _ h => h) (Or.inl ⟨by rfl, ?_⟩) (by assumption) ?_
    rotate_left 1
    · (intro w hSw; (try dsimp only at hSw); go_simp; (try with_reducible rfl))
    try simp only [Act.put, List.getElem_toArray, List.getElem_cons_succ, List.getElem_cons_zero, List.setIfInBounds_toArray, List.set_cons_zero, List.set_cons_succ]
    refine wpAnyH_take (i := 2) (oi := _) (v := ?_) rfl (by kernel_rfl) (by kernel_rfl) (by kernel_rfl) (fun _ _ _ h => h) (Or.inl ⟨by rfl, ?_⟩) (by assumption) ?_
    rotate_left 1
    · (intro w hSw; (try dsimp only at hSw); go_simp; (try with_reducible rfl))
    try simp only [Act.put, List.getElem_toArray, List.getElem_cons_succ, List.getElem_cons_zero, List.setIfInBounds_toArray, List.set_cons_zero, List.set_cons_succ]
    refine wpAnyH_take (i := 3) (oi := _) (v := ?_) rfl (by kernel_rfl) (by kernel_rfl) (by kernel_rfl) (fun _ _ _ h => h) (Or.inl ⟨by rfl, ?_⟩) (by assumption) ?_
    rotate_left 1
    · (intro w hSw; (try dsimp only at hSw); (have q := hSw ⟨r, 0, none⟩ _ (by intro e; cases e) C0.out; go_simp); (try with_reducible rfl))
    try simp only [Act.put, List.getElem_toArray, List.getElem_cons_succ, List.getElem_cons_zero, List.setIfInBounds_toArray, List.set_cons_zero, List.set_cons_succ]
    refine wpAnyH_take (i := 4) (oi := _) (v := ?_) rfl (by kernel_rfl) (by kernel_rfl) (by kernel_rfl) (fun _ _ _ h => h) (Or.inl ⟨by rfl, ?_⟩) (by assumption) ?_
    rotate_left 1
    · (intro w hSw; (try dsimp only at hSw); go_simp; (try with_reducible rfl))
    try simp only [Act.put, List.getElem_toArray, List.getElem_cons_succ, List.getElem_cons_zero, List.setIfInBounds_toArray, List.set_cons_zero, List.set_cons_succ]
    refine wpAnyH_take (i := 5) (oi := _) (v := ?_) rfl (by kernel_rfl) (by kernel_rfl) (by kernel_rfl) (fun _ _ _ h => h) (Or.inl ⟨by rfl, ?_⟩) (by assumption) ?_
    rotate_left 1
    · (intro w hSw; (try dsimp only at hSw); go_simp; (try with_reducible rfl))
    try simp only [Act.put, List.getElem_toArray, List.getElem_cons_succ, List.getElem_cons_zero, List.setIfInBounds_toArray, List.set_cons_zero, List.set_cons_succ]
    refine wpAnyH_take (i := 6) (oi := _) (v := ?_) rfl (by kernel_rfl) (by kernel_rfl) (by kernel_rfl) (fun _ _ _ h => h) (Or.inl ⟨by rfl, ?_⟩) (by assumption) ?_
    rotate_left 1
    · (intro w hSw; (try dsimp only at hSw); go_simp; (try with_reducible rfl))
    try simp only [Act.put, List.getElem_toArray, List.getElem_cons_succ, List.getElem_cons_zero, List.setIfInBounds_toArray, List.set_cons_zero, List.set_cons_succ]
    refine wpAnyH_take (i := 7) (oi := _) (v := ?_) rfl (by kernel_rfl) (by kernel_rfl) (by kernel_rfl) (fun _ _ _ h => h) (Or.inl ⟨by rfl, ?_⟩) (by assumption) ?_
    rotate_left 1
    · (intro w hSw; (try dsimp only at hSw); go_simp; (try with_reducible rfl))
    try simp only [Act.put, List.getElem_toArray, List.getElem_cons_succ, List.getElem_cons_zero, List.setIfInBounds_toArray, List.set_cons_zero, List.set_cons_succ]
    refine wpAnyH_take (i := 8) (oi := _) (v := ?_) rfl (by kernel_rfl) (by kernel_rfl) (by kernel_rfl) (fun _ _ _ h => h) (Or.inl ⟨by rfl, ?_⟩) (by assumption) ?_
    rotate_left 1
    · (intro w hSw; (try dsimp only at hSw); (have q := hSw ⟨r, 0, none⟩ _ (by intro e; cases e) C0.out; go_simp); (try with_reducible rfl))
    try simp only [Act.put, List.getElem_toArray, List.getElem_cons_succ, List.getElem_cons_zero, List.setIfInBounds_toArray, List.set_cons_zero, List.set_cons_succ]
    refine wpAnyH_take (i := 9) (oi := _) (v := ?_) rfl (by kernel_rfl) (by kernel_rfl) (by kernel_rfl) (fun _ _ _ h => h) (Or.inl ⟨by rfl, ?_⟩) (by assumption) ?_
    rotate_left 1
    · (intro w hSw; (try dsimp only at hSw); go_simp; (try with_reducible rfl))
    try simp only [Act.put, List.getElem_toArray, List.getElem_cons_succ, List.getElem_cons_zero, List.setIfInBounds_toArray, List.set_cons_zero, List.set_cons_succ]
    refine wpAnyH_take (i := 10) (oi := _) (v := ?_) rfl (by kernel_rfl) (by kernel_rfl) (by kernel_rfl) (fun _ _ _ h => h) (Or.inl ⟨by rfl, ?_⟩) (by assumption) ?_
    rotate_left 1
    · (intro w hSw; (try dsimp only at hSw); (have hkl := HK.out; go_simp); (try with_reducible rfl))
    try simp only [Act.put, List.getElem_toArray, List.getElem_cons_succ, List.getElem_cons_zero, List.setIfInBounds_toArray, List.set_cons_zero, List.set_cons_succ]
    refine wpAnyH_take (i := 11) (oi := _) (v := ?_) rfl (by kernel_rfl) (by kernel_rfl) (by kernel_rfl) (fun _ _ _ h => h) (Or.inl ⟨by rfl, ?_⟩) (by assumption) ?_
    rotate_left 1
    · (intro w hSw; (try dsimp only at hSw); go_simp; (try with_reducible rfl))
    try simp only [Act.put, List.getElem_toArray, List.getElem_cons_succ, List.getElem_cons_zero, List.setIfInBounds_toArray, List.set_cons_zero, List.set_cons_succ]
    refine wpAnyH_take (i := 13) (oi := _) (v := ?_) rfl (by kernel_rfl) (by kernel_rfl) (by kernel_rfl) (fun _ _ _ h => h) (Or.inl ⟨by rfl, ?_⟩) (by assumption) ?_
    rotate_left 1
    · (intro w hSw; (try dsimp only at hSw); go_simp; (try with_reducible rfl))
    try simp only [Act.put, List.getElem_toArray, List.getElem_cons_succ, List.getElem_cons_zero, List.setIfInBounds_toArray, List.set_cons_zero, List.set_cons_succ]
    refine wpAnyH_take (i := 14) (oi := _) (v := ?_) rfl (by kernel_rfl) (by kernel_rfl) (by kernel_rfl) (fun _ _ _ h => h) (Or.inl ⟨by rfl, ?_⟩) (by assumption) ?_
    rotate_left 1
    · (intro w hSw; (try dsimp only at hSw); (have q := HCV.out _ hSw; go_simp); (try with_reducible rfl))
    try simp only [Act.put, List.getElem_toArray, List.getElem_cons_succ, List.getElem_cons_zero, List.setIfInBounds_toArray, List.set_cons_zero, List.set_cons_succ]
    refine wpAnyH_ready (rs := [12]) (by kernel_rfl) (by simp) ?_
    refine AllReadyH.cons (o := _) rfl (fun K hK => ?_) AllReadyH.nil
    have q := Q5.out
    go_simp
    refine hK.out _ _ ?_ (fun hHeld12 => ?_)
    · exact fun _ _ _ h => h
    clear hK K
    try simp only [Act.put, List.getElem_toArray, List.getElem_cons_succ, List.getElem_cons_zero, List.setIfInBounds_toArray, List.set_cons_zero, List.set_cons_succ]
    refine wpAnyH_take (i := 15) (oi := _) (v := ?_) rfl (by kernel_rfl) (by kernel_rfl) (by kernel_rfl) (fun _ _ _ h => h) (Or.inl ⟨by rfl, ?_⟩) (by assumption) ?_
    rotate_left 1
    · (intro w hSw; (try dsimp only at hSw); (go_simp; rw [if_neg HAD.out]); (try with_reducible rfl))
    try simp only [Act.put, List.getElem_toArray, List.getElem_cons_succ, List.getElem_cons_zero, List.setIfInBounds_toArray, List.set_cons_zero, List.set_cons_succ]
    refine wpAnyH_take (i := 16) (oi := _) (v := ?_) rfl (by kernel_rfl) (by kernel_rfl) (by kernel_rfl) (fun _ _ _ h => h) (Or.inl ⟨by rfl, ?_⟩) (by assumption) ?_
    rotate_left 1
    · (intro w hSw; (try dsimp only at hSw); (have hkl := HK.out; go_simp); (try with_reducible rfl))
    try simp only [Act.put, List.getElem_toArray, List.getElem_cons_succ, List.getElem_cons_zero, List.setIfInBounds_toArray, List.set_cons_zero, List.set_cons_succ]
    refine wpAnyH_take (i := 17) (oi := _) (v := ?_) rfl (by kernel_rfl) (by kernel_rfl) (by kernel_rfl) (fun _ _ _ h => h) (Or.inl ⟨by rfl, ?_⟩) (by assumption) ?_
    rotate_left 1
    · (intro w hSw; (try dsimp only at hSw); go_simp; (try with_reducible rfl))
    try simp only [Act.put, List.getElem_toArray, List.getElem_cons_succ, List.getElem_cons_zero, List.setIfInBounds_toArray, List.set_cons_zero, List.set_cons_succ]
    refine wpAnyH_ready (rs := [18]) (by kernel_rfl) (by simp) ?_
    refine AllReadyH.cons (o := _) rfl (fun K hK => ?_) AllReadyH.nil
    have fz := HFZ.out (k * 6 + 5)
    have q := Q5.out
    go_simp
    refine hK.out _ _ ?_ (fun _ => ?_)
    · intro p u hp hu
      exact (World.cell?_setCell_other _ _ _ _ (Ne.symm hp)).trans hu
    clear hK K
    try simp only [Act.put, List.getElem_toArray, List.getElem_cons_succ, List.getElem_cons_zero, List.setIfInBounds_toArray, List.set_cons_zero, List.set_cons_succ]
    refine wpAnyH_done (by kernel_rfl) ?_ _
    refine NoPanic.normal ?_
    go_wp2
    go_ret
    exact ⟨rfl, HFIN.out _ (drew_below _)⟩
  · have hrest : ∀ f, ract x 2 f L = L := fun f => by unfold ract; rw [if_neg hm]
    rw [hrest]
    generalize rmust x 2 L = c at HM hm
    have hbq : (c == 0) = false := by rw [beq_eq_false_iff_ne]; exact hm
    have HX := Lib.hid (RfTo.same h (Below.refl _ _))
    clear h hrest hb hs hna
    go_enter Try.func39, Try.ntmps39
    go_wp2_with fail
    refine HM.out.mono ?_
    rintro e wb ⟨rfl, rfl⟩
    go_wp2
    go_ret
    exact ⟨rfl, HX.out⟩
theorem RfTo.after {w1 w2 : World} {L2 : List RC} {d2 : Int} (h : RfTo w B r most d2 L2 G w1) (hb : Below w1.heap.size w1 w2) : RfTo w B r most d2 L2 G w2 := by
  obtain ⟨G', h1, h2, h3⟩ := h
  exact ⟨G', h1.new hb, h2.trans (G := fun _ => False) (Only.of_new hb) (fun _ _ h => h.elim), h3⟩
def rin (id : Int) (L : List RC) : List UInt8 := match rfind id L with
  | none => []
  | some v => v.inn.data.toList.drop v.pos
theorem extract_drop (s : ByteArray) (p : Nat) : (s.extract p s.size).data.toList = s.data.toList.drop p := by
  rw [ByteArray.data_extract, Array.toList_extract]
  simp only [List.extract_eq_take_drop]
  refine List.take_of_length_le ?_
  rw [List.length_drop]
  exact Nat.le_refl _
set_option maxHeartbeats 4000000 in
set_option maxRecDepth 100000 in
theorem rread_any (h : RfIs w B r most dial L G) (x : Int) (hl : L.length ≤ 1000000) (hs : ∀ v ∈ L, v.inn.size ≤ 1000000 ∧ v.pos ≤ v.inn.size) :
    Calls Try.prog 40 #[.pointer (some ⟨r, 0, none⟩), .int .i64 x] w fun e w' => BytesTo (rin x L) e w' ∧ RfTo w B r most dial (rupd x (fun v => { v with pos := v.inn.size }) L) G w' := by
  cases hr : rfind x L with
  | none =>
    have HO := Lib.hid (rof_any h x hl)
    have hi : rin x L = [] := by unfold rin; rw [hr]
    have hu : ∀ f, rupd x f L = L := fun f => by unfold rupd; rw [hr]
    rw [hi, hu]
    have HX := Lib.hid (RfTo.same h (Below.refl _ _))
    have HR := Lib.hid hr
    clear h hi hu hr hs
    go_enter Try.func40, Try.ntmps40
    go_wp2_with fail
    refine HO.out.mono ?_
    rintro e w1 ⟨i, rfl, ho, rfl⟩
    obtain ⟨rfl, -⟩ : i = -1 ∧ True := by
      rcases ho with ⟨rfl, -⟩ | ⟨k, hk, rfl, -, -, h, -⟩
      · exact ⟨rfl, trivial⟩
      · rw [HR.out] at h; cases h
    clear ho
    go_wp2
    go_ret
    exact ⟨⟨none, 0, rfl, Rd.nil _ _⟩, HX.out⟩
  | some v0 =>
    obtain ⟨k, hf, hv0, hset0⟩ := rfind_first hr
    have hi : rin x L = v0.inn.data.toList.drop v0.pos := by unfold rin; rw [hr]
    have hu : ∀ f, rupd x f L = L.set k (f v0) := fun f => by unfold rupd; rw [hr]; exact hset0 _
    rw [hi, hu]
    have HOF := Lib.hid (rof_at h hf hl)
    obtain ⟨g, c, hbr, hgr, hgl, hq, hfz, hlc, hset⟩ := h.row hf.1
    rw [hv0] at hq hset
    obtain ⟨hvs, hvp⟩ := hs v0 (by rw [← hv0]; exact List.getElem_mem _)
    have C0 := Lib.hid (show w.cell? ⟨r, 0, none⟩ = some (.slice (some ⟨g, 0, none⟩) L.length c) by rw [cell_of_row _ _ _ _ _ _ hbr]; rfl)
    have HFZ := Lib.hid hfz
    have HK := Lib.hid (show k < L.length ∧ L.length ≤ c from ⟨hf.1, hlc⟩)
    have q3 := hq 3 (.string v0.inn) (by omega) rfl
    have q4 := hq 4 (.int .i64 (v0.pos : Int)) (by omega) rfl
    have Q3 := Lib.hid q3
    have Q4 := Lib.hid q4
    have hkl := hf.1
    have c0 := C0.out
    have hex := extract_drop v0.inn v0.pos
    have HFIN := Lib.hid (fun W (hb : Below w.heap.size w W) => hset W hb 4 (.int .i64 (v0.inn.size : Int)) { v0 with pos := v0.inn.size } (by omega) rfl)
    clear hset hq hfz hbr hgr h hi hu hset0 hs hr hv0 hf
    obtain ⟨vi, vh, vs, inn, pos, out⟩ := v0
    simp only at q3 q4 Q3 Q4 HFIN hvs hvp hex ⊢
    generalize hxx : (inn.extract pos inn.size) = ex at hex
    have HEX := Lib.hid hxx
    rw [← hex]
    clear hex
    go_enter Try.func40, Try.ntmps40
    go_wp2_with fail
    refine HOF.out.mono ?_
    rintro e w1 ⟨rfl, rfl⟩
    clear HOF
    go_wp2_with fail
    go_quiet (fail)
    clear c0 q3 q4
    go_wp2_with fail
    refine wp_region_noPanic ?_
    refine wp_region_held_drew (S := (fun w' => ∀ (p : Addr) (v : Value), p ≠ ⟨g, k * 6 + 4, none⟩ → w.cell? p = some v → w'.cell? p = some v)) (by kernel_rfl) ?_ (fun hHeld => ?_)
    · exact fun _ _ _ h => h
    refine wpAnyH_take (i := 0) (oi := _) (v := ?_) rfl (by kernel_rfl) (by kernel_rfl) (by kernel_rfl) (fun _ _ _ h => h) (Or.inl ⟨by rfl, ?_⟩) (by assumption) ?_
    rotate_left 1
    · (intro w hSw; (try dsimp only at hSw); go_simp; (try with_reducible rfl))
    try simp only [Act.put, List.getElem_toArray, List.getElem_cons_zero, List.setIfInBounds_toArray, List.set_cons_zero, List.set_cons_succ]
    refine wpAnyH_take (i := 1) (oi := _) (v := ?_) rfl (by kernel_rfl) (by kernel_rfl) (by kernel_rfl) (fun _ _ _ h => h) (Or.inl ⟨by rfl, ?_⟩) (by assumption) ?_
    rotate_left 1
    · (intro w hSw; (try dsimp only at hSw); go_simp; (try with_reducible rfl))
    try simp only [Act.put, List.getElem_toArray, List.getElem_cons_succ, List.getElem_cons_zero, List.setIfInBounds_toArray, List.set_cons_zero, List.set_cons_succ]
    refine wpAnyH_take (i := 2) (oi := _) (v := ?_) rfl (by kernel_rfl) (by kernel_rfl) (by kernel_rfl) (fun _ _ _ h => h) (Or.inl ⟨by rfl, ?_⟩) (by assumption) ?_
    rotate_left 1
    · (intro w hSw; (try dsimp only at hSw); go_simp; (try with_reducible rfl))
    try simp only [Act.put, List.getElem_toArray, List.getElem_cons_succ, List.getElem_cons_zero, List.setIfInBounds_toArray, List.set_cons_zero, List.set_cons_succ]
    refine wpAnyH_take (i := 3) (oi := _) (v := ?_) rfl (by kernel_rfl) (by kernel_rfl) (by kernel_rfl) (fun _ _ _ h => h) (Or.inl ⟨by rfl, ?_⟩) (by assumption) ?_
    rotate_left 1
    · (intro w hSw; (try dsimp only at hSw); (have q := hSw ⟨r, 0, none⟩ _ (by intro e; cases e) C0.out; go_simp); (try with_reducible rfl))
    try simp only [Act.put, List.getElem_toArray, List.getElem_cons_succ, List.getElem_cons_zero, List.setIfInBounds_toArray, List.set_cons_zero, List.set_cons_succ]
    refine wpAnyH_take (i := 4) (oi := _) (v := ?_) rfl (by kernel_rfl) (by kernel_rfl) (by kernel_rfl) (fun _ _ _ h => h) (Or.inl ⟨by rfl, ?_⟩) (by assumption) ?_
    rotate_left 1
    · (intro w hSw; (try dsimp only at hSw); go_simp; (try with_reducible rfl))
    try simp only [Act.put, List.getElem_toArray, List.getElem_cons_succ, List.getElem_cons_zero, List.setIfInBounds_toArray, List.set_cons_zero, List.set_cons_succ]
    refine wpAnyH_take (i := 5) (oi := _) (v := ?_) rfl (by kernel_rfl) (by kernel_rfl) (by kernel_rfl) (fun _ _ _ h => h) (Or.inl ⟨by rfl, ?_⟩) (by assumption) ?_
    rotate_left 1
    · (intro w hSw; (try dsimp only at hSw); go_simp; (try with_reducible rfl))
    try simp only [Act.put, List.getElem_toArray, List.getElem_cons_succ, List.getElem_cons_zero, List.setIfInBounds_toArray, List.set_cons_zero, List.set_cons_succ]
    refine wpAnyH_take (i := 6) (oi := _) (v := ?_) rfl (by kernel_rfl) (by kernel_rfl) (by kernel_rfl) (fun _ _ _ h => h) (Or.inl ⟨by rfl, ?_⟩) (by assumption) ?_
    rotate_left 1
    · (intro w hSw; (try dsimp only at hSw); go_simp; (try with_reducible rfl))
    try simp only [Act.put, List.getElem_toArray, List.getElem_cons_succ, List.getElem_cons_zero, List.setIfInBounds_toArray, List.set_cons_zero, List.set_cons_succ]
    refine wpAnyH_take (i := 7) (oi := _) (v := ?_) rfl (by kernel_rfl) (by kernel_rfl) (by kernel_rfl) (fun _ _ _ h => h) (Or.inl ⟨by rfl, ?_⟩) (by assumption) ?_
    rotate_left 1
    · (intro w hSw; (try dsimp only at hSw); go_simp; (try with_reducible rfl))
    try simp only [Act.put, List.getElem_toArray, List.getElem_cons_succ, List.getElem_cons_zero, List.setIfInBounds_toArray, List.set_cons_zero, List.set_cons_succ]
    refine wpAnyH_take (i := 8) (oi := _) (v := ?_) rfl (by kernel_rfl) (by kernel_rfl) (by kernel_rfl) (fun _ _ _ h => h) (Or.inl ⟨by rfl, ?_⟩) (by assumption) ?_
    rotate_left 1
    · (intro w hSw; (try dsimp only at hSw); (have q := hSw ⟨r, 0, none⟩ _ (by intro e; cases e) C0.out; go_simp); (try with_reducible rfl))
    try simp only [Act.put, List.getElem_toArray, List.getElem_cons_succ, List.getElem_cons_zero, List.setIfInBounds_toArray, List.set_cons_zero, List.set_cons_succ]
    refine wpAnyH_take (i := 9) (oi := _) (v := ?_) rfl (by kernel_rfl) (by kernel_rfl) (by kernel_rfl) (fun _ _ _ h => h) (Or.inl ⟨by rfl, ?_⟩) (by assumption) ?_
    rotate_left 1
    · (intro w hSw; (try dsimp only at hSw); go_simp; (try with_reducible rfl))
    try simp only [Act.put, List.getElem_toArray, List.getElem_cons_succ, List.getElem_cons_zero, List.setIfInBounds_toArray, List.set_cons_zero, List.set_cons_succ]
    refine wpAnyH_take (i := 10) (oi := _) (v := ?_) rfl (by kernel_rfl) (by kernel_rfl) (by kernel_rfl) (fun _ _ _ h => h) (Or.inl ⟨by rfl, ?_⟩) (by assumption) ?_
    rotate_left 1
    · (intro w hSw; (try dsimp only at hSw); (have hkl := HK.out; go_simp); (try with_reducible rfl))
    try simp only [Act.put, List.getElem_toArray, List.getElem_cons_succ, List.getElem_cons_zero, List.setIfInBounds_toArray, List.set_cons_zero, List.set_cons_succ]
    refine wpAnyH_take (i := 11) (oi := _) (v := ?_) rfl (by kernel_rfl) (by kernel_rfl) (by kernel_rfl) (fun _ _ _ h => h) (Or.inl ⟨by rfl, ?_⟩) (by assumption) ?_
    rotate_left 1
    · (intro w hSw; (try dsimp only at hSw); go_simp; (try with_reducible rfl))
    try simp only [Act.put, List.getElem_toArray, List.getElem_cons_succ, List.getElem_cons_zero, List.setIfInBounds_toArray, List.set_cons_zero, List.set_cons_succ]
    refine wpAnyH_take (i := 12) (oi := _) (v := ?_) rfl (by kernel_rfl) (by kernel_rfl) (by kernel_rfl) (fun _ _ _ h => h) (Or.inl ⟨by rfl, ?_⟩) (by assumption) ?_
    rotate_left 1
    · (intro w hSw; (try dsimp only at hSw); (have q := hSw ⟨g, k * 6 + 3, none⟩ _ (by intro e; simp at e) Q3.out; go_simp); (try with_reducible rfl))
    try simp only [Act.put, List.getElem_toArray, List.getElem_cons_succ, List.getElem_cons_zero, List.setIfInBounds_toArray, List.set_cons_zero, List.set_cons_succ]
    refine wpAnyH_take (i := 13) (oi := _) (v := ?_) rfl (by kernel_rfl) (by kernel_rfl) (by kernel_rfl) (fun _ _ _ h => h) (Or.inl ⟨by rfl, ?_⟩) (by assumption) ?_
    rotate_left 1
    · (intro w hSw; (try dsimp only at hSw); go_simp; (try with_reducible rfl))
    try simp only [Act.put, List.getElem_toArray, List.getElem_cons_succ, List.getElem_cons_zero, List.setIfInBounds_toArray, List.set_cons_zero, List.set_cons_succ]
    refine wpAnyH_take (i := 14) (oi := _) (v := ?_) rfl (by kernel_rfl) (by kernel_rfl) (by kernel_rfl) (fun _ _ _ h => h) (Or.inl ⟨by rfl, ?_⟩) (by assumption) ?_
    rotate_left 1
    · (intro w hSw; (try dsimp only at hSw); (have hkl := HK.out; go_simp); (try with_reducible rfl))
    try simp only [Act.put, List.getElem_toArray, List.getElem_cons_succ, List.getElem_cons_zero, List.setIfInBounds_toArray, List.set_cons_zero, List.set_cons_succ]
    refine wpAnyH_take (i := 15) (oi := _) (v := ?_) rfl (by kernel_rfl) (by kernel_rfl) (by kernel_rfl) (fun _ _ _ h => h) (Or.inl ⟨by rfl, ?_⟩) (by assumption) ?_
    rotate_left 1
    · (intro w hSw; (try dsimp only at hSw); go_simp; (try with_reducible rfl))
    try simp only [Act.put, List.getElem_toArray, List.getElem_cons_succ, List.getElem_cons_zero, List.setIfInBounds_toArray, List.set_cons_zero, List.set_cons_succ]
    refine wpAnyH_ready (rs := [16]) (by kernel_rfl) (by simp) ?_
    refine AllReadyH.cons (o := _) rfl (fun K hK => ?_) AllReadyH.nil
    have fz := HFZ.out (k * 6 + 4)
    have q := Q4.out
    go_simp
    refine hK.out _ _ ?_ (fun _ => ?_)
    · intro p u hp hu
      exact (World.cell?_setCell_other _ _ _ _ (Ne.symm hp)).trans hu
    clear hK K
    try simp only [Act.put, List.getElem_toArray, List.getElem_cons_succ, List.getElem_cons_zero, List.setIfInBounds_toArray, List.set_cons_zero, List.set_cons_succ]
    refine wpAnyH_done (by kernel_rfl) ?_ _
    refine NoPanic.normal ?_
    have hfin := HFIN.out ((w.drewN nq).drew) (below_drewN (Below.refl _ _) (nq + 1))
    have HX := Lib.hid (RfTo.after hfin (below_bytes _ ex))
    clear hfin
    have hcv := fun W => Lib.run_convert_string_bytes (P := Try.prog) W 9 22 5 ex Try.underlying9 Try.underlying22 Try.underlying5
    go_wp2
    go_ret
    have h9 := rd_bytes ((w.drewN (nq + 1)).setCell ⟨g, k * 6 + 4, none⟩ (.int .i64 (inn.size : Int))) ex
    rw [World.size_setCell] at h9
    exact ⟨⟨_, _, rfl, h9⟩, HX.out⟩
end
end Go.Proofs.Ytepdnmpcccgcaaa
