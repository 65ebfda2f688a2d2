/- Do both queues look the same: the walk. -/
import Derived.Test.YtdomnjakhecbaaaQuT
import Derived.LoopN
namespace Go.Proofs.Ytdomnjakhecbaaa
open Go.RowKit K Go.Shelf
attribute [local go_sem] Oper.semAt_some
theorem wp_rangeFunc_frames_b {P : Program} {g : Operand} {p : Tmp} {assign body : Code} {id : Nat} {Q : Exit → Act → World → Prop} {a : Act} {w : World} {gf : Nat} {lb : Array Value} {fs : List Frm} {av : Option Addr} {xs : List Value}
    (hg : a.eval g = .func (.func gf) #[] lb) (eg : ∀ args w, (callFunc gf args).run P w = .ok (.enter gf args) w)
    (hseq : ∀ (l : Nat) (J : Nat → World → Prop) (Jx : World → Prop) (W : World), ItSrc av xs fs J → ItYield P l fs J Jx → Below w.heap.size w W → J 0 W → CallsIn Fence.wide 8 P gf (#[.func (.yield l) #[] #[]] ++ lb) W fun e W' => (∃ v, e = .returned v) ∧ (J fs.length W' ∨ Jx W'))
    (I : Nat → World → Prop) (C : Nat → Prop) (hI : ∀ k, RndInv w.heap.size (I k)) (hsrc : ∀ k W, I k W → Rd W av xs ∧ ∃ N, Frs W N fs xs) (h0 : I 0 w) (q : Tmp) (ty : TypeId)
    (hassign : ∀ (l : Nat) (sq win : Int) (sa : Option Addr) (sn sc : Nat) (W : World) (K : Act → World → Prop), K { tmps := (a.tmps.setIfInBounds p (frv sq win (.slice sa sn sc))).setIfInBounds q (.pointer (some ⟨W.heap.size, 0, none⟩)), defers := [] } (W.alloc (.cells #[.int .u64 sq, .int .i64 win, .slice sa sn sc] ty)) → assign.wpIn (Fence.wide.inRound l) 7 P (Exit.then K (fun _ _ _ => False)) { tmps := a.tmps.setIfInBounds p (frv sq win (.slice sa sn sc)), defers := [] } W)
    (hbody : ∀ (l k B' : Nat) (f : Frm) (W0 W : World) (ra : Option Addr) (rc : Nat), fs[k]? = some f → w.heap.size ≤ l → I k W0 → Below W0.heap.size W0 W → I k W → W0.heap.size ≤ B' → W.heap[B']? = some (.cells #[.int .u64 f.seq, .int .i64 f.win, .slice ra f.recs.length rc] ty (0, 0)) → (f.recs.length ≤ rc ∧ rc ≤ 9223372036854775807 ∧ (ra = none → rc = 0)) → Rd W ra (rcf f.recs) → (f.recs ≠ [] → ∃ b, ra = some ⟨b, 0, none⟩ ∧ W0.heap.size ≤ b ∧ b ≠ B' ∧ ∃ cur t, W.heap[b]? = some (.cells cur t (0, 0))) →
      body.wpIn (Fence.wide.inRound l) 7 P (frPost w.heap.size I (fun c W => c = .exit id ∧ ∃ k, C k ∧ I k W) (k + 1) W) { tmps := (a.tmps.setIfInBounds p (frv f.seq f.win (.slice ra f.recs.length rc))).setIfInBounds q (.pointer (some ⟨B', 0, none⟩)), defers := [] } W)
    (hdone : ∀ (D k : Nat) (W : World), w.heap.size ≤ D → I k W → (k = fs.length ∨ C k) → W.heap[D]? = some (.deferred (some [])) → Q .normal { a with defers := { target := .collected D, args := #[] } :: a.defers } W) :
    (Code.rangeFunc g #[p] assign body).wp P (Exit.inBlock id Q) a w := by
  refine wp_rangeFunc_frames hg eg hseq I (fun c W => c = .exit id ∧ ∃ k, C k ∧ I k W) hI (fun c => ⟨fun W W' h hb => ?_, fun W l o o' h hl h1 h2 => ?_⟩) hsrc h0 q ty hassign hbody (fun D W hD h hK => hdone D _ W hD h (.inl rfl) hK) (fun D c W hD h hK => ?_)
  · obtain ⟨e, k, hc, hi⟩ := h
    exact ⟨e, k, hc, (hI k).new _ _ hi hb⟩
  · obtain ⟨e, k, hc, hi⟩ := h
    exact ⟨e, k, hc, (hI k).put _ _ _ _ hi hl h1 h2⟩
  · obtain ⟨rfl, k, hc, hi⟩ := h
    refine wp_exit ?_
    show (if id = id then _ else _)
    rw [if_pos rfl]
    exact hdone D k W hD hi (.inr hc) hK
theorem mem_frs {f : Frm} {fs L : List Frm} {gn : Nat} (h : fs = L.drop gn) (hf : f ∈ fs) : f ∈ L := by
  rw [h] at hf
  exact List.mem_of_mem_drop hf
set_option maxHeartbeats 4000000 in
set_option maxRecDepth 100000 in
theorem same_any {w : World} {g gr : Nat} {s : QR} {fs : List Frm} {t : RQ} {L : List Frm} {M Mr : Nat → Prop} {gn : Nat} (h : QSt w g s fs M) (hr : RSt w gr t L Mr) (rel : QRel s fs t L gn)
    (hok : ∀ f ∈ L, FOk f) (hL : L.length ≤ 1000000) (hrl : ∀ f ∈ L, f.recs.length ≤ 1000000) (most : Int) (hmost : -9223372036854775808 ≤ most ∧ most ≤ 9223372036854775807) :
    Calls Try.prog 21 #[.pointer (some ⟨g, 0, none⟩), .pointer (some ⟨gr, 0, none⟩), .int .i64 most] w fun e w' => e = .returned (.bool true) ∧ Below w.heap.size w w' := by
  refine (callsIn_wide (n := 8)).1 ?_
  refine callsIn_of_wp_marks Try.func21 rfl trivial ?_ rfl
  simp only [Try.ntmps21, List.size_toArray, List.length_cons, List.length_nil, Nat.reduceAdd, Nat.reduceSub, Array.replicate_succ, Array.replicate_zero, List.push_toArray, List.append_toArray, List.nil_append, List.cons_append]
  refine wpIn_wide.2 ?_
  obtain ⟨nx, nb, hnx⟩ := nextV_tup fs.length s
  have hg0 : 0 ≤ t.gone ∧ t.gone ≤ L.length := by have := rel.gone; have := rel.le; omega
  have HQ := Lib.hid (fun W (hb : Below w.heap.size w W) => h.new hb)
  have HR := Lib.hid (fun W (hb : Below w.heap.size w W) => hr.new hb)
  have QN := Lib.hid (fun W (hb : Below w.heap.size w W) => (show Calls Try.prog 11 #[.pointer (some ⟨g, 0, none⟩)] W fun e w' => e = .returned (.tuple #[.int .i64 nx, .bool nb]) ∧ W = w' from hnx ▸ qnext (h.new hb)))
  have RN := Lib.hid (fun W (hb : Below w.heap.size w W) => (show Calls Try.prog 39 #[.pointer (some ⟨gr, 0, none⟩)] W fun e w' => e = .returned (.tuple #[.int .i64 nx, .bool nb]) ∧ ∃ n, w' = W.drewN n from hnx ▸ rel.next ▸ rnext_any (hr.new hb) hg0 hL))
  have QS := Lib.hid (fun W (hb : Below w.heap.size w W) => rel.sink ▸ qsink (h.new hb))
  have QW := Lib.hid (fun W (hb : Below w.heap.size w W) => qwaiting (h.new hb))
  have QA := Lib.hid (fun W (hb : Below w.heap.size w W) => rel.acked ▸ qacked (h.new hb))
  have QD := Lib.hid (fun W (hb : Below w.heap.size w W) => rel.dropped ▸ qdropped (h.new hb))
  have QT := Lib.hid (fun W (hb : Below w.heap.size w W) => rel.tries ▸ qtries (h.new hb))
  have RW := Lib.hid (fun W (hb : Below w.heap.size w W) => rel.len ▸ rwaiting_any (hr.new hb) hg0 hL)
  have RA := Lib.hid (fun W (hb : Below w.heap.size w W) => racked_any (hr.new hb))
  clear hnx
  have HT := Lib.hid hr.box
  go_wp2_with fail
  obtain ⟨W3, hW3⟩ : ∃ W3, W3 = ((w.alloc (.cells #[.pointer (some ⟨gr, 0, none⟩)] 47)).alloc (.cells #[.int .i64 most] 3)).alloc (.cells #[.bool false] 4) := ⟨_, rfl⟩
  have hb3 : Below w.heap.size w W3 := by
    rw [hW3]; exact (((Below.refl _ w).alloc (Nat.le_refl _) _).alloc (by simp) _).alloc (by simp; omega) _
  have b0 : W3.heap[w.heap.size]? = some (.cells #[.pointer (some ⟨gr, 0, none⟩)] 47 (0, 0)) := by
    rw [hW3]; exact (Below.heap_alloc _ _ _ (by simp; omega)).trans ((Below.heap_alloc _ _ _ (by simp)).trans (heap_alloc_new w _))
  have b1 : W3.heap[w.heap.size + 1]? = some (.cells #[.int .i64 most] 3 (0, 0)) := by
    rw [hW3]; exact (Below.heap_alloc _ _ _ (by simp)).trans (by have h := heap_alloc_new (w.alloc (.cells #[.pointer (some ⟨gr, 0, none⟩)] 47)) (.cells #[.int .i64 most] 3); rw [World.size_alloc] at h; exact h)
  have b2 : W3.heap[w.heap.size + 2]? = some (.cells #[.bool false] 4 (0, 0)) := by
    rw [hW3]; have h := heap_alloc_new ((w.alloc (.cells #[.pointer (some ⟨gr, 0, none⟩)] 47)).alloc (.cells #[.int .i64 most] 3)) (.cells #[.bool false] 4); rw [World.size_alloc, World.size_alloc] at h; exact h
  rw [← hW3]
  clear hW3
  have k0 : W3.cell? ⟨w.heap.size, 0, none⟩ = some (.pointer (some ⟨gr, 0, none⟩)) := by rw [cell_of_row _ _ _ _ _ _ b0]; rfl
  have k1 : W3.cell? ⟨w.heap.size + 1, 0, none⟩ = some (.int .i64 most) := by rw [cell_of_row _ _ _ _ _ _ b1]; rfl
  have HB3 := Lib.hid hb3
  have B0 := Lib.hid b0
  have B1 := Lib.hid b1
  have B2 := Lib.hid b2
  clear b0 b1 b2
  obtain ⟨xa, xc, hbox⟩ := (HR.out _ hb3).box
  have d1 := hbox.c1
  have d5 := hbox.c5
  have d6 := hbox.c6
  have d9 := hbox.c9
  have HBX := Lib.hid hbox
  clear hbox hb3
  refine (QN.out _ HB3.out).mono ?_
  rintro e w4 ⟨rfl, rfl⟩
  go_wp2_with fail
  refine (RN.out _ HB3.out).mono ?_
  rintro e w5 ⟨rfl, n5, rfl⟩
  go_wp2_with fail
  go_quiet (first
    | (go_at_call 28; exact quiet_add_left (QS.out _ (below_drewN HB3.out _)))
    | (go_at_call 16; exact quiet_add_left (QW.out _ (below_drewN HB3.out _)))
    | (go_at_call 40; exact quiet_add_of (RW.out _ (below_drewN HB3.out _)))
    | (go_at_call 15; exact quiet_add_left (QA.out _ (below_drewN HB3.out _)))
    | (go_at_call 41; exact quiet_add_left (RA.out _ (below_drewN HB3.out _)))
    | (go_at_call 22; exact quiet_add_left (QD.out _ (below_drewN HB3.out _)))
    | (go_at_call 26; exact quiet_add_left (QT.out _ (below_drewN HB3.out _))))
  go_wp2_with fail
  obtain ⟨W4, hW4⟩ : ∃ W4, W4 = W3.drewN (n5 + nq) := ⟨_, rfl⟩
  have hb4 : Below w.heap.size w W4 := by rw [hW4]; exact below_drewN HB3.out _
  have B0' := Lib.hid (show W4.heap[w.heap.size]? = some (.cells #[.pointer (some ⟨gr, 0, none⟩)] 47 (0, 0)) by rw [hW4]; exact B0.out)
  have B1' := Lib.hid (show W4.heap[w.heap.size + 1]? = some (.cells #[.int .i64 most] 3 (0, 0)) by rw [hW4]; exact B1.out)
  have B2' := Lib.hid (show W4.heap[w.heap.size + 2]? = some (.cells #[.bool false] 4 (0, 0)) by rw [hW4]; exact B2.out)
  rw [← hW4]
  clear hW4 B0 B1 B2 k0 k1 d1 d5 d6 d9 HBX HB3 QN RN QS QW QA QD QT RW RA
  refine (qall (HQ.out _ hb4) (by rw [rel.fr, List.length_drop]; omega)).mono ?_
  rintro e w6 ⟨ib, ia, ic, xs, N, rfl, hib, hic, hird, hb6, hia, hifr, hNM⟩
  have hb06 : Below w.heap.size w w6 := hb4.trans (hb6.mono hb4.size)
  have HB := Lib.hid hb06
  have K0 := Lib.hid ((hb6.block _ (Array.getElem?_eq_some_iff.1 B0'.out).1).trans B0'.out)
  have K1 := Lib.hid ((hb6.block _ (Array.getElem?_eq_some_iff.1 B1'.out).1).trans B1'.out)
  have K2 := Lib.hid ((hb6.block _ (Array.getElem?_eq_some_iff.1 B2'.out).1).trans B2'.out)
  have HIB := Lib.hid hib
  have HIC := Lib.hid hic
  have HIR := Lib.hid hird
  have HIA := Lib.hid hia
  have HIF := Lib.hid hifr
  have HSZ := Lib.hid hb4.size
  clear hb4 hb6 hb06 B0' B1' B2' hib hic hird hia hifr
  have hne := all_not_nil w6 (.pointer (some ⟨ib, 0, none⟩))
  go_wp2_with fail
  clear hne
  refine wp_loop_rounds 3 ?_
  rw [rounds_succ]
  go_wp2_with fail
  obtain ⟨W7, hW7⟩ : ∃ W7, W7 = (w6.alloc (.cells #[.int .i64 0] 3)).alloc (.cells #[.int .i64 0] 3) := ⟨_, rfl⟩
  have hb67 : Below w6.heap.size w6 W7 := by rw [hW7]; exact ((Below.refl _ _).alloc (Nat.le_refl _) _).alloc (by simp) _
  have PT := Lib.hid (show W7.heap[w6.heap.size]? = some (.cells #[.int .i64 0] 3 (0, 0)) by rw [hW7]; exact (Below.heap_alloc _ _ _ (by simp)).trans (heap_alloc_new w6 _))
  have PK := Lib.hid (show W7.heap[w6.heap.size + 1]? = some (.cells #[.int .i64 0] 3 (0, 0)) by rw [hW7]; have h := heap_alloc_new (w6.alloc (.cells #[.int .i64 0] 3)) (.cells #[.int .i64 0] 3); rw [World.size_alloc] at h; exact h)
  have S7 := Lib.hid (show W7.heap.size = w6.heap.size + 2 by rw [hW7]; simp)
  rw [← hW7]
  clear hW7
  have B67 := Lib.hid hb67
  clear hb67
  have PR := Lib.hid (keeph B67.out K2.out)
  have HBA := Lib.hid (HB.out.trans (B67.out.mono HB.out.size))
  have PW := Lib.hid (keeph B67.out K0.out)
  have PM := Lib.hid (keeph B67.out K1.out)
  have HLT := Lib.hid (show w6.heap.size + 1 < W7.heap.size by have := S7.out; omega)
  have HKT := Lib.hid (show w6.heap.size ≠ w6.heap.size + 1 by omega)
  have HKW := Lib.hid (show w.heap.size ≠ w6.heap.size + 1 by have := HB.out.size; omega)
  have HKM := Lib.hid (show w.heap.size + 1 ≠ w6.heap.size + 1 by have := (Array.getElem?_eq_some_iff.1 K2.out).1; omega)
  have HCC := Lib.hid (keepc B67.out (show w6.cell? ⟨ib, 0, none⟩ = some (.slice ia fs.length ic) by rw [cell_of_row _ _ _ _ _ _ HIC.out]; rfl))
  have HSRC := Lib.hid (fun W (ho : Only (· = w6.heap.size + 1) W7 W) => (show Rd W ia xs ∧ Frs W N fs xs from by
    have hF := Frs.only (Only.of_below (F := fun k => w6.heap.size ≤ k) B67.out (fun _ _ h => h)) (fun k hk hle => by have h1 := h.lt k (hNM k hk); have h2 := HB.out.size; omega) (fun _ h => h) HIF.out
    exact ⟨rd_only HIR.out B67.out ho (by omega), Frs.only ho (fun k hk e => by have h1 := h.lt k (hNM k hk); have h2 := HB.out.size; have e : k = w6.heap.size + 1 := e; omega) (fun _ h => h) hF⟩))
  have HRW := Lib.hid (fun W (ho : Only (· = w6.heap.size + 1) W7 W) => HR.out W ((HB.out.trans (B67.out.mono HB.out.size)).trans (ho.below (Nat.le_trans HB.out.size B67.out.size) (fun k e => by have e : k = w6.heap.size + 1 := e; have := HB.out.size; omega))))
  refine wp_rangeFunc_frames_b (gf := 46) (lb := #[.pointer (some ⟨ib, 0, none⟩)]) (fs := fs) (av := ia) (xs := xs) rfl (enters_of Try.func46 (by kernel_rfl) rfl)
    ?seq (sameI W7 (w6.heap.size + 1)) (sameC 0 most fs.length) (fun k => rnd_inv HLT.out _) ?src ⟨Only.refl _ _, PK.out⟩ 14 38 ?assign ?body ?done
  case seq =>
    intro l J Jx W hs hY hbW h0
    exact all1_any hs l ib ic hY (fun f hf => hok f (mem_frs rel.fr hf)) (by rw [rel.fr, List.length_drop]; omega) (fun f hf => hrl f (mem_frs rel.fr hf)) W (keepc hbW HCC.out) h0
  case src =>
    rintro k W ⟨ho, -⟩
    exact ⟨(HSRC.out W ho).1, N, (HSRC.out W ho).2⟩
  case assign =>
    intro l sq win sa sn sc W K hK
    unfold frv at hK ⊢
    gi_wp2
    simpa using hK
  case body =>
    rintro l k B' f W0 W ra rc hkf hl hi0 hbW hi hB' hfb hcc hrr hnn
    simp only [List.setIfInBounds_toArray, List.set_cons_succ, List.set_cons_zero]
    exact same_body rel hL hrl most 0 HKT.out HKW.out HKM.out PW.out PM.out PT.out l k B' f W0 W ra rc hkf hi0 hbW hi (HRW.out W hi.1) hB' hfb hcc hrr hnn _ _ _ _ _ _ _ _ _ _ _ _ _ _ _ _ _ _ _ _ _ _ _ _ _ _ _ _ _ _ _ _ _ _ _ _ _ _ _ _ _ _ _ _ _ _ _ _ _ _ _ _ _ _ _ _ _ _ _ _ _ _ _ _ _ _ _ _ _ _ _ _ _ _ _ _ _ _ _ _ _ _ _ _ _ _ _ _ _ _ _ _ _ _ _ _ _ _ _ _ _ _ _ _ _ _ _ _ _ _ _ _ _ _ _ _ _ _ _ _ _ _ _ _ _ _ _ _ _ _ _ _ _ _ _ _ _ _ _
  case done =>
    rintro D1 k0 W8 hD1 ⟨ho8, hk8⟩ hkc hK1
    have kc8 : W8.cell? ⟨w6.heap.size + 1, 0, none⟩ = some (.int .i64 k0) := by rw [cell_of_row _ _ _ _ _ _ hk8]; rfl
    have wc8 : W8.cell? ⟨w.heap.size, 0, none⟩ = some (.pointer (some ⟨gr, 0, none⟩)) := by rw [cell_of_row _ _ _ _ _ _ (ho8.heap PW.out HKW.out)]; rfl
    have mc8 : W8.cell? ⟨w.heap.size + 1, 0, none⟩ = some (.int .i64 most) := by rw [cell_of_row _ _ _ _ _ _ (ho8.heap PM.out HKM.out)]; rfl
    have tc8 : W8.cell? ⟨w6.heap.size, 0, none⟩ = some (.int .i64 0) := by rw [cell_of_row _ _ _ _ _ _ (ho8.heap PT.out HKT.out)]; rfl
    have tz8 : W8.frozen? ⟨w6.heap.size, 0, none⟩ = false := frozen_of_row W8 _ 0 _ _ (ho8.heap PT.out HKT.out)
    have HWT := Lib.hid (fun X (hb : Below W8.heap.size W8 X) => rel.len ▸ rwaiting_any ((HRW.out W8 ho8).new hb) hg0 hL)
    have HO8 := Lib.hid ho8
    have HK8 := Lib.hid hk8
    have HD1 := Lib.hid hK1
    have hfl : fs.length ≤ 1000000 := by rw [rel.fr, List.length_drop]; omega
    clear ho8 hk8 hK1
    by_cases hkn : k0 = fs.length
    · subst hkn
      go_wp2_with fail
      go_quiet ((go_at_call 40; exact Calls.quiet_of (HWT.out _ (below_drews2 W8 _))))
      obtain ⟨W9, hW9⟩ : ∃ W9, W9 = W8.drewN nq := ⟨_, rfl⟩
      rw [← hW9]
      have tc9 : W9.cell? ⟨w6.heap.size, 0, none⟩ = some (.int .i64 0) := by rw [hW9]; exact tc8
      have tz9 : W9.frozen? ⟨w6.heap.size, 0, none⟩ = false := by rw [hW9]; exact tz8
      have tl9 := World.block_lt_of_cell? W9 _ tc9
      simp only at tl9
      have HO9 := Lib.hid (show Only (· = w6.heap.size + 1) W7 W9 by rw [hW9]; exact HO8.out.drewN nq)
      have HD9 := Lib.hid (show W9.heap[D1]? = some (.deferred (some [])) by rw [hW9]; exact HD1.out)
      clear kc8 wc8 mc8 tc8 tz8 HO8 HD1 HK8 hW9 HWT
      go_wp2_with fail
      rw [rounds_succ]
      go_wp2_with fail
      obtain ⟨W10, hW10⟩ : ∃ W10, W10 = (W9.alloc (.cells #[.int .i64 1] 3)).alloc (.cells #[.int .i64 0] 3) := ⟨_, rfl⟩
      have hb10 : Below W9.heap.size W9 W10 := by rw [hW10]; exact ((Below.refl _ _).alloc (Nat.le_refl _) _).alloc (by simp) _
      have PTn := Lib.hid (show W10.heap[W9.heap.size]? = some (.cells #[.int .i64 1] 3 (0, 0)) by rw [hW10]; exact (Below.heap_alloc _ _ _ (by simp)).trans (heap_alloc_new W9 _))
      have PKn := Lib.hid (show W10.heap[W9.heap.size + 1]? = some (.cells #[.int .i64 0] 3 (0, 0)) by rw [hW10]; have h := heap_alloc_new (W9.alloc (.cells #[.int .i64 1] 3)) (.cells #[.int .i64 0] 3); rw [World.size_alloc] at h; exact h)
      have S10 := Lib.hid (show W10.heap.size = W9.heap.size + 2 by rw [hW10]; simp)
      rw [← hW10]
      clear hW10
      have hwl : w.heap.size + 2 < w6.heap.size := (Array.getElem?_eq_some_iff.1 K2.out).1
      have hibl : ib < w6.heap.size := (Array.getElem?_eq_some_iff.1 HIC.out).1
      have PWn := Lib.hid (keeph hb10 (HO9.out.heap PW.out HKW.out))
      have PMn := Lib.hid (keeph hb10 (HO9.out.heap PM.out HKM.out))
      have PRn := Lib.hid (keeph hb10 (HO9.out.heap PR.out (fun e => by have e : w.heap.size + 2 = w6.heap.size + 1 := e; omega)))
      have HDn := Lib.hid (keeph hb10 HD9.out)
      have hdl : D1 < W9.heap.size := (Array.getElem?_eq_some_iff.1 HD9.out).1
      have HCCn := Lib.hid (keepc hb10 (HO9.out.cell HCC.out (fun e => by have e : ib = w6.heap.size + 1 := e; omega)))
      have h79 : W7.heap.size ≤ W9.heap.size := HO9.out.size
      have h67 : w6.heap.size ≤ W7.heap.size := B67.out.size
      have HSRCn := Lib.hid (fun W (ho : Only (· = W9.heap.size + 1) W10 W) => (show Rd W ia xs ∧ Frs W N fs xs from by
        have h9 := HSRC.out W9 HO9.out
        have hF := Frs.only (Only.of_below (F := fun k => W9.heap.size ≤ k) hb10 (fun _ _ h => h)) (fun k hk hle => by have h1 := h.lt k (hNM k hk); omega) (fun _ h => h) h9.2
        exact ⟨rd_only h9.1 hb10 ho (by omega), Frs.only ho (fun k hk e => by have h1 := h.lt k (hNM k hk); have e : k = W9.heap.size + 1 := e; omega) (fun _ h => h) hF⟩))
      have HBAn := Lib.hid ((HBA.out.trans (HO9.out.below HBA.out.size (fun k e => by have e : k = w6.heap.size + 1 := e; omega))).trans (hb10.mono (by omega)))
      have HRWn := Lib.hid (fun W (ho : Only (· = W9.heap.size + 1) W10 W) => HR.out W (HBAn.out.trans (ho.below HBAn.out.size (fun k e => by have e : k = W9.heap.size + 1 := e; omega))))
      have HLTn := Lib.hid (show W9.heap.size + 1 < W10.heap.size by have := S10.out; omega)
      have HKTn := Lib.hid (show W9.heap.size ≠ W9.heap.size + 1 by omega)
      have HKWn := Lib.hid (show w.heap.size ≠ W9.heap.size + 1 by omega)
      have HKMn := Lib.hid (show w.heap.size + 1 ≠ W9.heap.size + 1 by omega)
      have HKRn := Lib.hid (show w.heap.size + 2 ≠ W9.heap.size + 1 by omega)
      have HKDn := Lib.hid (show D1 ≠ W9.heap.size + 1 by omega)
      have HDl := Lib.hid hdl
      have HD1R := Lib.hid (show D1 ≠ w.heap.size + 2 by omega)
      have HD1W := Lib.hid (show w.heap.size ≤ D1 by omega)
      have HWL := Lib.hid (show w.heap.size + 2 < W9.heap.size by omega)
      clear PT PK PW PM PR HLT HKT HKW HKM HCC HSRC HBA HRW HO9 HD9 tc9 tz9 tl9 hb10 hdl hwl hibl hkc
      refine wp_rangeFunc_frames_b (gf := 46) (lb := #[.pointer (some ⟨ib, 0, none⟩)]) (fs := fs) (av := ia) (xs := xs) rfl (enters_of Try.func46 (by kernel_rfl) rfl)
        ?seq (sameI W10 (W9.heap.size + 1)) (sameC 1 most fs.length) (fun k => rnd_inv HLTn.out _) ?src ⟨Only.refl _ _, PKn.out⟩ 14 38 ?assign ?body ?done
      case seq =>
        intro l J Jx W hs hY hbW h0
        exact all1_any hs l ib ic hY (fun f hf => hok f (mem_frs rel.fr hf)) (by rw [rel.fr, List.length_drop]; omega) (fun f hf => hrl f (mem_frs rel.fr hf)) W (keepc hbW HCCn.out) h0
      case src =>
        rintro k W ⟨ho, -⟩
        exact ⟨(HSRCn.out W ho).1, N, (HSRCn.out W ho).2⟩
      case assign =>
        intro l sq win sa sn sc W K hK
        unfold frv at hK ⊢
        gi_wp2
        simpa using hK
      case body =>
        rintro l k B' f W0 W ra rc hkf hl hi0 hbW hi hB' hfb hcc hrr hnn
        simp only [List.setIfInBounds_toArray, List.set_cons_succ, List.set_cons_zero]
        exact same_body rel hL hrl most 1 HKTn.out HKWn.out HKMn.out PWn.out PMn.out PTn.out l k B' f W0 W ra rc hkf hi0 hbW hi (HRWn.out W hi.1) hB' hfb hcc hrr hnn _ _ _ _ _ _ _ _ _ _ _ _ _ _ _ _ _ _ _ _ _ _ _ _ _ _ _ _ _ _ _ _ _ _ _ _ _ _ _ _ _ _ _ _ _ _ _ _ _ _ _ _ _ _ _ _ _ _ _ _ _ _ _ _ _ _ _ _ _ _ _ _ _ _ _ _ _ _ _ _ _ _ _ _ _ _ _ _ _ _ _ _ _ _ _ _ _ _ _ _ _ _ _ _ _ _ _ _ _ _ _ _ _ _ _ _ _ _ _ _ _ _ _ _ _ _ _ _ _ _ _ _ _ _ _ _ _ _ _
      case done =>
        rintro D2 k2 W11 hD2 ⟨ho11, hk11⟩ hkc2 hK2
        obtain rfl : k2 = fs.length := hkc2.resolve_right (fun hc => by have h1 := hc.1; omega)
        have kc11 : W11.cell? ⟨W9.heap.size + 1, 0, none⟩ = some (.int .i64 fs.length) := by rw [cell_of_row _ _ _ _ _ _ hk11]; rfl
        have wc11 : W11.cell? ⟨w.heap.size, 0, none⟩ = some (.pointer (some ⟨gr, 0, none⟩)) := by rw [cell_of_row _ _ _ _ _ _ (ho11.heap PWn.out HKWn.out)]; rfl
        have HWT := Lib.hid (fun X (hb : Below W11.heap.size W11 X) => rel.len ▸ rwaiting_any ((HRWn.out W11 ho11).new hb) hg0 hL)
        have HO11 := Lib.hid ho11
        have HK2 := Lib.hid hK2
        clear ho11 hk11 hK2 hkc2
        go_wp2_with fail
        go_quiet ((go_at_call 40; exact Calls.quiet_of (HWT.out _ (below_drews2 W11 _))))
        obtain ⟨W12, hW12⟩ : ∃ W12, W12 = W11.drewN nq := ⟨_, rfl⟩
        rw [← hW12]
        have HO12 := Lib.hid (show Only (· = W9.heap.size + 1) W10 W12 by rw [hW12]; exact HO11.out.drewN nq)
        have HE2 := Lib.hid (show W12.heap[D2]? = some (.deferred (some [])) by rw [hW12]; exact HK2.out)
        clear kc11 wc11 HO11 HK2 hW12 HWT
        have ht12 := HO12.out.heap PTn.out HKTn.out
        have tc12 : W12.cell? ⟨W9.heap.size, 0, none⟩ = some (.int .i64 1) := by rw [cell_of_row _ _ _ _ _ _ ht12]; rfl
        have tz12 : W12.frozen? ⟨W9.heap.size, 0, none⟩ = false := frozen_of_row W12 _ 0 _ _ ht12
        have tl12 := World.block_lt_of_cell? W12 _ tc12
        simp only at tl12
        have hr12 := HO12.out.heap PRn.out HKRn.out
        have rc12 : W12.cell? ⟨w.heap.size + 2, 0, none⟩ = some (.bool false) := by rw [cell_of_row _ _ _ _ _ _ hr12]; rfl
        have rz12 : W12.frozen? ⟨w.heap.size + 2, 0, none⟩ = false := frozen_of_row W12 _ 0 _ _ hr12
        have rl12 := World.block_lt_of_cell? W12 _ rc12
        simp only at rl12
        have HR12 := Lib.hid hr12
        have HE1 := Lib.hid (HO12.out.heap HDn.out HKDn.out)
        have HB12 := Lib.hid (HBAn.out.trans (HO12.out.below HBAn.out.size (fun k e => by have e : k = W9.heap.size + 1 := e; have := HWL.out; omega)))
        clear ht12 hr12
        go_wp2_with fail
        rw [rounds_succ]
        go_wp2_with fail
        obtain ⟨W13, hW13⟩ : ∃ W13, W13 = (W12.setCell ⟨w.heap.size + 1 + 1, 0, none⟩ (.bool true)).alloc (.cells #[.int .i64 2] 3) := ⟨_, rfl⟩
        rw [← hW13]
        have hd2 : D2 ≠ w.heap.size + 2 := by have h1 := S10.out; have h2 := HWL.out; omega
        have hd1 : D1 ≠ w.heap.size + 2 := HD1R.out
        have hD12 : D1 ≠ D2 := by have h1 := S10.out; have h2 := HDl.out; omega
        have h2 : W13.heap[D2]? = some (.deferred (some [])) := by rw [hW13]; exact keeph ((Below.refl _ _).alloc (Nat.le_refl _) _) ((Below.heap_setCell _ _ _ _ hd2).trans HE2.out)
        have h1 : W13.heap[D1]? = some (.deferred (some [])) := by rw [hW13]; exact keeph ((Below.refl _ _).alloc (Nat.le_refl _) _) ((Below.heap_setCell _ _ _ _ hd1).trans HE1.out)
        have h1' : (W13.putObj D2 (.deferred none)).heap[D1]? = some (.deferred (some [])) := (World.putObj_heap_other hD12).trans h1
        have hR : W13.heap[w.heap.size + 2]? = some (.cells #[.bool true] 4 (0, 0)) := by
          rw [hW13]
          refine keeph ((Below.refl _ _).alloc (Nat.le_refl _) _) ?_
          show (W12.setCell ⟨w.heap.size + 2, 0, none⟩ (.bool true)).heap[w.heap.size + 2]? = _
          rw [heap_setCell_same _ _ _ _ _ _ HR12.out]
          rfl
        have hR2 : ((W13.putObj D2 (.deferred none)).putObj D1 (.deferred none)).heap[w.heap.size + 2]? = some (.cells #[.bool true] 4 (0, 0)) := (World.putObj_heap_other (fun e => hd1 e.symm)).trans ((World.putObj_heap_other (fun e => hd2 e.symm)).trans hR)
        have hcR : ((W13.putObj D2 (.deferred none)).putObj D1 (.deferred none)).cell? ⟨w.heap.size + 1 + 1, 0, none⟩ = some (.bool true) := by
          rw [show w.heap.size + 1 + 1 = w.heap.size + 2 from rfl, cell_of_row _ _ _ _ _ _ hR2]
          rfl
        have hB13 : Below w.heap.size w W13 := by
          have h3 := HB12.out.setCell (p := ⟨w.heap.size + 2, 0, none⟩) (by simp) (.bool true)
          rw [hW13]
          exact h3.alloc h3.size _
        have hB14 := hB13.grown (grownBy_putObj' W13 D2 (.deferred none)) hB13.size (fun k e => by cases e; have h1 := S10.out; have h2 := HWL.out; omega)
        have hB15 := hB14.grown (grownBy_putObj' _ D1 (.deferred none)) hB14.size (fun k e => by cases e; exact HD1W.out)
        refine ⟨by simp, .inl ⟨_, _, rfl, run_takeDeferred h2, ⟨by simp, .inl ⟨_, _, rfl, run_takeDeferred h1', ?_⟩⟩⟩⟩
        refine ⟨.bool true, ?_, rfl, hB15⟩
        simp [results, Try.results21, go_sem, hcR]
    · obtain ⟨-, hmk, hk0n⟩ := hkc.resolve_left hkn
      subst hmk
      have hne : (k0 = fs.length) = False := by rw [eq_iff_iff, iff_false]; exact hkn
      have hne1 : ((k0 : Int) == (fs.length : Int)) = false := by rw [beq_eq_false_iff_ne]; omega
      have hne2 : ((k0 : Int) = (fs.length : Int)) = False := by rw [eq_iff_iff, iff_false]; omega
      have hne3 : (k0 == fs.length) = false := by rw [beq_eq_false_iff_ne]; exact hkn
      go_wp2_with fail
      go_quiet ((go_at_call 40; exact Calls.quiet_of (HWT.out _ (below_drews2 W8 _))))
      obtain ⟨W9, hW9⟩ : ∃ W9, W9 = W8.drewN nq := ⟨_, rfl⟩
      rw [← hW9]
      have tc9 : W9.cell? ⟨w6.heap.size, 0, none⟩ = some (.int .i64 0) := by rw [hW9]; exact tc8
      have tz9 : W9.frozen? ⟨w6.heap.size, 0, none⟩ = false := by rw [hW9]; exact tz8
      have tl9 := World.block_lt_of_cell? W9 _ tc9
      simp only at tl9
      have HO9 := Lib.hid (show Only (· = w6.heap.size + 1) W7 W9 by rw [hW9]; exact HO8.out.drewN nq)
      have HD9 := Lib.hid (show W9.heap[D1]? = some (.deferred (some [])) by rw [hW9]; exact HD1.out)
      clear kc8 wc8 mc8 tc8 tz8 HO8 HD1 HK8 hW9 HWT
      go_wp2_with fail
      rw [rounds_succ]
      go_wp2_with fail
      obtain ⟨W10, hW10⟩ : ∃ W10, W10 = (W9.alloc (.cells #[.int .i64 1] 3)).alloc (.cells #[.int .i64 0] 3) := ⟨_, rfl⟩
      have hb10 : Below W9.heap.size W9 W10 := by rw [hW10]; exact ((Below.refl _ _).alloc (Nat.le_refl _) _).alloc (by simp) _
      have PTn := Lib.hid (show W10.heap[W9.heap.size]? = some (.cells #[.int .i64 1] 3 (0, 0)) by rw [hW10]; exact (Below.heap_alloc _ _ _ (by simp)).trans (heap_alloc_new W9 _))
      have PKn := Lib.hid (show W10.heap[W9.heap.size + 1]? = some (.cells #[.int .i64 0] 3 (0, 0)) by rw [hW10]; have h := heap_alloc_new (W9.alloc (.cells #[.int .i64 1] 3)) (.cells #[.int .i64 0] 3); rw [World.size_alloc] at h; exact h)
      have S10 := Lib.hid (show W10.heap.size = W9.heap.size + 2 by rw [hW10]; simp)
      rw [← hW10]
      clear hW10
      have hwl : w.heap.size + 2 < w6.heap.size := (Array.getElem?_eq_some_iff.1 K2.out).1
      have hibl : ib < w6.heap.size := (Array.getElem?_eq_some_iff.1 HIC.out).1
      have PWn := Lib.hid (keeph hb10 (HO9.out.heap PW.out HKW.out))
      have PMn := Lib.hid (keeph hb10 (HO9.out.heap PM.out HKM.out))
      have PRn := Lib.hid (keeph hb10 (HO9.out.heap PR.out (fun e => by have e : w.heap.size + 2 = w6.heap.size + 1 := e; omega)))
      have HDn := Lib.hid (keeph hb10 HD9.out)
      have hdl : D1 < W9.heap.size := (Array.getElem?_eq_some_iff.1 HD9.out).1
      have HCCn := Lib.hid (keepc hb10 (HO9.out.cell HCC.out (fun e => by have e : ib = w6.heap.size + 1 := e; omega)))
      have h79 : W7.heap.size ≤ W9.heap.size := HO9.out.size
      have h67 : w6.heap.size ≤ W7.heap.size := B67.out.size
      have HSRCn := Lib.hid (fun W (ho : Only (· = W9.heap.size + 1) W10 W) => (show Rd W ia xs ∧ Frs W N fs xs from by
        have h9 := HSRC.out W9 HO9.out
        have hF := Frs.only (Only.of_below (F := fun k => W9.heap.size ≤ k) hb10 (fun _ _ h => h)) (fun k hk hle => by have h1 := h.lt k (hNM k hk); omega) (fun _ h => h) h9.2
        exact ⟨rd_only h9.1 hb10 ho (by omega), Frs.only ho (fun k hk e => by have h1 := h.lt k (hNM k hk); have e : k = W9.heap.size + 1 := e; omega) (fun _ h => h) hF⟩))
      have HBAn := Lib.hid ((HBA.out.trans (HO9.out.below HBA.out.size (fun k e => by have e : k = w6.heap.size + 1 := e; omega))).trans (hb10.mono (by omega)))
      have HRWn := Lib.hid (fun W (ho : Only (· = W9.heap.size + 1) W10 W) => HR.out W (HBAn.out.trans (ho.below HBAn.out.size (fun k e => by have e : k = W9.heap.size + 1 := e; omega))))
      have HLTn := Lib.hid (show W9.heap.size + 1 < W10.heap.size by have := S10.out; omega)
      have HKTn := Lib.hid (show W9.heap.size ≠ W9.heap.size + 1 by omega)
      have HKWn := Lib.hid (show w.heap.size ≠ W9.heap.size + 1 by omega)
      have HKMn := Lib.hid (show w.heap.size + 1 ≠ W9.heap.size + 1 by omega)
      have HKRn := Lib.hid (show w.heap.size + 2 ≠ W9.heap.size + 1 by omega)
      have HKDn := Lib.hid (show D1 ≠ W9.heap.size + 1 by omega)
      have HDl := Lib.hid hdl
      have HD1R := Lib.hid (show D1 ≠ w.heap.size + 2 by omega)
      have HD1W := Lib.hid (show w.heap.size ≤ D1 by omega)
      have HWL := Lib.hid (show w.heap.size + 2 < W9.heap.size by omega)
      clear PT PK PW PM PR HLT HKT HKW HKM HCC HSRC HBA HRW HO9 HD9 tc9 tz9 tl9 hb10 hdl hwl hibl hkc
      refine wp_rangeFunc_frames_b (gf := 46) (lb := #[.pointer (some ⟨ib, 0, none⟩)]) (fs := fs) (av := ia) (xs := xs) rfl (enters_of Try.func46 (by kernel_rfl) rfl)
        ?seq (sameI W10 (W9.heap.size + 1)) (sameC 1 k0 fs.length) (fun k => rnd_inv HLTn.out _) ?src ⟨Only.refl _ _, PKn.out⟩ 14 38 ?assign ?body ?done
      case seq =>
        intro l J Jx W hs hY hbW h0
        exact all1_any hs l ib ic hY (fun f hf => hok f (mem_frs rel.fr hf)) (by rw [rel.fr, List.length_drop]; omega) (fun f hf => hrl f (mem_frs rel.fr hf)) W (keepc hbW HCCn.out) h0
      case src =>
        rintro k W ⟨ho, -⟩
        exact ⟨(HSRCn.out W ho).1, N, (HSRCn.out W ho).2⟩
      case assign =>
        intro l sq win sa sn sc W K hK
        unfold frv at hK ⊢
        gi_wp2
        simpa using hK
      case body =>
        rintro l k B' f W0 W ra rc hkf hl hi0 hbW hi hB' hfb hcc hrr hnn
        simp only [List.setIfInBounds_toArray, List.set_cons_succ, List.set_cons_zero]
        exact same_body rel hL hrl k0 1 HKTn.out HKWn.out HKMn.out PWn.out PMn.out PTn.out l k B' f W0 W ra rc hkf hi0 hbW hi (HRWn.out W hi.1) hB' hfb hcc hrr hnn _ _ _ _ _ _ _ _ _ _ _ _ _ _ _ _ _ _ _ _ _ _ _ _ _ _ _ _ _ _ _ _ _ _ _ _ _ _ _ _ _ _ _ _ _ _ _ _ _ _ _ _ _ _ _ _ _ _ _ _ _ _ _ _ _ _ _ _ _ _ _ _ _ _ _ _ _ _ _ _ _ _ _ _ _ _ _ _ _ _ _ _ _ _ _ _ _ _ _ _ _ _ _ _ _ _ _ _ _ _ _ _ _ _ _ _ _ _ _ _ _ _ _ _ _ _ _ _ _ _ _ _ _ _ _ _ _ _ _
      case done =>
        rintro D2 k2 W11 hD2 ⟨ho11, hk11⟩ hkc2 hK2
        obtain rfl : k2 = fs.length := hkc2.resolve_right (fun hc => by have h1 := hc.1; omega)
        have kc11 : W11.cell? ⟨W9.heap.size + 1, 0, none⟩ = some (.int .i64 fs.length) := by rw [cell_of_row _ _ _ _ _ _ hk11]; rfl
        have wc11 : W11.cell? ⟨w.heap.size, 0, none⟩ = some (.pointer (some ⟨gr, 0, none⟩)) := by rw [cell_of_row _ _ _ _ _ _ (ho11.heap PWn.out HKWn.out)]; rfl
        have HWT := Lib.hid (fun X (hb : Below W11.heap.size W11 X) => rel.len ▸ rwaiting_any ((HRWn.out W11 ho11).new hb) hg0 hL)
        have HO11 := Lib.hid ho11
        have HK2 := Lib.hid hK2
        clear ho11 hk11 hK2 hkc2
        go_wp2_with fail
        go_quiet ((go_at_call 40; exact Calls.quiet_of (HWT.out _ (below_drews2 W11 _))))
        obtain ⟨W12, hW12⟩ : ∃ W12, W12 = W11.drewN nq := ⟨_, rfl⟩
        rw [← hW12]
        have HO12 := Lib.hid (show Only (· = W9.heap.size + 1) W10 W12 by rw [hW12]; exact HO11.out.drewN nq)
        have HE2 := Lib.hid (show W12.heap[D2]? = some (.deferred (some [])) by rw [hW12]; exact HK2.out)
        clear kc11 wc11 HO11 HK2 hW12 HWT
        have ht12 := HO12.out.heap PTn.out HKTn.out
        have tc12 : W12.cell? ⟨W9.heap.size, 0, none⟩ = some (.int .i64 1) := by rw [cell_of_row _ _ _ _ _ _ ht12]; rfl
        have tz12 : W12.frozen? ⟨W9.heap.size, 0, none⟩ = false := frozen_of_row W12 _ 0 _ _ ht12
        have tl12 := World.block_lt_of_cell? W12 _ tc12
        simp only at tl12
        have hr12 := HO12.out.heap PRn.out HKRn.out
        have rc12 : W12.cell? ⟨w.heap.size + 2, 0, none⟩ = some (.bool false) := by rw [cell_of_row _ _ _ _ _ _ hr12]; rfl
        have rz12 : W12.frozen? ⟨w.heap.size + 2, 0, none⟩ = false := frozen_of_row W12 _ 0 _ _ hr12
        have rl12 := World.block_lt_of_cell? W12 _ rc12
        simp only at rl12
        have HR12 := Lib.hid hr12
        have HE1 := Lib.hid (HO12.out.heap HDn.out HKDn.out)
        have HB12 := Lib.hid (HBAn.out.trans (HO12.out.below HBAn.out.size (fun k e => by have e : k = W9.heap.size + 1 := e; have := HWL.out; omega)))
        clear ht12 hr12
        go_wp2_with fail
        rw [rounds_succ]
        go_wp2_with fail
        obtain ⟨W13, hW13⟩ : ∃ W13, W13 = (W12.setCell ⟨w.heap.size + 1 + 1, 0, none⟩ (.bool true)).alloc (.cells #[.int .i64 2] 3) := ⟨_, rfl⟩
        rw [← hW13]
        have hd2 : D2 ≠ w.heap.size + 2 := by have h1 := S10.out; have h2 := HWL.out; omega
        have hd1 : D1 ≠ w.heap.size + 2 := HD1R.out
        have hD12 : D1 ≠ D2 := by have h1 := S10.out; have h2 := HDl.out; omega
        have h2 : W13.heap[D2]? = some (.deferred (some [])) := by rw [hW13]; exact keeph ((Below.refl _ _).alloc (Nat.le_refl _) _) ((Below.heap_setCell _ _ _ _ hd2).trans HE2.out)
        have h1 : W13.heap[D1]? = some (.deferred (some [])) := by rw [hW13]; exact keeph ((Below.refl _ _).alloc (Nat.le_refl _) _) ((Below.heap_setCell _ _ _ _ hd1).trans HE1.out)
        have h1' : (W13.putObj D2 (.deferred none)).heap[D1]? = some (.deferred (some [])) := (World.putObj_heap_other hD12).trans h1
        have hR : W13.heap[w.heap.size + 2]? = some (.cells #[.bool true] 4 (0, 0)) := by
          rw [hW13]
          refine keeph ((Below.refl _ _).alloc (Nat.le_refl _) _) ?_
          show (W12.setCell ⟨w.heap.size + 2, 0, none⟩ (.bool true)).heap[w.heap.size + 2]? = _
          rw [heap_setCell_same _ _ _ _ _ _ HR12.out]
          rfl
        have hR2 : ((W13.putObj D2 (.deferred none)).putObj D1 (.deferred none)).heap[w.heap.size + 2]? = some (.cells #[.bool true] 4 (0, 0)) := (World.putObj_heap_other (fun e => hd1 e.symm)).trans ((World.putObj_heap_other (fun e => hd2 e.symm)).trans hR)
        have hcR : ((W13.putObj D2 (.deferred none)).putObj D1 (.deferred none)).cell? ⟨w.heap.size + 1 + 1, 0, none⟩ = some (.bool true) := by
          rw [show w.heap.size + 1 + 1 = w.heap.size + 2 from rfl, cell_of_row _ _ _ _ _ _ hR2]
          rfl
        have hB13 : Below w.heap.size w W13 := by
          have h3 := HB12.out.setCell (p := ⟨w.heap.size + 2, 0, none⟩) (by simp) (.bool true)
          rw [hW13]
          exact h3.alloc h3.size _
        have hB14 := hB13.grown (grownBy_putObj' W13 D2 (.deferred none)) hB13.size (fun k e => by cases e; have h1 := S10.out; have h2 := HWL.out; omega)
        have hB15 := hB14.grown (grownBy_putObj' _ D1 (.deferred none)) hB14.size (fun k e => by cases e; exact HD1W.out)
        refine ⟨by simp, .inl ⟨_, _, rfl, run_takeDeferred h2, ⟨by simp, .inl ⟨_, _, rfl, run_takeDeferred h1', ?_⟩⟩⟩⟩
        refine ⟨.bool true, ?_, rfl, hB15⟩
        simp [results, Try.results21, go_sem, hcR]
end Go.Proofs.Ytdomnjakhecbaaa
