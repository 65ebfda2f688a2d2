/- Do both nets look the same: the walk. -/
import Derived.Test.YtepdnmpcccgcaaaNtP
namespace Go.Proofs.Ytepdnmpcccgcaaa
open Go.RowKit K Go.Shelf
attribute [local go_sem] Oper.semAt_some
theorem all_not_nil (w : World) (v : Value) : Sem.run Try.prog (binOp .eql 52 (.func (.func 48) #[] #[v]) Value.nilFunc) w = .ok (.bool false) w := by kernel_rfl
theorem below_drewN {n0 : Nat} {w W : World} (h : Below n0 w W) (k : Nat) : Below n0 w (W.drewN k) := by
  obtain ⟨h1, h2, h3, h4, h5⟩ := h
  exact ⟨h1, h2, h3, h4, h5⟩
theorem wp_rangeFunc_pairs_c {g : Operand} {p1 p2 : Tmp} {assign body : Code} {id : Nat} {Q : Exit → Act → World → Prop} {a : Act} {w : World} {Bh Mh : Nat} {kvs : List (Int × Value)} {L : List (Int × ByteArray)}
    (hg : a.eval g = .func (.func 48) #[] #[.pointer (some ⟨Bh, 0, none⟩)])
    (hB : w.heap[Bh]? = some (.cells #[.map (some Mh)] 75 (0, 0))) (hM : MapAt iEnc w Mh kvs) (hp : kvs.Perm (L.map idv)) (hs : (L.map (·.1)).Pairwise (· < ·)) (hwf : ∀ p ∈ L, (Lit.int .i64 p.1).wf = true) (hlen : L.length ≤ 1000000)
    (I : Nat → World → Prop) (C : Nat → Prop) (hI : ∀ k, RndInv w.heap.size (I k)) (h0 : I 0 w) (q1 q2 : Tmp)
    (hassign : ∀ (l : Nat) (x : Int) (y : ByteArray) (W : World) (K : Act → World → Prop), K { tmps := (((a.tmps.setIfInBounds p1 (.int .i64 x)).setIfInBounds p2 (.string y)).setIfInBounds q1 (.int .i64 x)).setIfInBounds q2 (.string y), defers := [] } W → assign.wpIn (Fence.wide.inRound l) 7 Try.prog (Exit.then K (fun _ _ _ => False)) { tmps := (a.tmps.setIfInBounds p1 (.int .i64 x)).setIfInBounds p2 (.string y), defers := [] } W)
    (hbody : ∀ (l k : Nat) (x : Int) (y : ByteArray) (W : World), L[k]? = some (x, y) → w.heap.size ≤ l → I k W → body.wpIn (Fence.wide.inRound l) 7 Try.prog (prPost w.heap.size Bh Mh I (fun c W => c = .exit id ∧ ∃ k, C k ∧ I k W) (k + 1) W) { tmps := (((a.tmps.setIfInBounds p1 (.int .i64 x)).setIfInBounds p2 (.string y)).setIfInBounds q1 (.int .i64 x)).setIfInBounds q2 (.string y), defers := [] } W)
    (hdone : ∀ (D k : Nat) (W : World), w.heap.size ≤ D → I k W → (k = L.length ∨ C k) → W.heap[D]? = some (.deferred (some [])) → Q .normal { a with defers := { target := .collected D, args := #[] } :: a.defers } W) :
    (Code.rangeFunc g #[p1, p2] assign body).wp Try.prog (Exit.inBlock id Q) a w :=
  wp_rangeFunc_pairs_b hg hB hM hp hs hwf hlen I C hI h0 (fun x y => { tmps := (((a.tmps.setIfInBounds p1 (.int .i64 x)).setIfInBounds p2 (.string y)).setIfInBounds q1 (.int .i64 x)).setIfInBounds q2 (.string y), defers := [] }) hassign hbody hdone
set_option maxHeartbeats 4000000 in
set_option maxRecDepth 100000 in
theorem same04_any {w0 w : World} {n r : Nat} {most d : Int} {L : List RC} {F : List Nat} {G : Nat → Prop} {m N : Nat} (h : NwF w0 n r most d L F G w) (hi : NInv most d L m N) (hm : m ≤ 1000) (hN : N ≤ 100000) (leave : Int) :
    Calls Try.prog 22 #[.pointer (some ⟨n, 0, none⟩), .pointer (some ⟨r, 0, none⟩), .int .i64 leave] w fun e w' => e = .returned (.bool true) ∧ Below w.heap.size w w' := by
  refine (callsIn_wide (n := 8)).1 ?_
  refine callsIn_of_wp_marks Try.func22 rfl trivial ?_ rfl
  simp only [Try.ntmps22, List.size_toArray, List.length_cons, List.length_nil, Nat.reduceAdd, Nat.reduceSub, Array.replicate_succ, Array.replicate_zero, List.push_toArray, List.append_toArray, List.nil_append, List.cons_append]
  refine wpIn_wide.2 ?_
  have HH := Lib.hid (fun W (hb : Below w.heap.size w W) => h.new hb)
  have HI := Lib.hid hi
  have hd0 := hi.d0
  have hdn := hi.dn
  have hll := hi.len2
  clear h hi
  go_wp2_with fail
  obtain ⟨W3, hW3⟩ : ∃ W3, W3 = ((w.alloc (.cells #[.pointer (some ⟨r, 0, none⟩)] 37)).alloc (.cells #[.int .i64 leave] 3)).alloc (.cells #[.bool false] 4) := ⟨_, rfl⟩
  have hb3 : Below w.heap.size w W3 := by
    rw [hW3]; exact (((Below.refl _ w).alloc (Nat.le_refl _) _).alloc (by simp) _).alloc (by simp; omega) _
  have b0 : W3.heap[w.heap.size]? = some (.cells #[.pointer (some ⟨r, 0, none⟩)] 37 (0, 0)) := by
    rw [hW3]; exact (Below.heap_alloc _ _ _ (by simp; omega)).trans ((Below.heap_alloc _ _ _ (by simp)).trans (heap_alloc_new w _))
  have b1 : W3.heap[w.heap.size + 1]? = some (.cells #[.int .i64 leave] 3 (0, 0)) := by
    rw [hW3]; exact (Below.heap_alloc _ _ _ (by simp)).trans (by have h := heap_alloc_new (w.alloc (.cells #[.pointer (some ⟨r, 0, none⟩)] 37)) (.cells #[.int .i64 leave] 3); rw [World.size_alloc] at h; exact h)
  have b2 : W3.heap[w.heap.size + 2]? = some (.cells #[.bool false] 4 (0, 0)) := by
    rw [hW3]; have h := heap_alloc_new ((w.alloc (.cells #[.pointer (some ⟨r, 0, none⟩)] 37)).alloc (.cells #[.int .i64 leave] 3)) (.cells #[.bool false] 4); rw [World.size_alloc, World.size_alloc] at h; exact h
  rw [← hW3]
  clear hW3
  have HB3 := Lib.hid hb3
  have B0 := Lib.hid b0
  have B1 := Lib.hid b1
  have B2 := Lib.hid b2
  clear hb3 b0 b1 b2
  go_loopw [7] (fun iv wr => ∃ j : Nat, iv = .int .i64 ((j : Int) - 1) ∧ (j : Int) ≤ d + 3 ∧ Below W3.heap.size W3 wr) (fun iv _ => (d + 3 - intOf iv).toNat)
  case atStart => exact ⟨0, rfl, by omega, Below.refl _ _⟩
  case round =>
    obtain ⟨j, rfl, hj, hbr⟩ := hrel
    obtain ⟨wz, hwz⟩ : ∃ wz, wz = wr := ⟨_, rfl⟩
    subst hwz
    have hbw : Below w.heap.size w wz := HB3.out.trans (hbr.mono HB3.out.size)
    have k0 : wz.cell? ⟨w.heap.size, 0, none⟩ = some (.pointer (some ⟨r, 0, none⟩)) := by rw [cell_of_row _ _ _ _ _ _ (keeph hbr B0.out)]; rfl
    obtain ⟨ra, rcp, hbx, -, -, -⟩ := (HH.out _ hbw).2.1.shape
    have k2 : wz.cell? ⟨r, 2, none⟩ = some (.int .i64 d) := by rw [cell_of_row _ _ _ _ _ _ hbx]; rfl
    have HBW := Lib.hid hbw
    have HBR := Lib.hid hbr
    clear hbx hbr hbw
    by_cases hc : (j : Int) - 1 ≤ d + 1
    · obtain ⟨id, hid⟩ : ∃ id, id = (j : Int) - 1 := ⟨_, rfl⟩
      rw [← hid] at hc ⊢
      have HID := Lib.hid hid
      have hid0 : -1 ≤ id := by omega
      clear hid
      have HSN := Lib.hid (show Calls Try.prog 28 #[.pointer (some ⟨n, 0, none⟩), .int .i64 id] wz fun e w' => ∃ v, e = .returned v ∧ Buf w' wz.heap.size v (rout id L) ∧ Below wz.heap.size wz w' from by
        have h9 := sent_any (HH.out _ HBW.out).1 (fun u hu => by obtain ⟨v, hv, rfl⟩ := List.mem_map.1 hu; have h8 := HI.out.sz v hv; have e9 : v.out.data.toList.length = v.out.size := rfl; show v.out.data.toList.length ≤ _; omega) id
        rw [out_ok] at h9
        exact h9)
      go_wp2_with fail
      clear k0 k2
      refine HSN.out.mono ?_
      rintro e wb ⟨v, rfl, hbuf, hbz⟩
      obtain ⟨sa, sc, rfl, -, hsr, hso⟩ := hbuf.rd
      have hbb : Below w.heap.size w wb := HBW.out.trans (hbz.mono HBW.out.size)
      have K0 := Lib.hid (show wb.cell? ⟨w.heap.size, 0, none⟩ = some (.pointer (some ⟨r, 0, none⟩)) by rw [cell_of_row _ _ _ _ _ _ (keeph (HBR.out.trans (hbz.mono HBR.out.size)) B0.out)]; rfl)
      obtain ⟨bb, hbbq⟩ : ∃ bb, bb = rout id L := ⟨_, rfl⟩
      rw [← hbbq] at hbuf hsr ⊢
      have HRB := Lib.hid (show bb.length = 0 ∨ ∃ g, sa = some ⟨g, 0, none⟩ ∧ RowB wb g bb.length ∧ wz.heap.size ≤ g from by
        by_cases h0 : bb.length = 0
        · exact .inl h0
        · obtain ⟨g, c', e, hrow, hgB, -, -⟩ := RowB.of_own hbuf.1 (by omega)
          cases e
          exact .inr ⟨g, rfl, hrow, hgB⟩)
      have hbl : bb.length ≤ 100000 := by
        rw [hbbq]
        unfold rout
        cases hrf : rfind id L with
        | none => simp
        | some v =>
          have h8 := HI.out.sz v (rfind_mem hrf)
          have e9 : v.out.data.toList.length = v.out.size := rfl
          show v.out.data.toList.length ≤ _
          omega
      have HBZ := Lib.hid hbz
      have HSR := Lib.hid hsr
      have HSB := Lib.hid (show ∀ v ∈ L, v.inn.size ≤ 1000000 ∧ v.pos ≤ v.inn.size from fun v hv => by have h8 := HI.out.sz v hv; omega)
      have HNW := Lib.hid (fun W (hb : Below wb.heap.size wb W) => HH.out W (hbb.trans (hb.mono hbb.size)))
      obtain ⟨sv, hsv⟩ : ∃ sv, sv = rst id L := ⟨_, rfl⟩
      obtain ⟨lv, hlv⟩ : ∃ lv, lv = rleft id L := ⟨_, rfl⟩
      have QS := Lib.hid (fun W (hb : Below wb.heap.size wb W) => (show Calls Try.prog 30 #[.pointer (some ⟨n, 0, none⟩), .int .i64 id] W fun e w' => e = .returned (.int .i64 sv) ∧ W = w' from by
        have h9 := state_any (HNW.out W hb).1 id
        rw [state_ok, ← hsv] at h9
        exact h9))
      have RS := Lib.hid (fun W (hb : Below wb.heap.size wb W) => (show Calls Try.prog 45 #[.pointer (some ⟨r, 0, none⟩), .int .i64 id] W fun e w' => e = .returned (.int .i64 sv) ∧ W = w' from by
        rw [hsv]
        exact rstate_any (HNW.out W hb).2.1 id (by omega)))
      have QL := Lib.hid (fun W (hb : Below wb.heap.size wb W) => (show Calls Try.prog 13 #[.pointer (some ⟨n, 0, none⟩), .int .i64 id] W fun e w' => e = .returned (.int .i64 lv) ∧ W = w' from by
        have h9 := left_any (HNW.out W hb).1 id
        rw [left_ok id (fun v hv => (HSB.out v hv).2), ← hlv] at h9
        exact h9))
      have RL := Lib.hid (fun W (hb : Below wb.heap.size wb W) => (show Calls Try.prog 46 #[.pointer (some ⟨r, 0, none⟩), .int .i64 id] W fun e w' => e = .returned (.int .i64 lv) ∧ ∃ k, w' = W.drewN k from by
        rw [hlv]
        exact rleft_any (HNW.out W hb).2.1 id (by omega) HSB.out))
      have RT := Lib.hid (fun W (hb : Below wb.heap.size wb W) => (show Calls Try.prog 47 #[.pointer (some ⟨r, 0, none⟩), .int .i64 id] W fun e w' => BytesTo bb e w' ∧ Below W.heap.size W w' from by
        rw [hbbq]
        exact rsent_any (HNW.out W hb).2.1 id (by omega)))
      have hq1 : (sv != sv) = false := by simp
      have hq2 : (lv != lv) = false := by simp
      clear hbuf hbz hsr hso hbb hbbq hsv hlv HSN
      go_wp2_with fail
      refine wp_region_noPanic ?_
      refine wp_region_held_drew (S := (fun w' => Below wb.heap.size wb w')) (by kernel_rfl) ?_ (fun hHeld => ?_)
      · exact drew_below _
      refine wpAnyH_take (i := 0) (oi := _) (v := ?_) rfl (by kernel_rfl) (by kernel_rfl) (by kernel_rfl) (fun _ _ _ h => h) (Or.inl ⟨by rfl, ?_⟩) (by assumption) ?_
      rotate_left 1
      · (intro w hSw; (try dsimp only at hSw); go_simp; (try with_reducible rfl))
      try simp only [Act.put, List.getElem_toArray, List.getElem_cons_zero, List.setIfInBounds_toArray, List.set_cons_zero, List.set_cons_succ]
      refine wpAnyH_take (i := 1) (oi := _) (v := ?_) rfl (by kernel_rfl) (by kernel_rfl) (by kernel_rfl) (fun _ _ _ h => h) (Or.inl ⟨by rfl, ?_⟩) (by assumption) ?_
      rotate_left 1
      · (intro w hSw; (try dsimp only at hSw); go_simp; (try with_reducible rfl))
      try simp only [Act.put, List.getElem_toArray, List.getElem_cons_succ, List.getElem_cons_zero, List.setIfInBounds_toArray, List.set_cons_zero, List.set_cons_succ]
      refine wpAnyH_take (i := 3) (oi := _) (v := ?_) rfl (by kernel_rfl) (by kernel_rfl) (by kernel_rfl) (fun _ _ _ h => h) (Or.inl ⟨by rfl, ?_⟩) (by assumption) ?_
      rotate_left 1
      · (intro w hSw; (try dsimp only at hSw); (have q := keepc hSw K0.out; go_simp); (try with_reducible rfl))
      try simp only [Act.put, List.getElem_toArray, List.getElem_cons_succ, List.getElem_cons_zero, List.setIfInBounds_toArray, List.set_cons_zero, List.set_cons_succ]
      refine wpAnyH_take (i := 4) (oi := _) (v := ?_) rfl (by kernel_rfl) (by kernel_rfl) (by kernel_rfl) (fun _ _ _ h => h) (Or.inl ⟨by rfl, ?_⟩) (by assumption) ?_
      rotate_left 1
      · (intro w hSw; (try dsimp only at hSw); go_simp; (try with_reducible rfl))
      try simp only [Act.put, List.getElem_toArray, List.getElem_cons_succ, List.getElem_cons_zero, List.setIfInBounds_toArray, List.set_cons_zero, List.set_cons_succ]
      refine wpAnyH_ready (rs := [2]) (by kernel_rfl) (by simp) ?_
      refine AllReadyH.cons (o := _) rfl (fun K hK => ?_) AllReadyH.nil
      go_simp
      refine (QS.out _ hHeld).mono ?_
      rintro e wc ⟨rfl, rfl⟩
      go_wp2_with fail
      refine hK.out _ _ ?_ (fun hHeld2 => ?_)
      · exact hHeld
      clear hK K
      try simp only [Act.put, List.getElem_toArray, List.getElem_cons_succ, List.getElem_cons_zero, List.setIfInBounds_toArray, List.set_cons_zero, List.set_cons_succ]
      refine wpAnyH_ready (rs := [5]) (by kernel_rfl) (by simp) ?_
      refine AllReadyH.cons (o := _) rfl (fun K hK => ?_) AllReadyH.nil
      go_simp
      refine (RS.out _ hHeld).mono ?_
      rintro e wc ⟨rfl, rfl⟩
      go_wp2_with fail
      refine hK.out _ _ ?_ (fun hHeld5 => ?_)
      · exact hHeld
      clear hK K
      try simp only [Act.put, List.getElem_toArray, List.getElem_cons_succ, List.getElem_cons_zero, List.setIfInBounds_toArray, List.set_cons_zero, List.set_cons_succ]
      refine wpAnyH_take (i := 6) (oi := _) (v := ?_) rfl (by kernel_rfl) (by kernel_rfl) (by kernel_rfl) (fun _ _ _ h => h) (Or.inl ⟨by rfl, ?_⟩) (by assumption) ?_
      rotate_left 1
      · (intro w hSw; (try dsimp only at hSw); go_simp; (try with_reducible rfl))
      try simp only [Act.put, List.getElem_toArray, List.getElem_cons_succ, List.getElem_cons_zero, List.setIfInBounds_toArray, List.set_cons_zero, List.set_cons_succ]
      refine wpAnyH_take (i := 7) (oi := _) (v := ?_) rfl (by kernel_rfl) (by kernel_rfl) (by kernel_rfl) (fun _ _ _ h => h) (Or.inl ⟨by rfl, ?_⟩) (by assumption) ?_
      rotate_left 1
      · (intro w hSw; (try dsimp only at hSw); go_simp; (try with_reducible rfl))
      try simp only [Act.put, List.getElem_toArray, List.getElem_cons_succ, List.getElem_cons_zero, List.setIfInBounds_toArray, List.set_cons_zero, List.set_cons_succ]
      refine wpAnyH_take (i := 8) (oi := _) (v := ?_) rfl (by kernel_rfl) (by kernel_rfl) (by kernel_rfl) (fun _ _ _ h => h) (Or.inl ⟨by rfl, ?_⟩) (by assumption) ?_
      rotate_left 1
      · (intro w hSw; (try dsimp only at hSw); go_simp; (try with_reducible rfl))
      try simp only [Act.put, List.getElem_toArray, List.getElem_cons_succ, List.getElem_cons_zero, List.setIfInBounds_toArray, List.set_cons_zero, List.set_cons_succ]
      refine wpAnyH_take (i := 9) (oi := _) (v := ?_) rfl (by kernel_rfl) (by kernel_rfl) (by kernel_rfl) (fun _ _ _ h => h) (Or.inl ⟨by rfl, ?_⟩) (by assumption) ?_
      rotate_left 1
      · (intro w hSw; (try dsimp only at hSw); go_simp; (try with_reducible rfl))
      try simp only [Act.put, List.getElem_toArray, List.getElem_cons_succ, List.getElem_cons_zero, List.setIfInBounds_toArray, List.set_cons_zero, List.set_cons_succ]
      refine wpAnyH_take (i := 11) (oi := _) (v := ?_) rfl (by kernel_rfl) (by kernel_rfl) (by kernel_rfl) (fun _ _ _ h => h) (Or.inl ⟨by rfl, ?_⟩) (by assumption) ?_
      rotate_left 1
      · (intro w hSw; (try dsimp only at hSw); (have q := keepc hSw K0.out; go_simp); (try with_reducible rfl))
      try simp only [Act.put, List.getElem_toArray, List.getElem_cons_succ, List.getElem_cons_zero, List.setIfInBounds_toArray, List.set_cons_zero, List.set_cons_succ]
      refine wpAnyH_take (i := 12) (oi := _) (v := ?_) rfl (by kernel_rfl) (by kernel_rfl) (by kernel_rfl) (fun _ _ _ h => h) (Or.inl ⟨by rfl, ?_⟩) (by assumption) ?_
      rotate_left 1
      · (intro w hSw; (try dsimp only at hSw); go_simp; (try with_reducible rfl))
      try simp only [Act.put, List.getElem_toArray, List.getElem_cons_succ, List.getElem_cons_zero, List.setIfInBounds_toArray, List.set_cons_zero, List.set_cons_succ]
      refine wpAnyH_ready (rs := [10]) (by kernel_rfl) (by simp) ?_
      refine AllReadyH.cons (o := _) rfl (fun K hK => ?_) AllReadyH.nil
      go_simp
      refine (QL.out _ hHeld).mono ?_
      rintro e wc ⟨rfl, rfl⟩
      go_wp2_with fail
      refine hK.out _ _ ?_ (fun hHeld10 => ?_)
      · exact hHeld
      clear hK K
      try simp only [Act.put, List.getElem_toArray, List.getElem_cons_succ, List.getElem_cons_zero, List.setIfInBounds_toArray, List.set_cons_zero, List.set_cons_succ]
      refine wpAnyH_ready (rs := [13]) (by kernel_rfl) (by simp) ?_
      refine AllReadyH.cons (o := _) rfl (fun K hK => ?_) AllReadyH.nil
      go_simp
      refine (RL.out _ hHeld).mono ?_
      rintro e wc ⟨rfl, k7, rfl⟩
      go_wp2_with fail
      refine hK.out _ _ ?_ (fun hHeld13 => ?_)
      · exact below_drewN (Below.refl _ wb) _
      clear hK K
      try simp only [Act.put, List.getElem_toArray, List.getElem_cons_succ, List.getElem_cons_zero, List.setIfInBounds_toArray, List.set_cons_zero, List.set_cons_succ]
      refine wpAnyH_take (i := 14) (oi := _) (v := ?_) rfl (by kernel_rfl) (by kernel_rfl) (by kernel_rfl) (fun _ _ _ h => h) (Or.inl ⟨by rfl, ?_⟩) (by assumption) ?_
      rotate_left 1
      · (intro w hSw; (try dsimp only at hSw); go_simp; (try with_reducible rfl))
      try simp only [Act.put, List.getElem_toArray, List.getElem_cons_succ, List.getElem_cons_zero, List.setIfInBounds_toArray, List.set_cons_zero, List.set_cons_succ]
      refine wpAnyH_take (i := 15) (oi := _) (v := ?_) rfl (by kernel_rfl) (by kernel_rfl) (by kernel_rfl) (fun _ _ _ h => h) (Or.inl ⟨by rfl, ?_⟩) (by assumption) ?_
      rotate_left 1
      · (intro w hSw; (try dsimp only at hSw); go_simp; (try with_reducible rfl))
      try simp only [Act.put, List.getElem_toArray, List.getElem_cons_succ, List.getElem_cons_zero, List.setIfInBounds_toArray, List.set_cons_zero, List.set_cons_succ]
      refine wpAnyH_take (i := 16) (oi := _) (v := ?_) rfl (by kernel_rfl) (by kernel_rfl) (by kernel_rfl) (fun _ _ _ h => h) (Or.inl ⟨by rfl, ?_⟩) (by assumption) ?_
      rotate_left 1
      · (intro w hSw; (try dsimp only at hSw); go_simp; (try with_reducible rfl))
      try simp only [Act.put, List.getElem_toArray, List.getElem_cons_succ, List.getElem_cons_zero, List.setIfInBounds_toArray, List.set_cons_zero, List.set_cons_succ]
      refine wpAnyH_take (i := 17) (oi := _) (v := ?_) rfl (by kernel_rfl) (by kernel_rfl) (by kernel_rfl) (fun _ _ _ h => h) (Or.inl ⟨by rfl, ?_⟩) (by assumption) ?_
      rotate_left 1
      · (intro w hSw; (try dsimp only at hSw); go_simp; (try with_reducible rfl))
      try simp only [Act.put, List.getElem_toArray, List.getElem_cons_succ, List.getElem_cons_zero, List.setIfInBounds_toArray, List.set_cons_zero, List.set_cons_succ]
      refine wpAnyH_take (i := 18) (oi := _) (v := ?_) rfl (by kernel_rfl) (by kernel_rfl) (by kernel_rfl) (fun _ _ _ h => h) (Or.inl ⟨by rfl, ?_⟩) (by assumption) ?_
      rotate_left 1
      · (intro w hSw; (try dsimp only at hSw); (have q := run_bytes_string (P := Try.prog) w 22 9 5 Try.underlying22 Try.underlying5 Try.underlying9 sa sc bb (HSR.out.below hSw (Nat.le_refl _)); go_simp); (try with_reducible rfl))
      try simp only [Act.put, List.getElem_toArray, List.getElem_cons_succ, List.getElem_cons_zero, List.setIfInBounds_toArray, List.set_cons_zero, List.set_cons_succ]
      refine wpAnyH_take (i := 19) (oi := _) (v := ?_) rfl (by kernel_rfl) (by kernel_rfl) (by kernel_rfl) (fun _ _ _ h => h) (Or.inl ⟨by rfl, ?_⟩) (by assumption) ?_
      rotate_left 1
      · (intro w hSw; (try dsimp only at hSw); (have q := keepc hSw K0.out; go_simp); (try with_reducible rfl))
      try simp only [Act.put, List.getElem_toArray, List.getElem_cons_succ, List.getElem_cons_zero, List.setIfInBounds_toArray, List.set_cons_zero, List.set_cons_succ]
      refine wpAnyH_take (i := 20) (oi := _) (v := ?_) rfl (by kernel_rfl) (by kernel_rfl) (by kernel_rfl) (fun _ _ _ h => h) (Or.inl ⟨by rfl, ?_⟩) (by assumption) ?_
      rotate_left 1
      · (intro w hSw; (try dsimp only at hSw); go_simp; (try with_reducible rfl))
      try simp only [Act.put, List.getElem_toArray, List.getElem_cons_succ, List.getElem_cons_zero, List.setIfInBounds_toArray, List.set_cons_zero, List.set_cons_succ]
      refine wpAnyH_ready (rs := [21]) (by kernel_rfl) (by simp) ?_
      refine AllReadyH.cons (o := _) rfl (fun K hK => ?_) AllReadyH.nil
      go_simp
      refine (RT.out _ hHeld13).mono ?_
      rintro e wc ⟨⟨ta, tc, rfl, htr⟩, htb⟩
      have hH3 := hHeld13.trans (htb.mono hHeld13.size)
      go_wp2_with fail
      refine hK.out _ _ ?_ (fun hHeld21 => ?_)
      · exact hH3
      clear hK K
      try simp only [Act.put, List.getElem_toArray, List.getElem_cons_succ, List.getElem_cons_zero, List.setIfInBounds_toArray, List.set_cons_zero, List.set_cons_succ]
      refine wpAnyH_ready (rs := [22]) (by kernel_rfl) (by simp) ?_
      refine AllReadyH.cons (o := _) rfl (fun K hK => ?_) AllReadyH.nil
      have q := run_bytes_string (P := Try.prog) wc 22 9 5 Try.underlying22 Try.underlying5 Try.underlying9 ta tc bb htr
      go_simp
      refine hK.out _ _ ?_ (fun hHeld22 => ?_)
      · exact hH3
      clear hK K
      try simp only [Act.put, List.getElem_toArray, List.getElem_cons_succ, List.getElem_cons_zero, List.setIfInBounds_toArray, List.set_cons_zero, List.set_cons_succ]
      refine wpAnyH_take (i := 23) (oi := _) (v := ?_) rfl (by kernel_rfl) (by kernel_rfl) (by kernel_rfl) (fun _ _ _ h => h) (Or.inl ⟨by rfl, ?_⟩) (by assumption) ?_
      rotate_left 1
      · (intro w hSw; (try dsimp only at hSw); go_simp; (try with_reducible rfl))
      try simp only [Act.put, List.getElem_toArray, List.getElem_cons_succ, List.getElem_cons_zero, List.setIfInBounds_toArray, List.set_cons_zero, List.set_cons_succ]
      refine wpAnyH_take (i := 24) (oi := _) (v := ?_) rfl (by kernel_rfl) (by kernel_rfl) (by kernel_rfl) (fun _ _ _ h => h) (Or.inl ⟨by rfl, ?_⟩) (by assumption) ?_
      rotate_left 1
      · (intro w hSw; (try dsimp only at hSw); go_simp; (try with_reducible rfl))
      try simp only [Act.put, List.getElem_toArray, List.getElem_cons_succ, List.getElem_cons_zero, List.setIfInBounds_toArray, List.set_cons_zero, List.set_cons_succ]
      refine wpAnyH_done (by kernel_rfl) ?_ _
      refine NoPanic.normal ?_
      have HWC := Lib.hid hHeld22
      have HTI := Lib.hid (show TailI sa bb.length wz.heap.size wb.heap.size wc wc from by
        rcases HRB.out with h0 | ⟨g, e, hrow, hg⟩
        · exact .inl ⟨h0, rfl⟩
        · by_cases h0 : bb.length = 0
          · exact .inl ⟨h0, rfl⟩
          · have hgl : g < wb.heap.size := by
              obtain ⟨x, hx⟩ := hrow.1 0 (by omega)
              exact World.block_lt_of_cell? wb _ hx
            exact .inr ⟨g, e, hrow.only (Only.of_new (F := fun _ => False) hHeld22) hgl (fun h => h), Only.refl _ _, hg, hgl⟩)
      clear hHeld hHeld2 hHeld5 hHeld10 hHeld13 hHeld21 hHeld22 hH3 hq1 hq2 htr htb HRB
      go_wp2_with fail
      go_loopw [9] (fun iv wr => ∃ q : Nat, iv = .int .i64 q ∧ q ≤ bb.length ∧ TailI sa bb.length wz.heap.size wb.heap.size wc wr) (fun iv _ => bb.length - (intOf iv).toNat)
      case atStart => exact ⟨0, rfl, Nat.zero_le _, HTI.out⟩
      case round =>
        obtain ⟨q, rfl, hq, hti⟩ := hrel
        obtain ⟨wy, hwy⟩ : ∃ wy, wy = wr := ⟨_, rfl⟩
        subst hwy
        by_cases hc2 : q < bb.length
        · rcases hti with ⟨h0, -⟩ | ⟨g, rfl, hrow, hon, hg1, hg2⟩
          · omega
          · obtain ⟨x, hx⟩ := hrow.1 q hc2
            have hfz := hrow.2 q
            have HROW := Lib.hid hrow
            have HON := Lib.hid hon
            clear hrow hon HTI
            go_wp2
            go_roundw
            case rel => exact ⟨q + 1, by go_num, by omega, .inr ⟨g, rfl, HROW.out.set q _, HON.out.setCell _ _ (fun _ => rfl), hg1, hg2⟩⟩
            case measure => simp [intOf]; omega
        · have HX := Lib.hid (show Below W3.heap.size W3 wy from by
            have h1 := (HBR.out.trans (HBZ.out.mono HBR.out.size)).trans (HWC.out.mono (Nat.le_trans HBR.out.size HBZ.out.size))
            rcases hti with ⟨-, e⟩ | ⟨g, -, -, hon, hg1, -⟩
            · rw [e]; exact h1
            · exact h1.trans (hon.below h1.size (fun k e => by have := HBR.out.size; rw [e]; omega)))
          clear hti
          go_wp2
          go_roundw
          case rel => exact ⟨j + 1, by have := HID.out; go_num, by have := HID.out; omega, HX.out⟩
          case measure => have := HID.out; simp [intOf]; omega
    · have HAL := Lib.hid (all_nw (HH.out _ HBW.out) HI.out)
      go_wp2_with fail
      clear k0 k2
      refine HAL.out.mono ?_
      rintro e w6 ⟨Bh, Mh, kvs, rfl, hMh, hBh, hBc, hMp, hperm, hb6⟩
      have hb06 : Below w.heap.size w w6 := HBW.out.trans (hb6.mono HBW.out.size)
      have hb36 : Below W3.heap.size W3 w6 := HBR.out.trans (hb6.mono HBR.out.size)
      have HB := Lib.hid hb06
      have K0 := Lib.hid (keeph hb36 B0.out)
      have K1 := Lib.hid (keeph hb36 B1.out)
      have K2 := Lib.hid (keeph hb36 B2.out)
      have HBC := Lib.hid hBc
      have HMP := Lib.hid hMp
      have HPM := Lib.hid hperm
      have HSZ := Lib.hid (show w.heap.size + 2 < w6.heap.size ∧ w.heap.size ≤ Mh ∧ w.heap.size ≤ Bh ∧ Bh < w6.heap.size ∧ Mh < w6.heap.size ∧ w.heap.size + 2 < Bh ∧ w.heap.size + 2 < Mh from by
        have h1 := (Array.getElem?_eq_some_iff.1 B2.out).1
        have h2 := HBR.out.size
        have h3 := hb6.size
        have h4 := (Array.getElem?_eq_some_iff.1 hBc).1
        have h5 := hMp.lt
        omega)
      have HIDS := Lib.hid (nw_ids HI.out hm)
      have HLL := Lib.hid (show L.length ≤ 100000 from by omega)
      have k0 : w6.cell? ⟨w.heap.size, 0, none⟩ = some (.pointer (some ⟨r, 0, none⟩)) := by rw [cell_of_row _ _ _ _ _ _ K0.out]; rfl
      obtain ⟨ra6, rc6, hbx6, -⟩ := (HH.out _ hb06).2.1.shape
      have kr : w6.cell? ⟨r, 0, none⟩ = some (.slice ra6 L.length rc6) := by rw [cell_of_row _ _ _ _ _ _ hbx6]; rfl
      have QN := Lib.hid (fun k => (show Calls Try.prog 29 #[.pointer (some ⟨n, 0, none⟩)] (w6.drewN k) fun e w' => e = .returned (.int .i64 (L.length : Int)) ∧ w' = w6.drewN k from by
        have h9 := len_any (HH.out _ (below_drewN HB.out k)).1
        rw [List.length_map] at h9
        exact h9.mono fun _ _ ⟨h1, h2⟩ => ⟨h1, h2.symm⟩))
      have hne := fun W => all_not_nil W (.pointer (some ⟨Bh, 0, none⟩))
      clear hBc hMp hperm hb06 hb36 hb6 hbx6 HAL HBR HBW B0 B1 B2 HB3 hMh hBh
      go_wp2_with fail
      go_quiet ((go_at_call 29; exact Calls.quiet_of_same (QN.out _)))
      obtain ⟨w5, hw5⟩ : ∃ W, W = w6.drewN nq := ⟨_, rfl⟩
      rw [← hw5]
      have HB := Lib.hid (show Below w.heap.size w w5 by rw [hw5]; exact below_drewN HB.out _)
      have K0 := Lib.hid (show w5.heap[w.heap.size]? = some (.cells #[.pointer (some ⟨r, 0, none⟩)] 37 (0, 0)) by rw [hw5]; exact K0.out)
      have K1 := Lib.hid (show w5.heap[w.heap.size + 1]? = some (.cells #[.int .i64 leave] 3 (0, 0)) by rw [hw5]; exact K1.out)
      have K2 := Lib.hid (show w5.heap[w.heap.size + 2]? = some (.cells #[.bool false] 4 (0, 0)) by rw [hw5]; exact K2.out)
      have HBC := Lib.hid (show w5.heap[Bh]? = some (.cells #[.map (some Mh)] 75 (0, 0)) by rw [hw5]; exact HBC.out)
      have HMP := Lib.hid (show MapAt iEnc w5 Mh kvs by rw [hw5]; exact HMP.out.drewN _)
      have HSZ := Lib.hid (show w.heap.size + 2 < w5.heap.size ∧ w.heap.size ≤ Mh ∧ w.heap.size ≤ Bh ∧ Bh < w5.heap.size ∧ Mh < w5.heap.size ∧ w.heap.size + 2 < Bh ∧ w.heap.size + 2 < Mh from by rw [hw5]; exact HSZ.out)
      clear hne QN kr k0 hw5
      go_wp2_with fail
      refine wp_loop_rounds 3 ?_
      rw [rounds_succ]
      go_wp2_with fail
      obtain ⟨W7, hW7⟩ : ∃ W7, W7 = (w5.alloc (.cells #[.int .i64 0] 3)).alloc (.cells #[.int .i64 0] 3) := ⟨_, rfl⟩
      have hb67 : Below w5.heap.size w5 W7 := by rw [hW7]; exact ((Below.refl _ _).alloc (Nat.le_refl _) _).alloc (by simp) _
      have PT := Lib.hid (show W7.heap[w5.heap.size]? = some (.cells #[.int .i64 0] 3 (0, 0)) by rw [hW7]; exact (Below.heap_alloc _ _ _ (by simp)).trans (heap_alloc_new w5 _))
      have PK := Lib.hid (show W7.heap[w5.heap.size + 1]? = some (.cells #[.int .i64 0] 3 (0, 0)) by rw [hW7]; have h := heap_alloc_new (w5.alloc (.cells #[.int .i64 0] 3)) (.cells #[.int .i64 0] 3); rw [World.size_alloc] at h; exact h)
      have S7 := Lib.hid (show W7.heap.size = w5.heap.size + 2 by rw [hW7]; simp)
      rw [← hW7]
      clear hW7
      have B67 := Lib.hid hb67
      clear hb67
      have PR := Lib.hid (keeph B67.out K2.out)
      have HBA := Lib.hid (HB.out.trans (B67.out.mono HB.out.size))
      have PW := Lib.hid (keeph B67.out K0.out)
      have PM := Lib.hid (keeph B67.out K1.out)
      have HLT := Lib.hid (show w5.heap.size + 1 < W7.heap.size by have := S7.out; omega)
      have HKT := Lib.hid (show w5.heap.size ≠ w5.heap.size + 1 by omega)
      have HKW := Lib.hid (show w.heap.size ≠ w5.heap.size + 1 by have := HB.out.size; omega)
      have HKM := Lib.hid (show w.heap.size + 1 ≠ w5.heap.size + 1 by have := HSZ.out; omega)
      have HKB := Lib.hid (show w5.heap.size + 1 ≠ Bh ∧ w5.heap.size + 1 ≠ Mh by have := HSZ.out; omega)
      have HCC := Lib.hid (keeph B67.out HBC.out)
      have HMM := Lib.hid (HMP.out.only (F := fun _ => False) (Only.of_new B67.out) (fun h => h))
      have HRW := Lib.hid (fun W (ho : Only (· = w5.heap.size + 1) W7 W) => HH.out W ((HB.out.trans (B67.out.mono HB.out.size)).trans (ho.below (Nat.le_trans HB.out.size B67.out.size) (fun k e => by have e : k = w5.heap.size + 1 := e; have := HB.out.size; omega))))
      refine wp_rangeFunc_pairs_c (kvs := kvs) (L := L.map RC.ih) rfl HCC.out HMM.out HPM.out HIDS.out.1 HIDS.out.2.1 HIDS.out.2.2
        (sameI W7 (w5.heap.size + 1)) (sameC 0 leave L.length) (fun k => rnd_inv HLT.out _) ⟨Only.refl _ _, PK.out⟩ 13 14 ?assign ?body ?done
      case assign =>
        intro l x y W K hK
        gi_wp2
        simpa using hK
      case body =>
        intro l k x y W hkf hl hi
        simp only [List.setIfInBounds_toArray, List.set_cons_succ, List.set_cons_zero]
        exact same_body (n := n) (B := 0) HLL.out leave 0 HKT.out HKW.out HKM.out HKB.out.1 HKB.out.2 HLT.out PW.out PM.out PT.out l k x y W hkf hi (HRW.out W hi.1).2.1 _ _ _ _ _ _ _ _ _ _ _ _ _ _ _ _ _ _ _ _ _ _ _ _ _ _ _ _ _ _ _ _ _ _ _ _ _ _ _ _ _ _ _ _ _ _ _ _ _ _ _ _ _ _ _ _ _ _ _ _ _ _ _ _ _ _ _ _ _ _ _ _ _ _ _ _ _ _ _ _ _ _ _ _ _ _ _ _ _ _ _ _ _ _ _ _ _ _ _ _ _ _ _ _ _ _ _ _ _ _ _ _ _ _ _ _ _ _ _ _ _ _ _ _ _ _ _ _ _ _ _ _ _ _ _
      case done =>
        rintro D1 k0 W8 hD1 ⟨ho8, hk8⟩ hkc hK1
        rw [List.length_map] at hkc
        have kc8 : W8.cell? ⟨w5.heap.size + 1, 0, none⟩ = some (.int .i64 k0) := by rw [cell_of_row _ _ _ _ _ _ hk8]; rfl
        have wc8 : W8.cell? ⟨w.heap.size, 0, none⟩ = some (.pointer (some ⟨r, 0, none⟩)) := by rw [cell_of_row _ _ _ _ _ _ (ho8.heap PW.out HKW.out)]; rfl
        have mc8 : W8.cell? ⟨w.heap.size + 1, 0, none⟩ = some (.int .i64 leave) := by rw [cell_of_row _ _ _ _ _ _ (ho8.heap PM.out HKM.out)]; rfl
        have tc8 : W8.cell? ⟨w5.heap.size, 0, none⟩ = some (.int .i64 0) := by rw [cell_of_row _ _ _ _ _ _ (ho8.heap PT.out HKT.out)]; rfl
        have tz8 : W8.frozen? ⟨w5.heap.size, 0, none⟩ = false := frozen_of_row W8 _ 0 _ _ (ho8.heap PT.out HKT.out)
        obtain ⟨ra8, rc8, hbx8, -⟩ := (HRW.out W8 ho8).2.1.shape
        have kr8 : W8.cell? ⟨r, 0, none⟩ = some (.slice ra8 L.length rc8) := by rw [cell_of_row _ _ _ _ _ _ hbx8]; rfl
        have HO8 := Lib.hid ho8
        have HK8 := Lib.hid hk8
        have HD1 := Lib.hid hK1
        have hfl : L.length ≤ 1000000 := by omega
        clear ho8 hk8 hK1 hbx8
        by_cases hkn : k0 = L.length
        · subst hkn
          go_wp2_with fail
          go_quiet (fail)
          obtain ⟨W9, hW9⟩ : ∃ W9, W9 = W8.drewN nq := ⟨_, rfl⟩
          rw [← hW9]
          have tc9 : W9.cell? ⟨w5.heap.size, 0, none⟩ = some (.int .i64 0) := by rw [hW9]; exact tc8
          have tz9 : W9.frozen? ⟨w5.heap.size, 0, none⟩ = false := by rw [hW9]; exact tz8
          have tl9 := World.block_lt_of_cell? W9 _ tc9
          simp only at tl9
          have HO9 := Lib.hid (show Only (· = w5.heap.size + 1) W7 W9 by rw [hW9]; exact HO8.out.drewN nq)
          have HD9 := Lib.hid (show W9.heap[D1]? = some (.deferred (some [])) by rw [hW9]; exact HD1.out)
          clear kc8 wc8 mc8 tc8 tz8 HO8 HD1 HK8 hW9 kr8
          go_wp2_with fail
          rw [rounds_succ]
          go_wp2_with fail
          obtain ⟨W10, hW10⟩ : ∃ W10, W10 = (W9.alloc (.cells #[.int .i64 1] 3)).alloc (.cells #[.int .i64 0] 3) := ⟨_, rfl⟩
          have hb10 : Below W9.heap.size W9 W10 := by rw [hW10]; exact ((Below.refl _ _).alloc (Nat.le_refl _) _).alloc (by simp) _
          have PTn := Lib.hid (show W10.heap[W9.heap.size]? = some (.cells #[.int .i64 1] 3 (0, 0)) by rw [hW10]; exact (Below.heap_alloc _ _ _ (by simp)).trans (heap_alloc_new W9 _))
          have PKn := Lib.hid (show W10.heap[W9.heap.size + 1]? = some (.cells #[.int .i64 0] 3 (0, 0)) by rw [hW10]; have h := heap_alloc_new (W9.alloc (.cells #[.int .i64 1] 3)) (.cells #[.int .i64 0] 3); rw [World.size_alloc] at h; exact h)
          have S10 := Lib.hid (show W10.heap.size = W9.heap.size + 2 by rw [hW10]; simp)
          rw [← hW10]
          clear hW10
          have PWn := Lib.hid (keeph hb10 (HO9.out.heap PW.out HKW.out))
          have PMn := Lib.hid (keeph hb10 (HO9.out.heap PM.out HKM.out))
          have PRn := Lib.hid (keeph hb10 (HO9.out.heap PR.out (fun e => by have e : w.heap.size + 2 = w5.heap.size + 1 := e; have := HSZ.out; omega)))
          have HDn := Lib.hid (keeph hb10 HD9.out)
          have hdl : D1 < W9.heap.size := (Array.getElem?_eq_some_iff.1 HD9.out).1
          have HCCn := Lib.hid (keeph hb10 (HO9.out.heap HCC.out (fun e => HKB.out.1 e.symm)))
          have HMMn := Lib.hid ((HMM.out.only HO9.out (fun e => HKB.out.2 e.symm)).only (F := fun _ => False) (Only.of_new hb10) (fun h => h))
          have h79 : W7.heap.size ≤ W9.heap.size := HO9.out.size
          have h67 : w5.heap.size ≤ W7.heap.size := B67.out.size
          have HBAn := Lib.hid ((HBA.out.trans (HO9.out.below HBA.out.size (fun k e => by have e : k = w5.heap.size + 1 := e; have := HSZ.out; omega))).trans (hb10.mono (by have := HSZ.out; omega)))
          have HRWn := Lib.hid (fun W (ho : Only (· = W9.heap.size + 1) W10 W) => HH.out W (HBAn.out.trans (ho.below HBAn.out.size (fun k e => by have e : k = W9.heap.size + 1 := e; have := HSZ.out; omega))))
          have HLTn := Lib.hid (show W9.heap.size + 1 < W10.heap.size by have := S10.out; omega)
          have HKTn := Lib.hid (show W9.heap.size ≠ W9.heap.size + 1 by omega)
          have HKWn := Lib.hid (show w.heap.size ≠ W9.heap.size + 1 by have := HSZ.out; omega)
          have HKMn := Lib.hid (show w.heap.size + 1 ≠ W9.heap.size + 1 by have := HSZ.out; omega)
          have HKRn := Lib.hid (show w.heap.size + 2 ≠ W9.heap.size + 1 by have := HSZ.out; omega)
          have HKBn := Lib.hid (show W9.heap.size + 1 ≠ Bh ∧ W9.heap.size + 1 ≠ Mh by have := HSZ.out; omega)
          have HKDn := Lib.hid (show D1 ≠ W9.heap.size + 1 by omega)
          have HDl := Lib.hid hdl
          have HD1R := Lib.hid (show D1 ≠ w.heap.size + 2 by have := HSZ.out; omega)
          have HD1W := Lib.hid (show w.heap.size ≤ D1 by have := HSZ.out; omega)
          have HWL := Lib.hid (show w.heap.size + 2 < W9.heap.size by have := HSZ.out; omega)
          clear PT PK PW PM PR HLT HKT HKW HKM HCC HMM HBA HRW HO9 HD9 tc9 tz9 tl9 hb10 hdl hkc
          refine wp_rangeFunc_pairs_c (kvs := kvs) (L := L.map RC.ih) rfl HCCn.out HMMn.out HPM.out HIDS.out.1 HIDS.out.2.1 HIDS.out.2.2
            (sameI W10 (W9.heap.size + 1)) (sameC 1 leave L.length) (fun k => rnd_inv HLTn.out _) ⟨Only.refl _ _, PKn.out⟩ 13 14 ?assign ?body ?done
          case assign =>
            intro l x y W K hK
            gi_wp2
            simpa using hK
          case body =>
            intro l k x y W hkf hl hi
            simp only [List.setIfInBounds_toArray, List.set_cons_succ, List.set_cons_zero]
            exact same_body (n := n) (B := 0) HLL.out leave 1 HKTn.out HKWn.out HKMn.out HKBn.out.1 HKBn.out.2 HLTn.out PWn.out PMn.out PTn.out l k x y W hkf hi (HRWn.out W hi.1).2.1 _ _ _ _ _ _ _ _ _ _ _ _ _ _ _ _ _ _ _ _ _ _ _ _ _ _ _ _ _ _ _ _ _ _ _ _ _ _ _ _ _ _ _ _ _ _ _ _ _ _ _ _ _ _ _ _ _ _ _ _ _ _ _ _ _ _ _ _ _ _ _ _ _ _ _ _ _ _ _ _ _ _ _ _ _ _ _ _ _ _ _ _ _ _ _ _ _ _ _ _ _ _ _ _ _ _ _ _ _ _ _ _ _ _ _ _ _ _ _ _ _ _ _ _ _ _ _ _ _ _ _ _ _ _ _
          case done =>
            rintro D2 k2 W11 hD2 ⟨ho11, hk11⟩ hkc2 hK2
            rw [List.length_map] at hkc2
            obtain rfl : k2 = L.length := hkc2.resolve_right (fun hc => by have h1 := hc.1; omega)
            have kc11 : W11.cell? ⟨W9.heap.size + 1, 0, none⟩ = some (.int .i64 L.length) := by rw [cell_of_row _ _ _ _ _ _ hk11]; rfl
            have wc11 : W11.cell? ⟨w.heap.size, 0, none⟩ = some (.pointer (some ⟨r, 0, none⟩)) := by rw [cell_of_row _ _ _ _ _ _ (ho11.heap PWn.out HKWn.out)]; rfl
            obtain ⟨ra11, rc11, hbx11, -⟩ := (HRWn.out W11 ho11).2.1.shape
            have kr11 : W11.cell? ⟨r, 0, none⟩ = some (.slice ra11 L.length rc11) := by rw [cell_of_row _ _ _ _ _ _ hbx11]; rfl
            have HO11 := Lib.hid ho11
            have HK2 := Lib.hid hK2
            clear ho11 hk11 hK2 hkc2 hbx11
            go_wp2_with fail
            go_quiet (fail)
            obtain ⟨W12, hW12⟩ : ∃ W12, W12 = W11.drewN nq := ⟨_, rfl⟩
            rw [← hW12]
            have HO12 := Lib.hid (show Only (· = W9.heap.size + 1) W10 W12 by rw [hW12]; exact HO11.out.drewN nq)
            have HE2 := Lib.hid (show W12.heap[D2]? = some (.deferred (some [])) by rw [hW12]; exact HK2.out)
            clear kc11 wc11 HO11 HK2 hW12 kr11
            have ht12 := HO12.out.heap PTn.out HKTn.out
            have tc12 : W12.cell? ⟨W9.heap.size, 0, none⟩ = some (.int .i64 1) := by rw [cell_of_row _ _ _ _ _ _ ht12]; rfl
            have tz12 : W12.frozen? ⟨W9.heap.size, 0, none⟩ = false := frozen_of_row W12 _ 0 _ _ ht12
            have tl12 := World.block_lt_of_cell? W12 _ tc12
            simp only at tl12
            have hr12 := HO12.out.heap PRn.out HKRn.out
            have rc12 : W12.cell? ⟨w.heap.size + 2, 0, none⟩ = some (.bool false) := by rw [cell_of_row _ _ _ _ _ _ hr12]; rfl
            have rz12 : W12.frozen? ⟨w.heap.size + 2, 0, none⟩ = false := frozen_of_row W12 _ 0 _ _ hr12
            have rl12 := World.block_lt_of_cell? W12 _ rc12
            simp only at rl12
            have HR12 := Lib.hid hr12
            have HE1 := Lib.hid (HO12.out.heap HDn.out HKDn.out)
            have HB12 := Lib.hid (HBAn.out.trans (HO12.out.below HBAn.out.size (fun k e => by have e : k = W9.heap.size + 1 := e; have := HWL.out; omega)))
            clear ht12 hr12
            go_wp2_with fail
            rw [rounds_succ]
            go_wp2_with fail
            obtain ⟨W13, hW13⟩ : ∃ W13, W13 = (W12.setCell ⟨w.heap.size + 1 + 1, 0, none⟩ (.bool true)).alloc (.cells #[.int .i64 2] 3) := ⟨_, rfl⟩
            rw [← hW13]
            have hd2 : D2 ≠ w.heap.size + 2 := by have h1 := S10.out; have h2 := HWL.out; omega
            have hd1 : D1 ≠ w.heap.size + 2 := HD1R.out
            have hD12 : D1 ≠ D2 := by have h1 := S10.out; have h2 := HDl.out; omega
            have h2 : W13.heap[D2]? = some (.deferred (some [])) := by rw [hW13]; exact keeph ((Below.refl _ _).alloc (Nat.le_refl _) _) ((Below.heap_setCell _ _ _ _ hd2).trans HE2.out)
            have h1 : W13.heap[D1]? = some (.deferred (some [])) := by rw [hW13]; exact keeph ((Below.refl _ _).alloc (Nat.le_refl _) _) ((Below.heap_setCell _ _ _ _ hd1).trans HE1.out)
            have h1' : (W13.putObj D2 (.deferred none)).heap[D1]? = some (.deferred (some [])) := (World.putObj_heap_other hD12).trans h1
            have hR : W13.heap[w.heap.size + 2]? = some (.cells #[.bool true] 4 (0, 0)) := by
              rw [hW13]
              refine keeph ((Below.refl _ _).alloc (Nat.le_refl _) _) ?_
              show (W12.setCell ⟨w.heap.size + 2, 0, none⟩ (.bool true)).heap[w.heap.size + 2]? = _
              rw [heap_setCell_same _ _ _ _ _ _ HR12.out]
              rfl
            have hR2 : ((W13.putObj D2 (.deferred none)).putObj D1 (.deferred none)).heap[w.heap.size + 2]? = some (.cells #[.bool true] 4 (0, 0)) := (World.putObj_heap_other (fun e => hd1 e.symm)).trans ((World.putObj_heap_other (fun e => hd2 e.symm)).trans hR)
            have hcR : ((W13.putObj D2 (.deferred none)).putObj D1 (.deferred none)).cell? ⟨w.heap.size + 1 + 1, 0, none⟩ = some (.bool true) := by
              rw [show w.heap.size + 1 + 1 = w.heap.size + 2 from rfl, cell_of_row _ _ _ _ _ _ hR2]
              rfl
            have hB13 : Below w.heap.size w W13 := by
              have h3 := HB12.out.setCell (p := ⟨w.heap.size + 2, 0, none⟩) (by simp) (.bool true)
              rw [hW13]
              exact h3.alloc h3.size _
            have hB14 := hB13.grown (grownBy_putObj' W13 D2 (.deferred none)) hB13.size (fun k e => by cases e; have h1 := S10.out; have h2 := HWL.out; omega)
            have hB15 := hB14.grown (grownBy_putObj' _ D1 (.deferred none)) hB14.size (fun k e => by cases e; exact HD1W.out)
            refine ⟨by simp, .inl ⟨_, _, rfl, run_takeDeferred h2, ⟨by simp, .inl ⟨_, _, rfl, run_takeDeferred h1', ?_⟩⟩⟩⟩
            refine ⟨.bool true, ?_, rfl, hB15⟩
            simp [results, Try.results22, go_sem, hcR]
        · obtain ⟨-, hmk, hk0n⟩ := hkc.resolve_left hkn
          subst hmk
          have hne : (k0 = L.length) = False := by rw [eq_iff_iff, iff_false]; exact hkn
          have hne1 : ((k0 : Int) == (L.length : Int)) = false := by rw [beq_eq_false_iff_ne]; omega
          have hne2 : ((k0 : Int) = (L.length : Int)) = False := by rw [eq_iff_iff, iff_false]; omega
          have hne3 : (k0 == L.length) = false := by rw [beq_eq_false_iff_ne]; exact hkn
          go_wp2_with fail
          go_quiet (fail)
          obtain ⟨W9, hW9⟩ : ∃ W9, W9 = W8.drewN nq := ⟨_, rfl⟩
          rw [← hW9]
          have tc9 : W9.cell? ⟨w5.heap.size, 0, none⟩ = some (.int .i64 0) := by rw [hW9]; exact tc8
          have tz9 : W9.frozen? ⟨w5.heap.size, 0, none⟩ = false := by rw [hW9]; exact tz8
          have tl9 := World.block_lt_of_cell? W9 _ tc9
          simp only at tl9
          have HO9 := Lib.hid (show Only (· = w5.heap.size + 1) W7 W9 by rw [hW9]; exact HO8.out.drewN nq)
          have HD9 := Lib.hid (show W9.heap[D1]? = some (.deferred (some [])) by rw [hW9]; exact HD1.out)
          clear kc8 wc8 mc8 tc8 tz8 HO8 HD1 HK8 hW9 kr8
          go_wp2_with fail
          rw [rounds_succ]
          go_wp2_with fail
          obtain ⟨W10, hW10⟩ : ∃ W10, W10 = (W9.alloc (.cells #[.int .i64 1] 3)).alloc (.cells #[.int .i64 0] 3) := ⟨_, rfl⟩
          have hb10 : Below W9.heap.size W9 W10 := by rw [hW10]; exact ((Below.refl _ _).alloc (Nat.le_refl _) _).alloc (by simp) _
          have PTn := Lib.hid (show W10.heap[W9.heap.size]? = some (.cells #[.int .i64 1] 3 (0, 0)) by rw [hW10]; exact (Below.heap_alloc _ _ _ (by simp)).trans (heap_alloc_new W9 _))
          have PKn := Lib.hid (show W10.heap[W9.heap.size + 1]? = some (.cells #[.int .i64 0] 3 (0, 0)) by rw [hW10]; have h := heap_alloc_new (W9.alloc (.cells #[.int .i64 1] 3)) (.cells #[.int .i64 0] 3); rw [World.size_alloc] at h; exact h)
          have S10 := Lib.hid (show W10.heap.size = W9.heap.size + 2 by rw [hW10]; simp)
          rw [← hW10]
          clear hW10
          have PWn := Lib.hid (keeph hb10 (HO9.out.heap PW.out HKW.out))
          have PMn := Lib.hid (keeph hb10 (HO9.out.heap PM.out HKM.out))
          have PRn := Lib.hid (keeph hb10 (HO9.out.heap PR.out (fun e => by have e : w.heap.size + 2 = w5.heap.size + 1 := e; have := HSZ.out; omega)))
          have HDn := Lib.hid (keeph hb10 HD9.out)
          have hdl : D1 < W9.heap.size := (Array.getElem?_eq_some_iff.1 HD9.out).1
          have HCCn := Lib.hid (keeph hb10 (HO9.out.heap HCC.out (fun e => HKB.out.1 e.symm)))
          have HMMn := Lib.hid ((HMM.out.only HO9.out (fun e => HKB.out.2 e.symm)).only (F := fun _ => False) (Only.of_new hb10) (fun h => h))
          have h79 : W7.heap.size ≤ W9.heap.size := HO9.out.size
          have h67 : w5.heap.size ≤ W7.heap.size := B67.out.size
          have HBAn := Lib.hid ((HBA.out.trans (HO9.out.below HBA.out.size (fun k e => by have e : k = w5.heap.size + 1 := e; have := HSZ.out; omega))).trans (hb10.mono (by have := HSZ.out; omega)))
          have HRWn := Lib.hid (fun W (ho : Only (· = W9.heap.size + 1) W10 W) => HH.out W (HBAn.out.trans (ho.below HBAn.out.size (fun k e => by have e : k = W9.heap.size + 1 := e; have := HSZ.out; omega))))
          have HLTn := Lib.hid (show W9.heap.size + 1 < W10.heap.size by have := S10.out; omega)
          have HKTn := Lib.hid (show W9.heap.size ≠ W9.heap.size + 1 by omega)
          have HKWn := Lib.hid (show w.heap.size ≠ W9.heap.size + 1 by have := HSZ.out; omega)
          have HKMn := Lib.hid (show w.heap.size + 1 ≠ W9.heap.size + 1 by have := HSZ.out; omega)
          have HKRn := Lib.hid (show w.heap.size + 2 ≠ W9.heap.size + 1 by have := HSZ.out; omega)
          have HKBn := Lib.hid (show W9.heap.size + 1 ≠ Bh ∧ W9.heap.size + 1 ≠ Mh by have := HSZ.out; omega)
          have HKDn := Lib.hid (show D1 ≠ W9.heap.size + 1 by omega)
          have HDl := Lib.hid hdl
          have HD1R := Lib.hid (show D1 ≠ w.heap.size + 2 by have := HSZ.out; omega)
          have HD1W := Lib.hid (show w.heap.size ≤ D1 by have := HSZ.out; omega)
          have HWL := Lib.hid (show w.heap.size + 2 < W9.heap.size by have := HSZ.out; omega)
          clear PT PK PW PM PR HLT HKT HKW HKM HCC HMM HBA HRW HO9 HD9 tc9 tz9 tl9 hb10 hdl hkc
          refine wp_rangeFunc_pairs_c (kvs := kvs) (L := L.map RC.ih) rfl HCCn.out HMMn.out HPM.out HIDS.out.1 HIDS.out.2.1 HIDS.out.2.2
            (sameI W10 (W9.heap.size + 1)) (sameC 1 k0 L.length) (fun k => rnd_inv HLTn.out _) ⟨Only.refl _ _, PKn.out⟩ 13 14 ?assign ?body ?done
          case assign =>
            intro l x y W K hK
            gi_wp2
            simpa using hK
          case body =>
            intro l k x y W hkf hl hi
            simp only [List.setIfInBounds_toArray, List.set_cons_succ, List.set_cons_zero]
            exact same_body (n := n) (B := 0) HLL.out k0 1 HKTn.out HKWn.out HKMn.out HKBn.out.1 HKBn.out.2 HLTn.out PWn.out PMn.out PTn.out l k x y W hkf hi (HRWn.out W hi.1).2.1 _ _ _ _ _ _ _ _ _ _ _ _ _ _ _ _ _ _ _ _ _ _ _ _ _ _ _ _ _ _ _ _ _ _ _ _ _ _ _ _ _ _ _ _ _ _ _ _ _ _ _ _ _ _ _ _ _ _ _ _ _ _ _ _ _ _ _ _ _ _ _ _ _ _ _ _ _ _ _ _ _ _ _ _ _ _ _ _ _ _ _ _ _ _ _ _ _ _ _ _ _ _ _ _ _ _ _ _ _ _ _ _ _ _ _ _ _ _ _ _ _ _ _ _ _ _ _ _ _ _ _ _ _ _ _
          case done =>
            rintro D2 k2 W11 hD2 ⟨ho11, hk11⟩ hkc2 hK2
            rw [List.length_map] at hkc2
            obtain rfl : k2 = L.length := hkc2.resolve_right (fun hc => by have h1 := hc.1; omega)
            have kc11 : W11.cell? ⟨W9.heap.size + 1, 0, none⟩ = some (.int .i64 L.length) := by rw [cell_of_row _ _ _ _ _ _ hk11]; rfl
            have wc11 : W11.cell? ⟨w.heap.size, 0, none⟩ = some (.pointer (some ⟨r, 0, none⟩)) := by rw [cell_of_row _ _ _ _ _ _ (ho11.heap PWn.out HKWn.out)]; rfl
            obtain ⟨ra11, rc11, hbx11, -⟩ := (HRWn.out W11 ho11).2.1.shape
            have kr11 : W11.cell? ⟨r, 0, none⟩ = some (.slice ra11 L.length rc11) := by rw [cell_of_row _ _ _ _ _ _ hbx11]; rfl
            have HO11 := Lib.hid ho11
            have HK2 := Lib.hid hK2
            clear ho11 hk11 hK2 hkc2 hbx11
            go_wp2_with fail
            go_quiet (fail)
            obtain ⟨W12, hW12⟩ : ∃ W12, W12 = W11.drewN nq := ⟨_, rfl⟩
            rw [← hW12]
            have HO12 := Lib.hid (show Only (· = W9.heap.size + 1) W10 W12 by rw [hW12]; exact HO11.out.drewN nq)
            have HE2 := Lib.hid (show W12.heap[D2]? = some (.deferred (some [])) by rw [hW12]; exact HK2.out)
            clear kc11 wc11 HO11 HK2 hW12 kr11
            have ht12 := HO12.out.heap PTn.out HKTn.out
            have tc12 : W12.cell? ⟨W9.heap.size, 0, none⟩ = some (.int .i64 1) := by rw [cell_of_row _ _ _ _ _ _ ht12]; rfl
            have tz12 : W12.frozen? ⟨W9.heap.size, 0, none⟩ = false := frozen_of_row W12 _ 0 _ _ ht12
            have tl12 := World.block_lt_of_cell? W12 _ tc12
            simp only at tl12
            have hr12 := HO12.out.heap PRn.out HKRn.out
            have rc12 : W12.cell? ⟨w.heap.size + 2, 0, none⟩ = some (.bool false) := by rw [cell_of_row _ _ _ _ _ _ hr12]; rfl
            have rz12 : W12.frozen? ⟨w.heap.size + 2, 0, none⟩ = false := frozen_of_row W12 _ 0 _ _ hr12
            have rl12 := World.block_lt_of_cell? W12 _ rc12
            simp only at rl12
            have HR12 := Lib.hid hr12
            have HE1 := Lib.hid (HO12.out.heap HDn.out HKDn.out)
            have HB12 := Lib.hid (HBAn.out.trans (HO12.out.below HBAn.out.size (fun k e => by have e : k = W9.heap.size + 1 := e; have := HWL.out; omega)))
            clear ht12 hr12
            go_wp2_with fail
            rw [rounds_succ]
            go_wp2_with fail
            obtain ⟨W13, hW13⟩ : ∃ W13, W13 = (W12.setCell ⟨w.heap.size + 1 + 1, 0, none⟩ (.bool true)).alloc (.cells #[.int .i64 2] 3) := ⟨_, rfl⟩
            rw [← hW13]
            have hd2 : D2 ≠ w.heap.size + 2 := by have h1 := S10.out; have h2 := HWL.out; omega
            have hd1 : D1 ≠ w.heap.size + 2 := HD1R.out
            have hD12 : D1 ≠ D2 := by have h1 := S10.out; have h2 := HDl.out; omega
            have h2 : W13.heap[D2]? = some (.deferred (some [])) := by rw [hW13]; exact keeph ((Below.refl _ _).alloc (Nat.le_refl _) _) ((Below.heap_setCell _ _ _ _ hd2).trans HE2.out)
            have h1 : W13.heap[D1]? = some (.deferred (some [])) := by rw [hW13]; exact keeph ((Below.refl _ _).alloc (Nat.le_refl _) _) ((Below.heap_setCell _ _ _ _ hd1).trans HE1.out)
            have h1' : (W13.putObj D2 (.deferred none)).heap[D1]? = some (.deferred (some [])) := (World.putObj_heap_other hD12).trans h1
            have hR : W13.heap[w.heap.size + 2]? = some (.cells #[.bool true] 4 (0, 0)) := by
              rw [hW13]
              refine keeph ((Below.refl _ _).alloc (Nat.le_refl _) _) ?_
              show (W12.setCell ⟨w.heap.size + 2, 0, none⟩ (.bool true)).heap[w.heap.size + 2]? = _
              rw [heap_setCell_same _ _ _ _ _ _ HR12.out]
              rfl
            have hR2 : ((W13.putObj D2 (.deferred none)).putObj D1 (.deferred none)).heap[w.heap.size + 2]? = some (.cells #[.bool true] 4 (0, 0)) := (World.putObj_heap_other (fun e => hd1 e.symm)).trans ((World.putObj_heap_other (fun e => hd2 e.symm)).trans hR)
            have hcR : ((W13.putObj D2 (.deferred none)).putObj D1 (.deferred none)).cell? ⟨w.heap.size + 1 + 1, 0, none⟩ = some (.bool true) := by
              rw [show w.heap.size + 1 + 1 = w.heap.size + 2 from rfl, cell_of_row _ _ _ _ _ _ hR2]
              rfl
            have hB13 : Below w.heap.size w W13 := by
              have h3 := HB12.out.setCell (p := ⟨w.heap.size + 2, 0, none⟩) (by simp) (.bool true)
              rw [hW13]
              exact h3.alloc h3.size _
            have hB14 := hB13.grown (grownBy_putObj' W13 D2 (.deferred none)) hB13.size (fun k e => by cases e; have h1 := S10.out; have h2 := HWL.out; omega)
            have hB15 := hB14.grown (grownBy_putObj' _ D1 (.deferred none)) hB14.size (fun k e => by cases e; exact HD1W.out)
            refine ⟨by simp, .inl ⟨_, _, rfl, run_takeDeferred h2, ⟨by simp, .inl ⟨_, _, rfl, run_takeDeferred h1', ?_⟩⟩⟩⟩
            refine ⟨.bool true, ?_, rfl, hB15⟩
            simp [results, Try.results22, go_sem, hcR]
end Go.Proofs.Ytepdnmpcccgcaaa
