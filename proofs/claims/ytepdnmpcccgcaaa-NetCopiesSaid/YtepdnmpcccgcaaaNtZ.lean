/- The program's Copy: the walk. -/
import Derived.Test.YtepdnmpcccgcaaaNtY
namespace Go.Proofs.Ytepdnmpcccgcaaa
open Go.RowKit K Go.Shelf
attribute [local go_sem] Oper.semAt_some
section
variable {W W1 W2 : World} {B n M : Nat} {most d : Int} {es : List CE}
theorem NetAt.big (h : NetAt W B n M most d es) : B ≤ W.heap.size := by
  have h1 := h.2.2.2.2 n (by simp [foot])
  have h2 := (Array.getElem?_eq_some_iff.1 h.1).1
  omega
/-- A connection in new memory is added. -/
theorem NetAt.added {e' : CE} (h : NetAt W B n M most d es) (hb : Below W.heap.size W W1) (hm : MapAt iEnc W2 M (mput e'.id (.pointer (some ⟨e'.c, 0, none⟩)) (ents es))) (ho : Only (· = M) W1 W2) (hnew : mget e'.id (ents es) = none) (hc : ConnAt W1 W.heap.size e') (hcb : W.heap.size ≤ e'.c) (hnd : e'.blocks.Nodup) : NetAt W2 B n M most d (es ++ [e']) := by
  have hB := h.big
  have hlt := h.lt
  have hfd := h.2.2.2.1
  have hML : M < W.heap.size := h.2.1.lt
  have hblk : ∀ k ∈ e'.blocks, W.heap.size ≤ k := fun k hk => by
    simp only [CE.blocks, List.mem_cons, List.mem_append, Option.mem_toList] at hk
    rcases hk with rfl | hk | hk
    · exact hcb
    · exact (hc.2.1.lt k hk).1
    · exact (hc.2.2.lt k hk).1
  have hf : foot n M (es ++ [e']) = foot n M es ++ e'.blocks := by simp [foot]
  have h1 := h.below hb (Nat.le_refl _)
  have hnM : M ≠ n := fun e => (List.nodup_cons.1 hfd).1 (by simp [e])
  refine ⟨ho.heap h1.1 (fun e => hnM e.symm), ?_, fun e he => ?_, ?_, ?_⟩
  · have he : ents (es ++ [e']) = mput e'.id (.pointer (some ⟨e'.c, 0, none⟩)) (ents es) := by
      rw [(mget_none _ _ hnew).2]
      simp [ents]
    rw [he]
    exact hm
  · rcases List.mem_append.1 he with he | he
    · refine (h1.2.2.1 e he).only ho (fun k hk e0 => ?_)
      have h5 := List.nodup_cons.1 hfd
      exact (List.nodup_cons.1 h5.2).1 (by have e0 : k = M := e0; rw [← e0]; exact List.mem_flatMap.2 ⟨e, he, hk⟩)
    · simp only [List.mem_singleton] at he
      subst he
      have h2 : ConnAt W2 W.heap.size e := hc.only ho (fun k hk e0 => by have h3 := hblk k hk; have e0 : k = M := e0; omega)
      exact ⟨h2.1, ⟨own_base h2.2.1.1 hB, h2.2.1.2⟩, ⟨own_base h2.2.2.1 hB, h2.2.2.2⟩⟩
  · rw [hf]
    refine List.nodup_append.2 ⟨hfd, hnd, fun a ha b hb e => ?_⟩
    have h3 := hlt a ha
    have h4 := hblk b hb
    omega
  · rw [hf]
    intro k hk
    rcases List.mem_append.1 hk with hk | hk
    · exact h.2.2.2.2 k hk
    · exact Nat.le_trans hB (hblk k hk)
/-- The net's own blocks are its map and cells. -/
theorem NetAt.cells (h : NetAt W B n M most d es) : ∀ k ∈ foot n M es, k = M ∨ ∃ o, W.heap[k]? = some o ∧ o.isCells = true := by
  intro k hk
  simp only [foot, List.mem_cons, List.mem_flatMap] at hk
  rcases hk with rfl | rfl | ⟨e, he, hk⟩
  · exact .inr ⟨_, h.1, rfl⟩
  · exact .inl rfl
  · have hc := h.2.2.1 e he
    have own : ∀ v l, W.ownsRow B 5 1 v l (bv e.inn) ∨ W.ownsRow B 5 1 v l (bv e.out) → v.ownBlock = some k → ∃ o, W.heap[k]? = some o ∧ o.isCells = true := fun v l hv hk => by
      rcases hv with hv | hv
      all_goals
        rcases hv.2 with ⟨rfl, -⟩ | ⟨g, cap, cur, rfl, _, hg, _⟩
        · simp [Value.ownBlock] at hk
        · simp [Value.ownBlock] at hk
          subst hk
          exact ⟨_, hg, rfl⟩
    simp only [CE.blocks, List.mem_cons, List.mem_append, Option.mem_toList] at hk
    rcases hk with rfl | hk | hk
    · exact .inr ⟨_, hc.1, rfl⟩
    · exact .inr (own _ _ (.inl hc.2.1.1) hk)
    · exact .inr (own _ _ (.inr hc.2.2.1) hk)
end
theorem cfind_at {es : List CE} {k : Nat} {e : CE} (hk : es[k]? = some e) (hn : (es.map (·.id)).Nodup) : cfind e.id es = some e := by
  unfold cfind
  induction es generalizing k with
  | nil => simp at hk
  | cons y t ih =>
    simp only [List.map_cons, List.nodup_cons] at hn
    cases k with
    | zero =>
      simp at hk
      subst hk
      simp
    | succ k =>
      simp at hk
      have hne : ¬ e.id = y.id := fun h => hn.1 (by rw [← h]; exact List.mem_map.2 ⟨e, List.mem_of_getElem? hk, rfl⟩)
      rw [List.find?_cons, decide_eq_false hne]
      exact ih hk hn.2
noncomputable def copyBody : Code := pr (pk (pb (pa (pb (pb (pb (Try.f18.body.getD .skip)))))))
/-- What stands between two rounds: the first connections, copied. -/
def copyI (W7 : World) (B o M : Nat) (most d : Int) (l : List CV) (k : Nat) (W : World) : Prop := Only (· = M) W7 W ∧ ∃ es, NetAt W B o M most d es ∧ es.map CE.vw = l.take k
theorem copy_inv {W7 : World} {B o M : Nat} {most d : Int} {l : List CV} (hM : M < W7.heap.size) (k : Nat) : RndInv W7.heap.size (copyI W7 B o M most d l k) :=
  ⟨fun W W' h hb => by
    obtain ⟨h1, es, h2, h3⟩ := h
    exact ⟨h1.trans (G := fun _ => False) (Only.of_new hb) (fun _ _ h => h.elim), es, h2.below hb (Nat.le_refl _), h3⟩,
   fun W l o o' h hl h1 h2 => by
    obtain ⟨g1, es, g2, g3⟩ := h
    have hos : Only (· = l) W (W.putObj l o') := ⟨rfl, rfl, rfl, by simp, fun k hk hn => World.putObj_heap_other hn⟩
    refine ⟨g1.trans hos (fun k hk e => by have e : k = l := e; omega), es, g2.only hos (fun k hk e => ?_), g3⟩
    have e : k = l := e
    rcases g2.cells k hk with h9 | ⟨u, hu, hc⟩
    · omega
    · rw [e, h1] at hu
      cases hu
      rw [h2] at hc
      cases hc⟩
set_option maxHeartbeats 4000000 in
set_option maxRecDepth 100000 in
theorem copy_body {W7 : World} {Bs n M B o' M' Bh Mh X1 X3 : Nat} {most d : Int} {es : List CE} (hnd : (es.map (·.id)).Nodup) (hsz : ∀ e ∈ es, e.inn.length ≤ 1000000 ∧ e.out.length ≤ 1000000)
    (hX3 : ¬ X3 = M') (hsep : ∀ q ∈ foot n M es, ¬ q = M') (Ix : Code → World → Prop) (hM' : M' < W7.heap.size) (hMB : M' ≠ Bh) (hMM : M' ≠ Mh) (l k : Nat) (x : Int) (y : ByteArray) (W : World) (hkf : (es.map fun e => (e.id, e.host))[k]? = some (x, y)) (hi : copyI W7 B o' M' most d (es.map CE.vw) k W)
    (hs : NetAt W Bs n M most d es) (h1 : W.cell? ⟨X1, 0, none⟩ = some (.pointer (some ⟨n, 0, none⟩))) (h3 : W.cell? ⟨X3, 0, none⟩ = some (.pointer (some ⟨o', 0, none⟩)))
    (t0 u2 u6 u7 u8 u9 u10 u11 u12 u13 u14 u15 u16 u17 u18 u19 u20 u21 u24 u25 u26 u27 u28 u29 u30 u31 u32 u33 u34 u35 u36 u37 u38 u39 u40 u41 u42 u43 u44 u45 u46 u47 u48 u49 u50 u51 u52 : Value) :
    copyBody.wpIn (Fence.wide.inRound l) 7 Try.prog (prPost W7.heap.size Bh Mh (copyI W7 B o' M' most d (es.map CE.vw)) Ix (k + 1) W) { tmps := #[t0, .pointer (some ⟨X1, 0, none⟩), u2, .pointer (some ⟨X3, 0, none⟩), .int .i64 x, .string y, u6, u7, u8, u9, u10, u11, u12, u13, u14, u15, u16, u17, u18, u19, u20, u21, .int .i64 x, .string y, u24, u25, u26, u27, u28, u29, u30, u31, u32, u33, u34, u35, u36, u37, u38, u39, u40, u41, u42, u43, u44, u45, u46, u47, u48, u49, u50, u51, u52], defers := [] } W := by
  dsimp only [copyBody, Try.f18, Option.getD_some, pa, pb, pk, pl, pr]
  obtain ⟨hon, ds, hds, hdv⟩ := hi
  rw [List.getElem?_map] at hkf
  obtain ⟨e, he, hex⟩ := Option.map_eq_some_iff.1 hkf
  obtain ⟨rfl, rfl⟩ : e.id = x ∧ e.host = y := Prod.mk.inj hex
  have hem : e ∈ es := List.mem_of_getElem? he
  have hklt : k < es.length := (List.getElem?_eq_some_iff.1 he).1
  have hcf := cfind_at he hnd
  have HG := Lib.hid (show mget e.id (ents es) = some (.pointer (some ⟨e.c, 0, none⟩)) by rw [mget_ents, hcf]; rfl)
  have HMM := Lib.hid hs.2.1
  have hce := hs.2.2.1 e hem
  have hr := hce.1
  have C0 := Lib.hid (show W.cell? ⟨e.c, 0, none⟩ = some (.string e.host) by rw [cell_of_row _ _ _ _ _ _ hr]; rfl)
  have C1 := Lib.hid (show W.cell? ⟨e.c, 1, none⟩ = some (.int .i64 e.st) by rw [cell_of_row _ _ _ _ _ _ hr]; rfl)
  have C2 := Lib.hid (show W.cell? ⟨e.c, 2, none⟩ = some e.iv by rw [cell_of_row _ _ _ _ _ _ hr]; rfl)
  have C3 := Lib.hid (show W.cell? ⟨e.c, 3, none⟩ = some e.ov by rw [cell_of_row _ _ _ _ _ _ hr]; rfl)
  have D0 := Lib.hid hds.c0
  have n0 := hs.c0
  have HI := Lib.hid (fun V (hb : Below W.heap.size W V) => cloneb_any (hce.2.1.only (F := fun _ => False) (Only.of_new hb) (fun _ _ h => h)) (hsz e hem).1)
  have HO := Lib.hid (fun V (hb : Below W.heap.size W V) => cloneb_any (hce.2.2.only (F := fun _ => False) (Only.of_new hb) (fun _ _ h => h)) (hsz e hem).2)
  have hnew : mget e.id (ents ds) = none := by
    rw [mget_ents]
    have hnf : cfind e.id ds = none := by
      unfold cfind
      rw [List.find?_eq_none]
      intro u hu
      simp only [decide_eq_true_eq]
      intro hid
      have h9 : u.vw ∈ (es.map CE.vw).take k := by rw [← hdv]; exact List.mem_map.2 ⟨u, hu, rfl⟩
      obtain ⟨j, hj, hju⟩ := List.mem_iff_getElem.1 h9
      have hjk : j < k := by rw [List.length_take, List.length_map] at hj; omega
      have hje : j < es.length := by omega
      rw [List.getElem_take, List.getElem_map] at hju
      have hid2 : (es[j]).id = e.id := (congrArg CV.id hju).trans hid.symm
      have hek : es[k] = e := (List.getElem?_eq_some_iff.1 he).2
      have h10 := List.pairwise_iff_getElem.1 hnd j k (by simpa using hje) (by simpa using hklt) hjk
      simp only [List.getElem_map] at h10
      exact h10 (hid2.trans (by rw [hek]))
    rw [hnf]
    rfl
  have hMap := hds.2.1
  have hMl := hMap.lt
  have HFIN := Lib.hid (fun (V1 V2 : World) (v1 v2 : Value) (S1 S2 : Nat) (hb : Below W.heap.size W V1) (b1 : Buf V1 W.heap.size v1 e.inn) (b2 : Buf V1 W.heap.size v2 e.out) (hx1 : ∀ q, v1.ownBlock = some q → q < S1) (hx2 : ∀ q, v2.ownBlock = some q → S1 ≤ q ∧ q < V1.heap.size) (hbb : W.heap.size ≤ V1.heap.size) (ob : Nat) (hob : ob = V1.heap.size) (hs1 : S1 ≤ V1.heap.size)
      (hm2 : MapAt iEnc V2 M' (mput e.id (.pointer (some ⟨ob, 0, none⟩)) (ents ds))) (ho2 : Only (· = M') (V1.alloc (.cells #[.string e.host, .int .i64 e.st, v1, v2] 60)) V2) => (show KeepsFrom W7.heap.size W V2 ∧ KeptIt W7.heap.size Bh Mh W V2 ∧ copyI W7 B o' M' most d (es.map CE.vw) (k + 1) V2 from by
    subst hob
    have hba : Below W.heap.size W (V1.alloc (.cells #[.string e.host, .int .i64 e.st, v1, v2] 60)) := hb.alloc hb.size _
    have hoW : Only (· = M') W V2 := (Only.of_new (F := (· = M')) hba).trans ho2 (fun _ _ h => h)
    have hov : Only (fun _ => False) V1 (V1.alloc (.cells #[.string e.host, .int .i64 e.st, v1, v2] 60)) := (Only.refl _ _).alloc _
    have hnew2 : ConnAt (V1.alloc (.cells #[.string e.host, .int .i64 e.st, v1, v2] 60)) W.heap.size ⟨e.id, e.host, e.st, e.inn, e.out, V1.heap.size, v1, v2⟩ := ⟨heap_alloc_new V1 _, b1.only hov (fun _ _ h => h), b2.only hov (fun _ _ h => h)⟩
    refine ⟨⟨hoW.size, fun q u hq hu _ => hoW.heap hu (fun e => by have e : q = M' := e; omega)⟩, ⟨hoW.size, fun q u hq hu => hoW.heap hu (fun e => by
      have e : q = M' := e
      rcases hq with hq | hq | hq
      · exact hMB (e.symm.trans hq)
      · exact hMM (e.symm.trans hq)
      · omega)⟩, hon.trans hoW (fun _ _ h => h), ds ++ [⟨e.id, e.host, e.st, e.inn, e.out, V1.heap.size, v1, v2⟩], hds.added hba hm2 ho2 hnew hnew2 hbb ?_, ?_⟩
    · simp only [CE.blocks, List.nodup_cons, List.mem_append, Option.mem_toList]
      refine ⟨fun h => ?_, ?_⟩
      · rcases h with h | h
        · have := hx1 _ h; omega
        · have := hx2 _ h; omega
      · refine List.nodup_append.2 ⟨by cases v1.ownBlock <;> simp, by cases v2.ownBlock <;> simp, fun a ha b hb e => ?_⟩
        have h7 := hx1 a (by simpa using ha)
        have h8 := hx2 b (by simpa using hb)
        omega
    · rw [List.map_append, hdv, List.take_add_one, List.getElem?_map, he]
      rfl))
  have HMU := Lib.hid (fun (V : World) (hb : Below W.heap.size W V) (ob : Nat) => (show ∃ u, Sem.run Try.prog (Instr.mapUpdate 48 (.map (some M')) (.int .i64 e.id) (.pointer (some ⟨ob, 0, none⟩))) V = .ok () (ChangeMaps.setBlock V M' u) ∧ MapAt iEnc (ChangeMaps.setBlock V M' u) M' (mput e.id (.pointer (some ⟨ob, 0, none⟩)) (ents ds)) from run_update (P := Try.prog) iKey (hMap.only (F := fun _ => False) (Only.of_new hb) (fun h => h)) Try.underlying48 e.id (.pointer (some ⟨ob, 0, none⟩))))
  have H3 := Lib.hid h3
  have hec : ¬ e.c = M' := hsep _ (by simp only [foot, List.mem_cons, List.mem_flatMap]; exact .inr (.inr ⟨e, hem, by simp [CE.blocks]⟩))
  have hoM : ¬ o' = M' := fun e0 => (List.nodup_cons.1 hds.2.2.2.1).1 (by simp [e0])
  have HNE := Lib.hid (And.intro hX3 (And.intro hoM hec))
  clear hX3 hoM hec hsep
  clear hkf he hex hem hklt hcf hce hr hnew hMap hMl hs hds hdv hon hnd hsz h3
  gi_wp2_with (gi_at_lookup; refine in_lookup iKey rfl _ _ _ false rfl Try.underlying48 rfl HMM.out e.id rfl (.pointer none) (zeroPtr _) ?_; rw [HG.out])
  clear h1 n0
  refine wpIn_region_round (S := (fun w' => Only (· = M') W w')) (by kernel_rfl) (by kernel_rfl) (Only.of_new (drew_below _)) (fun hHeld => ?_)
  refine wpAnyH_take (i := 0) (oi := _) (v := ?_) rfl (by kernel_rfl) (by kernel_rfl) (by kernel_rfl) (fun _ _ _ h => h) (Or.inl ⟨by rfl, ?_⟩) (by assumption) ?_
  rotate_left 1
  · (intro w hSw; (try dsimp only at hSw); (have q := hSw.cell H3.out HNE.out.1; go_simp); (try with_reducible rfl))
  try simp only [Act.put, List.getElem_toArray, List.getElem_cons_zero, List.setIfInBounds_toArray, List.set_cons_zero, List.set_cons_succ]
  refine wpAnyH_take (i := 1) (oi := _) (v := ?_) rfl (by kernel_rfl) (by kernel_rfl) (by kernel_rfl) (fun _ _ _ h => h) (Or.inl ⟨by rfl, ?_⟩) (by assumption) ?_
  rotate_left 1
  · (intro w hSw; (try dsimp only at hSw); go_simp; (try with_reducible rfl))
  try simp only [Act.put, List.getElem_toArray, List.getElem_cons_succ, List.getElem_cons_zero, List.setIfInBounds_toArray, List.set_cons_zero, List.set_cons_succ]
  refine wpAnyH_take (i := 2) (oi := _) (v := ?_) rfl (by kernel_rfl) (by kernel_rfl) (by kernel_rfl) (fun _ _ _ h => h) (Or.inl ⟨by rfl, ?_⟩) (by assumption) ?_
  rotate_left 1
  · (intro w hSw; (try dsimp only at hSw); go_simp; (try with_reducible rfl))
  try simp only [Act.put, List.getElem_toArray, List.getElem_cons_succ, List.getElem_cons_zero, List.setIfInBounds_toArray, List.set_cons_zero, List.set_cons_succ]
  refine wpAnyH_take (i := 3) (oi := _) (v := ?_) rfl (by kernel_rfl) (by kernel_rfl) (by kernel_rfl) (fun _ _ _ h => h) (Or.inl ⟨by rfl, ?_⟩) (by assumption) ?_
  rotate_left 1
  · (intro w hSw; (try dsimp only at hSw); (have q := hSw.cell D0.out HNE.out.2.1; go_simp); (try with_reducible rfl))
  try simp only [Act.put, List.getElem_toArray, List.getElem_cons_succ, List.getElem_cons_zero, List.setIfInBounds_toArray, List.set_cons_zero, List.set_cons_succ]
  refine wpAnyH_take (i := 4) (oi := _) (v := ?_) rfl (by kernel_rfl) (by kernel_rfl) (by kernel_rfl) (fun _ _ _ h => h) (Or.inl ⟨by rfl, ?_⟩) (by assumption) ?_
  rotate_left 1
  · (intro w hSw; (try dsimp only at hSw); go_simp; (try with_reducible rfl))
  try simp only [Act.put, List.getElem_toArray, List.getElem_cons_succ, List.getElem_cons_zero, List.setIfInBounds_toArray, List.set_cons_zero, List.set_cons_succ]
  refine wpAnyH_take (i := 5) (oi := _) (v := ?_) rfl (by kernel_rfl) (by kernel_rfl) (by kernel_rfl) (fun _ _ _ h => h) (Or.inl ⟨by rfl, ?_⟩) (by assumption) ?_
  rotate_left 1
  · (intro w hSw; (try dsimp only at hSw); go_simp; (try with_reducible rfl))
  try simp only [Act.put, List.getElem_toArray, List.getElem_cons_succ, List.getElem_cons_zero, List.setIfInBounds_toArray, List.set_cons_zero, List.set_cons_succ]
  refine wpAnyH_take (i := 6) (oi := _) (v := ?_) rfl (by kernel_rfl) (by kernel_rfl) (by kernel_rfl) (fun _ _ _ h => h) (Or.inl ⟨by rfl, ?_⟩) (by assumption) ?_
  rotate_left 1
  · (intro w hSw; (try dsimp only at hSw); go_simp; (try with_reducible rfl))
  try simp only [Act.put, List.getElem_toArray, List.getElem_cons_succ, List.getElem_cons_zero, List.setIfInBounds_toArray, List.set_cons_zero, List.set_cons_succ]
  refine wpAnyH_take (i := 7) (oi := _) (v := ?_) rfl (by kernel_rfl) (by kernel_rfl) (by kernel_rfl) (fun _ _ _ h => h) (Or.inl ⟨by rfl, ?_⟩) (by assumption) ?_
  rotate_left 1
  · (intro w hSw; (try dsimp only at hSw); go_simp; (try with_reducible rfl))
  try simp only [Act.put, List.getElem_toArray, List.getElem_cons_succ, List.getElem_cons_zero, List.setIfInBounds_toArray, List.set_cons_zero, List.set_cons_succ]
  refine wpAnyH_take (i := 8) (oi := _) (v := ?_) rfl (by kernel_rfl) (by kernel_rfl) (by kernel_rfl) (fun _ _ _ h => h) (Or.inl ⟨by rfl, ?_⟩) (by assumption) ?_
  rotate_left 1
  · (intro w hSw; (try dsimp only at hSw); go_simp; (try with_reducible rfl))
  try simp only [Act.put, List.getElem_toArray, List.getElem_cons_succ, List.getElem_cons_zero, List.setIfInBounds_toArray, List.set_cons_zero, List.set_cons_succ]
  refine wpAnyH_take (i := 9) (oi := _) (v := ?_) rfl (by kernel_rfl) (by kernel_rfl) (by kernel_rfl) (fun _ _ _ h => h) (Or.inl ⟨by rfl, ?_⟩) (by assumption) ?_
  rotate_left 1
  · (intro w hSw; (try dsimp only at hSw); (have q := hSw.cell C1.out HNE.out.2.2; go_simp); (try with_reducible rfl))
  try simp only [Act.put, List.getElem_toArray, List.getElem_cons_succ, List.getElem_cons_zero, List.setIfInBounds_toArray, List.set_cons_zero, List.set_cons_succ]
  refine wpAnyH_take (i := 10) (oi := _) (v := ?_) rfl (by kernel_rfl) (by kernel_rfl) (by kernel_rfl) (fun _ _ _ h => h) (Or.inl ⟨by rfl, ?_⟩) (by assumption) ?_
  rotate_left 1
  · (intro w hSw; (try dsimp only at hSw); go_simp; (try with_reducible rfl))
  try simp only [Act.put, List.getElem_toArray, List.getElem_cons_succ, List.getElem_cons_zero, List.setIfInBounds_toArray, List.set_cons_zero, List.set_cons_succ]
  refine wpAnyH_take (i := 11) (oi := _) (v := ?_) rfl (by kernel_rfl) (by kernel_rfl) (by kernel_rfl) (fun _ _ _ h => h) (Or.inl ⟨by rfl, ?_⟩) (by assumption) ?_
  rotate_left 1
  · (intro w hSw; (try dsimp only at hSw); go_simp; (try with_reducible rfl))
  try simp only [Act.put, List.getElem_toArray, List.getElem_cons_succ, List.getElem_cons_zero, List.setIfInBounds_toArray, List.set_cons_zero, List.set_cons_succ]
  refine wpAnyH_take (i := 12) (oi := _) (v := ?_) rfl (by kernel_rfl) (by kernel_rfl) (by kernel_rfl) (fun _ _ _ h => h) (Or.inl ⟨by rfl, ?_⟩) (by assumption) ?_
  rotate_left 1
  · (intro w hSw; (try dsimp only at hSw); go_simp; (try with_reducible rfl))
  try simp only [Act.put, List.getElem_toArray, List.getElem_cons_succ, List.getElem_cons_zero, List.setIfInBounds_toArray, List.set_cons_zero, List.set_cons_succ]
  refine wpAnyH_take (i := 13) (oi := _) (v := ?_) rfl (by kernel_rfl) (by kernel_rfl) (by kernel_rfl) (fun _ _ _ h => h) (Or.inl ⟨by rfl, ?_⟩) (by assumption) ?_
  rotate_left 1
  · (intro w hSw; (try dsimp only at hSw); (have q := hSw.cell C2.out HNE.out.2.2; go_simp); (try with_reducible rfl))
  try simp only [Act.put, List.getElem_toArray, List.getElem_cons_succ, List.getElem_cons_zero, List.setIfInBounds_toArray, List.set_cons_zero, List.set_cons_succ]
  refine wpAnyH_take (i := 15) (oi := _) (v := ?_) rfl (by kernel_rfl) (by kernel_rfl) (by kernel_rfl) (fun _ _ _ h => h) (Or.inl ⟨by rfl, ?_⟩) (by assumption) ?_
  rotate_left 1
  · (intro w hSw; (try dsimp only at hSw); go_simp; (try with_reducible rfl))
  try simp only [Act.put, List.getElem_toArray, List.getElem_cons_succ, List.getElem_cons_zero, List.setIfInBounds_toArray, List.set_cons_zero, List.set_cons_succ]
  refine wpAnyH_take (i := 16) (oi := _) (v := ?_) rfl (by kernel_rfl) (by kernel_rfl) (by kernel_rfl) (fun _ _ _ h => h) (Or.inl ⟨by rfl, ?_⟩) (by assumption) ?_
  rotate_left 1
  · (intro w hSw; (try dsimp only at hSw); go_simp; (try with_reducible rfl))
  try simp only [Act.put, List.getElem_toArray, List.getElem_cons_succ, List.getElem_cons_zero, List.setIfInBounds_toArray, List.set_cons_zero, List.set_cons_succ]
  refine wpAnyH_take (i := 17) (oi := _) (v := ?_) rfl (by kernel_rfl) (by kernel_rfl) (by kernel_rfl) (fun _ _ _ h => h) (Or.inl ⟨by rfl, ?_⟩) (by assumption) ?_
  rotate_left 1
  · (intro w hSw; (try dsimp only at hSw); go_simp; (try with_reducible rfl))
  try simp only [Act.put, List.getElem_toArray, List.getElem_cons_succ, List.getElem_cons_zero, List.setIfInBounds_toArray, List.set_cons_zero, List.set_cons_succ]
  refine wpAnyH_take (i := 18) (oi := _) (v := ?_) rfl (by kernel_rfl) (by kernel_rfl) (by kernel_rfl) (fun _ _ _ h => h) (Or.inl ⟨by rfl, ?_⟩) (by assumption) ?_
  rotate_left 1
  · (intro w hSw; (try dsimp only at hSw); (have q := hSw.cell C3.out HNE.out.2.2; go_simp); (try with_reducible rfl))
  try simp only [Act.put, List.getElem_toArray, List.getElem_cons_succ, List.getElem_cons_zero, List.setIfInBounds_toArray, List.set_cons_zero, List.set_cons_succ]
  refine wpAnyH_ready (rs := [14]) (by kernel_rfl) (by simp) ?_
  refine AllReadyH.cons (o := _) rfl (fun K hK => ?_) AllReadyH.nil
  go_simp
  refine (HI.out _ (drew_below W)).mono ?_
  rintro e1 V1 ⟨v1, rfl, hv1, hb1⟩
  obtain ⟨a1, c1, rfl, -, -, -⟩ := hv1.rd
  have hB1 := (drew_below W).trans (hb1.mono (drew_below W).size)
  go_wp2_with fail
  refine hK.out _ _ ?_ (fun hHeld14 => ?_)
  · exact Only.of_new hB1
  clear hK K
  try simp only [Act.put, List.getElem_toArray, List.getElem_cons_succ, List.getElem_cons_zero, List.setIfInBounds_toArray, List.set_cons_zero, List.set_cons_succ]
  refine wpAnyH_ready (rs := [19]) (by kernel_rfl) (by simp) ?_
  refine AllReadyH.cons (o := _) rfl (fun K hK => ?_) AllReadyH.nil
  go_simp
  refine (HO.out _ hB1).mono ?_
  rintro e2 V2 ⟨v2, rfl, hv2, hb2⟩
  obtain ⟨a2, c2, rfl, -, -, -⟩ := hv2.rd
  have hB2 := hB1.trans (hb2.mono hB1.size)
  go_wp2_with fail
  refine hK.out _ _ ?_ (fun hHeld19 => ?_)
  · exact Only.of_new hB2
  clear hK K
  try simp only [Act.put, List.getElem_toArray, List.getElem_cons_succ, List.getElem_cons_zero, List.setIfInBounds_toArray, List.set_cons_zero, List.set_cons_succ]
  refine wpAnyH_take (i := 20) (oi := _) (v := ?_) rfl (by kernel_rfl) (by kernel_rfl) (by kernel_rfl) (fun _ _ _ h => h) (Or.inl ⟨by rfl, ?_⟩) (by assumption) ?_
  rotate_left 1
  · (intro w hSw; (try dsimp only at hSw); go_simp; (try with_reducible rfl))
  try simp only [Act.put, List.getElem_toArray, List.getElem_cons_succ, List.getElem_cons_zero, List.setIfInBounds_toArray, List.set_cons_zero, List.set_cons_succ]
  refine wpAnyH_ready (rs := [21]) (by kernel_rfl) (by simp) ?_
  refine AllReadyH.cons (o := _) rfl (fun K hK => ?_) AllReadyH.nil
  go_simp
  refine hK.out _ _ ?_ (fun hHeld21 => ?_)
  · exact Only.of_new (hB2.alloc hB2.size _)
  clear hK K
  try simp only [Act.put, List.getElem_toArray, List.getElem_cons_succ, List.getElem_cons_zero, List.setIfInBounds_toArray, List.set_cons_zero, List.set_cons_succ]
  refine wpAnyH_ready (rs := [22]) (by kernel_rfl) (by simp) ?_
  refine AllReadyH.cons (o := _) rfl (fun K hK => ?_) AllReadyH.nil
  have hB3 := hB2.alloc hB2.size (.cells #[.string e.host, .int .i64 e.st, .slice a1 e.inn.length c1, .slice a2 e.out.length c2] 60)
  obtain ⟨ub, hup, hm2⟩ := HMU.out _ hB3 V2.heap.size
  have hoU : Only (· = M') (V2.alloc (.cells #[.string e.host, .int .i64 e.st, .slice a1 e.inn.length c1, .slice a2 e.out.length c2] 60)) (ChangeMaps.setBlock (V2.alloc (.cells #[.string e.host, .int .i64 e.st, .slice a1 e.inn.length c1, .slice a2 e.out.length c2] 60)) M' ub) := (Only.refl _ _).setBlock M' ub (fun _ => rfl)
  generalize ChangeMaps.setBlock (V2.alloc (.cells #[.string e.host, .int .i64 e.st, .slice a1 e.inn.length c1, .slice a2 e.out.length c2] 60)) M' ub = V3 at hup hm2 hoU
  go_simp
  refine hK.out _ _ ?_ (fun hHeld22 => ?_)
  · exact (Only.of_new hB3).trans hoU (fun _ _ h => h)
  clear hK K
  try simp only [Act.put, List.getElem_toArray, List.getElem_cons_succ, List.getElem_cons_zero, List.setIfInBounds_toArray, List.set_cons_zero, List.set_cons_succ]
  refine wpAnyH_done (by kernel_rfl) ?_ _
  refine NoPanic.normal ?_
  refine OnlyN.normal ?_
  have hs12 := hb2.size
  have hw1 : W.heap.size ≤ W.drew.heap.size := Nat.le_refl _
  have hfin := HFIN.out V2 V3 _ _ V1.heap.size 0 hB2 ⟨(Only.of_new (F := fun _ => False) hb2).own (own_base hv1.1 hw1) (fun _ _ h => h), hv1.2⟩ ⟨own_base hv2.1 hB1.size, hv2.2⟩ (fun q hq => (hv1.lt q hq).2) (fun q hq => hv2.lt q hq) hB2.size V2.heap.size rfl hs12 hm2 hoU
  gi_wp2
  exact hfin
theorem alloc3 (w : World) (a b c : Obj) : (((w.alloc a).alloc b).alloc c).heap[w.heap.size]? = some a ∧ (((w.alloc a).alloc b).alloc c).heap[w.heap.size + 1]? = some b ∧ (((w.alloc a).alloc b).alloc c).heap[w.heap.size + 2]? = some c := by
  refine ⟨(Below.heap_alloc _ _ _ (by simp; omega)).trans ((Below.heap_alloc _ _ _ (by simp)).trans (heap_alloc_new w a)), (Below.heap_alloc _ _ _ (by simp)).trans (by have h := heap_alloc_new (w.alloc a) b; rw [World.size_alloc] at h; exact h), by have h := heap_alloc_new ((w.alloc a).alloc b) c; rw [World.size_alloc, World.size_alloc] at h; exact h⟩
/-- What lies behind the first region of Copy: an empty map, the net, its variable. -/
structure CpA (w : World) (most d : Int) (XM XO X3 : Nat) (W : World) : Prop where
  mp : MapAt iEnc W XM []
  net : W.heap[XO]? = some (.cells #[.map (some XM), .int .i64 most, .int .i64 d] 50 (0, 0))
  box : W.heap[X3]? = some (.cells #[.pointer (some ⟨XO, 0, none⟩)] 25 (0, 0))
  bel : Below w.heap.size w W
  ge : w.heap.size ≤ XM ∧ w.heap.size ≤ XO ∧ w.heap.size ≤ X3
  ne : XM ≠ XO ∧ X3 ≠ XM ∧ X3 ≠ XO
theorem mapAt_of {w : World} {m : Nat} (h : w.heap[m]? = some (.map #[] 0)) : MapAt iEnc w m ([] : List (Int × Value)) := ⟨#[], 0, h, rfl, by simp, by simp⟩
theorem CpA.mk3 {w w3 : World} {most d : Int} {XM XO X3 : Nat} (h1 : w3.heap[XM]? = some (.map #[] 0)) (h2 : w3.heap[XO]? = some (.cells #[.map (some XM), .int .i64 most, .int .i64 d] 50 (0, 0))) (h3 : w3.heap[X3]? = some (.cells #[.pointer (some ⟨XO, 0, none⟩)] 25 (0, 0))) (hb : Below w.heap.size w w3.drew) (hge : w.heap.size ≤ XM ∧ w.heap.size ≤ XO ∧ w.heap.size ≤ X3) (hne : XM ≠ XO ∧ X3 ≠ XM ∧ X3 ≠ XO) : CpA w most d XM XO X3 w3.drew :=
  ⟨mapAt_of h1, h2, h3, hb, hge, hne⟩
theorem bel3d (w : World) (a b c : Obj) : Below w.heap.size w (((w.alloc a).alloc b).alloc c).drew := ((((Below.refl _ w).alloc (Nat.le_refl _) _).alloc (by simp) _).alloc (by simp; omega) _).trans ((drew_below _).mono (by simp; omega))
def NCopy (w : World) (most d : Int) (l : List CV) (e : Ending) (w' : World) : Prop := ∃ o F, e = .returned (.pointer (some ⟨o, 0, none⟩)) ∧ NetIs w' w.heap.size o most d l F ∧ Below w.heap.size w w'
set_option maxHeartbeats 4000000 in
set_option maxRecDepth 100000 in
theorem ncopy_any {w : World} {B n : Nat} {most d : Int} {l : List CV} {F : List Nat} (h : NetIs w B n most d l F) (hs : ((l.map CV.ih).map (·.1)).Pairwise (· < ·)) (hwf : ∀ p ∈ l.map CV.ih, (Lit.int .i64 p.1).wf = true) (hlen : (l.map CV.ih).length ≤ 1000000) (hsz : ∀ v ∈ l, v.inn.length ≤ 1000000 ∧ v.out.length ≤ 1000000) :
    Calls Try.prog 18 #[.pointer (some ⟨n, 0, none⟩)] w (NCopy w most d l) := by
  obtain ⟨M, es, hn, rfl, rfl⟩ := h
  have hnd : (es.map (·.id)).Nodup := by
    have e : es.map (·.id) = ((es.map CE.vw).map CV.ih).map (·.1) := by
      rw [List.map_map, List.map_map]
      rfl
    rw [e]
    exact hs.imp fun h => by omega
  refine (callsIn_wide (n := 8)).1 ?_
  refine callsIn_of_wp_marks Try.func18 rfl trivial ?_ rfl
  simp only [Try.ntmps18, List.size_toArray, List.length_cons, List.length_nil, Nat.reduceAdd, Nat.reduceSub, Array.replicate_succ, Array.replicate_zero, List.push_toArray, List.append_toArray, List.nil_append, List.cons_append]
  refine wpIn_wide.2 ?_
  have HN := Lib.hid (fun W (hb : Below w.heap.size w W) => hn.below hb (Nat.le_refl _))
  have HD := Lib.hid hnd
  have HS := Lib.hid hs
  have HW := Lib.hid hwf
  have HL := Lib.hid hlen
  have HZ := Lib.hid (show ∀ e ∈ es, e.inn.length ≤ 1000000 ∧ e.out.length ≤ 1000000 from fun e he => hsz e.vw (List.mem_map.2 ⟨e, he, rfl⟩))
  have HLT := Lib.hid hn.lt
  have hmm := @run_makeMap Try.prog
  clear hn hnd hs hwf hlen hsz
  go_wp2_with fail
  obtain ⟨W1, hW1⟩ : ∃ W, W = w.alloc (.cells #[.pointer (some ⟨n, 0, none⟩)] 25) := ⟨_, rfl⟩
  have HB1 := Lib.hid (show Below w.heap.size w W1 by rw [hW1]; exact (Below.refl _ _).alloc (Nat.le_refl _) _)
  have HX1 := Lib.hid (show W1.heap[w.heap.size]? = some (.cells #[.pointer (some ⟨n, 0, none⟩)] 25 (0, 0)) by rw [hW1]; exact heap_alloc_new w _)
  have HS1 := Lib.hid (show W1.heap.size = w.heap.size + 1 by rw [hW1]; simp)
  rw [← hW1]
  clear hW1
  have C1 := Lib.hid (show W1.cell? ⟨w.heap.size, 0, none⟩ = some (.pointer (some ⟨n, 0, none⟩)) by rw [cell_of_row _ _ _ _ _ _ HX1.out]; rfl)
  have N1 := Lib.hid (HN.out W1 HB1.out).c1
  have N2 := Lib.hid (HN.out W1 HB1.out).c2
  have q0 := C1.out
  go_wp2_with fail
  clear q0
  refine wp_region_noPanic ?_
  refine wp_region_held_drew (S := (fun w' => Below W1.heap.size W1 w')) (by kernel_rfl) ?_ (fun hHeld => ?_)
  · exact drew_below _
  refine wpAnyH_take (i := 1) (oi := _) (v := ?_) rfl (by kernel_rfl) (by kernel_rfl) (by kernel_rfl) (fun _ _ _ h => h) (Or.inl ⟨by rfl, ?_⟩) (by assumption) ?_
  rotate_left 1
  · (intro w hSw; (try dsimp only at hSw); (have q := keepc hSw C1.out; go_simp); (try with_reducible rfl))
  try simp only [Act.put, List.getElem_toArray, List.getElem_cons_zero, List.setIfInBounds_toArray, List.set_cons_zero, List.set_cons_succ]
  refine wpAnyH_take (i := 2) (oi := _) (v := ?_) rfl (by kernel_rfl) (by kernel_rfl) (by kernel_rfl) (fun _ _ _ h => h) (Or.inl ⟨by rfl, ?_⟩) (by assumption) ?_
  rotate_left 1
  · (intro w hSw; (try dsimp only at hSw); go_simp; (try with_reducible rfl))
  try simp only [Act.put, List.getElem_toArray, List.getElem_cons_succ, List.getElem_cons_zero, List.setIfInBounds_toArray, List.set_cons_zero, List.set_cons_succ]
  refine wpAnyH_take (i := 3) (oi := _) (v := ?_) rfl (by kernel_rfl) (by kernel_rfl) (by kernel_rfl) (fun _ _ _ h => h) (Or.inl ⟨by rfl, ?_⟩) (by assumption) ?_
  rotate_left 1
  · (intro w hSw; (try dsimp only at hSw); go_simp; (try with_reducible rfl))
  try simp only [Act.put, List.getElem_toArray, List.getElem_cons_succ, List.getElem_cons_zero, List.setIfInBounds_toArray, List.set_cons_zero, List.set_cons_succ]
  refine wpAnyH_take (i := 4) (oi := _) (v := ?_) rfl (by kernel_rfl) (by kernel_rfl) (by kernel_rfl) (fun _ _ _ h => h) (Or.inl ⟨by rfl, ?_⟩) (by assumption) ?_
  rotate_left 1
  · (intro w hSw; (try dsimp only at hSw); (have q := keepc hSw N1.out; go_simp); (try with_reducible rfl))
  try simp only [Act.put, List.getElem_toArray, List.getElem_cons_succ, List.getElem_cons_zero, List.setIfInBounds_toArray, List.set_cons_zero, List.set_cons_succ]
  refine wpAnyH_take (i := 5) (oi := _) (v := ?_) rfl (by kernel_rfl) (by kernel_rfl) (by kernel_rfl) (fun _ _ _ h => h) (Or.inl ⟨by rfl, ?_⟩) (by assumption) ?_
  rotate_left 1
  · (intro w hSw; (try dsimp only at hSw); (have q := keepc hSw C1.out; go_simp); (try with_reducible rfl))
  try simp only [Act.put, List.getElem_toArray, List.getElem_cons_succ, List.getElem_cons_zero, List.setIfInBounds_toArray, List.set_cons_zero, List.set_cons_succ]
  refine wpAnyH_take (i := 6) (oi := _) (v := ?_) rfl (by kernel_rfl) (by kernel_rfl) (by kernel_rfl) (fun _ _ _ h => h) (Or.inl ⟨by rfl, ?_⟩) (by assumption) ?_
  rotate_left 1
  · (intro w hSw; (try dsimp only at hSw); go_simp; (try with_reducible rfl))
  try simp only [Act.put, List.getElem_toArray, List.getElem_cons_succ, List.getElem_cons_zero, List.setIfInBounds_toArray, List.set_cons_zero, List.set_cons_succ]
  refine wpAnyH_take (i := 7) (oi := _) (v := ?_) rfl (by kernel_rfl) (by kernel_rfl) (by kernel_rfl) (fun _ _ _ h => h) (Or.inl ⟨by rfl, ?_⟩) (by assumption) ?_
  rotate_left 1
  · (intro w hSw; (try dsimp only at hSw); go_simp; (try with_reducible rfl))
  try simp only [Act.put, List.getElem_toArray, List.getElem_cons_succ, List.getElem_cons_zero, List.setIfInBounds_toArray, List.set_cons_zero, List.set_cons_succ]
  refine wpAnyH_take (i := 8) (oi := _) (v := ?_) rfl (by kernel_rfl) (by kernel_rfl) (by kernel_rfl) (fun _ _ _ h => h) (Or.inl ⟨by rfl, ?_⟩) (by assumption) ?_
  rotate_left 1
  · (intro w hSw; (try dsimp only at hSw); (have q := keepc hSw N2.out; go_simp); (try with_reducible rfl))
  try simp only [Act.put, List.getElem_toArray, List.getElem_cons_succ, List.getElem_cons_zero, List.setIfInBounds_toArray, List.set_cons_zero, List.set_cons_succ]
  refine wpAnyH_ready (rs := [0, 11]) (by kernel_rfl) (by simp) ?_
  refine AllReadyH.cons (o := _) rfl (fun K hK => ?_) (AllReadyH.cons (o := _) rfl (fun K hK => ?_) AllReadyH.nil)
  · go_simp
    refine hK.out _ _ ?_ (fun _ => ?_)
    · exact ((drew_below W1).alloc (drew_below W1).size _)
    clear hK K
    try simp only [Act.put, List.getElem_toArray, List.getElem_cons_succ, List.getElem_cons_zero, List.setIfInBounds_toArray, List.set_cons_zero, List.set_cons_succ]
    refine wpAnyH_take (i := 9) (oi := _) (v := ?_) rfl (by kernel_rfl) (by kernel_rfl) (by kernel_rfl) (fun _ _ _ h => h) (Or.inl ⟨by rfl, ?_⟩) (by assumption) ?_
    rotate_left 1
    · (intro w hSw; (try dsimp only at hSw); go_simp; (try with_reducible rfl))
    try simp only [Act.put, List.getElem_toArray, List.getElem_cons_succ, List.getElem_cons_zero, List.setIfInBounds_toArray, List.set_cons_zero, List.set_cons_succ]
    refine wpAnyH_ready (rs := [10, 11]) (by kernel_rfl) (by simp) ?_
    refine AllReadyH.cons (o := _) rfl (fun K hK => ?_) (AllReadyH.cons (o := _) rfl (fun K hK => ?_) AllReadyH.nil)
    · go_simp
      refine hK.out _ _ ?_ (fun _ => ?_)
      · exact (((drew_below W1).alloc (drew_below W1).size _).alloc ((drew_below W1).alloc (drew_below W1).size _).size _)
      clear hK K
      try simp only [Act.put, List.getElem_toArray, List.getElem_cons_succ, List.getElem_cons_zero, List.setIfInBounds_toArray, List.set_cons_zero, List.set_cons_succ]
      refine wpAnyH_ready (rs := [11]) (by kernel_rfl) (by simp) ?_
      refine AllReadyH.cons (o := _) rfl (fun K hK => ?_) AllReadyH.nil
      go_simp
      refine hK.out _ _ ?_ (fun _ => ?_)
      · exact ((((drew_below W1).alloc (drew_below W1).size _).alloc ((drew_below W1).alloc (drew_below W1).size _).size _).alloc (((drew_below W1).alloc (drew_below W1).size _).alloc ((drew_below W1).alloc (drew_below W1).size _).size _).size _)
      clear hK K
      try simp only [Act.put, List.getElem_toArray, List.getElem_cons_succ, List.getElem_cons_zero, List.setIfInBounds_toArray, List.set_cons_zero, List.set_cons_succ]
      refine wpAnyH_ready (rs := [12]) (by kernel_rfl) (by simp) ?_
      refine AllReadyH.cons (o := _) rfl (fun K hK => ?_) AllReadyH.nil
      go_simp
      refine hK.out _ _ ?_ (fun _ => ?_)
      · exact bel3d W1 _ _ _
      clear hK K
      try simp only [Act.put, List.getElem_toArray, List.getElem_cons_succ, List.getElem_cons_zero, List.setIfInBounds_toArray, List.set_cons_zero, List.set_cons_succ]
      refine wpAnyH_done (by kernel_rfl) ?_ _
      refine NoPanic.normal ?_
      obtain ⟨W7, hW7⟩ : ∃ W, W = (((W1.alloc (.map #[] 0)).alloc (.cells #[.map (some (W1.heap.size)), .int .i64 most, .int .i64 d] 50)).alloc (.cells #[.pointer (some ⟨W1.heap.size + 1, 0, none⟩)] 25)).drew := ⟨_, rfl⟩
      have hcp : CpA W1 most d (W1.heap.size) (W1.heap.size + 1) (W1.heap.size + 1 + 1) W7 := by
        rw [hW7]
        exact CpA.mk3 (alloc3 W1 _ _ _).1 (alloc3 W1 _ _ _).2.1 (alloc3 W1 _ _ _).2.2 (bel3d W1 _ _ _) ⟨by omega, by omega, by omega⟩ ⟨by omega, by omega, by omega⟩
      rw [← hW7]
      clear hW7
      generalize hxa : (W1.heap.size + 1 + 1) = X3 at hcp
      generalize hxb : (W1.heap.size + 1) = XO at hcp
      generalize hxc : (W1.heap.size) = XM at hcp
      have HCP := Lib.hid hcp
      have c1 : W7.cell? ⟨w.heap.size, 0, none⟩ = some (.pointer (some ⟨n, 0, none⟩)) := keepc hcp.bel C1.out
      clear hxa hxb hxc hcp
      go_wp2_with fail
      clear c1
      have HN7 := Lib.hid (HN.out W7 (HB1.out.trans (HCP.out.bel.mono HB1.out.size)))
      refine (all_any HN7.out HD.out).mono ?_
      rintro e w8 ⟨Bh, Mh, kvs, rfl, hMh, hBh, hBc, hMp, hperm, hb8⟩
      have HBC := Lib.hid hBc
      have HMP := Lib.hid hMp
      have HPM := Lib.hid hperm
      have HB8 := Lib.hid hb8
      have HGE := Lib.hid (And.intro hMh hBh)
      clear hBc hMp hperm hb8 hMh hBh
      have HX8 := Lib.hid (keeph (HCP.out.bel.trans (HB8.out.mono HCP.out.bel.size)) HX1.out)
      have HM8 := Lib.hid (HCP.out.mp.only (F := fun _ => False) (Only.of_new HB8.out) (fun h => h))
      have HO8 := Lib.hid (keeph HB8.out HCP.out.net)
      have H38 := Lib.hid (keeph HB8.out HCP.out.box)
      have HBB := Lib.hid (show Below w.heap.size w w8 from (HB1.out.trans (HCP.out.bel.mono HB1.out.size)).trans (HB8.out.mono (HB1.out.trans (HCP.out.bel.mono HB1.out.size)).size))
      have HSZ := Lib.hid (show w.heap.size + 1 ≤ XM ∧ w.heap.size + 1 ≤ XO ∧ w.heap.size + 1 ≤ X3 ∧ XM < W7.heap.size ∧ XO < W7.heap.size ∧ X3 < W7.heap.size ∧ W7.heap.size ≤ w8.heap.size from by
        have h1 := HS1.out
        have h2 := HCP.out.ge
        have h3 := HCP.out.mp.lt
        have h4 := (Array.getElem?_eq_some_iff.1 HCP.out.net).1
        have h5 := (Array.getElem?_eq_some_iff.1 HCP.out.box).1
        have h6 := HB8.out.size
        omega)
      have HNE := Lib.hid HCP.out.ne
      go_wp2_with fail
      refine wp_rangeFunc_pairs_c (kvs := kvs) (L := (es.map CE.vw).map CV.ih) rfl HBC.out HMP.out HPM.out HS.out HW.out HL.out
        (copyI w8 w.heap.size XO XM most d (es.map CE.vw)) (fun _ => False) (fun k => copy_inv (by have := HSZ.out; omega) k) ?start 4 5 ?assign ?body ?done
      case start =>
        refine ⟨Only.refl _ _, [], ⟨HO8.out, HM8.out, by simp, ?_, ?_⟩, by simp⟩
        · have := HNE.out
          simp [foot]
          omega
        · intro k hk
          have := HSZ.out
          simp [foot] at hk
          omega
      case assign =>
        intro l x y W K hK
        gi_wp2
        simpa using hK
      case body =>
        intro l k x y W hkf hl hi
        simp only [List.setIfInBounds_toArray, List.set_cons_succ, List.set_cons_zero]
        have hon := hi.1
        have hbw : Below w.heap.size w W := HBB.out.trans (hon.below HBB.out.size (fun k e => by have e : k = XM := e; have := HSZ.out; omega))
        refine copy_body (X1 := w.heap.size) (X3 := X3) HD.out HZ.out ?_ ?_ _ ?_ ?_ ?_ l k x y W (by rw [List.map_map] at hkf; exact hkf) hi (HN.out W hbw) ?_ ?_ _ _ _ _ _ _ _ _ _ _ _ _ _ _ _ _ _ _ _ _ _ _ _ _ _ _ _ _ _ _ _ _ _ _ _ _ _ _ _ _ _ _ _ _ _ _ _
        · have := HNE.out; omega
        · intro q hq e
          have h1 := HLT.out q hq
          have h2 := HSZ.out
          omega
        · have := HSZ.out; omega
        · have h1 := HSZ.out; have h2 := HGE.out; omega
        · have h1 := HSZ.out; have h2 := HGE.out; omega
        · rw [cell_of_row _ _ _ _ _ _ (hon.heap HX8.out (fun e => by have e : w.heap.size = XM := e; have := HSZ.out; omega))]; rfl
        · rw [cell_of_row _ _ _ _ _ _ (hon.heap H38.out (fun e => HNE.out.2.1 e))]; rfl
      case done =>
        rintro D k0 W9 hD1 ⟨ho9, ds, hds, hdv⟩ hkc hK1
        obtain rfl : k0 = ((es.map CE.vw).map CV.ih).length := hkc.resolve_right (fun h => h)
        rw [List.length_map, List.take_length] at hdv
        have hb9 : Below w.heap.size w W9 := HBB.out.trans (ho9.below HBB.out.size (fun k e => by have e : k = XM := e; have := HSZ.out; omega))
        have c3 : W9.cell? ⟨X3, 0, none⟩ = some (.pointer (some ⟨XO, 0, none⟩)) := by rw [cell_of_row _ _ _ _ _ _ (ho9.heap H38.out (fun e => HNE.out.2.1 e))]; rfl
        have hDD : D < W9.heap.size := (Array.getElem?_eq_some_iff.1 hK1).1
        have hFD : ∀ k ∈ foot XO XM ds, k ≠ D := fun k hk e => by
          rcases hds.cells k hk with h9 | ⟨u, hu, hc⟩
          · have := HSZ.out; omega
          · rw [e, hK1] at hu
            cases hu
            cases hc
        have HFIN := Lib.hid (show NCopy w most d (es.map CE.vw) (.returned (.pointer (some ⟨XO, 0, none⟩))) (W9.putObj D (.deferred none)) from by
          have hos : Only (· = D) W9 (W9.putObj D (.deferred none)) := ⟨rfl, rfl, rfl, by simp, fun k hk hn => World.putObj_heap_other hn⟩
          exact ⟨XO, _, rfl, ⟨XM, ds, hds.only hos (fun k hk => hFD k hk), hdv, rfl⟩, hb9.trans (hos.below hb9.size (fun k e => by have e : k = D := e; have := HBB.out.size; omega))⟩)
        have HK := Lib.hid hK1
        clear ho9 hds hdv hb9 hDD hFD hK1 hkc
        go_wp2_with fail
        refine ⟨by simp, .inl ⟨_, _, rfl, run_takeDeferred HK.out, ?_⟩⟩
        refine ⟨_, ?_, HFIN.out⟩
        simp [results, Try.results18, go_sem]
    · go_simp
      refine hK.out _ _ ?_ (fun _ => ?_)
      · exact (((drew_below W1).alloc (drew_below W1).size _).alloc ((drew_below W1).alloc (drew_below W1).size _).size _)
      clear hK K
      try simp only [Act.put, List.getElem_toArray, List.getElem_cons_succ, List.getElem_cons_zero, List.setIfInBounds_toArray, List.set_cons_zero, List.set_cons_succ]
      refine wpAnyH_ready (rs := [10]) (by kernel_rfl) (by simp) ?_
      refine AllReadyH.cons (o := _) rfl (fun K hK => ?_) AllReadyH.nil
      go_simp
      refine hK.out _ _ ?_ (fun _ => ?_)
      · exact ((((drew_below W1).alloc (drew_below W1).size _).alloc ((drew_below W1).alloc (drew_below W1).size _).size _).alloc (((drew_below W1).alloc (drew_below W1).size _).alloc ((drew_below W1).alloc (drew_below W1).size _).size _).size _)
      clear hK K
      try simp only [Act.put, List.getElem_toArray, List.getElem_cons_succ, List.getElem_cons_zero, List.setIfInBounds_toArray, List.set_cons_zero, List.set_cons_succ]
      refine wpAnyH_ready (rs := [12]) (by kernel_rfl) (by simp) ?_
      refine AllReadyH.cons (o := _) rfl (fun K hK => ?_) AllReadyH.nil
      go_simp
      refine hK.out _ _ ?_ (fun _ => ?_)
      · exact bel3d W1 _ _ _
      clear hK K
      try simp only [Act.put, List.getElem_toArray, List.getElem_cons_succ, List.getElem_cons_zero, List.setIfInBounds_toArray, List.set_cons_zero, List.set_cons_succ]
      refine wpAnyH_done (by kernel_rfl) ?_ _
      refine NoPanic.normal ?_
      obtain ⟨W7, hW7⟩ : ∃ W, W = (((W1.alloc (.map #[] 0)).alloc (.cells #[.pointer (some ⟨W1.heap.size + 1 + 1, 0, none⟩)] 25)).alloc (.cells #[.map (some (W1.heap.size)), .int .i64 most, .int .i64 d] 50)).drew := ⟨_, rfl⟩
      have hcp : CpA W1 most d (W1.heap.size) (W1.heap.size + 1 + 1) (W1.heap.size + 1) W7 := by
        rw [hW7]
        exact CpA.mk3 (alloc3 W1 _ _ _).1 (alloc3 W1 _ _ _).2.2 (alloc3 W1 _ _ _).2.1 (bel3d W1 _ _ _) ⟨by omega, by omega, by omega⟩ ⟨by omega, by omega, by omega⟩
      rw [← hW7]
      clear hW7
      generalize hxa : (W1.heap.size + 1 + 1) = XO at hcp
      generalize hxb : (W1.heap.size + 1) = X3 at hcp
      generalize hxc : (W1.heap.size) = XM at hcp
      have HCP := Lib.hid hcp
      have c1 : W7.cell? ⟨w.heap.size, 0, none⟩ = some (.pointer (some ⟨n, 0, none⟩)) := keepc hcp.bel C1.out
      clear hxa hxb hxc hcp
      go_wp2_with fail
      clear c1
      have HN7 := Lib.hid (HN.out W7 (HB1.out.trans (HCP.out.bel.mono HB1.out.size)))
      refine (all_any HN7.out HD.out).mono ?_
      rintro e w8 ⟨Bh, Mh, kvs, rfl, hMh, hBh, hBc, hMp, hperm, hb8⟩
      have HBC := Lib.hid hBc
      have HMP := Lib.hid hMp
      have HPM := Lib.hid hperm
      have HB8 := Lib.hid hb8
      have HGE := Lib.hid (And.intro hMh hBh)
      clear hBc hMp hperm hb8 hMh hBh
      have HX8 := Lib.hid (keeph (HCP.out.bel.trans (HB8.out.mono HCP.out.bel.size)) HX1.out)
      have HM8 := Lib.hid (HCP.out.mp.only (F := fun _ => False) (Only.of_new HB8.out) (fun h => h))
      have HO8 := Lib.hid (keeph HB8.out HCP.out.net)
      have H38 := Lib.hid (keeph HB8.out HCP.out.box)
      have HBB := Lib.hid (show Below w.heap.size w w8 from (HB1.out.trans (HCP.out.bel.mono HB1.out.size)).trans (HB8.out.mono (HB1.out.trans (HCP.out.bel.mono HB1.out.size)).size))
      have HSZ := Lib.hid (show w.heap.size + 1 ≤ XM ∧ w.heap.size + 1 ≤ XO ∧ w.heap.size + 1 ≤ X3 ∧ XM < W7.heap.size ∧ XO < W7.heap.size ∧ X3 < W7.heap.size ∧ W7.heap.size ≤ w8.heap.size from by
        have h1 := HS1.out
        have h2 := HCP.out.ge
        have h3 := HCP.out.mp.lt
        have h4 := (Array.getElem?_eq_some_iff.1 HCP.out.net).1
        have h5 := (Array.getElem?_eq_some_iff.1 HCP.out.box).1
        have h6 := HB8.out.size
        omega)
      have HNE := Lib.hid HCP.out.ne
      go_wp2_with fail
      refine wp_rangeFunc_pairs_c (kvs := kvs) (L := (es.map CE.vw).map CV.ih) rfl HBC.out HMP.out HPM.out HS.out HW.out HL.out
        (copyI w8 w.heap.size XO XM most d (es.map CE.vw)) (fun _ => False) (fun k => copy_inv (by have := HSZ.out; omega) k) ?start 4 5 ?assign ?body ?done
      case start =>
        refine ⟨Only.refl _ _, [], ⟨HO8.out, HM8.out, by simp, ?_, ?_⟩, by simp⟩
        · have := HNE.out
          simp [foot]
          omega
        · intro k hk
          have := HSZ.out
          simp [foot] at hk
          omega
      case assign =>
        intro l x y W K hK
        gi_wp2
        simpa using hK
      case body =>
        intro l k x y W hkf hl hi
        simp only [List.setIfInBounds_toArray, List.set_cons_succ, List.set_cons_zero]
        have hon := hi.1
        have hbw : Below w.heap.size w W := HBB.out.trans (hon.below HBB.out.size (fun k e => by have e : k = XM := e; have := HSZ.out; omega))
        refine copy_body (X1 := w.heap.size) (X3 := X3) HD.out HZ.out ?_ ?_ _ ?_ ?_ ?_ l k x y W (by rw [List.map_map] at hkf; exact hkf) hi (HN.out W hbw) ?_ ?_ _ _ _ _ _ _ _ _ _ _ _ _ _ _ _ _ _ _ _ _ _ _ _ _ _ _ _ _ _ _ _ _ _ _ _ _ _ _ _ _ _ _ _ _ _ _ _
        · have := HNE.out; omega
        · intro q hq e
          have h1 := HLT.out q hq
          have h2 := HSZ.out
          omega
        · have := HSZ.out; omega
        · have h1 := HSZ.out; have h2 := HGE.out; omega
        · have h1 := HSZ.out; have h2 := HGE.out; omega
        · rw [cell_of_row _ _ _ _ _ _ (hon.heap HX8.out (fun e => by have e : w.heap.size = XM := e; have := HSZ.out; omega))]; rfl
        · rw [cell_of_row _ _ _ _ _ _ (hon.heap H38.out (fun e => HNE.out.2.1 e))]; rfl
      case done =>
        rintro D k0 W9 hD1 ⟨ho9, ds, hds, hdv⟩ hkc hK1
        obtain rfl : k0 = ((es.map CE.vw).map CV.ih).length := hkc.resolve_right (fun h => h)
        rw [List.length_map, List.take_length] at hdv
        have hb9 : Below w.heap.size w W9 := HBB.out.trans (ho9.below HBB.out.size (fun k e => by have e : k = XM := e; have := HSZ.out; omega))
        have c3 : W9.cell? ⟨X3, 0, none⟩ = some (.pointer (some ⟨XO, 0, none⟩)) := by rw [cell_of_row _ _ _ _ _ _ (ho9.heap H38.out (fun e => HNE.out.2.1 e))]; rfl
        have hDD : D < W9.heap.size := (Array.getElem?_eq_some_iff.1 hK1).1
        have hFD : ∀ k ∈ foot XO XM ds, k ≠ D := fun k hk e => by
          rcases hds.cells k hk with h9 | ⟨u, hu, hc⟩
          · have := HSZ.out; omega
          · rw [e, hK1] at hu
            cases hu
            cases hc
        have HFIN := Lib.hid (show NCopy w most d (es.map CE.vw) (.returned (.pointer (some ⟨XO, 0, none⟩))) (W9.putObj D (.deferred none)) from by
          have hos : Only (· = D) W9 (W9.putObj D (.deferred none)) := ⟨rfl, rfl, rfl, by simp, fun k hk hn => World.putObj_heap_other hn⟩
          exact ⟨XO, _, rfl, ⟨XM, ds, hds.only hos (fun k hk => hFD k hk), hdv, rfl⟩, hb9.trans (hos.below hb9.size (fun k e => by have e : k = D := e; have := HBB.out.size; omega))⟩)
        have HK := Lib.hid hK1
        clear ho9 hds hdv hb9 hDD hFD hK1 hkc
        go_wp2_with fail
        refine ⟨by simp, .inl ⟨_, _, rfl, run_takeDeferred HK.out, ?_⟩⟩
        refine ⟨_, ?_, HFIN.out⟩
        simp [results, Try.results18, go_sem]
  · go_simp
    refine hK.out _ _ ?_ (fun _ => ?_)
    · exact ((drew_below W1).alloc (drew_below W1).size _)
    clear hK K
    try simp only [Act.put, List.getElem_toArray, List.getElem_cons_succ, List.getElem_cons_zero, List.setIfInBounds_toArray, List.set_cons_zero, List.set_cons_succ]
    refine wpAnyH_ready (rs := [0]) (by kernel_rfl) (by simp) ?_
    refine AllReadyH.cons (o := _) rfl (fun K hK => ?_) AllReadyH.nil
    go_simp
    refine hK.out _ _ ?_ (fun _ => ?_)
    · exact (((drew_below W1).alloc (drew_below W1).size _).alloc ((drew_below W1).alloc (drew_below W1).size _).size _)
    clear hK K
    try simp only [Act.put, List.getElem_toArray, List.getElem_cons_succ, List.getElem_cons_zero, List.setIfInBounds_toArray, List.set_cons_zero, List.set_cons_succ]
    refine wpAnyH_take (i := 9) (oi := _) (v := ?_) rfl (by kernel_rfl) (by kernel_rfl) (by kernel_rfl) (fun _ _ _ h => h) (Or.inl ⟨by rfl, ?_⟩) (by assumption) ?_
    rotate_left 1
    · (intro w hSw; (try dsimp only at hSw); go_simp; (try with_reducible rfl))
    try simp only [Act.put, List.getElem_toArray, List.getElem_cons_succ, List.getElem_cons_zero, List.setIfInBounds_toArray, List.set_cons_zero, List.set_cons_succ]
    refine wpAnyH_ready (rs := [10]) (by kernel_rfl) (by simp) ?_
    refine AllReadyH.cons (o := _) rfl (fun K hK => ?_) AllReadyH.nil
    go_simp
    refine hK.out _ _ ?_ (fun _ => ?_)
    · exact ((((drew_below W1).alloc (drew_below W1).size _).alloc ((drew_below W1).alloc (drew_below W1).size _).size _).alloc (((drew_below W1).alloc (drew_below W1).size _).alloc ((drew_below W1).alloc (drew_below W1).size _).size _).size _)
    clear hK K
    try simp only [Act.put, List.getElem_toArray, List.getElem_cons_succ, List.getElem_cons_zero, List.setIfInBounds_toArray, List.set_cons_zero, List.set_cons_succ]
    refine wpAnyH_ready (rs := [12]) (by kernel_rfl) (by simp) ?_
    refine AllReadyH.cons (o := _) rfl (fun K hK => ?_) AllReadyH.nil
    go_simp
    refine hK.out _ _ ?_ (fun _ => ?_)
    · exact bel3d W1 _ _ _
    clear hK K
    try simp only [Act.put, List.getElem_toArray, List.getElem_cons_succ, List.getElem_cons_zero, List.setIfInBounds_toArray, List.set_cons_zero, List.set_cons_succ]
    refine wpAnyH_done (by kernel_rfl) ?_ _
    refine NoPanic.normal ?_
    obtain ⟨W7, hW7⟩ : ∃ W, W = (((W1.alloc (.cells #[.pointer (some ⟨W1.heap.size + 1 + 1, 0, none⟩)] 25)).alloc (.map #[] 0)).alloc (.cells #[.map (some (W1.heap.size + 1)), .int .i64 most, .int .i64 d] 50)).drew := ⟨_, rfl⟩
    have hcp : CpA W1 most d (W1.heap.size + 1) (W1.heap.size + 1 + 1) (W1.heap.size) W7 := by
      rw [hW7]
      exact CpA.mk3 (alloc3 W1 _ _ _).2.1 (alloc3 W1 _ _ _).2.2 (alloc3 W1 _ _ _).1 (bel3d W1 _ _ _) ⟨by omega, by omega, by omega⟩ ⟨by omega, by omega, by omega⟩
    rw [← hW7]
    clear hW7
    generalize hxa : (W1.heap.size + 1 + 1) = XO at hcp
    generalize hxb : (W1.heap.size + 1) = XM at hcp
    generalize hxc : (W1.heap.size) = X3 at hcp
    have HCP := Lib.hid hcp
    have c1 : W7.cell? ⟨w.heap.size, 0, none⟩ = some (.pointer (some ⟨n, 0, none⟩)) := keepc hcp.bel C1.out
    clear hxa hxb hxc hcp
    go_wp2_with fail
    clear c1
    have HN7 := Lib.hid (HN.out W7 (HB1.out.trans (HCP.out.bel.mono HB1.out.size)))
    refine (all_any HN7.out HD.out).mono ?_
    rintro e w8 ⟨Bh, Mh, kvs, rfl, hMh, hBh, hBc, hMp, hperm, hb8⟩
    have HBC := Lib.hid hBc
    have HMP := Lib.hid hMp
    have HPM := Lib.hid hperm
    have HB8 := Lib.hid hb8
    have HGE := Lib.hid (And.intro hMh hBh)
    clear hBc hMp hperm hb8 hMh hBh
    have HX8 := Lib.hid (keeph (HCP.out.bel.trans (HB8.out.mono HCP.out.bel.size)) HX1.out)
    have HM8 := Lib.hid (HCP.out.mp.only (F := fun _ => False) (Only.of_new HB8.out) (fun h => h))
    have HO8 := Lib.hid (keeph HB8.out HCP.out.net)
    have H38 := Lib.hid (keeph HB8.out HCP.out.box)
    have HBB := Lib.hid (show Below w.heap.size w w8 from (HB1.out.trans (HCP.out.bel.mono HB1.out.size)).trans (HB8.out.mono (HB1.out.trans (HCP.out.bel.mono HB1.out.size)).size))
    have HSZ := Lib.hid (show w.heap.size + 1 ≤ XM ∧ w.heap.size + 1 ≤ XO ∧ w.heap.size + 1 ≤ X3 ∧ XM < W7.heap.size ∧ XO < W7.heap.size ∧ X3 < W7.heap.size ∧ W7.heap.size ≤ w8.heap.size from by
      have h1 := HS1.out
      have h2 := HCP.out.ge
      have h3 := HCP.out.mp.lt
      have h4 := (Array.getElem?_eq_some_iff.1 HCP.out.net).1
      have h5 := (Array.getElem?_eq_some_iff.1 HCP.out.box).1
      have h6 := HB8.out.size
      omega)
    have HNE := Lib.hid HCP.out.ne
    go_wp2_with fail
    refine wp_rangeFunc_pairs_c (kvs := kvs) (L := (es.map CE.vw).map CV.ih) rfl HBC.out HMP.out HPM.out HS.out HW.out HL.out
      (copyI w8 w.heap.size XO XM most d (es.map CE.vw)) (fun _ => False) (fun k => copy_inv (by have := HSZ.out; omega) k) ?start 4 5 ?assign ?body ?done
    case start =>
      refine ⟨Only.refl _ _, [], ⟨HO8.out, HM8.out, by simp, ?_, ?_⟩, by simp⟩
      · have := HNE.out
        simp [foot]
        omega
      · intro k hk
        have := HSZ.out
        simp [foot] at hk
        omega
    case assign =>
      intro l x y W K hK
      gi_wp2
      simpa using hK
    case body =>
      intro l k x y W hkf hl hi
      simp only [List.setIfInBounds_toArray, List.set_cons_succ, List.set_cons_zero]
      have hon := hi.1
      have hbw : Below w.heap.size w W := HBB.out.trans (hon.below HBB.out.size (fun k e => by have e : k = XM := e; have := HSZ.out; omega))
      refine copy_body (X1 := w.heap.size) (X3 := X3) HD.out HZ.out ?_ ?_ _ ?_ ?_ ?_ l k x y W (by rw [List.map_map] at hkf; exact hkf) hi (HN.out W hbw) ?_ ?_ _ _ _ _ _ _ _ _ _ _ _ _ _ _ _ _ _ _ _ _ _ _ _ _ _ _ _ _ _ _ _ _ _ _ _ _ _ _ _ _ _ _ _ _ _ _ _
      · have := HNE.out; omega
      · intro q hq e
        have h1 := HLT.out q hq
        have h2 := HSZ.out
        omega
      · have := HSZ.out; omega
      · have h1 := HSZ.out; have h2 := HGE.out; omega
      · have h1 := HSZ.out; have h2 := HGE.out; omega
      · rw [cell_of_row _ _ _ _ _ _ (hon.heap HX8.out (fun e => by have e : w.heap.size = XM := e; have := HSZ.out; omega))]; rfl
      · rw [cell_of_row _ _ _ _ _ _ (hon.heap H38.out (fun e => HNE.out.2.1 e))]; rfl
    case done =>
      rintro D k0 W9 hD1 ⟨ho9, ds, hds, hdv⟩ hkc hK1
      obtain rfl : k0 = ((es.map CE.vw).map CV.ih).length := hkc.resolve_right (fun h => h)
      rw [List.length_map, List.take_length] at hdv
      have hb9 : Below w.heap.size w W9 := HBB.out.trans (ho9.below HBB.out.size (fun k e => by have e : k = XM := e; have := HSZ.out; omega))
      have c3 : W9.cell? ⟨X3, 0, none⟩ = some (.pointer (some ⟨XO, 0, none⟩)) := by rw [cell_of_row _ _ _ _ _ _ (ho9.heap H38.out (fun e => HNE.out.2.1 e))]; rfl
      have hDD : D < W9.heap.size := (Array.getElem?_eq_some_iff.1 hK1).1
      have hFD : ∀ k ∈ foot XO XM ds, k ≠ D := fun k hk e => by
        rcases hds.cells k hk with h9 | ⟨u, hu, hc⟩
        · have := HSZ.out; omega
        · rw [e, hK1] at hu
          cases hu
          cases hc
      have HFIN := Lib.hid (show NCopy w most d (es.map CE.vw) (.returned (.pointer (some ⟨XO, 0, none⟩))) (W9.putObj D (.deferred none)) from by
        have hos : Only (· = D) W9 (W9.putObj D (.deferred none)) := ⟨rfl, rfl, rfl, by simp, fun k hk hn => World.putObj_heap_other hn⟩
        exact ⟨XO, _, rfl, ⟨XM, ds, hds.only hos (fun k hk => hFD k hk), hdv, rfl⟩, hb9.trans (hos.below hb9.size (fun k e => by have e : k = D := e; have := HBB.out.size; omega))⟩)
      have HK := Lib.hid hK1
      clear ho9 hds hdv hb9 hDD hFD hK1 hkc
      go_wp2_with fail
      refine ⟨by simp, .inl ⟨_, _, rfl, run_takeDeferred HK.out, ?_⟩⟩
      refine ⟨_, ?_, HFIN.out⟩
      simp [results, Try.results18, go_sem]
end Go.Proofs.Ytepdnmpcccgcaaa
