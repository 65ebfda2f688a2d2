/- The walk over (*store.Store).one where a series is new; the contract of it. -/
import Derived.Test.YthademifhnkbiaaStP
namespace Go.Proofs.Ythademifhnkbiaa
open Go.RowKit K
section
variable {w : World} {B s : Nat} {most : Int} {l : List SV} {F : List Nat}
theorem results_cell1 {fn : Func} {p : Tmp} {ty : TypeId} (h : fn.results = #[.cell p ty]) (tmps : Array Value) (P : Program) (w : World) (g : Nat) (v : Value) (hp : tmps.getD p undef = .pointer (some ⟨g, 0, none⟩)) (hl : (loadVar ty ⟨g, 0, none⟩).run P w = .ok v w) : (results fn tmps).run P w = .ok v w := by
  have hp2 : tmps[p]?.getD undef = .pointer (some ⟨g, 0, none⟩) := by simpa using hp
  simp only [results, h]
  simp [hp2, hl, asAddr]
theorem load_seen (w : World) (g : Nat) (a0 a1 a2 a3 a4 a5 a6 : Value) (h : w.heap[g]? = some (.cells #[a0, a1, a2, a3, a4, a5, a6] 68 (0, 0))) : (loadVar 68 ⟨g, 0, none⟩).run Try.prog w = .ok (.agg #[a0, a1, a2, a3, a4, a5, a6]) w := by
  have c : ∀ i, w.cell? ⟨g, i, none⟩ = #[a0, a1, a2, a3, a4, a5, a6][i]? := fun i => cell_of_row _ _ _ _ _ _ h
  simp [loadVar, go_sem, c]
theorem set7 (w : World) (b : Nat) (a0 a1 a2 a3 a4 a5 a6 x0 x1 x2 x3 x4 x5 x6 : Value) (t : TypeId) (h : w.heap[b]? = some (.cells #[a0, a1, a2, a3, a4, a5, a6] t (0, 0))) :
    (((((((w.setCell ⟨b, 0, none⟩ x0).setCell ⟨b, 1, none⟩ x1).setCell ⟨b, 2, none⟩ x2).setCell ⟨b, 3, none⟩ x3).setCell ⟨b, 4, none⟩ x4).setCell ⟨b, 5, none⟩ x5).setCell ⟨b, 6, none⟩ x6).heap[b]? = some (.cells #[x0, x1, x2, x3, x4, x5, x6] t (0, 0)) := by
  rw [heap_setCell_same _ _ _ _ _ _ (heap_setCell_same _ _ _ _ _ _ (heap_setCell_same _ _ _ _ _ _ (heap_setCell_same _ _ _ _ _ _ (heap_setCell_same _ _ _ _ _ _ (heap_setCell_same _ _ _ _ _ _ (heap_setCell_same _ _ _ _ _ _ h))))))]
  rfl
theorem set7_only (w : World) (b : Nat) (x0 x1 x2 x3 x4 x5 x6 : Value) :
    Only (· = b) w (((((((w.setCell ⟨b, 0, none⟩ x0).setCell ⟨b, 1, none⟩ x1).setCell ⟨b, 2, none⟩ x2).setCell ⟨b, 3, none⟩ x3).setCell ⟨b, 4, none⟩ x4).setCell ⟨b, 5, none⟩ x5).setCell ⟨b, 6, none⟩ x6) :=
  (((((((Only.refl (· = b) w).setCell ⟨b, 0, none⟩ x0 (fun _ => rfl)).setCell ⟨b, 1, none⟩ x1 (fun _ => rfl)).setCell ⟨b, 2, none⟩ x2 (fun _ => rfl)).setCell ⟨b, 3, none⟩ x3 (fun _ => rfl)).setCell ⟨b, 4, none⟩ x4 (fun _ => rfl)).setCell ⟨b, 5, none⟩ x5 (fun _ => rfl)).setCell ⟨b, 6, none⟩ x6 (fun _ => rfl)
theorem eqlSome (bm : Nat) (w : World) : (binOp .eql 78 (.map (some bm)) (.map none)).run Try.prog w = .ok (.bool false) w := by kernel_rfl
theorem sents_add {n : ByteArray} {es : List SE} (hmg : mget n (sents es) = none) (sv : SV) (hn : sv.x.name = n) (b : Nat) : sents (es ++ [(sv, b)]) = mput n (.pointer (some ⟨b, 0, none⟩)) (sents es) := by
  rw [(mget_none _ _ hmg).2]
  simp [sents, hn]
theorem StAt.added {wa w2 : World} {M : Nat} {es : List SE} (h : StAt wa B s M most es) (hB : B ≤ wa.heap.size) {n : ByteArray} (hmg : mget n (sents es) = none) (sv : SV) (hn : sv.x.name = n)
    (hm : MapAt sEnc w2 M (mput n (.pointer (some ⟨wa.heap.size, 0, none⟩)) (sents es))) (ho : Only (· = M) (wa.alloc (.cells sv.cells 88)).drew w2) : StAt w2 B s M most (es ++ [(sv, wa.heap.size)]) := by
  have hlt := h.lt
  have hb : StAt (wa.alloc (.cells sv.cells 88)).drew B s M most es := h.below (D := wa.heap.size) (((Below.refl _ _).alloc (Nat.le_refl _) _).drew) (Nat.le_refl _)
  obtain ⟨h1, h2, h3, h4, h5⟩ := hb
  have hf : sfoot s M (es ++ [(sv, wa.heap.size)]) = sfoot s M es ++ [wa.heap.size] := by simp [sfoot]
  have hsM : s ≠ M := fun e => (List.nodup_cons.1 h4).1 (by simp [e])
  have heM : ∀ e ∈ es, e.2 ≠ M := fun e he h => (List.nodup_cons.1 (List.nodup_cons.1 h4).2).1 (List.mem_map.2 ⟨e, he, h⟩)
  refine ⟨ho.heap h1 hsM, by rw [sents_add hmg sv hn]; exact hm, ?_, ?_, ?_⟩
  · intro e he
    rcases List.mem_append.1 he with he | he
    · exact ho.heap (h3 e he) (heM e he)
    · simp at he
      subst he
      refine ho.heap (heap_alloc_new wa _) (fun e => ?_)
      have := hlt M (by simp [sfoot])
      simp only at e
      omega
  · rw [hf]
    refine List.nodup_append.2 ⟨h4, by simp, fun a ha b hb e => ?_⟩
    simp at hb
    have := hlt a ha
    omega
  · rw [hf]
    intro k hk
    rcases List.mem_append.1 hk with hk | hk
    · exact h5 k hk
    · simp at hk; omega
set_option maxHeartbeats 4000000 in
set_option maxRecDepth 100000 in
theorem one_new (h : StIs w B s most l F) (hB : B ≤ w.heap.size) (owner : Int) (x : Smp) (hf : sfind x.name l = none) (hroom : ¬ most ≤ (l.length : Int)) :
    Calls Try.prog 35 #[.pointer (some ⟨s, 0, none⟩), .int .i64 owner, .agg x.cells] w (OnePost w B s F most ⟨x, 1, false, 0⟩ (l ++ [⟨x, true, owner⟩])) := by
  obtain ⟨M, es, h1, rfl, rfl⟩ := h
  obtain ⟨n, v, t, c⟩ := x
  have hmg := efind_none hf
  have HMG := Lib.hid hmg
  have hw : StAt (oneW w ⟨n, v, t, c⟩) B s M most es := h1.below (D := w.heap.size) (((Below.refl _ _).alloc (Nat.le_refl _) _).alloc (by simp) _) (Nat.le_refl _)
  have HW := Lib.hid hw
  unfold oneW at hw
  simp only [Smp.cells] at hw ⊢
  have hl := lk _ hw.2.1 n
  rw [hmg] at hl
  have hlen := fun k => K.run_len_map (P := Try.prog) (hw.2.1.drewN k) Try.underlying78 3
  have c0 := hw.c0
  have c1 := hw.c1
  simp only [List.length_map] at hroom
  have hs : (sents es).length = es.length := by simp [sents]
  rw [← hs] at hroom
  generalize (sents es).length = ln at hlen hroom
  replace hroom : (ln : Int) < most := by omega
  have heq := eqlSome M
  have H1 := Lib.hid h1
  clear h1 hw hf hs hmg
  go_enter Try.func35, Try.ntmps35
  go_wp2
  go_quiet (fail)
  revert nq
  intro k1
  go_wp2
  go_quiet (fail)
  go_wp2
  clear hl hlen c0 c1
  obtain ⟨wa, hwa⟩ : ∃ wa, wa = ((w.alloc (.cells #[.string n, .int .i64 v, .int .i64 t, .bool c] 31)).alloc (.cells #[.string ⟨#[]⟩, .int .i64 0, .int .i64 0, .bool false, .int .i64 0, .bool false, .int .i64 0] 68)).drewN (k1 + nq) := ⟨_, rfl⟩
  rw [← hwa]
  have hsa : StAt wa B s M most es := by rw [hwa]; exact HW.out.drewN _
  have hba : Below w.heap.size w wa := by rw [hwa]; exact below_drewN (((Below.refl _ _).alloc (Nat.le_refl _) _).alloc (by simp) _) _
  have hsz : wa.heap.size = w.heap.size + 1 + 1 := by rw [hwa]; simp
  have hxa : wa.heap[w.heap.size]? = some (.cells #[.string n, .int .i64 v, .int .i64 t, .bool c] 31 (0, 0)) := by
    rw [hwa, World.heap_drewN, Below.heap_alloc _ _ _ (by simp)]
    exact heap_alloc_new w _
  have hoa : wa.heap[w.heap.size + 1]? = some (.cells #[.string ⟨#[]⟩, .int .i64 0, .int .i64 0, .bool false, .int .i64 0, .bool false, .int .i64 0] 68 (0, 0)) := by
    rw [hwa, World.heap_drewN]
    have := heap_alloc_new (w.alloc (.cells #[.string n, .int .i64 v, .int .i64 t, .bool c] 31)) (.cells #[.string ⟨#[]⟩, .int .i64 0, .int .i64 0, .bool false, .int .i64 0, .bool false, .int .i64 0] 68)
    rw [World.size_alloc] at this
    exact this
  clear hwa
  have hma2 : MapAt sEnc ((wa.alloc (.cells #[.string n, .int .i64 v, .int .i64 t, .bool c, .bool true, .int .i64 owner] 88)).drew) M (sents es) :=
    hsa.2.1.only (F := fun _ => False) ((Only.of_new ((Below.refl _ _).alloc (Nat.le_refl _) _)).drew) (fun h => h)
  obtain ⟨o, hup, hm2⟩ := run_update sKey hma2 Try.underlying78 n (.pointer (some ⟨wa.heap.size, 0, none⟩))
  have hon : Only (· = M) ((wa.alloc (.cells #[.string n, .int .i64 v, .int .i64 t, .bool c, .bool true, .int .i64 owner] 88)).drew) (ChangeMaps.setBlock ((wa.alloc (.cells #[.string n, .int .i64 v, .int .i64 t, .bool c, .bool true, .int .i64 owner] 88)).drew) M o) := (Only.refl _ _).setBlock M o (fun _ => rfl)
  have hup2 : Sem.run Try.prog (Instr.mapUpdate 78 (.map (some M)) (.string n) (.pointer (some ⟨wa.heap.size, 0, none⟩))) ((wa.alloc (.cells #[.string n, .int .i64 v, .int .i64 t, .bool c, .bool true, .int .i64 owner] 88)).drew) = .ok () (ChangeMaps.setBlock ((wa.alloc (.cells #[.string n, .int .i64 v, .int .i64 t, .bool c, .bool true, .int .i64 owner] 88)).drew) M o) := hup
  clear hup
  generalize ChangeMaps.setBlock ((wa.alloc (.cells #[.string n, .int .i64 v, .int .i64 t, .bool c, .bool true, .int .i64 owner] 88)).drew) M o = w2 at hup2 hm2 hon
  have hMlt := H1.out.lt M (by simp [sfoot])
  have h2 : StAt w2 B s M most (es ++ [(⟨⟨n, v, t, c⟩, true, owner⟩, wa.heap.size)]) := hsa.added (by omega) HMG.out ⟨⟨n, v, t, c⟩, true, owner⟩ rfl hm2 hon
  have hx2 : w2.heap[w.heap.size]? = some (.cells #[.string n, .int .i64 v, .int .i64 t, .bool c] 31 (0, 0)) :=
    hon.heap ((Below.heap_alloc wa _ _ (by omega)).trans hxa) (by omega)
  have ho2 : w2.heap[w.heap.size + 1]? = some (.cells #[.string ⟨#[]⟩, .int .i64 0, .int .i64 0, .bool false, .int .i64 0, .bool false, .int .i64 0] 68 (0, 0)) :=
    hon.heap ((Below.heap_alloc wa _ _ (by omega)).trans hoa) (by omega)
  have ca := hsa.c1
  have cx : ∀ i, wa.cell? ⟨w.heap.size, i, none⟩ = _ := fun i => cell_of_row _ _ _ _ _ _ hxa
  have cx2 : ∀ i, w2.cell? ⟨w.heap.size, i, none⟩ = _ := fun i => cell_of_row _ _ _ _ _ _ hx2
  have co2 : ∀ i, w2.cell? ⟨w.heap.size + 1, i, none⟩ = _ := fun i => cell_of_row _ _ _ _ _ _ ho2
  have fo2 : ∀ i, w2.frozen? ⟨w.heap.size + 1, i, none⟩ = false := fun i => frozen_of_row _ _ _ _ _ ho2
  have hfin : ∀ w', Only (· = w.heap.size + 1) w2 w' → StTo w B s (sfoot s M es) most (es.map (·.1) ++ [⟨⟨n, v, t, c⟩, true, owner⟩]) w' := by
    intro w' ho
    have hlt := H1.out.lt
    have hf : sfoot s M (es ++ [(⟨⟨n, v, t, c⟩, true, owner⟩, wa.heap.size)]) = sfoot s M es ++ [wa.heap.size] := by simp [sfoot]
    refine ⟨_, ⟨M, _, h2.only ho ?_, by simp, rfl⟩, ?_, ?_⟩
    · rw [hf]
      intro k hk e
      rcases List.mem_append.1 hk with hk | hk
      · have := hlt k hk; omega
      · simp at hk; omega
    · have o1 : Only (· ∈ sfoot s M es) w (wa.alloc (.cells #[.string n, .int .i64 v, .int .i64 t, .bool c, .bool true, .int .i64 owner] 88)).drew := ((Only.of_new hba).alloc _).drew
      have o2 := o1.trans hon (fun k _ e => by rw [e]; simp [sfoot])
      exact o2.trans ho (fun k hk e => by omega)
    · rw [hf]
      intro k hk
      rcases List.mem_append.1 hk with hk | hk
      · exact .inl hk
      · simp at hk; exact .inr (by omega)
  have HF := Lib.hid hfin
  have HO := Lib.hid ho2
  have hl1 : w.heap.size < wa.heap.size := by omega
  have hl2 : s < wa.heap.size := hsa.lt s (by simp [sfoot])
  clear H1 hsa hba hsz hxa hoa hma2 hm2 hon h2 hx2 ho2 hfin hMlt
  go_region
  all_goals (try go_wp2)
  clear cx cx2 fo2 ca hup2 co2
  have h7 := HO.out
  clear HO
  refine bodyPost_ret (results_cell1 rfl _ _ _ (w.heap.size + 1) _ rfl (load_seen _ _ _ _ _ _ _ _ _ (set7 _ _ _ _ _ _ _ _ _ _ _ _ _ _ _ _ _ h7))) rfl ?_
  refine ⟨rfl, HF.out _ ?_⟩
  with_reducible exact set7_only _ _ _ _ _ _ _ _ _
/-- THE CONTRACT: one sample put. -/
theorem one_any (h : StIs w B s most l F) (hB : B ≤ w.heap.size) (owner : Int) (x : Smp) :
    Calls Try.prog 35 #[.pointer (some ⟨s, 0, none⟩), .int .i64 owner, .agg x.cells] w (OnePost w B s F most (oneV most l x) (oneL most owner l x)) := by
  unfold oneV oneL
  cases hf : sfind x.name l with
  | none =>
    simp only
    by_cases hm : most ≤ (l.length : Int)
    · rw [if_pos hm, if_pos hm]
      exact one_full h owner x hf hm
    · rw [if_neg hm, if_neg hm]
      exact one_new h hB owner x hf hm
  | some u =>
    simp only
    by_cases h1 : x.time < u.x.time
    · rw [if_pos h1, if_pos (show x.time ≤ u.x.time by omega)]
      exact one_order h owner x u hf h1
    · rw [if_neg h1]
      by_cases h2 : x.time = u.x.time
      · rw [if_pos h2, if_pos (show x.time ≤ u.x.time by omega)]
        exact one_twice h owner x u hf h2
      · rw [if_neg h2, if_neg (show ¬ x.time ≤ u.x.time by omega)]
        exact one_chain h hB owner x u hf (by omega) _ rfl
end
end Go.Proofs.Ythademifhnkbiaa
