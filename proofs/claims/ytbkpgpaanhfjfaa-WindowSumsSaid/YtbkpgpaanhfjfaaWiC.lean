/- Windows: close, room, Note, Floor, Mark, Counts, New: the walks. -/
import Derived.Test.YtbkpgpaanhfjfaaWiB
namespace Go.Proofs.Ytbkpgpaanhfjfaa
open Go.RowKit Go.Sort K
/-- From one state of windows to another one. -/
def WinTo (w : World) (B g : Nat) (F : List Nat) (s' : Cfg) (L' : List WV) (w' : World) : Prop := ∃ F', WinIs w' B g s' L' F' ∧ Only (· ∈ F) w w' ∧ ∀ k ∈ F', k ∈ F ∨ w.heap.size ≤ k
/-- .. with no new block. -/
def WinSub (w : World) (B g : Nat) (F : List Nat) (s' : Cfg) (L' : List WV) (w' : World) : Prop := ∃ F', WinIs w' B g s' L' F' ∧ Only (· ∈ F) w w' ∧ ∀ k ∈ F', k ∈ F
def wdel (n : Int) (L : List WV) : List WV := L.filter fun v => decide (v.num ≠ n)
section
variable {w w' w1 w2 : World} {B g M : Nat} {s s' : Cfg} {es : List WE} {L L' : List WV} {F : List Nat}
theorem WinTo.same (h : WinIs w B g s L F) (hb : Below w.heap.size w w') : WinTo w B g F s L w' := ⟨F, h.new hb, Only.of_new hb, fun _ h => .inl h⟩
theorem WinTo.start (hb : Below w.heap.size w w1) (h : WinTo w1 B g F s L w2) : WinTo w B g F s L w2 := by
  obtain ⟨F', h1, h2, h3⟩ := h
  exact ⟨F', h1, (Only.of_new (F := (· ∈ F)) hb).trans h2 (fun _ _ h => h), fun k hk => (h3 k hk).imp (fun h => h) (fun h => Nat.le_trans hb.size h)⟩
theorem WinTo.after (h : WinTo w B g F s L w1) (hb : Below w1.heap.size w1 w2) : WinTo w B g F s L w2 := by
  obtain ⟨F', h1, h2, h3⟩ := h
  exact ⟨F', h1.new hb, h2.trans (G := fun _ => False) (Only.of_new hb) (fun _ _ h => h.elim), h3⟩
theorem WinSub.to (h : WinSub w B g F s L w') : WinTo w B g F s L w' := by
  obtain ⟨F', h1, h2, h3⟩ := h
  exact ⟨F', h1, h2, fun k hk => .inl (h3 k hk)⟩
theorem WinSub.start (hb : Below w.heap.size w w1) (h : WinSub w1 B g F s L w2) : WinSub w B g F s L w2 := by
  obtain ⟨F', h1, h2, h3⟩ := h
  exact ⟨F', h1, (Only.of_new (F := (· ∈ F)) hb).trans h2 (fun _ _ h => h), h3⟩
theorem WinSub.after (h : WinSub w B g F s L w1) (hb : Below w1.heap.size w1 w2) : WinSub w B g F s L w2 := by
  obtain ⟨F', h1, h2, h3⟩ := h
  exact ⟨F', h1.new hb, h2.trans (G := fun _ => False) (Only.of_new hb) (fun _ _ h => h.elim), h3⟩
theorem WinAt.big (h : WinAt w B g M s es) : B ≤ w.heap.size := by
  have h1 := h.2.2.2.2 g (by simp [wfoot])
  have h2 := (Array.getElem?_eq_some_iff.1 h.1).1
  omega
/-- A cell of the box is turned. -/
theorem WinAt.set (h : WinAt w B g M s es) (j : Nat) (v : Value) (hr : (s.row (.map (some M))).setIfInBounds j v = s'.row (.map (some M))) : WinAt (w.setCell ⟨g, j, none⟩ v) B g M s' es := by
  have hos : Only (· = g) w (w.setCell ⟨g, j, none⟩ v) := (Only.refl _ _).setCell _ _ (fun _ => rfl)
  obtain ⟨h1, h2, h3, h4, h5⟩ := h
  have h6 := List.nodup_cons.1 h4
  refine ⟨?_, h2.only hos (fun e => h6.1 (by have e : M = g := e; rw [← e]; simp)), fun e he => ⟨(h3 e he).1.only hos (fun e0 => h6.1 (by have e0 : e.m = g := e0; rw [← e0]; simp only [List.mem_cons, List.mem_map]; exact .inr ⟨e, he, rfl⟩)), (h3 e he).2⟩, h4, h5⟩
  rw [heap_setCell_same _ _ _ _ _ _ h1, hr]
theorem WinAt.setTo (h : WinAt w B g M s es) (hp : (es.map WE.vw).Perm L) (hs : WS L) (j : Nat) (v : Value) (hr : (s.row (.map (some M))).setIfInBounds j v = s'.row (.map (some M))) : WinTo w B g (wfoot g M es) s' L (w.setCell ⟨g, j, none⟩ v) :=
  ⟨wfoot g M es, ⟨M, es, h.set j v hr, hp, hs, rfl⟩, (Only.refl _ _).setCell _ _ (fun _ => by simp [wfoot]), fun _ hk => .inl hk⟩
theorem mdel_wents (n : Int) : ∀ {es : List WE}, (es.map (·.num)).Nodup → mdel n (wents es) = wents (es.filter fun e => decide (e.num ≠ n))
  | [], _ => rfl
  | e :: t, h => by
    simp only [List.map_cons, List.nodup_cons] at h
    by_cases he : n = e.num
    · have hf : t.filter (fun e => decide (e.num ≠ n)) = t := List.filter_eq_self.2 (fun u hu => by
        simp only [decide_eq_true_eq]
        intro e2
        exact h.1 (by rw [← he, ← e2]; exact List.mem_map.2 ⟨u, hu, rfl⟩))
      have hd : decide (e.num ≠ n) = false := by simp [he]
      show (if n = e.num then wents t else _) = _
      rw [if_pos he, List.filter_cons, hd, hf]
      rfl
    · have hd : decide (e.num ≠ n) = true := by simp; exact fun e2 => he e2.symm
      have ih := mdel_wents n h.2
      show (if n = e.num then _ else (e.num, Value.map (some e.m)) :: mdel n (wents t)) = _
      rw [if_neg he, List.filter_cons, hd, ih]
      rfl
theorem es_nums (hp : (es.map WE.vw).Perm L) (hs : WS L) : (es.map (·.num)).Nodup := by
  have h1 : (es.map (·.num)).Perm (L.map (·.num)) := by
    have := hp.map (·.num)
    rwa [List.map_map] at this
  exact h1.nodup_iff.2 hs.nodup
/-- A window is taken out of the map. -/
theorem WinAt.del (h : WinAt w B g M s es) (hp : (es.map WE.vw).Perm L) (hs : WS L) (n : Int) (hm : MapAt iEnc w1 M (mdel n (wents es))) (ho : Only (· = M) w w1) :
    ∃ es', WinAt w1 B g M s es' ∧ (es'.map WE.vw).Perm (wdel n L) ∧ WS (wdel n L) ∧ (∀ k ∈ wfoot g M es', k ∈ wfoot g M es) := by
  obtain ⟨h1, h2, h3, h4, h5⟩ := h
  have hsub : ∀ k ∈ wfoot g M (es.filter fun e => decide (e.num ≠ n)), k ∈ wfoot g M es := fun k hk => by
    simp only [wfoot, List.mem_cons, List.mem_map, List.mem_filter] at hk ⊢
    rcases hk with hk | hk | ⟨e, ⟨he, -⟩, hk⟩
    · exact .inl hk
    · exact .inr (.inl hk)
    · exact .inr (.inr ⟨e, he, hk⟩)
  have h6 := List.nodup_cons.1 h4
  have h7 := List.nodup_cons.1 h6.2
  refine ⟨es.filter fun e => decide (e.num ≠ n), ⟨ho.heap h1 (fun e => h6.1 (by have e : g = M := e; rw [e]; simp)), ?_, fun e he => ?_, ?_, fun k hk => h5 k (hsub k hk)⟩, ?_, hs.sublist (List.filter_sublist.map _), hsub⟩
  · rw [← mdel_wents n (es_nums hp hs)]
    exact hm
  · have he2 := (List.mem_filter.1 he).1
    exact ⟨(h3 e he2).1.only ho (fun e0 => h7.1 (by have e0 : e.m = M := e0; rw [← e0]; exact List.mem_map.2 ⟨e, he2, rfl⟩)), (h3 e he2).2⟩
  · exact h4.sublist (((List.filter_sublist.map _).cons_cons M).cons_cons g)
  · have h8 := hp.filter fun v => decide (v.num ≠ n)
    rw [List.filter_map] at h8
    exact h8
end
def ClosedP (w : World) (B g : Nat) (F : List Nat) (s : Cfg) (L : List WV) (v : WV) (e : Ending) (w' : World) : Prop :=
  ∃ a c, e = .returned (.agg #[.int .i64 v.num, .slice a v.cr.length c]) ∧ Rd w' a (crf v.cr) ∧ (∀ ad, a = some ad → w.heap.size ≤ ad.block ∧ ad.block < w'.heap.size) ∧ WinSub w B g F { s with floor := max s.floor v.num } (wdel v.num L) w'
set_option maxHeartbeats 4000000 in
set_option maxRecDepth 100000 in
theorem close_any {w : World} {B g : Nat} {s : Cfg} {L : List WV} {F : List Nat} (h : WinIs w B g s L F) (hb : WBd L) {v : WV} (hv : v ∈ L) :
    Calls Try.prog 31 #[.pointer (some ⟨g, 0, none⟩), .int .i64 v.num] w (ClosedP w B g F s L v) := by
  obtain ⟨M, es, h1, hp, hs, rfl⟩ := h
  have HT := Lib.hid (fun W (hB : Below w.heap.size w W) => told_at (h1.below hB) hp hs hb hv)
  have HA := Lib.hid (fun W (hB : Below w.heap.size w W) => h1.below hB)
  have HP := Lib.hid hp
  have HS := Lib.hid hs
  obtain ⟨mx, hmx⟩ : ∃ mx, max s.floor v.num = mx := ⟨_, rfl⟩
  have HX := Lib.hid hmx
  unfold ClosedP
  rw [hmx]
  clear h1 hp hs hb hmx
  go_enter Try.func31, Try.ntmps31
  go_wp2_with fail
  have hbA : Below w.heap.size w (w.alloc (.cells #[.int .i64 0, .slice none 0 0] 32)) := (Below.refl _ _).alloc (Nat.le_refl _) _
  have hR := heap_alloc_new w (.cells #[.int .i64 0, .slice none 0 0] 32)
  generalize w.alloc (.cells #[.int .i64 0, .slice none 0 0] 32) = WA at hbA hR
  have HBA := Lib.hid hbA
  have HR := Lib.hid hR
  clear hbA hR
  refine (HT.out WA HBA.out).mono ?_
  rintro e w2 ⟨a, c, rfl, hrd, hab, hb2⟩
  have HRD := Lib.hid hrd
  have HAB := Lib.hid hab
  have HB2 := Lib.hid hb2
  clear hrd hab hb2 HT
  have HB02 := Lib.hid (HBA.out.trans (HB2.out.mono HBA.out.size))
  have hW2 := HA.out w2 HB02.out
  have c3 : w2.cell? ⟨g, 3, none⟩ = some (.map (some M)) := hW2.cell 3 rfl
  have c3l := World.block_lt_of_cell? w2 _ c3
  simp only at c3l
  have HO3 := Lib.hid (show ∀ V, V = w2.alloc (.cells #[.int .i64 v.num, .slice a v.cr.length c] 32) → WinAt V B g M s es ∧ Below w.heap.size w V ∧ V.heap[w2.heap.size]? = some (.cells #[.int .i64 v.num, .slice a v.cr.length c] 32 (0, 0)) ∧ Below w2.heap.size w2 V from fun V hV => by
    have hbV : Below w2.heap.size w2 V := by rw [hV]; exact (Below.refl _ _).alloc (Nat.le_refl _) _
    exact ⟨hW2.below hbV, HB02.out.trans (hbV.mono HB02.out.size), by rw [hV]; exact heap_alloc_new w2 _, hbV⟩)
  have HM3 := Lib.hid (show MapAt iEnc (w2.alloc (.cells #[.int .i64 v.num, .slice a v.cr.length c] 32)) M (wents es) from (HO3.out _ rfl).1.2.1)
  clear hW2
  go_wp2_with (first
    | (with_reducible refine step_delete iKey rfl _ _ _ _ rfl Try.underlying60 rfl HM3.out v.num rfl ?_)
    | fail)
  obtain ⟨W3, hW3⟩ : ∃ V, V = w2.alloc (.cells #[.int .i64 v.num, .slice a v.cr.length c] 32) := ⟨_, rfl⟩
  obtain ⟨hA3, hb3, hO, hb23⟩ := HO3.out W3 hW3
  rw [← hW3]
  clear hW3
  intro w4 d1 d2 d3
  obtain ⟨es', hA4, hp4, hs4, hsub⟩ := hA3.del HP.out HS.out v.num d1 d2
  have hML : M < W3.heap.size := hA3.2.1.lt
  have hrM : ∀ k, k ∈ wfoot g M es → k < w.heap.size := fun k hk => (HA.out w (Below.refl _ _)).lt k hk
  have hMw : M < w.heap.size := hrM M (by simp [wfoot])
  have f4 : w4.cell? ⟨g, 4, none⟩ = some (.int .i64 s.floor) := hA4.cell 4 rfl
  have z4 : w4.frozen? ⟨g, 4, none⟩ = false := frozen_of_row w4 _ _ _ _ hA4.1
  have f4l := World.block_lt_of_cell? w4 _ f4
  simp only at f4l
  have hO4 : w4.heap[w2.heap.size]? = some (.cells #[.int .i64 v.num, .slice a v.cr.length c] 32 (0, 0)) := d2.heap hO (fun e => by have e : w2.heap.size = M := e; have := HB02.out.size; omega)
  have hR4 : w4.heap[w.heap.size]? = some (.cells #[.int .i64 0, .slice none 0 0] 32 (0, 0)) := d2.heap (keeph' (HB2.out.trans (hb23.mono HB2.out.size)) HR.out) (fun e => by have e : w.heap.size = M := e; omega)
  have hA5 := hA4.set (s' := { s with floor := mx }) 4 (.int .i64 mx) rfl
  have hgw : g < w.heap.size := hrM g (by simp [wfoot])
  obtain ⟨W5, hW5⟩ : ∃ V, V = w4.setCell ⟨g, 4, none⟩ (.int .i64 mx) := ⟨_, rfl⟩
  rw [← hW5] at hA5
  have hos5 : Only (· = g) w4 W5 := by rw [hW5]; exact (Only.refl _ _).setCell _ _ (fun _ => rfl)
  have HO5 := Lib.hid (hos5.heap hO4 (fun e => by have e : w2.heap.size = g := e; have := HB02.out.size; omega))
  have HR5 := Lib.hid (hos5.heap hR4 (fun e => by have e : w.heap.size = g := e; omega))
  have HW5 := Lib.hid hW5
  have HON := Lib.hid (show Only (· ∈ wfoot g M es) w W5 from ((Only.of_new (F := (· ∈ wfoot g M es)) hb3).trans d2 (fun k _ e => by rw [show k = M from e]; simp [wfoot])).trans hos5 (fun k _ e => by rw [show k = g from e]; simp [wfoot]))
  have HWI := Lib.hid (show WinIs W5 B g { s with floor := mx } (wdel v.num L) (wfoot g M es') from ⟨M, es', hA5, hp4, hs4, rfl⟩)
  have HSUB := Lib.hid hsub
  have HSZ5 := Lib.hid (show w2.heap.size ≤ W5.heap.size from Nat.le_trans hb23.size (Nat.le_trans d2.size hos5.size))
  have HRD5 := Lib.hid (show Rd W5 a (crf v.cr) from hos5.rd (d2.rd (HRD.out.below hb23 (Nat.le_refl _)) (fun ad e e0 => by have h9 := HAB.out ad e; have e0 : ad.block = M := e0; have := HBA.out.size; omega)) (fun ad e e0 => by have h9 := HAB.out ad e; have e0 : ad.block = g := e0; have := HBA.out.size; omega))
  have HLT := Lib.hid hrM
  have o0 : w4.cell? ⟨w2.heap.size, 0, none⟩ = some (.int .i64 v.num) := by rw [cell_of_row _ _ _ _ _ _ hO4]; rfl
  have o1 : w4.cell? ⟨w2.heap.size, 1, none⟩ = some (.slice a v.cr.length c) := by rw [cell_of_row _ _ _ _ _ _ hO4]; rfl
  have r0 : w4.cell? ⟨w.heap.size, 0, none⟩ = some (.int .i64 0) := by rw [cell_of_row _ _ _ _ _ _ hR4]; rfl
  have r1 : w4.cell? ⟨w.heap.size, 1, none⟩ = some (.slice none 0 0) := by rw [cell_of_row _ _ _ _ _ _ hR4]; rfl
  have z0 : w4.frozen? ⟨w.heap.size, 0, none⟩ = false := frozen_of_row w4 _ _ _ _ hR4
  have z1 : w4.frozen? ⟨w.heap.size, 1, none⟩ = false := frozen_of_row w4 _ _ _ _ hR4
  have rl := World.block_lt_of_cell? w4 _ r0
  simp only at rl
  have n1 : (w2.heap.size = g) = False := by rw [eq_iff_iff, iff_false]; intro e; have := HB02.out.size; omega
  have n2 : (w.heap.size = g) = False := by rw [eq_iff_iff, iff_false]; intro e; omega
  have n3 : (g = w2.heap.size) = False := by rw [eq_iff_iff, iff_false]; intro e; have := HB02.out.size; omega
  have n4 : (g = w.heap.size) = False := by rw [eq_iff_iff, iff_false]; intro e; omega
  clear d1 d2 d3 hA3 hb3 hO hb23 hA4 hp4 hs4 hsub hML hrM hMw hO4 hR4 hA5 hgw hos5 c3 c3l HO3 HM3 hW5
  go_wp2_with (first
    | (with_reducible refine step_max rfl _ _ _ rfl s.floor v.num rfl rfl mx HX.out ?_)
    | fail)
  rw [← HW5.out]
  have HF := Lib.hid (show ∃ a2 c2, Ending.returned (.agg #[.int .i64 v.num, .slice a v.cr.length c]) = .returned (.agg #[.int .i64 v.num, .slice a2 v.cr.length c2]) ∧ Rd ((W5.setCell ⟨w.heap.size, 0, none⟩ (.int .i64 v.num)).setCell ⟨w.heap.size, 1, none⟩ (.slice a v.cr.length c)) a2 (crf v.cr) ∧ (∀ ad, a2 = some ad → w.heap.size ≤ ad.block ∧ ad.block < ((W5.setCell ⟨w.heap.size, 0, none⟩ (.int .i64 v.num)).setCell ⟨w.heap.size, 1, none⟩ (.slice a v.cr.length c)).heap.size) ∧ WinSub w B g (wfoot g M es) { s with floor := mx } (wdel v.num L) ((W5.setCell ⟨w.heap.size, 0, none⟩ (.int .i64 v.num)).setCell ⟨w.heap.size, 1, none⟩ (.slice a v.cr.length c)) from by
    have hos : Only (· = w.heap.size) W5 ((W5.setCell ⟨w.heap.size, 0, none⟩ (.int .i64 v.num)).setCell ⟨w.heap.size, 1, none⟩ (.slice a v.cr.length c)) := ((Only.refl (· = w.heap.size) W5).setCell ⟨w.heap.size, 0, none⟩ _ (fun _ => rfl)).setCell ⟨w.heap.size, 1, none⟩ _ (fun _ => rfl)
    have hsz : w.heap.size < WA.heap.size := (Array.getElem?_eq_some_iff.1 HR.out).1
    refine ⟨a, c, rfl, hos.rd HRD5.out (fun ad e e0 => by have h9 := HAB.out ad e; have e0 : ad.block = w.heap.size := e0; omega), fun ad e => by have h9 := HAB.out ad e; have h8 := hos.size; have h7 := HSZ5.out; exact ⟨by omega, by omega⟩, wfoot g M es', HWI.out.only hos (fun k hk e => by have h9 := HLT.out k (HSUB.out k hk); have e : k = w.heap.size := e; omega), HON.out.trans hos (fun k hk e => by have e : k = w.heap.size := e; omega), fun k hk => HSUB.out k hk⟩)
  have H7 := Lib.hid (set_win W5 w.heap.size _ _ (.int .i64 v.num) (.slice a v.cr.length c) HR5.out)
  clear HO5 HR5
  refine bodyPost_ret (results_cell1 rfl _ _ _ w.heap.size _ rfl (load_win _ _ _ _ H7.out)) rfl ?_
  exact HF.out
end Go.Proofs.Ytbkpgpaanhfjfaa
