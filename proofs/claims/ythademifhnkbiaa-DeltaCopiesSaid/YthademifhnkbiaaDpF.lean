/- The walk over the reference's (*Store).one where a series is turned. -/
import Derived.Test.YthademifhnkbiaaDpE
namespace Go.Proofs.Ythademifhnkbiaa
open Go.RowKit K
theorem six_only (w : World) (g k : Nat) (x : Smp) (owner : Int) : Only (· = g) w (six w g k x owner) :=
  ((((((Only.refl (· = g) w).setCell _ _ (fun _ => rfl)).setCell _ _ (fun _ => rfl)).setCell _ _ (fun _ => rfl)).setCell _ _ (fun _ => rfl)).setCell _ _ (fun _ => rfl)).setCell _ _ (fun _ => rfl)
section
variable {w : World} {B r : Nat} {most : Int} {L : List SV} {G : Nat → Prop}
theorem rone_fin2 {wb : World} {g c k : Nat} {pre post : List SV} {u : SV} (h : RsIs w B r most L G) (hba : Below w.heap.size w wb) (he : L = pre ++ u :: post) (hk : k = pre.length) (hbx : w.heap[r]? = some (.cells #[.slice (some ⟨g, 0, none⟩) L.length c, .int .i64 most] 54 (0, 0)))
    (ho : w.ownsRow B 95 7 (.slice (some ⟨g, 0, none⟩) L.length c) L.length (onf L)) (hg : G g) (hgr : g ≠ r) (x : Smp) (hn : u.x.name = x.name) (owner : Int) :
    RsIs (six wb g k x owner).drew B r most (pre ++ ⟨x, true, owner⟩ :: post) G ∧ Only G w ((six wb g k x owner).drew) := by
  have hlt := h.lt
  have h1 : Only (fun _ => False) w wb := Only.of_new hba
  have ho1 := h1.own ho (fun _ _ h => h)
  have hl : (pre ++ ⟨x, true, owner⟩ :: post).length = L.length := by rw [he]; simp
  have ho2 : (six wb g k x owner).ownsRow B 95 7 (.slice (some ⟨g, 0, none⟩) L.length c) L.length (onf (pre ++ ⟨x, true, owner⟩ :: post)) := own_last (n := L.length) (cap := c) (g := g) (pre := pre) (post := post) (u := u) (by rw [← he]; exact ho1) hk x hn owner
  have hlt2 : ∀ b, G b → b < (six wb g k x owner).heap.size := fun b hb => Nat.lt_of_lt_of_le (hlt b hb) (Nat.le_trans h1.size (six_only wb g k x owner).size)
  refine ⟨⟨.slice (some ⟨g, 0, none⟩) L.length c, ?_, ?_, fun b e => ?_, h.mem, fun b hb => ⟨h.ge b hb, ?_⟩⟩, ?_⟩
  · exact (six_only wb g k x owner).drew.heap (h1.heap hbx (fun h => h)) (fun e => hgr e.symm)
  · rw [hl]; exact (Only.refl (fun _ => False) (six wb g k x owner)).drew.own ho2 (fun _ _ h => h)
  · cases e; exact ⟨hg, hgr⟩
  · exact Nat.lt_of_lt_of_le (hlt2 b hb) (Only.refl (fun _ => False) (six wb g k x owner)).drew.size
  · exact ((h1.mono (fun _ _ h => h.elim)).trans (six_only _ g k x owner) (fun b _ e => by have e : b = g := e; rw [e]; exact hg)).drew
set_option maxHeartbeats 4000000 in
set_option maxRecDepth 100000 in
theorem rone_chain (h : RsIs w B r most L G) (owner : Int) (x : Smp) (u : SV) (hf : sfind x.name L = some u) (hl : L.length ≤ 1000000) (hgt : u.x.time < x.time) (sn : Sn) (hsn : sn = if u.live = true then ⟨x, 1, true, u.x.val⟩ else ⟨x, 1, false, 0⟩) :
    Calls Try.prog 39 #[.pointer (some ⟨r, 0, none⟩), .int .i64 owner, .agg x.cells] w (ROne w B r most G sn (sset x.name ⟨x, true, owner⟩ L)) := by
  have hw : RsIs (oneW w x) B r most L G := h.new (((Below.refl _ _).alloc (Nat.le_refl _) _).alloc (by simp) _)
  have hof := rof_any hw x.name hl
  obtain ⟨hm0, hnu⟩ := sfind_some hf
  have hLp : 0 < L.length := List.length_pos_of_mem hm0
  obtain ⟨g, c, hbx, ho, hcl, hGg, hgr, ⟨cur, hcur⟩, -, -⟩ := h.shape2 hLp
  obtain ⟨_, _, hb', -, hr, -⟩ := h.shape
  rw [hbx] at hb'
  cases hb'
  have c0 : w.cell? ⟨r, 0, none⟩ = some (.slice (some ⟨g, 0, none⟩) L.length c) := by rw [cell_of_row _ _ _ _ _ _ hbx]; rfl
  have hr1 : r < w.heap.size := h.lt r h.mem
  have hr2 : r < w.heap.size + 1 := by omega
  have hr3 : r < w.heap.size + 1 + 1 := by omega
  have hr4 : r < w.heap.size + 1 + 1 + 1 := by omega
  have hg1 : g < w.heap.size := h.lt g hGg
  have hg2 : g < w.heap.size + 1 := by omega
  have hg3 : g < w.heap.size + 1 + 1 := by omega
  have hg4 : g < w.heap.size + 1 + 1 + 1 := by omega
  obtain ⟨n, v, t, cc⟩ := x
  unfold oneW at hof
  simp only [Smp.cells] at hof hgt hnu ⊢
  have HOF := Lib.hid hof
  have HFN := Lib.hid hf
  have HR := Lib.hid hr
  have HSN := Lib.hid hsn
  have H := Lib.hid h
  have HBX := Lib.hid hbx
  have HO := Lib.hid ho
  have HCUR := Lib.hid hcur
  have HNU := Lib.hid hnu
  have HGG := Lib.hid hGg
  have HGR := Lib.hid hgr
  clear h hw hof hbx ho hf hr hsn hcur hm0 hLp hnu hGg hgr
  go_enter Try.func39, Try.ntmps39
  go_wp2_with fail
  refine HOF.out.mono ?_
  rintro e w1 ⟨i, rfl, hi, rfl⟩
  obtain ⟨pre, post, he, rfl, -, hset⟩ := ofP_some hi HFN.out
  have hk : pre.length < L.length := by rw [he]; simp
  obtain ⟨b, off, e0, hbl, hq⟩ := on_cells HR.out hk
  cases e0
  have hu : L[pre.length] = u := by simp [he]
  rw [hu] at hq
  have q1 := hq 1 _ (by omega) rfl
  have q2 := hq 2 _ (by omega) rfl
  have q3 := hq 3 _ (by omega) rfl
  have q4 := hq 4 _ (by omega) rfl
  have q5 := hq 5 _ (by omega) rfl
  have q6 := hq 6 _ (by omega) rfl
  simp only [Nat.zero_add] at q1 q2 q3 q4 q5 q6
  have HE := Lib.hid he
  have HSET := Lib.hid hset
  clear hq hu he hi HR HFN HOF hset
  obtain ⟨⟨n', v', t', c'⟩, live, ow⟩ := u
  simp only [] at hgt q1 q2 q3 q4 q5 q6
  obtain ⟨k, hkp⟩ : ∃ k, k = pre.length := ⟨_, rfl⟩
  rw [← hkp] at hk q1 q2 q3 q4 q5 q6
  rw [← hkp]
  have HKP := Lib.hid hkp
  clear hkp
  have hne : (t == t') = false := by rw [beq_eq_false_iff_ne]; omega
  go_wp2_with fail
  obtain ⟨wb, hwb⟩ : ∃ wb, wb = (((w.alloc (.cells #[.string n, .int .i64 v, .int .i64 t, .bool cc] 31)).alloc (.cells #[.string ⟨#[]⟩, .int .i64 0, .int .i64 0, .bool false, .int .i64 0, .bool false, .int .i64 0] 68)).alloc (.cells #[.string n, .int .i64 v, .int .i64 t, .bool cc, .bool true, .int .i64 owner] 88)).alloc (.cells #[.string n', .int .i64 v', .int .i64 t', .bool c', .bool live, .int .i64 ow] 88) := ⟨_, rfl⟩
  rw [← hwb]
  have hba : Below w.heap.size w wb := by rw [hwb]; exact (((((Below.refl _ _).alloc (Nat.le_refl _) _).alloc (by simp) _).alloc (by simp <;> omega) _).alloc (by simp <;> omega) _)
  have x0 : wb.heap[w.heap.size]? = some (.cells #[.string n, .int .i64 v, .int .i64 t, .bool cc] 31 (0, 0)) := by
    rw [hwb, Below.heap_alloc _ _ _ (by simp <;> omega), Below.heap_alloc _ _ _ (by simp <;> omega), Below.heap_alloc _ _ _ (by simp)]
    exact heap_alloc_new w _
  have x1 : wb.heap[w.heap.size + 1]? = some (.cells #[.string ⟨#[]⟩, .int .i64 0, .int .i64 0, .bool false, .int .i64 0, .bool false, .int .i64 0] 68 (0, 0)) := by
    rw [hwb, Below.heap_alloc _ _ _ (by simp <;> omega), Below.heap_alloc _ _ _ (by simp)]
    have := heap_alloc_new (w.alloc (.cells #[.string n, .int .i64 v, .int .i64 t, .bool cc] 31)) (.cells #[.string ⟨#[]⟩, .int .i64 0, .int .i64 0, .bool false, .int .i64 0, .bool false, .int .i64 0] 68)
    rw [World.size_alloc] at this
    exact this
  have x2 : wb.heap[w.heap.size + 1 + 1]? = some (.cells #[.string n, .int .i64 v, .int .i64 t, .bool cc, .bool true, .int .i64 owner] 88 (0, 0)) := by
    rw [hwb, Below.heap_alloc _ _ _ (by simp)]
    have := heap_alloc_new ((w.alloc (.cells #[.string n, .int .i64 v, .int .i64 t, .bool cc] 31)).alloc (.cells #[.string ⟨#[]⟩, .int .i64 0, .int .i64 0, .bool false, .int .i64 0, .bool false, .int .i64 0] 68)) (.cells #[.string n, .int .i64 v, .int .i64 t, .bool cc, .bool true, .int .i64 owner] 88)
    rw [World.size_alloc, World.size_alloc] at this
    exact this
  have x3 : wb.heap[w.heap.size + 1 + 1 + 1]? = some (.cells #[.string n', .int .i64 v', .int .i64 t', .bool c', .bool live, .int .i64 ow] 88 (0, 0)) := by
    rw [hwb]
    have := heap_alloc_new (((w.alloc (.cells #[.string n, .int .i64 v, .int .i64 t, .bool cc] 31)).alloc (.cells #[.string ⟨#[]⟩, .int .i64 0, .int .i64 0, .bool false, .int .i64 0, .bool false, .int .i64 0] 68)).alloc (.cells #[.string n, .int .i64 v, .int .i64 t, .bool cc, .bool true, .int .i64 owner] 88)) (.cells #[.string n', .int .i64 v', .int .i64 t', .bool c', .bool live, .int .i64 ow] 88)
    rw [World.size_alloc, World.size_alloc, World.size_alloc] at this
    exact this
  have D0 := Lib.hid (keepc hba c0)
  have e2 : ∀ i, wb.cell? ⟨w.heap.size + 1 + 1, i, none⟩ = (#[.string n, .int .i64 v, .int .i64 t, .bool cc, .bool true, .int .i64 owner] : Array Value)[i]? := fun i => cell_of_row wb _ _ _ _ _ x2
  have D2 := Lib.hid (e2 0)
  have D3 := Lib.hid (e2 1)
  have D4 := Lib.hid (e2 2)
  have D5 := Lib.hid (e2 3)
  have D6 := Lib.hid (e2 4)
  have D7 := Lib.hid (e2 5)
  have Q1 := Lib.hid (keepc hba q1)
  have Q2 := Lib.hid (keepc hba q2)
  have Q3 := Lib.hid (keepc hba q3)
  have Q4 := Lib.hid (keepc hba q4)
  have Q5 := Lib.hid (keepc hba q5)
  have Q6 := Lib.hid (keepc hba q6)
  have hfz : ∀ i, wb.frozen? ⟨g, i, none⟩ = false := fun i => frozen_of_row wb g i _ _ (keeph hba HCUR.out)
  have HFZ := Lib.hid hfz
  have HBA := Lib.hid hba
  have X0 := Lib.hid x0
  have X1 := Lib.hid x1
  have X3 := Lib.hid x3
  have NE0 := Lib.hid (show ¬ r = g from fun e => HGR.out e.symm)
  have NE2 := Lib.hid (show ¬ w.heap.size + 1 + 1 = g by omega)
  clear hwb hba x0 x1 x2 x3 e2 c0 q1 q2 q3 q4 q5 q6 hfz
  refine wp_region_noPanic ?_
  refine wp_region_held_drew (S := (fun w' => Only (· = g) wb w')) (by kernel_rfl) ?_ (fun hHeld => ?_)
  · exact (Only.refl _ _).drew
  refine wpAnyH_take (i := 0) (oi := _) (v := ?_) rfl (by kernel_rfl) (by kernel_rfl) (by kernel_rfl) (fun _ _ _ h => h) (Or.inl ⟨by rfl, ?_⟩) (by assumption) ?_
  rotate_left 1
  · (intro w hSw; (try dsimp only at hSw); go_simp; (try with_reducible rfl))
  try simp only [Act.put, List.getElem_toArray, List.getElem_cons_zero, List.setIfInBounds_toArray, List.set_cons_zero, List.set_cons_succ]
  refine wpAnyH_take (i := 1) (oi := _) (v := ?_) rfl (by kernel_rfl) (by kernel_rfl) (by kernel_rfl) (fun _ _ _ h => h) (Or.inl ⟨by rfl, ?_⟩) (by assumption) ?_
  rotate_left 1
  · (intro w hSw; (try dsimp only at hSw); go_simp; (try with_reducible rfl))
  try simp only [Act.put, List.getElem_toArray, List.getElem_cons_succ, List.getElem_cons_zero, List.setIfInBounds_toArray, List.set_cons_zero, List.set_cons_succ]
  refine wpAnyH_take (i := 2) (oi := _) (v := ?_) rfl (by kernel_rfl) (by kernel_rfl) (by kernel_rfl) (fun _ _ _ h => h) (Or.inl ⟨by rfl, ?_⟩) (by assumption) ?_
  rotate_left 1
  · (intro w hSw; (try dsimp only at hSw); go_simp; (try with_reducible rfl))
  try simp only [Act.put, List.getElem_toArray, List.getElem_cons_succ, List.getElem_cons_zero, List.setIfInBounds_toArray, List.set_cons_zero, List.set_cons_succ]
  refine wpAnyH_take (i := 3) (oi := _) (v := ?_) rfl (by kernel_rfl) (by kernel_rfl) (by kernel_rfl) (fun _ _ _ h => h) (Or.inl ⟨by rfl, ?_⟩) (by assumption) ?_
  rotate_left 1
  · (intro w hSw; (try dsimp only at hSw); (have q0 := hSw.cell D0.out NE0.out; go_simp); (try with_reducible rfl))
  try simp only [Act.put, List.getElem_toArray, List.getElem_cons_succ, List.getElem_cons_zero, List.setIfInBounds_toArray, List.set_cons_zero, List.set_cons_succ]
  refine wpAnyH_take (i := 4) (oi := _) (v := ?_) rfl (by kernel_rfl) (by kernel_rfl) (by kernel_rfl) (fun _ _ _ h => h) (Or.inl ⟨by rfl, ?_⟩) (by assumption) ?_
  rotate_left 1
  · (intro w hSw; (try dsimp only at hSw); go_simp; (try with_reducible rfl))
  try simp only [Act.put, List.getElem_toArray, List.getElem_cons_succ, List.getElem_cons_zero, List.setIfInBounds_toArray, List.set_cons_zero, List.set_cons_succ]
  refine wpAnyH_take (i := 5) (oi := _) (v := ?_) rfl (by kernel_rfl) (by kernel_rfl) (by kernel_rfl) (fun _ _ _ h => h) (Or.inl ⟨by rfl, ?_⟩) (by assumption) ?_
  rotate_left 1
  · (intro w hSw; (try dsimp only at hSw); (have q2 := hSw.cell D2.out NE2.out; have q3 := hSw.cell D3.out NE2.out; have q4 := hSw.cell D4.out NE2.out; have q5 := hSw.cell D5.out NE2.out; have q6 := hSw.cell D6.out NE2.out; have q7 := hSw.cell D7.out NE2.out; go_simp); (try with_reducible rfl))
  try simp only [Act.put, List.getElem_toArray, List.getElem_cons_succ, List.getElem_cons_zero, List.setIfInBounds_toArray, List.set_cons_zero, List.set_cons_succ]
  refine wpAnyH_take (i := 6) (oi := _) (v := ?_) rfl (by kernel_rfl) (by kernel_rfl) (by kernel_rfl) (fun _ _ _ h => h) (Or.inl ⟨by rfl, ?_⟩) (by assumption) ?_
  rotate_left 1
  · (intro w hSw; (try dsimp only at hSw); go_simp; (try with_reducible rfl))
  try simp only [Act.put, List.getElem_toArray, List.getElem_cons_succ, List.getElem_cons_zero, List.setIfInBounds_toArray, List.set_cons_zero, List.set_cons_succ]
  refine wpAnyH_take (i := 7) (oi := _) (v := ?_) rfl (by kernel_rfl) (by kernel_rfl) (by kernel_rfl) (fun _ _ _ h => h) (Or.inl ⟨by rfl, ?_⟩) (by assumption) ?_
  rotate_left 1
  · (intro w hSw; (try dsimp only at hSw); go_simp; (try with_reducible rfl))
  try simp only [Act.put, List.getElem_toArray, List.getElem_cons_succ, List.getElem_cons_zero, List.setIfInBounds_toArray, List.set_cons_zero, List.set_cons_succ]
  refine wpAnyH_ready (rs := [8]) (by kernel_rfl) (by simp) ?_
  refine AllReadyH.cons (o := _) rfl (fun K hK => ?_) AllReadyH.nil
  have q1 : wb.cell? ⟨g, k * 7 + 1, none⟩ = _ := Q1.out
  have f1 := HFZ.out (k * 7 + 1)
  have q2 : wb.cell? ⟨g, k * 7 + 1 + 1, none⟩ = _ := Q2.out
  have f2 := HFZ.out (k * 7 + 1 + 1)
  have q3 : wb.cell? ⟨g, k * 7 + 1 + 2, none⟩ = _ := Q3.out
  have f3 := HFZ.out (k * 7 + 1 + 2)
  have q4 : wb.cell? ⟨g, k * 7 + 1 + 3, none⟩ = _ := Q4.out
  have f4 := HFZ.out (k * 7 + 1 + 3)
  have q5 : wb.cell? ⟨g, k * 7 + 1 + 4, none⟩ = _ := Q5.out
  have f5 := HFZ.out (k * 7 + 1 + 4)
  have q6 : wb.cell? ⟨g, k * 7 + 1 + 5, none⟩ = _ := Q6.out
  have f6 := HFZ.out (k * 7 + 1 + 5)
  go_simp
  refine hK.out _ _ ?_ (fun _ => ?_)
  · exact (((((((Only.refl (· = g) wb).setCell _ _ (fun _ => rfl)).setCell _ _ (fun _ => rfl)).setCell _ _ (fun _ => rfl)).setCell _ _ (fun _ => rfl)).setCell _ _ (fun _ => rfl)).setCell _ _ (fun _ => rfl)).drew
  clear hK K q1 q2 q3 q4 q5 q6 f1 f2 f3 f4 f5 f6
  try simp only [Act.put, List.getElem_toArray, List.getElem_cons_succ, List.getElem_cons_zero, List.setIfInBounds_toArray, List.set_cons_zero, List.set_cons_succ]
  refine wpAnyH_done (by kernel_rfl) ?_ _
  refine NoPanic.normal ?_
  obtain ⟨wc, hwc⟩ : ∃ wc, wc = (six wb g k ⟨n, v, t, cc⟩ owner).drew := ⟨_, rfl⟩
  have HFIN := Lib.hid (show RsIs wc B r most (pre ++ ⟨⟨n, v, t, cc⟩, true, owner⟩ :: post) G ∧ Only G w wc by rw [hwc]; exact rone_fin2 H.out HBA.out HE.out HKP.out HBX.out HO.out HGG.out HGR.out ⟨n, v, t, cc⟩ HNU.out owner)
  have hoc : Only (· = g) wb wc := by rw [hwc]; exact (six_only _ g k ⟨n, v, t, cc⟩ owner).drew
  unfold six at hwc
  rw [← hwc]
  have y0 := hoc.heap X0.out (show ¬ w.heap.size = g by omega)
  have y1 := hoc.heap X1.out (show ¬ w.heap.size + 1 = g by omega)
  have y3 := hoc.heap X3.out (show ¬ w.heap.size + 1 + 1 + 1 = g by omega)
  have cx : ∀ i, wc.cell? ⟨w.heap.size, i, none⟩ = _ := fun i => cell_of_row _ _ _ _ _ _ y0
  have cz : ∀ i, wc.cell? ⟨w.heap.size + 1 + 1 + 1, i, none⟩ = _ := fun i => cell_of_row _ _ _ _ _ _ y3
  have co : ∀ i, wc.cell? ⟨w.heap.size + 1, i, none⟩ = _ := fun i => cell_of_row _ _ _ _ _ _ y1
  have fo : ∀ i, wc.frozen? ⟨w.heap.size + 1, i, none⟩ = false := fun i => frozen_of_row _ _ _ _ _ y1
  have Y1 := Lib.hid y1
  have HEND := Lib.hid (fun w' (ho : Only (· = w.heap.size + 1) wc w') => (show RsTo w B r most (sset n ⟨⟨n, v, t, cc⟩, true, owner⟩ L) G w' from by rw [HSET.out]; exact ⟨G, HFIN.out.1.only ho (fun k hk e => by have := H.out.lt k hk; have e : k = w.heap.size + 1 := e; omega), HFIN.out.2.trans ho (fun k hk e => by have e : k = w.heap.size + 1 := e; omega), fun k hk => .inl hk⟩))
  clear y0 y1 y3 hwc hoc D0 D2 D3 D4 D5 D6 D7 Q1 Q2 Q3 Q4 Q5 Q6 HFZ
  cases live with
  | false =>
    have HS := Lib.hid (show sn = _ from HSN.out)
    go_wp2
    have h7 := Y1.out
    refine bodyPost_ret (results_cell1 rfl _ _ _ (w.heap.size + 1) _ rfl (load_seen _ _ _ _ _ _ _ _ _ (set7 _ _ _ _ _ _ _ _ _ _ _ _ _ _ _ _ _ h7))) rfl ?_
    refine ⟨by rw [HS.out]; rfl, HEND.out _ ?_⟩
    with_reducible exact set7_only _ _ _ _ _ _ _ _ _
  | true =>
    have HS := Lib.hid (show sn = _ from HSN.out)
    go_wp2
    have h7 := Y1.out
    refine bodyPost_ret (results_cell1 rfl _ _ _ (w.heap.size + 1) _ rfl (load_seen _ _ _ _ _ _ _ _ _ (set7 _ _ _ _ _ _ _ _ _ _ _ _ _ _ _ _ _ h7))) rfl ?_
    refine ⟨by rw [HS.out]; rfl, HEND.out _ ?_⟩
    with_reducible exact set7_only _ _ _ _ _ _ _ _ _
end
end Go.Proofs.Ythademifhnkbiaa
