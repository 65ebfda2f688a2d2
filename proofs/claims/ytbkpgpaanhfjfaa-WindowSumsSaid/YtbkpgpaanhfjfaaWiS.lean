/- Chapter 18, the reference: lists under way; first: the walk. -/
import Derived.Test.YtbkpgpaanhfjfaaWiR
namespace Go.Proofs.Ytbkpgpaanhfjfaa
open Go.RowKit Go.Sort K
def WcB (P : Nat → Prop) (W : World) (sl : Value) (y : WC) : Prop := Rd W y.a (crf y.x.cr) ∧ ∀ ad, y.a = some ad → P ad.block ∧ ad.block < W.heap.size ∧ sl.ownBlock ≠ some ad.block
/-- A list of windows under way: its own row, credits in blocks of P. -/
def BlP (P : Nat → Prop) (D : Nat) (W : World) (ys : List WC) (sl : Value) : Prop := W.ownsRow D 32 2 sl ys.length (wcf ys) ∧ ∀ y ∈ ys, WcB P W sl y
section
variable {P Q : Nat → Prop} {D : Nat} {W V U : World} {ys zs : List WC} {sl sl' : Value}
theorem BlP.nil (P : Nat → Prop) (D : Nat) (W : World) : BlP P D W [] (.slice none 0 0) := ⟨World.ownsRow_nil _ _ _ _, fun y hy => by simp at hy⟩
theorem WcB.new {y : WC} (h : WcB P W sl y) (ho : Only Q W V) (hq : ∀ k, P k → k < W.heap.size → ¬ Q k) : WcB P V sl y :=
  ⟨ho.rd h.1 (fun ad e => hq _ (h.2 ad e).1 (h.2 ad e).2.1), fun ad e => ⟨(h.2 ad e).1, Nat.lt_of_lt_of_le (h.2 ad e).2.1 ho.size, (h.2 ad e).2.2⟩⟩
theorem BlP.only (h : BlP P D W ys sl) (ho : Only Q W V) (hq : ∀ k, P k → k < W.heap.size → ¬ Q k) (hd : ∀ k, D ≤ k → k < W.heap.size → ¬ Q k) : BlP P D V ys sl :=
  ⟨ho.own h.1 (fun k hk => hd k (h.1.lt k hk).1 (h.1.lt k hk).2), fun y hy => (h.2 y hy).new ho hq⟩
theorem BlP.below (h : BlP P D W ys sl) (hb : Below W.heap.size W V) : BlP P D V ys sl := h.only (Q := fun _ => False) (Only.of_new hb) (fun _ _ _ h => h) (fun _ _ _ h => h)
theorem BlP.app (h : BlP P D W ys sl) (hz : ∀ y ∈ zs, WcB P W sl y) {n : Nat} (ha : AppTo W D 32 2 sl n (wcf ys ++ wcf zs) sl' V) (hn : n = ys.length + zs.length) : BlP P D V (ys ++ zs) sl' := by
  subst hn
  obtain ⟨k1, k2, k3⟩ := ha
  have hot : Only (fun q => sl.ownBlock = some q) W V := (Only.refl _ _).grown k2 (fun q hq _ => hq)
  refine ⟨by rw [List.length_append, wcf_app]; exact k1, fun z hz9 => ?_⟩
  have hz2 : WcB P W sl z := (List.mem_append.1 hz9).elim (fun h9 => h.2 z h9) (fun h9 => hz z h9)
  refine ⟨hot.rd hz2.1 (fun ad e h => (hz2.2 ad e).2.2 h), fun ad e => ⟨(hz2.2 ad e).1, Nat.lt_of_lt_of_le (hz2.2 ad e).2.1 hot.size, fun h => ?_⟩⟩
  rcases k3 with h9 | h9
  · rw [h9] at h
    exact (hz2.2 ad e).2.2 h
  · rw [h9] at h
    have h8 : W.heap.size = ad.block := by simpa using h
    have := (hz2.2 ad e).2.1
    omega
theorem BlP.to (h : BlP P D W ys sl) {n : Nat} {xs : List Value} (ha : AppTo W D 32 2 sl n xs sl' V) : Only (fun q => D ≤ q ∧ q < W.heap.size) W V := (Only.refl _ _).grown ha.2.1 (fun q hq _ => ⟨(h.1.lt q hq).1, (h.1.lt q hq).2⟩)
theorem BlP.win (h : BlP P D W ys sl) : ∃ a c, sl = .slice a ys.length c ∧ (ys.length ≤ c ∧ c ≤ 9223372036854775807 ∧ (a = none → c = 0)) ∧ WinsM (fun k => (P k ∨ D ≤ k) ∧ k < W.heap.size) W (ys.map (·.x)) a := by
  obtain ⟨a, c, rfl, h1, h2, h3, hr⟩ := own_slice3 h.1
  exact ⟨a, c, rfl, ⟨h1, h2, h3⟩, ys, rfl, fun y hy => ⟨(h.2 y hy).1, fun ad e => ⟨.inl ((h.2 y hy).2 ad e).1, ((h.2 y hy).2 ad e).2.1⟩⟩, hr, fun ad e => by subst e; exact ⟨.inr (h.1.lt _ rfl).1, (h.1.lt _ rfl).2⟩⟩
end
section
variable {w W : World} {B r : Nat} {s s' : Cfg} {L L' : List WV} {G : Nat → Prop}
/-- A new list is put into the box. -/
theorem RwIs.put (h : RwIs w B r s L G) (ho : Only (· = r) w W) {p : Value} (hW : W.heap[r]? = some (.cells (s'.row p) 73 (0, 0))) {a : Option Addr} {c : Nat} (hc : L'.length ≤ c ∧ c ≤ 9223372036854775807 ∧ (a = none → c = 0)) {P : Nat → Prop} (hw : WinsM P W L' a) (hP : ∀ k, P k → (G k ∨ w.heap.size ≤ k) ∧ k < W.heap.size) :
    RwIs (W.setCell ⟨r, 3, none⟩ (.slice a L'.length c)) B r s' L' P ∧ Only (· = r) w (W.setCell ⟨r, 3, none⟩ (.slice a L'.length c)) := by
  obtain ⟨a0, c0, h1, h2, h3, h4, h5⟩ := h
  have hrl : r < w.heap.size := (Array.getElem?_eq_some_iff.1 h1).1
  have hos : Only (· = r) W (W.setCell ⟨r, 3, none⟩ (.slice a L'.length c)) := (Only.refl _ _).setCell _ _ (fun _ => rfl)
  have hne : ∀ k, P k → k ≠ r := fun k hk e => by
    rcases (hP k hk).1 with h9 | h9
    · exact (h5 k h9).2.2 e
    · omega
  refine ⟨⟨a, c, ?_, hc, hw.only hos hne, h4, fun k hk => ⟨?_, Nat.lt_of_lt_of_le (hP k hk).2 hos.size, hne k hk⟩⟩, ho.trans hos (fun _ _ h => h)⟩
  · rw [heap_setCell_same _ _ _ _ _ _ hW]
    rfl
  · rcases (hP k hk).1 with h9 | h9
    · exact (h5 k h9).1
    · omega
theorem RwIs.set1 (h : RwIs w B r s L G) (j : Nat) (v : Value) (hr : ∀ p, (s.row p).setIfInBounds j v = s'.row p) : RwIs (w.setCell ⟨r, j, none⟩ v) B r s' L G ∧ Only (· = r) w (w.setCell ⟨r, j, none⟩ v) := by
  obtain ⟨a, c, h1, h2, h3, h4, h5⟩ := h
  have ho : Only (· = r) w (w.setCell ⟨r, j, none⟩ v) := (Only.refl _ _).setCell _ _ (fun _ => rfl)
  refine ⟨⟨a, c, ?_, h2, h3.only ho (fun k hk e => (h5 k hk).2.2 e), h4, fun k hk => ⟨(h5 k hk).1, Nat.lt_of_lt_of_le (h5 k hk).2.1 ho.size, (h5 k hk).2.2⟩⟩, ho⟩
  rw [heap_setCell_same _ _ _ _ _ _ h1, hr]
theorem RwIs.rlt (h : RwIs w B r s L G) : r < w.heap.size := by
  obtain ⟨a, c, h1, -⟩ := h
  exact (Array.getElem?_eq_some_iff.1 h1).1
theorem RwIs.glt (h : RwIs w B r s L G) : ∀ k, G k → k < w.heap.size := by
  obtain ⟨a, c, -, -, -, -, h5⟩ := h
  exact fun k hk => (h5 k hk).2.1
theorem RwTo.set {w W : World} (h : RwTo w B r G s L W) (j : Nat) (v : Value) (hr : ∀ p, (s.row p).setIfInBounds j v = s'.row p) : RwTo w B r G s' L (W.setCell ⟨r, j, none⟩ v) := by
  obtain ⟨G', h1, h2, h3⟩ := h
  obtain ⟨G9, k1, k2, k3⟩ := h1.set j v hr
  refine ⟨G9, k1, h2.trans k2 (fun _ _ h => h), fun k hk => ?_⟩
  rcases k3 k hk with h9 | h9
  · exact h3 k h9
  · exact .inr (Nat.le_trans h2.size h9)
theorem RwTo.new {w W V : World} (h : RwTo w B r G s L W) (hb : Below W.heap.size W V) : RwTo w B r G s L V := by
  obtain ⟨G', h1, h2, h3⟩ := h
  exact ⟨G', h1.new hb, h2.trans (G := fun _ => False) (Only.of_new hb) (fun _ _ h => h.elim), h3⟩
end

def FirP (w : World) (B r : Nat) (G : Nat → Prop) (s : Cfg) (v : WV) (t : List WV) (e : Ending) (w' : World) : Prop :=
  ∃ a c, e = .returned (.agg #[.int .i64 v.num, .slice a v.cr.length c]) ∧ Rd w' a (crf v.cr) ∧ (∀ ad, a = some ad → G ad.block) ∧ RwTo w B r G { s with floor := max s.floor v.num } t w'
theorem fir_end {w W6 W7 : World} {B r : Nat} {s : Cfg} {y : WC} {t : List WV} {L : List WV} {G : Nat → Prop} (h : RwIs w B r s L G) (hy : WCok G w y) (ho : Only (· = r) w W6) {N : Nat}
    {f : Int} (h7 : RwIs W7 B r { s with floor := f } t (fun k => (G k ∨ w.heap.size + 2 ≤ k) ∧ k < N)) (ho7 : Only (· = r) W6 W7) (hf : max s.floor y.x.num = f) :
    FirP w B r G s y.x t (.returned (.agg #[.int .i64 y.x.num, .slice y.a y.x.cr.length y.c])) ((W7.setCell ⟨w.heap.size, 0, none⟩ (.int .i64 y.x.num)).setCell ⟨w.heap.size, 1, none⟩ (.slice y.a y.x.cr.length y.c)) := by
  have hos : Only (· = w.heap.size) W7 ((W7.setCell ⟨w.heap.size, 0, none⟩ (.int .i64 y.x.num)).setCell ⟨w.heap.size, 1, none⟩ (.slice y.a y.x.cr.length y.c)) := ((Only.refl (· = w.heap.size) W7).setCell ⟨w.heap.size, 0, none⟩ _ (fun _ => rfl)).setCell ⟨w.heap.size, 1, none⟩ _ (fun _ => rfl)
  have how : Only (· = r) w W7 := ho.trans ho7 (fun _ _ h => h)
  have hrl := h.rlt
  have hgl := h.glt
  have hgr : ∀ k, G k → k ≠ r := by obtain ⟨_, _, -, -, -, -, h5⟩ := h; exact fun k hk => (h5 k hk).2.2
  subst hf
  refine ⟨y.a, y.c, rfl, hos.rd (how.rd hy.1 (fun ad e => hgr _ (hy.2 ad e))) (fun ad e e9 => by have := hgl _ (hy.2 ad e); have e9 : ad.block = w.heap.size := e9; omega), hy.2, fun k => (G k ∨ w.heap.size + 2 ≤ k) ∧ k < N, h7.only hos (fun e => by have e : r = w.heap.size := e; omega) (fun k hk e => ?_), how.trans hos (fun k hk e => by have e : k = w.heap.size := e; omega), fun k hk => hk.1.imp (fun h => h) (fun h => by omega)⟩
  have e : k = w.heap.size := e
  rcases hk.1 with h9 | h9
  · have := hgl k h9
    omega
  · omega
set_option maxHeartbeats 4000000 in
set_option maxRecDepth 100000 in
theorem rfirst_any {w : World} {B r : Nat} {s : Cfg} {v : WV} {t : List WV} {G : Nat → Prop} (h : RwIs w B r s (v :: t) G) (hl : t.length ≤ 1000) :
    Calls Try.prog 44 #[.pointer (some ⟨r, 0, none⟩)] w (FirP w B r G s v t) := by
  have HH := Lib.hid h
  obtain ⟨a, c, h1, ⟨hc1, hc2, hc3⟩, h3, h4, h5⟩ := h
  obtain ⟨i0, hi0, hz0, hz1, hz2⟩ := info_parts info_wv
  have hrl : r < w.heap.size := (Array.getElem?_eq_some_iff.1 h1).1
  obtain ⟨ys, hys, hyo, hyr, hya⟩ := h3
  obtain ⟨y, zs, rfl⟩ : ∃ y zs, ys = y :: zs := by
    cases ys with
    | nil => simp at hys
    | cons y zs => exact ⟨y, zs, rfl⟩
  simp only [List.map_cons, List.cons.injEq] at hys
  obtain ⟨rfl, rfl⟩ := hys
  obtain ⟨b, off, rfl, hb, d0⟩ := hyr.at (k := 0) (v := .int .i64 y.x.num) rfl
  obtain ⟨_, _, e1, -, d1⟩ := hyr.at (k := 1) (v := .slice y.a y.x.cr.length y.c) rfl
  cases e1
  rw [Nat.add_zero] at d0
  have c3 : w.cell? ⟨r, 3, none⟩ = some (.slice (some ⟨b, off, none⟩) (zs.length + 1) c) := by rw [cell_of_row _ _ _ _ _ _ h1]; show some (Value.slice (some ⟨b, off, none⟩) (List.length (y.x :: zs.map (·.x))) c) = _; rw [List.length_cons, List.length_map]
  have c4 : w.cell? ⟨r, 4, none⟩ = some (.int .i64 s.floor) := by rw [cell_of_row _ _ _ _ _ _ h1]; rfl
  have z3 : w.frozen? ⟨r, 3, none⟩ = false := frozen_of_row w _ _ _ _ h1
  have z4 : w.frozen? ⟨r, 4, none⟩ = false := frozen_of_row w _ _ _ _ h1
  have hzl : zs.length ≤ 1000 := by simpa using hl
  have hzc : zs.length + 1 ≤ c := by simpa using hc1
  have HROW := Lib.hid h1
  have HYO := Lib.hid hyo
  have HYR := Lib.hid hyr
  clear h1 hyo hyr hya h4 h5 hc1 hc3 hl
  have HQ := Lib.hid (show ∀ V, V = (w.alloc (.cells #[.int .i64 0, .slice none 0 0] 32)).alloc (.cells #[.int .i64 y.x.num, .slice y.a y.x.cr.length y.c] 32) → Rd V (cutB (some ⟨b, off, none⟩) c 1 2) (wcf zs) ∧ w.heap.size + 2 ≤ V.heap.size from fun V hV => by
    have hbV : Below w.heap.size w V := by rw [hV]; exact ((Below.refl _ _).alloc (Nat.le_refl _) _).alloc (by simp) _
    have h9 := (HYR.out.below hbV (Nat.le_refl _)).cutB c 1 (2 * (zs.length + 1)) 2 (by rw [wcf_length, List.length_cons]; omega)
    have e9 : ((wcf (y :: zs)).take (2 * (zs.length + 1))).drop (1 * 2) = wcf zs := by
      rw [List.take_of_length_le (by rw [wcf_length, List.length_cons]; omega)]
      rfl
    rw [e9] at h9
    exact ⟨h9, by rw [hV]; simp⟩)
  have HLN := Lib.hid (show (wcf zs).length = zs.length * 2 by rw [wcf_length]; omega)
  go_enter Try.func44, Try.ntmps44
  go_wp2_with (first
    | (with_reducible refine step_want (.inl rfl) _ _ (exec_cut 29 32 _ (some _) none rfl Try.underlying29 2 (by kernel_rfl) (some ⟨b, off, none⟩) (zs.length + 1) c rfl 1 (zs.length + 1) (.inr ⟨_, rfl, rfl⟩) (.inl ⟨rfl, rfl⟩) (by omega) (by omega)) ?_)
    | (with_reducible refine step_append_any (.inl rfl) _ _ 29 rfl (w.heap.size + 2) 32 i0 _ 2 32 Try.underlying29 hi0 hz0 hz1 hz2 rfl (by decide) (.slice none 0 0) 0 [] rfl (World.ownsRow_nil _ _ _ _) (cutB (some ⟨b, off, none⟩) c 1 2) zs.length (c - 1) (wcf zs) rfl HLN.out (HQ.out _ rfl).1 (wcf_one _) (by unfold maxLen; omega) (by omega) (HQ.out _ rfl).2 ?_)
    | fail)
  intro sv w5 happ
  have hbV : Below w.heap.size w ((w.alloc (.cells #[.int .i64 0, .slice none 0 0] 32)).alloc (.cells #[.int .i64 y.x.num, .slice y.a y.x.cr.length y.c] 32)) := ((Below.refl _ _).alloc (Nat.le_refl _) _).alloc (by simp) _
  have hx0 : ((w.alloc (.cells #[.int .i64 0, .slice none 0 0] 32)).alloc (.cells #[.int .i64 y.x.num, .slice y.a y.x.cr.length y.c] 32)).heap[w.heap.size + 1]? = some (.cells #[.int .i64 y.x.num, .slice y.a y.x.cr.length y.c] 32 (0, 0)) := by
    have h9 := heap_alloc_new (w.alloc (.cells #[.int .i64 0, .slice none 0 0] 32)) (.cells #[.int .i64 y.x.num, .slice y.a y.x.cr.length y.c] 32)
    rw [World.size_alloc] at h9
    exact h9
  have hr0 : ((w.alloc (.cells #[.int .i64 0, .slice none 0 0] 32)).alloc (.cells #[.int .i64 y.x.num, .slice y.a y.x.cr.length y.c] 32)).heap[w.heap.size]? = some (.cells #[.int .i64 0, .slice none 0 0] 32 (0, 0)) := (Below.heap_alloc _ _ _ (by simp)).trans (heap_alloc_new w _)
  generalize (w.alloc (.cells #[.int .i64 0, .slice none 0 0] 32)).alloc (.cells #[.int .i64 y.x.num, .slice y.a y.x.cr.length y.c] 32) = V at happ hbV hx0 hr0
  have hot : Only (fun _ => False) V w5 := (Only.refl _ _).grown happ.2.1 (fun q hq _ => by cases hq)
  have hx5 := hot.heap hx0 (fun h => h)
  have hr5 := hot.heap hr0 (fun h => h)
  have ho5 : Only (· = r) w w5 := (Only.of_new hbV).trans hot (fun _ _ h => h.elim)
  have hGl : ∀ k, G k → k < w.heap.size := HH.out.glt
  have hB : BlP G (w.heap.size + 2) w5 zs sv := by
    have h1 := (BlP.nil G (w.heap.size + 2) V).app (zs := zs) (sl' := sv) (V := w5) (fun z hz => ⟨(HYO.out z (by simp [hz])).1.below hbV (Nat.le_refl _), fun ad e => ⟨(HYO.out z (by simp [hz])).2 ad e, Nat.lt_of_lt_of_le (hGl _ ((HYO.out z (by simp [hz])).2 ad e)) hbV.size, by intro h; cases h⟩⟩) happ (by simp)
    exact h1
  obtain ⟨va, vc, rfl, hvc, hwm⟩ := hB.win
  have hrow5 := ho5
  have hW5 : w5.heap[r]? = some (.cells (s.row (.slice (some ⟨b, off, none⟩) (y.x :: zs.map (·.x)).length c)) 73 (0, 0)) := hot.heap (keeph' hbV HROW.out) (fun h => h)
  have hto := HH.out.put (s' := s) (L' := zs.map (·.x)) ho5 hW5 (a := va) (c := vc) (by rw [List.length_map]; exact hvc) hwm (fun k hk => ⟨hk.1.imp (fun h => h) (fun h => by omega), hk.2⟩)
  rw [List.length_map] at hto
  have q3 : w5.cell? ⟨r, 3, none⟩ = some (.slice (some ⟨b, off, none⟩) (y.x :: zs.map (·.x)).length c) := by rw [cell_of_row _ _ _ _ _ _ hW5]; rfl
  have q4 : w5.cell? ⟨r, 4, none⟩ = some (.int .i64 s.floor) := by rw [cell_of_row _ _ _ _ _ _ hW5]; rfl
  have y3 : w5.frozen? ⟨r, 3, none⟩ = false := frozen_of_row w5 _ _ _ _ hW5
  have y4 : w5.frozen? ⟨r, 4, none⟩ = false := frozen_of_row w5 _ _ _ _ hW5
  have x0 : w5.cell? ⟨w.heap.size + 1, 0, none⟩ = some (.int .i64 y.x.num) := by rw [cell_of_row _ _ _ _ _ _ hx5]; rfl
  have x1 : w5.cell? ⟨w.heap.size + 1, 1, none⟩ = some (.slice y.a y.x.cr.length y.c) := by rw [cell_of_row _ _ _ _ _ _ hx5]; rfl
  have r0 : w5.cell? ⟨w.heap.size, 0, none⟩ = some (.int .i64 0) := by rw [cell_of_row _ _ _ _ _ _ hr5]; rfl
  have r1 : w5.cell? ⟨w.heap.size, 1, none⟩ = some (.slice none 0 0) := by rw [cell_of_row _ _ _ _ _ _ hr5]; rfl
  have zr0 : w5.frozen? ⟨w.heap.size, 0, none⟩ = false := frozen_of_row w5 _ _ _ _ hr5
  have zr1 : w5.frozen? ⟨w.heap.size, 1, none⟩ = false := frozen_of_row w5 _ _ _ _ hr5
  have l5 : w.heap.size + 1 < w5.heap.size := (Array.getElem?_eq_some_iff.1 hx5).1
  have n1 : (r = w.heap.size + 1) = False := by rw [eq_iff_iff, iff_false]; omega
  have n2 : (r = w.heap.size) = False := by rw [eq_iff_iff, iff_false]; omega
  have n3 : (w.heap.size + 1 = r) = False := by rw [eq_iff_iff, iff_false]; omega
  have n4 : (w.heap.size = r) = False := by rw [eq_iff_iff, iff_false]; omega
  have HTO := Lib.hid hto
  have HR5 := Lib.hid hr5
  clear happ hbV hx0 hr0 hot hx5 hr5 ho5 hB hvc hwm hrow5 hW5 hto c3 c4 z3 z4 d0 d1 HQ HLN
  by_cases hgt : s.floor < y.x.num
  · go_wp2_with fail
    go_quiet (fail)
    go_wp2_with fail
    obtain ⟨W6, hW6⟩ : ∃ V, V = w5.setCell ⟨r, 3, none⟩ (.slice va zs.length vc) := ⟨_, rfl⟩
    rw [← hW6] at HTO ⊢
    have HF := Lib.hid (show FirP w B r G s y.x (zs.map (·.x)) (.returned (.agg #[.int .i64 y.x.num, .slice y.a y.x.cr.length y.c])) ((((W6.drewN nq).setCell ⟨r, 4, none⟩ (.int .i64 y.x.num)).setCell ⟨w.heap.size, 0, none⟩ (.int .i64 y.x.num)).setCell ⟨w.heap.size, 1, none⟩ (.slice y.a y.x.cr.length y.c)) from by
      obtain ⟨k1, k2⟩ := (HTO.out.1.new (below_drewN' (Below.refl _ _) nq)).set1 (s' := { s with floor := y.x.num }) 4 (.int .i64 y.x.num) (fun _ => rfl)
      exact fir_end HH.out (HYO.out y (by simp)) HTO.out.2 k1 ((Only.of_new (below_drewN' (Below.refl _ _) nq)).trans' k2) (by show max s.floor y.x.num = y.x.num; omega))
    have H7 := Lib.hid (show ((((W6.drewN nq).setCell ⟨r, 4, none⟩ (.int .i64 y.x.num)).setCell ⟨w.heap.size, 0, none⟩ (.int .i64 y.x.num)).setCell ⟨w.heap.size, 1, none⟩ (.slice y.a y.x.cr.length y.c)).heap[w.heap.size]? = some (.cells #[.int .i64 y.x.num, .slice y.a y.x.cr.length y.c] 32 (0, 0)) from set_win _ _ _ _ _ _ (by
      have h1 : Only (· = r) w5 ((W6.drewN nq).setCell ⟨r, 4, none⟩ (.int .i64 y.x.num)) := by
        rw [hW6]
        exact (((Only.refl (· = r) w5).setCell ⟨r, 3, none⟩ _ (fun _ => rfl)).drewN nq).setCell ⟨r, 4, none⟩ _ (fun _ => rfl)
      exact h1.heap HR5.out (fun e => by rw [n4] at e; exact e)))
    refine bodyPost_ret (results_cell1 rfl _ _ _ w.heap.size _ rfl (load_win _ _ _ _ H7.out)) rfl ?_
    exact HF.out
  · go_wp2_with fail
    go_quiet (fail)
    go_wp2_with fail
    obtain ⟨W6, hW6⟩ : ∃ V, V = w5.setCell ⟨r, 3, none⟩ (.slice va zs.length vc) := ⟨_, rfl⟩
    rw [← hW6] at HTO ⊢
    have HF := Lib.hid (show FirP w B r G s y.x (zs.map (·.x)) (.returned (.agg #[.int .i64 y.x.num, .slice y.a y.x.cr.length y.c])) (((W6.drewN nq).setCell ⟨w.heap.size, 0, none⟩ (.int .i64 y.x.num)).setCell ⟨w.heap.size, 1, none⟩ (.slice y.a y.x.cr.length y.c)) from by
      have e9 : ({ s with floor := s.floor } : Cfg) = s := rfl
      exact fir_end HH.out (HYO.out y (by simp)) HTO.out.2 (f := s.floor) (HTO.out.1.new (below_drewN' (Below.refl _ _) nq)) (Only.of_new (below_drewN' (Below.refl _ _) nq)) (by omega))
    have H7 := Lib.hid (show (((W6.drewN nq).setCell ⟨w.heap.size, 0, none⟩ (.int .i64 y.x.num)).setCell ⟨w.heap.size, 1, none⟩ (.slice y.a y.x.cr.length y.c)).heap[w.heap.size]? = some (.cells #[.int .i64 y.x.num, .slice y.a y.x.cr.length y.c] 32 (0, 0)) from set_win _ _ _ _ _ _ (by
      have h1 : Only (· = r) w5 (W6.drewN nq) := by
        rw [hW6]
        exact ((Only.refl (· = r) w5).setCell ⟨r, 3, none⟩ _ (fun _ => rfl)).drewN nq
      exact h1.heap HR5.out (fun e => by rw [n4] at e; exact e)))
    refine bodyPost_ret (results_cell1 rfl _ _ _ w.heap.size _ rfl (load_win _ _ _ _ H7.out)) rfl ?_
    exact HF.out
end Go.Proofs.Ytbkpgpaanhfjfaa
