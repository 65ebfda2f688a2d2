/- Windows in memory; none, told: the walks. -/
import Derived.Test.YtbkpgpaanhfjfaaWiA
import Derived.Test.YtbkpgpaanhfjfaaApp3
import Derived.Test.YtbkpgpaanhfjfaaApp6
import Derived.OrdersHeld
import Derived.Deep.RegionHeld3
namespace Go.Proofs.Ytbkpgpaanhfjfaa
open Go.RowKit Go.Sort K
/-- A credit, a window. -/
structure Cr where
  nm : List UInt8
  inc : Int
  over : Bool
structure WV where
  num : Int
  cr : List Cr
def Cr.cells (c : Cr) : List Value := [encStr c.nm, .int .i64 c.inc, .bool c.over]
def Cr.val (c : Cr) : Value := .agg #[encStr c.nm, .int .i64 c.inc, .bool c.over]
def crf (l : List Cr) : List Value := l.flatMap Cr.cells
theorem crf_length (l : List Cr) : (crf l).length = 3 * l.length := flat_length _ 3 (fun _ => rfl) l
theorem crf_app (a b : List Cr) : crf (a ++ b) = crf a ++ crf b := by simp [crf]
theorem crf_one (l : List Cr) : ∀ u ∈ crf l, u.oneCell' = true := by
  intro u hu
  obtain ⟨v, -, h⟩ := List.mem_flatMap.1 hu
  simp only [Cr.cells, List.mem_cons, List.not_mem_nil, or_false] at h
  rcases h with rfl | rfl | rfl <;> rfl
theorem info_cr : (Try.prog.info? 34).map (fun i => (i.zero, i.size, i.bytes)) = some (some (.agg #[.string ⟨#[]⟩, .int .i64 0, .bool false]), 3, 32) := by kernel_rfl
theorem info_wv : (Try.prog.info? 32).map (fun i => (i.zero, i.size, i.bytes)) = some (some (.agg #[.int .i64 0, .slice none 0 0]), 2, 32) := by kernel_rfl
/-- By rising names; by rising numbers. -/
def CS (l : List Cr) : Prop := (l.map (·.nm)).Pairwise (· < ·)
def WS (l : List WV) : Prop := (l.map (·.num)).Pairwise (· < ·)
theorem CS.nodup {l : List Cr} (h : CS l) : (l.map (·.nm)).Nodup := h.imp fun {a b} hab e => by subst e; exact List.lt_irrefl _ hab
theorem WS.nodup {l : List WV} (h : WS l) : (l.map (·.num)).Nodup := h.imp fun {a b} hab e => by omega
/-- Bounds of what is open. -/
def CrB (c : Cr) : Prop := 0 ≤ c.inc ∧ c.inc ≤ 9223372036854775807 ∧ c.nm.length ≤ 140737488355328
structure WBd (L : List WV) : Prop where
  num : ∀ v ∈ L, 0 ≤ v.num ∧ v.num ≤ 1125899906842624
  crs : ∀ v ∈ L, v.cr.length ≤ 1000 ∧ ∀ c ∈ v.cr, CrB c
  len : L.length ≤ 1000
/-- The program's entry of a window: its inner map's entries as they were put. -/
structure WE where
  num : Int
  m : Nat
  ks : List Cr
  cr : List Cr
def WE.vw (e : WE) : WV := ⟨e.num, e.cr⟩
def ckv (l : List Cr) : List (List UInt8 × Value) := l.map fun c => (c.nm, c.val)
def wents (es : List WE) : List (Int × Value) := es.map fun e => (e.num, .map (some e.m))
def WEok (w : World) (e : WE) : Prop := MapAt encStr w e.m (ckv e.ks) ∧ e.ks.Perm e.cr ∧ CS e.cr
theorem sKey : KeyEnc Try.prog 9 encStr := by
  have h := string_enc (P := Try.prog) Try.underlying9
  have hi : ∀ x y : List UInt8, ((⟨x.toArray⟩ : ByteArray) = ⟨y.toArray⟩) = (x = y) := fun x y => by
    rw [eq_iff_iff]
    exact ⟨fun e => by have := congrArg (fun b : ByteArray => b.data.toList) e; simpa using this, fun e => by rw [e]⟩
  obtain ⟨kd, h1, h2⟩ := h.same
  exact ⟨⟨kd, h1, fun x y => by rw [h2, decide_eq_decide.2 (by rw [hi])]⟩, fun w e n x => h.check w e n _, fun x => h.bits _⟩
theorem iKey : KeyEnc Try.prog 2 iEnc := int_enc Try.underlying2
theorem ckv_fst (l : List Cr) : (ckv l).map (·.1) = l.map (·.nm) := by simp [ckv, List.map_map, Function.comp_def]
theorem wents_fst (es : List WE) : (wents es).map (·.1) = es.map (·.num) := by simp [wents, List.map_map, Function.comp_def]
section
variable {α : Type} [DecidableEq α]
theorem mget_of_mem {x : α} {v : Value} : ∀ {kvs : List (α × Value)}, (kvs.map (·.1)).Nodup → (x, v) ∈ kvs → mget x kvs = some v
  | (y, u) :: r, hn, h => by
    simp only [List.map_cons, List.nodup_cons] at hn
    rcases List.mem_cons.1 h with h | h
    · cases h
      simp [mget]
    · have : x ≠ y := fun e => hn.1 (by rw [← e]; exact List.mem_map.2 ⟨(x, v), h, rfl⟩)
      unfold mget
      rw [if_neg this]
      exact mget_of_mem hn.2 h
theorem mget_not_mem {x : α} : ∀ {kvs : List (α × Value)}, x ∉ kvs.map (·.1) → mget x kvs = none
  | [], _ => rfl
  | (y, u) :: r, hn => by
    simp only [List.map_cons, List.mem_cons, not_or] at hn
    unfold mget
    rw [if_neg hn.1]
    exact mget_not_mem hn.2
end
theorem cr_get {ks cr : List Cr} (hp : ks.Perm cr) (hs : CS cr) {c : Cr} (hc : c ∈ cr) : mget c.nm (ckv ks) = some c.val := by
  refine mget_of_mem ?_ (List.mem_map.2 ⟨c, hp.mem_iff.2 hc, rfl⟩)
  rw [ckv_fst]
  exact ((hp.map (·.nm)).nodup_iff).2 hs.nodup
theorem cr_sort {ks cr : List Cr} (hp : ks.Perm cr) (hs : CS cr) : ((ckv ks).map (·.1)).mergeSort leB = cr.map (·.nm) := by
  rw [ckv_fst, mergeSort_of_perm (hp.map (·.nm))]
  exact List.mergeSort_of_pairwise (hs.imp fun h => by simp only [leB, decide_eq_true_eq]; exact List.le_of_lt h)
theorem wv_sort {es : List WE} {L : List WV} (hp : (es.map WE.vw).Perm L) (hs : WS L) : ((wents es).map (·.1)).mergeSort leI = L.map (·.num) := by
  have h1 : (es.map (·.num)).Perm (L.map (·.num)) := by
    have := hp.map (·.num)
    rwa [List.map_map] at this
  rw [wents_fst, mergeSort_of_perm_i h1]
  exact List.mergeSort_of_pairwise (hs.imp fun h => by simp only [leI, decide_eq_true_eq]; omega)
/-- What windows have beside what is open. -/
structure Cfg where
  len : Int
  lat : Int
  most : Int
  floor : Int
  mark : Int
  cred : Int
  late : Int
def Cfg.row (s : Cfg) (p : Value) : Array Value := #[.int .i64 s.len, .int .i64 s.lat, .int .i64 s.most, p, .int .i64 s.floor, .int .i64 s.mark, .int .i64 s.cred, .int .i64 s.late]
def wfoot (g M : Nat) (es : List WE) : List Nat := g :: M :: es.map (·.m)
def WinAt (w : World) (B g M : Nat) (s : Cfg) (es : List WE) : Prop :=
  w.heap[g]? = some (.cells (s.row (.map (some M))) 62 (0, 0)) ∧ MapAt iEnc w M (wents es) ∧ (∀ e ∈ es, WEok w e) ∧ (wfoot g M es).Nodup ∧ ∀ k ∈ wfoot g M es, B ≤ k
def WinIs (w : World) (B g : Nat) (s : Cfg) (L : List WV) (F : List Nat) : Prop := ∃ M es, WinAt w B g M s es ∧ (es.map WE.vw).Perm L ∧ WS L ∧ F = wfoot g M es
section
variable {w w' : World} {B g M : Nat} {s : Cfg} {es : List WE} {L : List WV} {F : List Nat}
theorem WinAt.lt (h : WinAt w B g M s es) : ∀ k ∈ wfoot g M es, k < w.heap.size := by
  obtain ⟨h1, h2, h3, _⟩ := h
  intro k hk
  simp only [wfoot, List.mem_cons, List.mem_map] at hk
  rcases hk with rfl | rfl | ⟨e, he, rfl⟩
  · exact (Array.getElem?_eq_some_iff.1 h1).1
  · exact h2.lt
  · exact (h3 e he).1.lt
theorem WinAt.only {P : Nat → Prop} (h : WinAt w B g M s es) (ho : Only P w w') (hn : ∀ k ∈ wfoot g M es, ¬ P k) : WinAt w' B g M s es := by
  obtain ⟨h1, h2, h3, h4, h5⟩ := h
  exact ⟨ho.heap h1 (hn g (by simp [wfoot])), h2.only ho (hn M (by simp [wfoot])), fun e he => ⟨(h3 e he).1.only ho (hn e.m (by simp only [wfoot, List.mem_cons, List.mem_map]; exact .inr (.inr ⟨e, he, rfl⟩))), (h3 e he).2⟩, h4, h5⟩
theorem WinAt.below (h : WinAt w B g M s es) (hb : Below w.heap.size w w') : WinAt w' B g M s es :=
  h.only (P := fun _ => False) (Only.of_new hb) (fun _ _ h => h)
theorem WinAt.cell (h : WinAt w B g M s es) (j : Nat) {v : Value} (hv : (s.row (.map (some M)))[j]? = some v) : w.cell? ⟨g, j, none⟩ = some v := by
  rw [cell_of_row _ _ _ _ _ _ h.1]
  exact hv
theorem WinIs.in (h : WinIs w B g s L F) : ∀ k ∈ F, B ≤ k ∧ k < w.heap.size := by
  obtain ⟨M, es, h1, -, -, rfl⟩ := h
  exact fun k hk => ⟨h1.2.2.2.2 k hk, h1.lt k hk⟩
theorem WinIs.only {P : Nat → Prop} (h : WinIs w B g s L F) (ho : Only P w w') (hn : ∀ k ∈ F, ¬ P k) : WinIs w' B g s L F := by
  obtain ⟨M, es, h1, h2, h3, rfl⟩ := h
  exact ⟨M, es, h1.only ho hn, h2, h3, rfl⟩
theorem WinIs.new (h : WinIs w B g s L F) (hb : Below w.heap.size w w') : WinIs w' B g s L F :=
  h.only (P := fun _ => False) (Only.of_new hb) (fun _ _ h => h)
theorem WinAt.get (h : WinAt w B g M s es) {e : WE} (he : e ∈ es) (hp : (es.map WE.vw).Perm L) (hs : WS L) : mget e.num (wents es) = some (.map (some e.m)) := by
  refine mget_of_mem ?_ (List.mem_map.2 ⟨e, he, rfl⟩)
  rw [wents_fst]
  have h1 : (es.map (·.num)).Perm (L.map (·.num)) := by
    have := hp.map (·.num)
    rwa [List.map_map] at this
  exact h1.nodup_iff.2 hs.nodup
end
theorem zMapC (w : World) : (zeroValue 66).run Try.prog w = .ok (.map none) w := by kernel_rfl
theorem zCred (w : World) : (zeroValue 34).run Try.prog w = .ok (.agg #[.string ⟨#[]⟩, .int .i64 0, .bool false]) w := by kernel_rfl
set_option maxHeartbeats 400000 in
theorem none_any {w : World} {B g M : Nat} {s : Cfg} {es : List WE} (h : WinAt w B g M s es) (hl : 1 ≤ s.len) : Calls Try.prog 27 #[.pointer (some ⟨g, 0, none⟩)] w fun e w' => e = .returned (.bool false) ∧ w = w' := by
  have c0 : w.cell? ⟨g, 0, none⟩ = some (.int .i64 s.len) := h.cell 0 rfl
  generalize s.len = z at c0 hl
  have h0 : (z == 0) = false := by rw [beq_eq_false_iff_ne]; omega
  clear h
  go_enter Try.func27, Try.ntmps27
  go_wp2
  go_ret
  exact ⟨rfl, rfl⟩
theorem keeph' {A B : World} {k : Nat} {o : Obj} (hb : Below A.heap.size A B) (h : A.heap[k]? = some o) : B.heap[k]? = some o := (hb.block _ (Array.getElem?_eq_some_iff.1 h).1).trans h
theorem keepcB {n : Nat} {A B : World} {p : Addr} {v : Value} (hb : Below A.heap.size A B) (h3 : A.cell? p = some v) : B.cell? p = some v := keepc hb h3
theorem own_slice3 {w : World} {B e size n : Nat} {v : Value} {xs : List Value} (h : w.ownsRow B e size v n xs) : ∃ a c, v = .slice a n c ∧ n ≤ c ∧ c ≤ 9223372036854775807 ∧ (a = none → c = 0) ∧ Rd w a xs := by
  have hr : ∃ a c, v = .slice a n c ∧ n ≤ c ∧ Rd w a xs := by
    rcases h.2 with ⟨rfl, rfl⟩ | ⟨g, cap, cur, rfl, _, hg, hn, _⟩
    · refine ⟨none, 0, rfl, Nat.le_refl _, fun k v hv => ?_⟩
      have : xs = [] := List.eq_nil_of_length_eq_zero (by simpa using h.1)
      subst this
      simp at hv
    · refine ⟨_, cap, rfl, hn, fun k v hv => ⟨g, 0, rfl, ?_⟩⟩
      have := h.cells (g := g) rfl k v hv
      simpa [Addr.add_lit] using this
  obtain ⟨a, c, rfl, hc, hrd⟩ := hr
  refine ⟨a, c, rfl, hc, ?_, ?_, hrd⟩
  · rcases h.2 with ⟨e, -⟩ | ⟨g, cap, cur, e, _, _, _, hm, _⟩
    · cases e; omega
    · cases e; unfold maxLen at hm; omega
  · rcases h.2 with ⟨e, -⟩ | ⟨g, cap, cur, e, _⟩
    · cases e; exact fun _ => rfl
    · cases e; intro h; cases h
theorem bel1d' (w : World) (a : Obj) : Below w.heap.size w (w.alloc a).drew := ((Below.refl _ w).alloc (Nat.le_refl _) _).trans ((drew_below _).mono (by simp))
theorem crf_one' (c : Cr) : ∀ u ∈ c.cells, u.oneCell' = true := fun u hu => by
  simp only [Cr.cells, List.mem_cons, List.not_mem_nil, or_false] at hu
  rcases hu with rfl | rfl | rfl <;> rfl
theorem held_lookup1 {W : World} {M m : Nat} {kvs : List (Int × Value)} {x : Int} (h : MapAt iEnc W M kvs) (hg : mget x kvs = some (.map (some m))) : Sem.run Try.prog (Instr.lookup 60 (.map (some M)) (.int .i64 x) false) W = .ok (.map (some m)) W := by
  have := run_lookup iKey h Try.underlying60 (.map none) (zMapC W) x false
  rw [hg] at this
  exact this
theorem held_lookup2 {W : World} {m : Nat} {kvs : List (List UInt8 × Value)} {x : List UInt8} {c : Cr} (h : MapAt encStr W m kvs) (hg : mget x kvs = some c.val) : Sem.run Try.prog (Instr.lookup 66 (.map (some m)) (encStr x) false) W = .ok (.agg #[encStr c.nm, .int .i64 c.inc, .bool c.over]) W := by
  have := run_lookup sKey h Try.underlying66 (.agg #[.string ⟨#[]⟩, .int .i64 0, .bool false]) (zCred W) x false
  rw [hg] at this
  exact this
def ToldP (w : World) (v : WV) (e : Ending) (w' : World) : Prop := ∃ a c, e = .returned (.agg #[.int .i64 v.num, .slice a v.cr.length c]) ∧ Rd w' a (crf v.cr) ∧ (∀ ad, a = some ad → w.heap.size ≤ ad.block ∧ ad.block < w'.heap.size) ∧ Below w.heap.size w w'
/-- Between two rounds of told. -/
def ToI (w : World) (D : Nat) (v : WV) (k : Nat) (W : World) : Prop := ∃ sl, W.heap[w.heap.size + 1]? = some (.cells #[.int .i64 v.num, sl] 32 (0, 0)) ∧ W.ownsRow D 34 3 sl k (crf (v.cr.take k)) ∧ W.heap[w.heap.size]? = some (.cells #[.int .i64 0, .slice none 0 0] 32 (0, 0)) ∧ Below w.heap.size w W ∧ D ≤ W.heap.size
theorem results_cell1 {fn : Func} {p : Tmp} {ty : TypeId} (h : fn.results = #[.cell p ty]) (tmps : Array Value) (P : Program) (w : World) (g : Nat) (v : Value) (hp : tmps.getD p undef = .pointer (some ⟨g, 0, none⟩)) (hl : (loadVar ty ⟨g, 0, none⟩).run P w = .ok v w) : (results fn tmps).run P w = .ok v w := by
  have hp2 : tmps[p]?.getD undef = .pointer (some ⟨g, 0, none⟩) := by simpa using hp
  simp only [results, h]
  simp [hp2, hl, asAddr]
theorem load_win (w : World) (g : Nat) (a0 a1 : Value) (h : w.heap[g]? = some (.cells #[a0, a1] 32 (0, 0))) : (loadVar 32 ⟨g, 0, none⟩).run Try.prog w = .ok (.agg #[a0, a1]) w := by
  have c : ∀ i, w.cell? ⟨g, i, none⟩ = #[a0, a1][i]? := fun i => cell_of_row _ _ _ _ _ _ h
  simp [loadVar, go_sem, c]
theorem set_win (w : World) (g : Nat) (a0 a1 b0 b1 : Value) (h : w.heap[g]? = some (.cells #[a0, a1] 32 (0, 0))) : ((w.setCell ⟨g, 0, none⟩ b0).setCell ⟨g, 1, none⟩ b1).heap[g]? = some (.cells #[b0, b1] 32 (0, 0)) := by
  rw [heap_setCell_same _ _ _ _ _ _ (heap_setCell_same _ _ _ _ _ _ h)]
  rfl
set_option maxHeartbeats 4000000 in
set_option maxRecDepth 100000 in
theorem told_at {w : World} {B g M : Nat} {s : Cfg} {es : List WE} {L : List WV} (h : WinAt w B g M s es) (hp : (es.map WE.vw).Perm L) (hs : WS L) (hb : WBd L) {v : WV} (hv : v ∈ L) :
    Calls Try.prog 32 #[.pointer (some ⟨g, 0, none⟩), .int .i64 v.num] w (ToldP w v) := by
  obtain ⟨e, he, rfl⟩ := List.mem_map.1 (hp.mem_iff.2 hv)
  have hok := h.2.2.1 e he
  obtain ⟨hcl, hcb⟩ := hb.crs _ hv
  obtain ⟨i0, hi0, hz0, hz1, hz2⟩ := info_parts info_cr
  have HG := Lib.hid (h.get he hp hs)
  have HM := Lib.hid (fun W (hb : Below w.heap.size w W) => h.2.1.only (F := fun _ => False) (Only.of_new hb) (fun h => h))
  have HI := Lib.hid (fun W (hb : Below w.heap.size w W) => hok.1.only (F := fun _ => False) (Only.of_new hb) (fun h => h))
  have HC := Lib.hid (fun (c : Cr) (hc : c ∈ e.cr) => cr_get hok.2.1 hok.2.2 hc)
  have HR := Lib.hid (fun W (hb : Below w.heap.size w W) => (show Calls Try.prog 43 #[.map (some e.m)] W fun e' w' => ∃ v, e' = .returned v ∧ w'.ownsRow W.heap.size 9 1 v e.cr.length ((e.cr.map (·.nm)).map encStr) ∧ Below W.heap.size W w' from by
    have h1 := rising_s (hok.1.only (F := fun _ => False) (Only.of_new hb) (fun h => h)) (by rw [ckv_fst]; exact ((hok.2.1.map (·.nm)).nodup_iff).2 hok.2.2.nodup) (fun p hp => by
      obtain ⟨c, hc, rfl⟩ := List.mem_map.1 hp
      have := (hcb c (hok.2.1.mem_iff.1 hc)).2.2
      show c.nm.length ≤ _
      unfold maxLen
      omega) (by unfold ckv; rw [List.length_map, hok.2.1.length_eq]; have h2 : e.cr.length ≤ 1000 := hcl; omega)
    rw [cr_sort hok.2.1 hok.2.2] at h1
    have h3 : (ckv e.ks).length = e.cr.length := by unfold ckv; rw [List.length_map, hok.2.1.length_eq]
    rw [h3] at h1
    exact h1))
  have g3 : w.cell? ⟨g, 3, none⟩ = some (.map (some M)) := h.cell 3 rfl
  have g3l := World.block_lt_of_cell? w _ g3
  simp only at g3l
  have G3 := Lib.hid g3
  have HL : e.cr.length ≤ 1000 := hcl
  have HZ := Lib.hid (World.ownsRow_nil w w.heap.size 34 3)
  clear hok hcl hcb h hp hs hb hv he
  show Calls Try.prog 32 #[.pointer (some ⟨g, 0, none⟩), .int .i64 e.num] w (ToldP w e.vw)
  go_enter Try.func32, Try.ntmps32
  go_wp2_with (first
    | (with_reducible refine step_lookup iKey rfl 60 _ _ false rfl Try.underlying60 rfl (HM.out _ (((Below.refl _ w).alloc (Nat.le_refl _) _).alloc (by simp) _)) e.num rfl (.map none) (zMapC _) ?_; rw [HG.out])
    | fail)
  obtain ⟨W2, hW2⟩ : ∃ W, W = (w.alloc (.cells #[.int .i64 0, .slice none 0 0] 32)).alloc (.cells #[.int .i64 e.num, .slice none 0 0] 32) := ⟨_, rfl⟩
  have hb2 : Below w.heap.size w W2 := by rw [hW2]; exact ((Below.refl _ w).alloc (Nat.le_refl _) _).alloc (by simp) _
  have hR : W2.heap[w.heap.size]? = some (.cells #[.int .i64 0, .slice none 0 0] 32 (0, 0)) := by
    rw [hW2]; exact (Below.heap_alloc _ _ _ (by simp)).trans (heap_alloc_new w _)
  have hO : W2.heap[w.heap.size + 1]? = some (.cells #[.int .i64 e.num, .slice none 0 0] 32 (0, 0)) := by
    rw [hW2]; have h := heap_alloc_new (w.alloc (.cells #[.int .i64 0, .slice none 0 0] 32)) (.cells #[.int .i64 e.num, .slice none 0 0] 32); rw [World.size_alloc] at h; exact h
  have HS2 := Lib.hid (show W2.heap.size = w.heap.size + 2 by rw [hW2]; simp)
  rw [← hW2]
  clear hW2
  have HB2 := Lib.hid hb2
  clear hb2
  have HRI := Lib.hid (HR.out W2 HB2.out)
  clear g3 g3l HR
  refine HRI.out.mono ?_
  rintro e1 w3 ⟨nv, rfl, hrow, hb3⟩
  obtain ⟨na, nc, rfl, -, -, -, hnr⟩ := own_slice hrow
  have HB3 := Lib.hid (HB2.out.trans (hb3.mono HB2.out.size))
  have HNR := Lib.hid hnr
  have HNB := Lib.hid (show (∀ ad, na = some ad → w.heap.size + 2 ≤ ad.block ∧ ad.block < w3.heap.size) ∧ w.heap.size + 2 ≤ w3.heap.size from ⟨fun ad e => by subst e; have := hrow.lt ad.block rfl; have := HS2.out; omega, by have := hb3.size; have := HS2.out; omega⟩)
  have HTI := Lib.hid (show ToI w w3.heap.size e.vw 0 w3 from ⟨_, keeph' hb3 hO, by simpa [crf] using World.ownsRow_nil w3 w3.heap.size 34 3, keeph' hb3 hR, HB3.out, Nat.le_refl _⟩)
  clear hrow hnr hb3 hO hR HRI HZ
  go_wp2
  go_loopw [18] (fun iv wr => ∃ k : Nat, iv = .int .i64 k ∧ k ≤ e.cr.length ∧ ToI w w3.heap.size e.vw k wr ∧ Rd wr na ((e.cr.map (·.nm)).map encStr)) (fun iv _ => e.cr.length - (intOf iv).toNat)
  case atStart => exact ⟨0, rfl, Nat.zero_le _, HTI.out, HNR.out⟩
  case round =>
    obtain ⟨k, rfl, hk, hti, hrd⟩ := hrel
    obtain ⟨wz, hwz⟩ : ∃ wz, wz = wr := ⟨_, rfl⟩
    subst hwz
    obtain ⟨sl, hO, hown, hR, hbw, hDz⟩ := hti
    by_cases hc : k < e.cr.length
    · obtain ⟨cc, hcc⟩ : ∃ cc, cc = e.cr[k] := ⟨_, rfl⟩
      have hcm : cc ∈ e.cr := by rw [hcc]; exact List.getElem_mem hc
      obtain ⟨b, off, rfl, hbl, hcell⟩ := hrd.at (k := k) (v := encStr cc.nm) (by rw [hcc]; simp [hc])
      obtain ⟨sa, scc, hslv, hslc, hslm, hsln, hslr⟩ := own_slice3 hown
      have HOW := Lib.hid hown
      have HHO := Lib.hid hO
      have HHR := Lib.hid hR
      have HBW := Lib.hid hbw
      have HRD := Lib.hid hrd
      have HNE := Lib.hid (show sl.ownBlock ≠ some (w.heap.size + 1) ∧ sl.ownBlock ≠ some w.heap.size ∧ w3.heap.size ≤ wz.heap.size from ⟨fun e => by have := (hown.lt _ e).1; have := HNB.out.2; omega, fun e => by have := (hown.lt _ e).1; have := HNB.out.2; omega, hDz⟩)
      have HCC := Lib.hid hcc
      have o1 : wz.cell? ⟨w.heap.size + 1, 1, none⟩ = some sl := by rw [cell_of_row _ _ _ _ _ _ hO]; rfl
      have G30 := G3
      have HMz := Lib.hid (HM.out _ HBW.out)
      have HIz := Lib.hid (HI.out _ HBW.out)
      have HCG := Lib.hid (HC.out cc hcm)
      subst hslv
      have O1 := Lib.hid o1
      clear hO hown hDz hR hbw hrd hslr hcc hcm o1 hsln hslm hslc HTI HNR
      go_wp2_with fail
      refine wp_region_noPanic ?_
      refine wp_region_held_drew (S := (fun w' => Below w.heap.size w w')) (by kernel_rfl) ?_ (fun hHeld => ?_)
      · exact HBW.out.trans ((drew_below wz).mono HBW.out.size)
      refine wpAnyH_take (i := 0) (oi := _) (v := ?_) rfl (by kernel_rfl) (by kernel_rfl) (by kernel_rfl) (fun _ _ _ h => h) (Or.inl ⟨by rfl, ?_⟩) (by assumption) ?_
      rotate_left 1
      · (intro w hSw; (try dsimp only at hSw); go_simp; (try with_reducible rfl))
      try simp only [Act.put, List.getElem_toArray, List.getElem_cons_zero, List.setIfInBounds_toArray, List.set_cons_zero, List.set_cons_succ]
      refine wpAnyH_take (i := 2) (oi := _) (v := ?_) rfl (by kernel_rfl) (by kernel_rfl) (by kernel_rfl) (fun _ _ _ h => h) (Or.inl ⟨by rfl, ?_⟩) (by assumption) ?_
      rotate_left 1
      · (intro w hSw; (try dsimp only at hSw); go_simp; (try with_reducible rfl))
      try simp only [Act.put, List.getElem_toArray, List.getElem_cons_succ, List.getElem_cons_zero, List.setIfInBounds_toArray, List.set_cons_zero, List.set_cons_succ]
      refine wpAnyH_take (i := 3) (oi := _) (v := ?_) rfl (by kernel_rfl) (by kernel_rfl) (by kernel_rfl) (fun _ _ _ h => h) (Or.inl ⟨by rfl, ?_⟩) (by assumption) ?_
      rotate_left 1
      · (intro w hSw; (try dsimp only at hSw); go_simp; (try with_reducible rfl))
      try simp only [Act.put, List.getElem_toArray, List.getElem_cons_succ, List.getElem_cons_zero, List.setIfInBounds_toArray, List.set_cons_zero, List.set_cons_succ]
      refine wpAnyH_take (i := 4) (oi := _) (v := ?_) rfl (by kernel_rfl) (by kernel_rfl) (by kernel_rfl) (fun _ _ _ h => h) (Or.inl ⟨by rfl, ?_⟩) (by assumption) ?_
      rotate_left 1
      · (intro w hSw; (try dsimp only at hSw); go_simp; (try with_reducible rfl))
      try simp only [Act.put, List.getElem_toArray, List.getElem_cons_succ, List.getElem_cons_zero, List.setIfInBounds_toArray, List.set_cons_zero, List.set_cons_succ]
      refine wpAnyH_take (i := 5) (oi := _) (v := ?_) rfl (by kernel_rfl) (by kernel_rfl) (by kernel_rfl) (fun _ _ _ h => h) (Or.inl ⟨by rfl, ?_⟩) (by assumption) ?_
      rotate_left 1
      · (intro w hSw; (try dsimp only at hSw); (have q := keepc hSw G30.out; go_simp); (try with_reducible rfl))
      try simp only [Act.put, List.getElem_toArray, List.getElem_cons_succ, List.getElem_cons_zero, List.setIfInBounds_toArray, List.set_cons_zero, List.set_cons_succ]
      refine wpAnyH_take (i := 6) (oi := _) (v := ?_) rfl (by kernel_rfl) (by kernel_rfl) (by kernel_rfl) (fun _ _ _ h => h) (Or.inl ⟨by rfl, ?_⟩) (by assumption) ?_
      rotate_left 1
      · (intro w hSw; (try dsimp only at hSw); go_simp; (try with_reducible rfl))
      try simp only [Act.put, List.getElem_toArray, List.getElem_cons_succ, List.getElem_cons_zero, List.setIfInBounds_toArray, List.set_cons_zero, List.set_cons_succ]
      refine wpAnyH_take (i := 7) (oi := _) (v := ?_) rfl (by kernel_rfl) (by kernel_rfl) (by kernel_rfl) (fun _ _ _ h => h) (Or.inl ⟨by rfl, ?_⟩) (by assumption) ?_
      rotate_left 1
      · (intro w hSw; (try dsimp only at hSw); (have q := held_lookup1 (HM.out _ hSw) HG.out; go_simp); (try with_reducible rfl))
      try simp only [Act.put, List.getElem_toArray, List.getElem_cons_succ, List.getElem_cons_zero, List.setIfInBounds_toArray, List.set_cons_zero, List.set_cons_succ]
      refine wpAnyH_take (i := 8) (oi := _) (v := ?_) rfl (by kernel_rfl) (by kernel_rfl) (by kernel_rfl) (fun _ _ _ h => h) (Or.inl ⟨by rfl, ?_⟩) (by assumption) ?_
      rotate_left 1
      · (intro w hSw; (try dsimp only at hSw); go_simp; (try with_reducible rfl))
      try simp only [Act.put, List.getElem_toArray, List.getElem_cons_succ, List.getElem_cons_zero, List.setIfInBounds_toArray, List.set_cons_zero, List.set_cons_succ]
      refine wpAnyH_take (i := 9) (oi := _) (v := ?_) rfl (by kernel_rfl) (by kernel_rfl) (by kernel_rfl) (fun _ _ _ h => h) (Or.inl ⟨by rfl, ?_⟩) (by assumption) ?_
      rotate_left 1
      · (intro w hSw; (try dsimp only at hSw); (have q := held_lookup2 (HI.out _ hSw) HCG.out; go_simp); (try with_reducible rfl))
      try simp only [Act.put, List.getElem_toArray, List.getElem_cons_succ, List.getElem_cons_zero, List.setIfInBounds_toArray, List.set_cons_zero, List.set_cons_succ]
      refine wpAnyH_ready (rs := [1, 10]) (by kernel_rfl) (by simp) ?_
      refine AllReadyH.cons (o := _) rfl (fun K hK => ?_) (AllReadyH.cons (o := _) rfl (fun K hK => ?_) AllReadyH.nil)
      · have z1 : World.cell? wz.drew ⟨w.heap.size + 1, 1, none⟩ = some (.slice sa k scc) := O1.out
        go_simp
        refine hK.out _ _ ?_ (fun _ => ?_)
        · exact hHeld
        clear hK K
        try simp only [Act.put, List.getElem_toArray, List.getElem_cons_succ, List.getElem_cons_zero, List.setIfInBounds_toArray, List.set_cons_zero, List.set_cons_succ]
        refine wpAnyH_ready (rs := [10]) (by kernel_rfl) (by simp) ?_
        refine AllReadyH.cons (o := _) rfl (fun K hK => ?_) AllReadyH.nil
        go_simp
        obtain ⟨V1, hV1⟩ : ∃ V, V = (wz.alloc (.cells #[encStr cc.nm, .int .i64 cc.inc, .bool cc.over] 34)).drew := ⟨_, rfl⟩
        have hbV1 : Below w.heap.size w V1 := by rw [hV1]; exact HBW.out.trans (((bel1d' wz _)).mono HBW.out.size)
        have HV1 := Lib.hid (show V1.heap[w.heap.size + 1]? = some (.cells #[.int .i64 e.num, .slice sa k scc] 32 (0, 0)) ∧ V1.ownsRow w3.heap.size 34 3 (.slice sa k scc) k (crf (e.cr.take k)) ∧ Rd V1 (some ⟨wz.heap.size, 0, none⟩) cc.cells ∧ Below wz.heap.size wz V1 from by
          have hbz : Below wz.heap.size wz V1 := by rw [hV1]; exact bel1d' wz _
          exact ⟨keeph' hbz HHO.out, (Only.of_new (F := fun _ => False) hbz).own HOW.out (fun _ _ h => h), by rw [hV1]; exact Rd.new wz _ _ _ _ (fun j u hu => by simpa [Cr.cells] using hu), hbz⟩)
        rw [← hV1]
        clear hV1
        refine hK.out _ _ ?_ (fun _ => ?_)
        · exact hbV1
        clear hK K
        try simp only [Act.put, List.getElem_toArray, List.getElem_cons_succ, List.getElem_cons_zero, List.setIfInBounds_toArray, List.set_cons_zero, List.set_cons_succ]
        refine wpAnyH_ready (rs := [11]) (by kernel_rfl) (by simp) ?_
        refine AllReadyH.cons (o := _) rfl (fun K hK => ?_) AllReadyH.nil
        refine rstep_append_any (by kernel_rfl) _ _ 30 rfl w3.heap.size 34 i0 _ 3 32 Try.underlying30 hi0 hz0 hz1 hz2 rfl (by decide) (.slice sa k scc) k _ rfl HV1.out.2.1 (some ⟨wz.heap.size, 0, none⟩) 1 1 cc.cells rfl rfl HV1.out.2.2.1 (crf_one' cc) (by unfold maxLen; omega) (by omega) (by have h9 := HV1.out.2.2.2.size; have h8 := HNE.out.2.2; omega) ?_
        rintro v1 V2 ⟨hown2, hgr2, hloc2⟩
        obtain ⟨va, vc, rfl, -, -, -, -⟩ := own_slice3 hown2
        have hbV2 : Below w.heap.size w V2 := hbV1.grown hgr2 hbV1.size (fun q hq => by have h9 := (HOW.out.lt q hq).1; have h8 := HNB.out.2; omega)
        refine hK.out _ _ ?_ (fun _ => ?_)
        · exact hbV2
        clear hK K
        try simp only [Act.put, List.getElem_toArray, List.getElem_cons_succ, List.getElem_cons_zero, List.setIfInBounds_toArray, List.set_cons_zero, List.set_cons_succ]
        refine wpAnyH_take (i := 12) (oi := _) (v := ?_) rfl (by kernel_rfl) (by kernel_rfl) (by kernel_rfl) (fun _ _ _ h => h) (Or.inl ⟨by rfl, ?_⟩) (by assumption) ?_
        rotate_left 1
        · (intro w hSw; (try dsimp only at hSw); go_simp; (try with_reducible rfl))
        try simp only [Act.put, List.getElem_toArray, List.getElem_cons_succ, List.getElem_cons_zero, List.setIfInBounds_toArray, List.set_cons_zero, List.set_cons_succ]
        refine wpAnyH_ready (rs := [13]) (by kernel_rfl) (by simp) ?_
        refine AllReadyH.cons (o := _) rfl (fun K hK => ?_) AllReadyH.nil
        have hO2 : V2.heap[w.heap.size + 1]? = some (.cells #[.int .i64 e.num, .slice sa k scc] 32 (0, 0)) := (hgr2.block _ (Array.getElem?_eq_some_iff.1 HV1.out.1).1 (fun e => HNE.out.1 e.symm)).trans HV1.out.1
        have z2 : V2.cell? ⟨w.heap.size + 1, 1, none⟩ = some (.slice sa k scc) := by rw [cell_of_row _ _ _ _ _ _ hO2]; rfl
        have z3 : V2.frozen? ⟨w.heap.size + 1, 1, none⟩ = false := frozen_of_row V2 _ _ _ _ hO2
        have z4 := World.block_lt_of_cell? V2 _ z2
        simp only at z4
        go_simp
        refine hK.out _ _ ?_ (fun _ => ?_)
        · exact hbV2.setCell (p := ⟨w.heap.size + 1, 1, none⟩) (by simp) _
        clear hK K
        try simp only [Act.put, List.getElem_toArray, List.getElem_cons_succ, List.getElem_cons_zero, List.setIfInBounds_toArray, List.set_cons_zero, List.set_cons_succ]
        refine wpAnyH_done (by kernel_rfl) ?_ _
        refine NoPanic.normal ?_
        have HF := Lib.hid (show ToI w w3.heap.size e.vw (k + 1) (V2.setCell ⟨w.heap.size + 1, 1, none⟩ (.slice va (k + 1) vc)) ∧ Rd (V2.setCell ⟨w.heap.size + 1, 1, none⟩ (.slice va (k + 1) vc)) (some ⟨b, off, none⟩) ((e.cr.map (·.nm)).map encStr) from by
          have hos : Only (· = w.heap.size + 1) V2 (V2.setCell ⟨w.heap.size + 1, 1, none⟩ (.slice va (k + 1) vc)) := (Only.refl _ _).setCell _ _ (fun _ => rfl)
          have hot : Only (fun q => (Value.slice sa k scc).ownBlock = some q) V1 V2 := (Only.refl _ _).grown hgr2 (fun q hq _ => hq)
          have hbz := HV1.out.2.2.2
          have hvb : ∀ q, (Value.slice va (k + 1) vc).ownBlock = some q → w3.heap.size ≤ q := fun q hq => (hown2.lt q hq).1
          have h3 := HNB.out.2
          refine ⟨⟨.slice va (k + 1) vc, ?_, ?_, ?_, hbV2.setCell (p := ⟨w.heap.size + 1, 1, none⟩) (by simp) _, ?_⟩, ?_⟩
          · rw [heap_setCell_same _ _ _ _ _ _ hO2]
            rfl
          · have h9 : e.vw.cr.take (k + 1) = e.cr.take k ++ [cc] := by
              show e.cr.take (k + 1) = _
              rw [List.take_add_one, List.getElem?_eq_getElem hc, HCC.out]
              rfl
            rw [h9, crf_app]
            refine hos.own ?_ (fun q hq e0 => by have e0 : q = w.heap.size + 1 := e0; have := hvb q hq; omega)
            simpa [crf] using hown2
          · refine hos.heap (hot.heap (keeph' hbz HHR.out) HNE.out.2.1) (fun e0 => by have e0 : w.heap.size = w.heap.size + 1 := e0; omega)
          · have h4 := HNE.out.2.2
            have h5 := hbz.size
            have h6 := hot.size
            have h7 := hos.size
            omega
          · have hrd1 := HRD.out.below hbz (Nat.le_refl _)
            refine hos.rd (hot.rd hrd1 (fun ad e0 hq => by cases e0; have h5 := (HOW.out.lt _ hq).1; have h6 := HNB.out.1 _ rfl; simp only at h5 h6; omega)) (fun ad e0 hq => by cases e0; have h6 := HNB.out.1 _ rfl; have hq : b = w.heap.size + 1 := hq; simp only at h6; omega))
        go_wp2
        go_roundw
        case rel => exact ⟨k + 1, by go_num, by omega, HF.out.1, HF.out.2⟩
        case measure => simp [intOf]; omega
      · go_simp
        obtain ⟨V1, hV1⟩ : ∃ V, V = (wz.alloc (.cells #[encStr cc.nm, .int .i64 cc.inc, .bool cc.over] 34)).drew := ⟨_, rfl⟩
        have hbV1 : Below w.heap.size w V1 := by rw [hV1]; exact HBW.out.trans (((bel1d' wz _)).mono HBW.out.size)
        have HV1 := Lib.hid (show V1.heap[w.heap.size + 1]? = some (.cells #[.int .i64 e.num, .slice sa k scc] 32 (0, 0)) ∧ V1.ownsRow w3.heap.size 34 3 (.slice sa k scc) k (crf (e.cr.take k)) ∧ Rd V1 (some ⟨wz.heap.size, 0, none⟩) cc.cells ∧ Below wz.heap.size wz V1 from by
          have hbz : Below wz.heap.size wz V1 := by rw [hV1]; exact bel1d' wz _
          exact ⟨keeph' hbz HHO.out, (Only.of_new (F := fun _ => False) hbz).own HOW.out (fun _ _ h => h), by rw [hV1]; exact Rd.new wz _ _ _ _ (fun j u hu => by simpa [Cr.cells] using hu), hbz⟩)
        rw [← hV1]
        clear hV1
        refine hK.out _ _ ?_ (fun _ => ?_)
        · exact hbV1
        clear hK K
        try simp only [Act.put, List.getElem_toArray, List.getElem_cons_succ, List.getElem_cons_zero, List.setIfInBounds_toArray, List.set_cons_zero, List.set_cons_succ]
        refine wpAnyH_ready (rs := [1]) (by kernel_rfl) (by simp) ?_
        refine AllReadyH.cons (o := _) rfl (fun K hK => ?_) AllReadyH.nil
        have z1 : World.cell? V1 ⟨w.heap.size + 1, 1, none⟩ = some (.slice sa k scc) := by rw [cell_of_row _ _ _ _ _ _ HV1.out.1]; rfl
        go_simp
        refine hK.out _ _ ?_ (fun _ => ?_)
        · exact hbV1
        clear hK K
        try simp only [Act.put, List.getElem_toArray, List.getElem_cons_succ, List.getElem_cons_zero, List.setIfInBounds_toArray, List.set_cons_zero, List.set_cons_succ]
        refine wpAnyH_ready (rs := [11]) (by kernel_rfl) (by simp) ?_
        refine AllReadyH.cons (o := _) rfl (fun K hK => ?_) AllReadyH.nil
        refine rstep_append_any (by kernel_rfl) _ _ 30 rfl w3.heap.size 34 i0 _ 3 32 Try.underlying30 hi0 hz0 hz1 hz2 rfl (by decide) (.slice sa k scc) k _ rfl HV1.out.2.1 (some ⟨wz.heap.size, 0, none⟩) 1 1 cc.cells rfl rfl HV1.out.2.2.1 (crf_one' cc) (by unfold maxLen; omega) (by omega) (by have h9 := HV1.out.2.2.2.size; have h8 := HNE.out.2.2; omega) ?_
        rintro v1 V2 ⟨hown2, hgr2, hloc2⟩
        obtain ⟨va, vc, rfl, -, -, -, -⟩ := own_slice3 hown2
        have hbV2 : Below w.heap.size w V2 := hbV1.grown hgr2 hbV1.size (fun q hq => by have h9 := (HOW.out.lt q hq).1; have h8 := HNB.out.2; omega)
        refine hK.out _ _ ?_ (fun _ => ?_)
        · exact hbV2
        clear hK K
        try simp only [Act.put, List.getElem_toArray, List.getElem_cons_succ, List.getElem_cons_zero, List.setIfInBounds_toArray, List.set_cons_zero, List.set_cons_succ]
        refine wpAnyH_take (i := 12) (oi := _) (v := ?_) rfl (by kernel_rfl) (by kernel_rfl) (by kernel_rfl) (fun _ _ _ h => h) (Or.inl ⟨by rfl, ?_⟩) (by assumption) ?_
        rotate_left 1
        · (intro w hSw; (try dsimp only at hSw); go_simp; (try with_reducible rfl))
        try simp only [Act.put, List.getElem_toArray, List.getElem_cons_succ, List.getElem_cons_zero, List.setIfInBounds_toArray, List.set_cons_zero, List.set_cons_succ]
        refine wpAnyH_ready (rs := [13]) (by kernel_rfl) (by simp) ?_
        refine AllReadyH.cons (o := _) rfl (fun K hK => ?_) AllReadyH.nil
        have hO2 : V2.heap[w.heap.size + 1]? = some (.cells #[.int .i64 e.num, .slice sa k scc] 32 (0, 0)) := (hgr2.block _ (Array.getElem?_eq_some_iff.1 HV1.out.1).1 (fun e => HNE.out.1 e.symm)).trans HV1.out.1
        have z2 : V2.cell? ⟨w.heap.size + 1, 1, none⟩ = some (.slice sa k scc) := by rw [cell_of_row _ _ _ _ _ _ hO2]; rfl
        have z3 : V2.frozen? ⟨w.heap.size + 1, 1, none⟩ = false := frozen_of_row V2 _ _ _ _ hO2
        have z4 := World.block_lt_of_cell? V2 _ z2
        simp only at z4
        go_simp
        refine hK.out _ _ ?_ (fun _ => ?_)
        · exact hbV2.setCell (p := ⟨w.heap.size + 1, 1, none⟩) (by simp) _
        clear hK K
        try simp only [Act.put, List.getElem_toArray, List.getElem_cons_succ, List.getElem_cons_zero, List.setIfInBounds_toArray, List.set_cons_zero, List.set_cons_succ]
        refine wpAnyH_done (by kernel_rfl) ?_ _
        refine NoPanic.normal ?_
        have HF := Lib.hid (show ToI w w3.heap.size e.vw (k + 1) (V2.setCell ⟨w.heap.size + 1, 1, none⟩ (.slice va (k + 1) vc)) ∧ Rd (V2.setCell ⟨w.heap.size + 1, 1, none⟩ (.slice va (k + 1) vc)) (some ⟨b, off, none⟩) ((e.cr.map (·.nm)).map encStr) from by
          have hos : Only (· = w.heap.size + 1) V2 (V2.setCell ⟨w.heap.size + 1, 1, none⟩ (.slice va (k + 1) vc)) := (Only.refl _ _).setCell _ _ (fun _ => rfl)
          have hot : Only (fun q => (Value.slice sa k scc).ownBlock = some q) V1 V2 := (Only.refl _ _).grown hgr2 (fun q hq _ => hq)
          have hbz := HV1.out.2.2.2
          have hvb : ∀ q, (Value.slice va (k + 1) vc).ownBlock = some q → w3.heap.size ≤ q := fun q hq => (hown2.lt q hq).1
          have h3 := HNB.out.2
          refine ⟨⟨.slice va (k + 1) vc, ?_, ?_, ?_, hbV2.setCell (p := ⟨w.heap.size + 1, 1, none⟩) (by simp) _, ?_⟩, ?_⟩
          · rw [heap_setCell_same _ _ _ _ _ _ hO2]
            rfl
          · have h9 : e.vw.cr.take (k + 1) = e.cr.take k ++ [cc] := by
              show e.cr.take (k + 1) = _
              rw [List.take_add_one, List.getElem?_eq_getElem hc, HCC.out]
              rfl
            rw [h9, crf_app]
            refine hos.own ?_ (fun q hq e0 => by have e0 : q = w.heap.size + 1 := e0; have := hvb q hq; omega)
            simpa [crf] using hown2
          · refine hos.heap (hot.heap (keeph' hbz HHR.out) HNE.out.2.1) (fun e0 => by have e0 : w.heap.size = w.heap.size + 1 := e0; omega)
          · have h4 := HNE.out.2.2
            have h5 := hbz.size
            have h6 := hot.size
            have h7 := hos.size
            omega
          · have hrd1 := HRD.out.below hbz (Nat.le_refl _)
            refine hos.rd (hot.rd hrd1 (fun ad e0 hq => by cases e0; have h5 := (HOW.out.lt _ hq).1; have h6 := HNB.out.1 _ rfl; simp only at h5 h6; omega)) (fun ad e0 hq => by cases e0; have h6 := HNB.out.1 _ rfl; have hq : b = w.heap.size + 1 := hq; simp only at h6; omega))
        go_wp2
        go_roundw
        case rel => exact ⟨k + 1, by go_num, by omega, HF.out.1, HF.out.2⟩
        case measure => simp [intOf]; omega
    · obtain rfl : k = e.cr.length := by omega
      obtain ⟨va, vc, hsv, hvl, -, -, hvr⟩ := own_slice3 hown
      subst hsv
      have hown2 := hown
      have HF := Lib.hid (show ToldP w e.vw (.returned (.agg #[.int .i64 e.num, .slice va e.cr.length vc])) ((wz.setCell ⟨w.heap.size, 0, none⟩ (.int .i64 e.num)).setCell ⟨w.heap.size, 1, none⟩ (.slice va e.cr.length vc)) from by
        have hos : Only (· = w.heap.size) wz ((wz.setCell ⟨w.heap.size, 0, none⟩ (.int .i64 e.num)).setCell ⟨w.heap.size, 1, none⟩ (.slice va e.cr.length vc)) := ((Only.refl (· = w.heap.size) wz).setCell ⟨w.heap.size, 0, none⟩ _ (fun _ => rfl)).setCell ⟨w.heap.size, 1, none⟩ _ (fun _ => rfl)
        have h3 := HNB.out.2
        refine ⟨va, vc, rfl, hos.rd (by have h9 := hvr; rw [show e.vw.cr.take e.cr.length = e.cr from List.take_length] at h9; exact h9) (fun ad e0 hq => ?_), fun ad e0 => ?_, hbw.trans (hos.below hbw.size (fun q e0 => by rw [e0]; omega))⟩
        · subst e0
          have h5 := (hown.lt ad.block rfl).1
          have hq : ad.block = w.heap.size := hq
          omega
        · subst e0
          have h5 := hown.lt ad.block rfl
          exact ⟨by omega, Nat.lt_of_lt_of_le h5.2 hos.size⟩)
      have h7 := set_win wz w.heap.size _ _ (.int .i64 e.num) (.slice va e.cr.length vc) hR
      have o0 : wz.cell? ⟨w.heap.size + 1, 0, none⟩ = some (.int .i64 e.num) := by rw [cell_of_row _ _ _ _ _ _ hO]; rfl
      have o1 : wz.cell? ⟨w.heap.size + 1, 1, none⟩ = some (.slice va e.cr.length vc) := by rw [cell_of_row _ _ _ _ _ _ hO]; rfl
      have r0 : wz.cell? ⟨w.heap.size, 0, none⟩ = some (.int .i64 0) := by rw [cell_of_row _ _ _ _ _ _ hR]; rfl
      have r1 : wz.cell? ⟨w.heap.size, 1, none⟩ = some (.slice none 0 0) := by rw [cell_of_row _ _ _ _ _ _ hR]; rfl
      have z0 : wz.frozen? ⟨w.heap.size, 0, none⟩ = false := frozen_of_row wz _ _ _ _ hR
      have z1 : wz.frozen? ⟨w.heap.size, 1, none⟩ = false := frozen_of_row wz _ _ _ _ hR
      have H7 := Lib.hid h7
      have rl := World.block_lt_of_cell? wz _ r0
      simp only at rl
      clear hown hown2 hvr hvl hO hR hbw h7 HTI hDz
      go_wp2
      refine bodyPost_ret (results_cell1 rfl _ _ _ w.heap.size _ rfl (load_win _ _ _ _ H7.out)) rfl ?_
      exact HF.out
end Go.Proofs.Ytbkpgpaanhfjfaa
