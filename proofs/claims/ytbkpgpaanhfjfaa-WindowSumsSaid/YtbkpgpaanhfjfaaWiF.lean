/- Windows: Add: the walk. -/
import Derived.Test.YtbkpgpaanhfjfaaWiE
namespace Go.Proofs.Ytbkpgpaanhfjfaa
open Go.RowKit Go.Sort K
/-- What Add answers, and leaves. -/
def addW (s : Cfg) (L : List WV) (nm : List UInt8) (time inc : Int) : Bool × List WV × Cfg × List WV :=
  if time < 0 ∨ 1125899906842624 < time ∨ inc < 0 ∨ time.tdiv s.len ≤ s.floor then (true, [], { s with late := s.late + 1 }, L)
  else if time.tdiv s.len ∈ L.map (·.num) ∨ (L.length : Int) < s.most then (false, [], { s with cred := s.cred + 1 }, wvPut (time.tdiv s.len) nm inc L)
  else match L with
    | [] => (true, [], { s with late := s.late + 1 }, [])
    | f :: t => if time.tdiv s.len < f.num then (true, [], { s with late := s.late + 1 }, f :: t) else (false, [f], { s with floor := max s.floor f.num, cred := s.cred + 1 }, wvPut (time.tdiv s.len) nm inc t)
def AddP (w : World) (B g : Nat) (F : List Nat) (r : Bool × List WV × Cfg × List WV) (e : Ending) (w' : World) : Prop :=
  ∃ a c, e = .returned (.tuple #[.bool r.1, .slice a r.2.1.length c]) ∧ WinsM (fun k => w.heap.size ≤ k) w' r.2.1 a ∧ WinTo w B g F r.2.2.1 r.2.2.2 w'
/-- Bounds of the numbers. -/
structure SOk (s : Cfg) : Prop where
  len : 1 ≤ s.len ∧ s.len ≤ 1073741824
  lat : 0 ≤ s.lat ∧ s.lat ≤ 1073741824
  most : 1 ≤ s.most ∧ s.most ≤ 64
  floor : -1 ≤ s.floor ∧ s.floor ≤ 1125899906842624
  mark : -1 ≤ s.mark ∧ s.mark ≤ 1125899906842624
  cred : 0 ≤ s.cred ∧ s.cred ≤ 1000000
  late : 0 ≤ s.late ∧ s.late ≤ 1000000
section
variable {w : World} {B g : Nat} {s : Cfg} {L : List WV} {F : List Nat}
theorem AddP.late (h : WinIs w B g s L F) {w1 w2 : World} (hb : Below w.heap.size w w1) (h2 : WinTo w1 B g F { s with late := s.late + 1 } L w2) : AddP w B g F (true, [], { s with late := s.late + 1 }, L) (.returned (.tuple #[.bool true, .slice none 0 0])) w2 :=
  ⟨none, 0, rfl, WinsM.nil _ _, h2.start hb⟩
theorem WinIs.new' (h : WinIs w B g s L F) {W : World} (hb : Below w.heap.size w W) : WinIs W B g s L F := h.new hb
set_option maxHeartbeats 4000000 in
set_option maxRecDepth 100000 in
theorem add_late (h : WinIs w B g s L F) (hc : SOk s) (nm : List UInt8) (time inc : Int) (rst : Bool) (htm : -9223372036854775808 ≤ time ∧ time ≤ 9223372036854775807) (hl : time < 0 ∨ 1125899906842624 < time ∨ inc < 0 ∨ time.tdiv s.len ≤ s.floor) :
    Calls Try.prog 13 #[.pointer (some ⟨g, 0, none⟩), .agg #[encStr nm, .int .i64 time, .int .i64 inc, .bool rst]] w (AddP w B g F (true, [], { s with late := s.late + 1 }, L)) := by
  have HW := Lib.hid h
  obtain ⟨M, es, h1, hp, hs, rfl⟩ := h
  have HN := Lib.hid (fun W (hb : Below w.heap.size w W) => none_any (h1.below hb) hc.len.1)
  have HA := Lib.hid (fun W (hb : Below w.heap.size w W) => h1.below hb)
  have HF := Lib.hid (fun W (hb : Below w.heap.size w W) lt (e : s.late = lt) => (show AddP w B g (wfoot g M es) (true, [], { s with late := s.late + 1 }, L) (.returned (.tuple #[.bool true, .slice none 0 0])) (W.setCell ⟨g, 7, none⟩ (.int .i64 (lt + 1))) from by
    rw [← e]
    exact AddP.late HW.out hb ((h1.below hb).setTo hp hs 7 _ rfl)))
  have hlen := hc.len
  have hlt := hc.late
  clear h1 hp hs
  go_enter Try.func13, Try.ntmps13
  go_wp2_with fail
  obtain ⟨W1, hW1⟩ : ∃ V, V = w.alloc (.cells #[encStr nm, .int .i64 time, .int .i64 inc, .bool rst] 37) := ⟨_, rfl⟩
  have HB1 := Lib.hid (show Below w.heap.size w W1 by rw [hW1]; exact (Below.refl _ _).alloc (Nat.le_refl _) _)
  have hX := (show W1.heap[w.heap.size]? = some (.cells #[encStr nm, .int .i64 time, .int .i64 inc, .bool rst] 37 (0, 0)) by rw [hW1]; exact heap_alloc_new w _)
  rw [← hW1]
  clear hW1
  refine (HN.out W1 HB1.out).mono ?_
  rintro e w2 ⟨rfl, rfl⟩
  have x1 : W1.cell? ⟨w.heap.size, 1, none⟩ = some (.int .i64 time) := by rw [cell_of_row _ _ _ _ _ _ hX]; rfl
  have x2 : W1.cell? ⟨w.heap.size, 2, none⟩ = some (.int .i64 inc) := by rw [cell_of_row _ _ _ _ _ _ hX]; rfl
  have g0 : W1.cell? ⟨g, 0, none⟩ = some (.int .i64 s.len) := (HA.out W1 HB1.out).cell 0 rfl
  have g4 : W1.cell? ⟨g, 4, none⟩ = some (.int .i64 s.floor) := (HA.out W1 HB1.out).cell 4 rfl
  have g7 : W1.cell? ⟨g, 7, none⟩ = some (.int .i64 s.late) := (HA.out W1 HB1.out).cell 7 rfl
  have z7 : W1.frozen? ⟨g, 7, none⟩ = false := frozen_of_row W1 _ _ _ _ (HA.out W1 HB1.out).1
  generalize hsl : s.len = ln at g0 hl hlen
  generalize hsf : s.floor = fl at g4 hl
  generalize hst : s.late = lt at g7 hlt
  have HST := Lib.hid hst
  clear hX hsl hsf hst
  have hz : (ln == 0) = false := by rw [beq_eq_false_iff_ne]; omega
  have hz2 : ln ≠ 0 := by omega
  go_wp2_with fail
  go_quiet (fail)
  generalize hq : time.tdiv ln = q at hl
  clear hq hz hz2
  have hbq := below_drewN' HB1.out nq
  by_cases a1 : time < 0
  · clear hl
    go_wp2
    go_ret2
    exact HF.out _ hbq _ HST.out
  by_cases a2 : 1125899906842624 < time
  · clear hl
    go_wp2
    go_ret2
    exact HF.out _ hbq _ HST.out
  by_cases a3 : inc < 0
  · clear hl
    go_wp2
    go_ret2
    exact HF.out _ hbq _ HST.out
  have a4 : q ≤ fl := by omega
  clear hl
  go_wp2
  go_ret2
  exact HF.out _ hbq _ HST.out
theorem uset_at {α κ : Type} {key : α → κ} [DecidableEq κ] {v u : α} (hk : key u = key v) : ∀ {A C : List α}, (∀ a ∈ A, key a ≠ key v) → uset key v (A ++ u :: C) = A ++ v :: C
  | [], _, _ => by simp [uset, hk]
  | a :: A, C, h => by
    have h1 := h a (by simp)
    show uset key v (a :: (A ++ u :: C)) = _
    unfold uset
    rw [if_neg h1, uset_at hk (fun x hx => h x (by simp [hx]))]
    rfl
theorem es_set {pre post : List WE} {e e' : WE} (hk : e.num = e'.num) (hp : ((pre ++ e :: post).map WE.vw).Perm L) (hs : WS L) : ((pre ++ e' :: post).map WE.vw).Perm (wvSet e'.vw L) := by
  have hn := es_nums hp hs
  rw [List.map_append, List.map_cons, List.nodup_append] at hn
  have h1 := uset_sset ordI e'.vw hp hs
  rw [List.map_append, List.map_cons, uset_at (key := WV.num) (u := e.vw) (v := e'.vw) (by exact hk) (fun a ha => by
    obtain ⟨x, hx, rfl⟩ := List.mem_map.1 ha
    have h2 := hn.2.2 x.num (List.mem_map.2 ⟨x, hx, rfl⟩) e.num (by simp)
    exact fun e0 => h2 (e0.trans hk.symm))] at h1
  rw [List.map_append, List.map_cons]
  exact h1
theorem WinAt.upd {M : Nat} {pre post : List WE} {e : WE} {W W2 : World} (h : WinAt W B g M s (pre ++ e :: post)) (ho : Only (· = e.m) W W2) {ks' cr' : List Cr} (hm : MapAt encStr W2 e.m (ckv ks')) (hk : ks'.Perm cr') (hcs : CS cr') : WinAt W2 B g M s (pre ++ { e with ks := ks', cr := cr' } :: post) := by
  obtain ⟨h1, h2, h3, h4, h5⟩ := h
  have hf : wfoot g M (pre ++ { e with ks := ks', cr := cr' } :: post) = wfoot g M (pre ++ e :: post) := by simp [wfoot]
  have hw : wents (pre ++ { e with ks := ks', cr := cr' } :: post) = wents (pre ++ e :: post) := by simp [wents]
  have h6 := List.nodup_cons.1 h4
  have h7 := List.nodup_cons.1 h6.2
  have hem : e.m ∈ (pre ++ e :: post).map (·.m) := List.mem_map.2 ⟨e, by simp, rfl⟩
  have hmm := h7.2
  rw [List.map_append, List.map_cons, List.nodup_append] at hmm
  refine ⟨ho.heap h1 (fun e0 => h6.1 (by have e0 : g = e.m := e0; rw [e0]; exact List.mem_cons_of_mem _ hem)), by rw [hw]; exact h2.only ho (fun e0 => h7.1 (by have e0 : M = e.m := e0; rw [e0]; exact hem)), fun x hx => ?_, by rw [hf]; exact h4, by rw [hf]; exact h5⟩
  rcases List.mem_append.1 hx with hx | hx
  · exact ⟨(h3 x (List.mem_append_left _ hx)).1.only ho (fun e0 => hmm.2.2 x.m (List.mem_map.2 ⟨x, hx, rfl⟩) e.m (by simp) e0), (h3 x (List.mem_append_left _ hx)).2⟩
  · rcases List.mem_cons.1 hx with rfl | hx
    · exact ⟨hm, hk, hcs⟩
    · have hx2 : x ∈ pre ++ e :: post := List.mem_append_right _ (List.mem_cons_of_mem _ hx)
      exact ⟨(h3 x hx2).1.only ho (fun e0 => (List.nodup_cons.1 hmm.2.1).1 (by have e0 : x.m = e.m := e0; rw [← e0]; exact List.mem_map.2 ⟨x, hx, rfl⟩)), (h3 x hx2).2⟩
/-- A window is begun. -/
theorem WinAt.more {M : Nat} {es : List WE} {W W1 W2 : World} (h : WinAt W B g M s es) (n : Int) (X : Nat) (hX : W.heap.size ≤ X) (hb : Below W.heap.size W W1) (hx : MapAt encStr W1 X []) (hm : MapAt iEnc W2 M (mput n (.map (some X)) (wents es))) (ho : Only (· = M) W1 W2) (hno : mget n (wents es) = none) : WinAt W2 B g M s (es ++ [⟨n, X, [], []⟩]) := by
  have hB := h.big
  have hlt := h.lt
  have h1 := h.below hb
  have h6 := List.nodup_cons.1 h.2.2.2.1
  have h7 := List.nodup_cons.1 h6.2
  have hML : M < W.heap.size := h.2.1.lt
  have hf : wfoot g M (es ++ [⟨n, X, [], []⟩]) = wfoot g M es ++ [X] := by simp [wfoot]
  have hw : wents (es ++ [⟨n, X, [], []⟩]) = mput n (.map (some X)) (wents es) := by
    rw [(mget_none _ _ hno).2]
    simp [wents]
  refine ⟨ho.heap h1.1 (fun e0 => h6.1 (by have e0 : g = M := e0; rw [e0]; simp)), by rw [hw]; exact hm, fun x hx2 => ?_, ?_, ?_⟩
  · rcases List.mem_append.1 hx2 with hx2 | hx2
    · exact ⟨(h1.2.2.1 x hx2).1.only ho (fun e0 => h7.1 (by have e0 : x.m = M := e0; rw [← e0]; exact List.mem_map.2 ⟨x, hx2, rfl⟩)), (h1.2.2.1 x hx2).2⟩
    · simp only [List.mem_singleton] at hx2
      subst hx2
      exact ⟨hx.only ho (fun e0 => by have e0 : X = M := e0; omega), List.Perm.refl _, by simp [CS]⟩
  · rw [hf]
    refine List.nodup_append.2 ⟨h.2.2.2.1, by simp, fun a ha b hb e0 => ?_⟩
    simp only [List.mem_singleton] at hb
    have := hlt a ha
    omega
  · rw [hf]
    intro k hk
    rcases List.mem_append.1 hk with hk | hk
    · exact h.2.2.2.2 k hk
    · simp only [List.mem_singleton] at hk
      omega
theorem es_more {es : List WE} (hp : (es.map WE.vw).Perm L) (hs : WS L) (n : Int) (X : Nat) (hno : n ∉ L.map (·.num)) : ((es ++ [WE.mk n X [] []]).map WE.vw).Perm (wvSet (WV.mk n []) L) := by
  have h1 := sset_perm ordI (⟨n, []⟩ : WV) hs
  have hf : L.filter (fun u => decide (u.num ≠ n)) = L := filter_ne_self (key := WV.num) (v := WV.mk n []) (fun u hu e => hno (by have e : u.num = n := e; rw [← e]; exact List.mem_map.2 ⟨u, hu, rfl⟩))
  have h2 : (wvSet ⟨n, []⟩ L).Perm (⟨n, []⟩ :: L) := by
    have h3 := h1
    rw [show (L.filter fun u => decide (WV.num u ≠ WV.num (⟨n, []⟩ : WV))) = L from hf] at h3
    exact h3
  rw [List.map_append]
  refine List.Perm.trans ?_ h2.symm
  exact (List.perm_append_comm.trans (List.Perm.refl _)).trans (List.Perm.cons _ hp)
theorem wvPut_new {n : Int} {nm : List UInt8} {inc : Int} (hno : n ∉ L.map (·.num)) : wvSet ⟨n, crPut nm inc []⟩ (wvSet ⟨n, []⟩ L) = wvPut n nm inc L := by
  have hf : wvCr n L = [] := by
    unfold wvCr
    have : L.find? (fun v => decide (v.num = n)) = none := List.find?_eq_none.2 fun v hv => by
      simp only [decide_eq_true_eq]
      exact fun e => hno (by rw [← e]; exact List.mem_map.2 ⟨v, hv, rfl⟩)
    rw [this]
    rfl
  unfold wvPut
  rw [hf]
  exact sset_sset (key := WV.num) (lt := fun a b : Int => a < b) (WV.mk n []) (WV.mk n (crPut nm inc [])) rfl (fun a h => Int.lt_irrefl a h) L
theorem wvCr_mem (hs : WS L) {v : WV} (hv : v ∈ L) : wvCr v.num L = v.cr := by
  unfold wvCr
  induction L with
  | nil => cases hv
  | cons y t ih =>
    have hs2 := hs
    unfold WS at hs2
    rw [List.map_cons, List.pairwise_cons] at hs2
    rcases List.mem_cons.1 hv with rfl | hv
    · simp
    · have hne : ¬ y.num = v.num := fun e => by
        have := hs2.1 v.num (List.mem_map.2 ⟨v, hv, rfl⟩)
        omega
      rw [List.find?_cons, decide_eq_false hne]
      exact ih hs2.2 hv
theorem AddP.fin {F1 : List Nat} {W V : World} {s' : Cfg} {L' cl : List WV} {a : Option Addr} {c : Nat} (hF : ∀ k ∈ F1, k ∈ F ∨ w.heap.size ≤ k) (ho : Only (· ∈ F) w W) (hcl : WinsM (fun k => w.heap.size ≤ k ∧ k ∉ F1) W cl a) (ht : WinTo W B g F1 s' L' V) : AddP w B g F (false, cl, s', L') (.returned (.tuple #[.bool false, .slice a cl.length c])) V := by
  obtain ⟨F', h1, h2, h3⟩ := ht
  refine ⟨a, c, rfl, (hcl.only h2 (fun k hk hf => hk.2 hf)).mono (fun k hk => hk.1), F', h1, ho.trans h2 (fun k hk hf => (hF k hf).elim (fun h => h) fun h => by omega), fun k hk => ?_⟩
  rcases h3 k hk with h | h
  · exact hF k h
  · exact .inr (Nat.le_trans ho.size h)
theorem map_nil_eq (w : World) (m : Nat) : Sem.run Try.prog (binOp .eql 66 (.map (some m)) (.map none)) w = .ok (.bool false) w := by kernel_rfl
theorem map_nil_eq0 (w : World) : Sem.run Try.prog (binOp .eql 66 (.map none) (.map none)) w = .ok (.bool true) w := by kernel_rfl
theorem held_lookup3 {W : World} {m : Nat} {ks cr : List Cr} (h : MapAt encStr W m (ckv ks)) (hp : ks.Perm cr) (hs : CS cr) (nm : List UInt8) {c : Cr} (hc : (crFind nm cr).getD zC = c) : Sem.run Try.prog (Instr.lookup 66 (.map (some m)) (encStr nm) false) W = .ok (.agg #[encStr c.nm, .int .i64 c.inc, .bool c.over]) W := by
  have := run_lookup sKey h Try.underlying66 (.agg #[.string ⟨#[]⟩, .int .i64 0, .bool false]) (zCred W) nm false
  have h2 := crFind_get hp hs nm
  rw [hc] at h2
  rw [show (mget nm (ckv ks)).getD (.agg #[.string ⟨#[]⟩, .int .i64 0, .bool false]) = c.val from h2] at this
  exact this
set_option maxHeartbeats 8000000 in
set_option maxRecDepth 100000 in
theorem add_in (h : WinIs w B g s L F) (hb : WBd L) (hc : SOk s) (nm : List UInt8) (time inc q : Int) (rst : Bool) (htm : ¬ time < 0 ∧ ¬ 1125899906842624 < time) (hinc : ¬ inc < 0 ∧ inc ≤ 9223372036854775807) (hq : time.tdiv s.len = q) (hfl : ¬ q ≤ s.floor) (hin : q ∈ L.map (·.num)) :
    Calls Try.prog 13 #[.pointer (some ⟨g, 0, none⟩), .agg #[encStr nm, .int .i64 time, .int .i64 inc, .bool rst]] w (AddP w B g F (false, [], { s with cred := s.cred + 1 }, wvPut q nm inc L)) := by
  have HW := Lib.hid (fun W (hB : Below w.heap.size w W) => h.new hB)
  have HFW := Lib.hid (fun k hk => (h.in k hk).2)
  have HNN := Lib.hid (fun W (hB : Below w.heap.size w W) => (show Calls Try.prog 27 #[.pointer (some ⟨g, 0, none⟩)] W fun e w' => e = .returned (.bool false) ∧ W = w' from by
    obtain ⟨M, es, h1, -⟩ := h
    exact none_any (h1.below hB) hc.len.1))
  have HGS := Lib.hid (fun W (hB : Below w.heap.size w W) => (show W.cell? ⟨g, 0, none⟩ = some (.int .i64 s.len) ∧ W.cell? ⟨g, 4, none⟩ = some (.int .i64 s.floor) ∧ g < w.heap.size from by
    obtain ⟨M, es, h1, -⟩ := h
    exact ⟨(h1.below hB).cell 0 rfl, (h1.below hB).cell 4 rfl, h1.lt g (by simp [wfoot])⟩))
  have HC := Lib.hid hc
  have HBD := Lib.hid hb
  have hlen := hc.len
  obtain ⟨t1, t2⟩ := htm
  obtain ⟨i1, i2⟩ := hinc
  have htd : time.tdiv s.len = time / s.len := Int.tdiv_eq_ediv_of_nonneg (by omega)
  rw [htd] at hq
  clear h hc hb htd
  go_enter Try.func13, Try.ntmps13
  go_wp2_with fail
  obtain ⟨W1, hW1⟩ : ∃ V, V = w.alloc (.cells #[encStr nm, .int .i64 time, .int .i64 inc, .bool rst] 37) := ⟨_, rfl⟩
  have HB1 := Lib.hid (show Below w.heap.size w W1 by rw [hW1]; exact (Below.refl _ _).alloc (Nat.le_refl _) _)
  have hX := (show W1.heap[w.heap.size]? = some (.cells #[encStr nm, .int .i64 time, .int .i64 inc, .bool rst] 37 (0, 0)) by rw [hW1]; exact heap_alloc_new w _)
  rw [← hW1]
  clear hW1
  refine (HNN.out W1 HB1.out).mono ?_
  rintro e w2 ⟨rfl, rfl⟩
  have x1 : W1.cell? ⟨w.heap.size, 1, none⟩ = some (.int .i64 time) := by rw [cell_of_row _ _ _ _ _ _ hX]; rfl
  have x2 : W1.cell? ⟨w.heap.size, 2, none⟩ = some (.int .i64 inc) := by rw [cell_of_row _ _ _ _ _ _ hX]; rfl
  have g0 : W1.cell? ⟨g, 0, none⟩ = some (.int .i64 s.len) := (HGS.out W1 HB1.out).1
  have g4 : W1.cell? ⟨g, 4, none⟩ = some (.int .i64 s.floor) := (HGS.out W1 HB1.out).2.1
  have HX1 := Lib.hid hX
  generalize hsl : s.len = ln at g0 hq hlen
  generalize hsf : s.floor = fl at g4 hfl
  clear hX hsl hsf
  have hz : (ln == 0) = false := by rw [beq_eq_false_iff_ne]; omega
  have hz2 : ln ≠ 0 := by omega
  have HQ := Lib.hid hq
  clear hq
  go_wp2_with fail
  go_quiet (fail)
  rw [HQ.out]
  clear hz hz2
  obtain ⟨W2, hW2⟩ : ∃ V, V = W1.drewN nq := ⟨_, rfl⟩
  have HB2 := Lib.hid (show Below w.heap.size w W2 by rw [hW2]; exact below_drewN' HB1.out _)
  have HX2 := Lib.hid (show W2.heap[w.heap.size]? = some (.cells #[encStr nm, .int .i64 time, .int .i64 inc, .bool rst] 37 (0, 0)) by rw [hW2]; exact HX1.out)
  have y1 : W2.cell? ⟨w.heap.size, 1, none⟩ = some (.int .i64 time) := by rw [cell_of_row _ _ _ _ _ _ HX2.out]; rfl
  have y2 : W2.cell? ⟨w.heap.size, 2, none⟩ = some (.int .i64 inc) := by rw [cell_of_row _ _ _ _ _ _ HX2.out]; rfl
  have g42 : W2.cell? ⟨g, 4, none⟩ = some (.int .i64 fl) := by rw [hW2]; exact g4
  rw [← hW2]
  clear hW2 x1 x2 g0 g4 HX1
  go_wp2_with fail
  clear y1 y2 g42 hfl t1 t2
  have HIN := Lib.hid hin
  refine (room_yes (HW.out W2 HB2.out) HBD.out q (.inl hin)).mono ?_
  rintro e0 w3 ⟨rfl, hb3⟩
  have HB3 := Lib.hid (HB2.out.trans (hb3.mono HB2.out.size))
  have HX := Lib.hid (keeph' hb3 HX2.out)
  obtain ⟨M, es, hA, hP, hS, hFe⟩ := HW.out w3 HB3.out
  obtain ⟨v0, hv0, hvn⟩ := List.mem_map.1 hin
  obtain ⟨e, he, hev⟩ := List.mem_map.1 (hP.mem_iff.2 hv0)
  obtain ⟨pre, post, hes⟩ := List.append_of_mem he
  have hen : e.num = q := by rw [← hvn, ← hev]; rfl
  have hecr : e.cr = wvCr q L := by rw [← hvn, wvCr_mem hS hv0, ← hev]; rfl
  have HBE := Lib.hid (show ∀ c ∈ e.cr, CrB c from fun c hc => (HBD.out.crs v0 hv0).2 c (by rw [← hev]; exact hc))
  have HEG := Lib.hid (hA.get he hP hS)
  have HMA := Lib.hid hA.2.1
  subst hes
  have HA := Lib.hid hA
  have HP := Lib.hid hP
  have HS := Lib.hid hS
  have HXE := Lib.hid (show ¬ w.heap.size = e.m from fun e0 => by
    have h9 := HFW.out e.m (by rw [hFe]; simp [wfoot])
    omega)
  have HFE := Lib.hid hFe
  have HEC := Lib.hid hecr
  have g3 : w3.cell? ⟨g, 3, none⟩ = some (.map (some M)) := hA.cell 3 rfl
  have hlk := held_lookup1 hA.2.1 (hen ▸ HEG.out)
  have hnq := map_nil_eq w3 e.m
  clear hin hA hP hS he hev hv0 hvn hecr hFe hb3
  go_wp2_with fail
  clear g3 hlk hnq
  obtain ⟨cc, hcc⟩ : ∃ cc, (crFind nm e.cr).getD zC = cc := ⟨_, rfl⟩
  have HCC := Lib.hid hcc
  have hcb := crFind_B HBE.out nm
  rw [hcc] at hcb
  have hok := HA.out.2.2.1 e (by simp)
  have HMI := Lib.hid (fun V (hB : Below w3.heap.size w3 V) => held_lookup3 (hok.1.only (F := fun _ => False) (Only.of_new hB) (fun h => h)) hok.2.1 hok.2.2 nm hcc)
  have HMO := Lib.hid (fun V (hB : Below w3.heap.size w3 V) => held_lookup1 (HA.out.2.1.only (F := fun _ => False) (Only.of_new hB) (fun h => h)) (HA.out.get (e := e) (by simp) HP.out HS.out))
  have G3 := Lib.hid (show w3.cell? ⟨g, 3, none⟩ = some (.map (some M)) from HA.out.cell 3 rfl)
  have X0 := Lib.hid (show w3.cell? ⟨w.heap.size, 0, none⟩ = some (encStr nm) by rw [cell_of_row _ _ _ _ _ _ HX.out]; rfl)
  have HEN := Lib.hid (show e.num = q from hen)
  rw [HEN.out] at HMO
  clear hcc hok
  go_wp2_with fail
  refine wp_region_noPanic ?_
  refine wp_region_held_drew (S := (fun w' => Below w3.heap.size w3 w')) (by kernel_rfl) ?_ (fun hHeld => ?_)
  · exact drew_below _
  refine wpAnyH_take (i := 0) (oi := _) (v := ?_) rfl (by kernel_rfl) (by kernel_rfl) (by kernel_rfl) (fun _ _ _ h => h) (Or.inl ⟨by rfl, ?_⟩) (by assumption) ?_
  rotate_left 1
  · (intro w hSw; (try dsimp only at hSw); go_simp; (try with_reducible rfl))
  try simp only [Act.put, List.getElem_toArray, List.getElem_cons_zero, List.setIfInBounds_toArray, List.set_cons_zero, List.set_cons_succ]
  refine wpAnyH_take (i := 1) (oi := _) (v := ?_) rfl (by kernel_rfl) (by kernel_rfl) (by kernel_rfl) (fun _ _ _ h => h) (Or.inl ⟨by rfl, ?_⟩) (by assumption) ?_
  rotate_left 1
  · (intro w hSw; (try dsimp only at hSw); go_simp; (try with_reducible rfl))
  try simp only [Act.put, List.getElem_toArray, List.getElem_cons_succ, List.getElem_cons_zero, List.setIfInBounds_toArray, List.set_cons_zero, List.set_cons_succ]
  refine wpAnyH_take (i := 2) (oi := _) (v := ?_) rfl (by kernel_rfl) (by kernel_rfl) (by kernel_rfl) (fun _ _ _ h => h) (Or.inl ⟨by rfl, ?_⟩) (by assumption) ?_
  rotate_left 1
  · (intro w hSw; (try dsimp only at hSw); go_simp; (try with_reducible rfl))
  try simp only [Act.put, List.getElem_toArray, List.getElem_cons_succ, List.getElem_cons_zero, List.setIfInBounds_toArray, List.set_cons_zero, List.set_cons_succ]
  refine wpAnyH_take (i := 3) (oi := _) (v := ?_) rfl (by kernel_rfl) (by kernel_rfl) (by kernel_rfl) (fun _ _ _ h => h) (Or.inl ⟨by rfl, ?_⟩) (by assumption) ?_
  rotate_left 1
  · (intro w hSw; (try dsimp only at hSw); (have q3 := keepc hSw G3.out; go_simp); (try with_reducible rfl))
  try simp only [Act.put, List.getElem_toArray, List.getElem_cons_succ, List.getElem_cons_zero, List.setIfInBounds_toArray, List.set_cons_zero, List.set_cons_succ]
  refine wpAnyH_take (i := 4) (oi := _) (v := ?_) rfl (by kernel_rfl) (by kernel_rfl) (by kernel_rfl) (fun _ _ _ h => h) (Or.inl ⟨by rfl, ?_⟩) (by assumption) ?_
  rotate_left 1
  · (intro w hSw; (try dsimp only at hSw); go_simp; (try with_reducible rfl))
  try simp only [Act.put, List.getElem_toArray, List.getElem_cons_succ, List.getElem_cons_zero, List.setIfInBounds_toArray, List.set_cons_zero, List.set_cons_succ]
  refine wpAnyH_take (i := 5) (oi := _) (v := ?_) rfl (by kernel_rfl) (by kernel_rfl) (by kernel_rfl) (fun _ _ _ h => h) (Or.inl ⟨by rfl, ?_⟩) (by assumption) ?_
  rotate_left 1
  · (intro w hSw; (try dsimp only at hSw); (have q5 := HMO.out _ hSw; go_simp); (try with_reducible rfl))
  try simp only [Act.put, List.getElem_toArray, List.getElem_cons_succ, List.getElem_cons_zero, List.setIfInBounds_toArray, List.set_cons_zero, List.set_cons_succ]
  refine wpAnyH_take (i := 6) (oi := _) (v := ?_) rfl (by kernel_rfl) (by kernel_rfl) (by kernel_rfl) (fun _ _ _ h => h) (Or.inl ⟨by rfl, ?_⟩) (by assumption) ?_
  rotate_left 1
  · (intro w hSw; (try dsimp only at hSw); go_simp; (try with_reducible rfl))
  try simp only [Act.put, List.getElem_toArray, List.getElem_cons_succ, List.getElem_cons_zero, List.setIfInBounds_toArray, List.set_cons_zero, List.set_cons_succ]
  refine wpAnyH_take (i := 7) (oi := _) (v := ?_) rfl (by kernel_rfl) (by kernel_rfl) (by kernel_rfl) (fun _ _ _ h => h) (Or.inl ⟨by rfl, ?_⟩) (by assumption) ?_
  rotate_left 1
  · (intro w hSw; (try dsimp only at hSw); (have q7 := keepc hSw X0.out; go_simp); (try with_reducible rfl))
  try simp only [Act.put, List.getElem_toArray, List.getElem_cons_succ, List.getElem_cons_zero, List.setIfInBounds_toArray, List.set_cons_zero, List.set_cons_succ]
  refine wpAnyH_take (i := 8) (oi := _) (v := ?_) rfl (by kernel_rfl) (by kernel_rfl) (by kernel_rfl) (fun _ _ _ h => h) (Or.inl ⟨by rfl, ?_⟩) (by assumption) ?_
  rotate_left 1
  · (intro w hSw; (try dsimp only at hSw); (have q8 := HMI.out _ hSw; go_simp); (try with_reducible rfl))
  try simp only [Act.put, List.getElem_toArray, List.getElem_cons_succ, List.getElem_cons_zero, List.setIfInBounds_toArray, List.set_cons_zero, List.set_cons_succ]
  refine wpAnyH_ready (rs := [9]) (by kernel_rfl) (by simp) ?_
  refine AllReadyH.cons (o := _) rfl (fun K hK => ?_) AllReadyH.nil
  go_simp
  refine hK.out _ _ ?_ (fun _ => ?_)
  · (first | exact bel1d' w3 _ | exact (Below.refl _ _).alloc (Nat.le_refl _) _)
  clear hK K
  try simp only [Act.put, List.getElem_toArray, List.getElem_cons_succ, List.getElem_cons_zero, List.setIfInBounds_toArray, List.set_cons_zero, List.set_cons_succ]
  refine wpAnyH_ready (rs := [10]) (by kernel_rfl) (by simp) ?_
  refine AllReadyH.cons (o := _) rfl (fun K hK => ?_) AllReadyH.nil
  go_simp
  refine hK.out _ _ ?_ (fun _ => ?_)
  · (first | exact bel1d' w3 _ | exact (Below.refl _ _).alloc (Nat.le_refl _) _)
  clear hK K
  try simp only [Act.put, List.getElem_toArray, List.getElem_cons_succ, List.getElem_cons_zero, List.setIfInBounds_toArray, List.set_cons_zero, List.set_cons_succ]
  refine wpAnyH_done (by kernel_rfl) ?_ _
  refine NoPanic.normal ?_
  obtain ⟨V1, hV1⟩ : ∃ V, V = (w3.alloc (.cells #[encStr cc.nm, .int .i64 cc.inc, .bool cc.over] 34)).drew := ⟨_, rfl⟩
  have HBV := Lib.hid (show Below w3.heap.size w3 V1 by rw [hV1]; exact bel1d' w3 _)
  have HC1 := Lib.hid (show V1.heap[w3.heap.size]? = some (.cells #[encStr cc.nm, .int .i64 cc.inc, .bool cc.over] 34 (0, 0)) by rw [hV1]; exact heap_alloc_new w3 _)
  have v1 : V1.cell? ⟨w3.heap.size, 1, none⟩ = some (.int .i64 cc.inc) := by rw [cell_of_row _ _ _ _ _ _ HC1.out]; rfl
  have v2 : V1.cell? ⟨w.heap.size, 2, none⟩ = some (.int .i64 inc) := by rw [cell_of_row _ _ _ _ _ _ (keeph' HBV.out HX.out)]; rfl
  rw [← hV1]
  clear hV1
  go_wp2_with fail
  refine (fixAdd_any V1 cc.inc inc hcb ⟨by omega, i2⟩).mono ?_
  rintro e1 w6 ⟨rfl, rfl⟩
  have hA1 := HA.out.below HBV.out
  have HA1 := Lib.hid hA1
  have hem : e.m ∈ (pre ++ e :: post).map (·.m) := List.mem_map.2 ⟨e, by simp, rfl⟩
  have hnd := List.nodup_cons.1 hA1.2.2.2.1
  have hnd2 := List.nodup_cons.1 hnd.2
  have hgl := HA.out.lt g (by simp [wfoot])
  have hel := HA.out.lt e.m (by simp [wfoot])
  have hne1 : ¬ g = e.m := fun e0 => hnd.1 (by rw [e0]; exact List.mem_cons_of_mem _ hem)
  have hne2 : ¬ M = e.m := fun e0 => hnd2.1 (by rw [e0]; exact hem)
  have hne3 : ¬ w.heap.size = e.m := HXE.out
  have hne4 : ¬ w3.heap.size = e.m := by omega
  have HNE := Lib.hid (And.intro hne1 (And.intro hne2 (And.intro hne3 hne4)))
  have G3b := Lib.hid (keepc HBV.out G3.out)
  have X0b := Lib.hid (keepc HBV.out X0.out)
  have C2b := Lib.hid (show V1.cell? ⟨w3.heap.size, 2, none⟩ = some (.bool cc.over) by rw [cell_of_row _ _ _ _ _ _ HC1.out]; rfl)
  have HMM := Lib.hid hA1.2.1
  have HGT := Lib.hid (show mget q (wents (pre ++ e :: post)) = some (.map (some e.m)) from HEN.out ▸ hA1.get (e := e) (by simp) HP.out HS.out)
  have HIN2 := Lib.hid (hA1.2.2.1 e (by simp))
  obtain ⟨sm, hsm⟩ : ∃ sm, satI (cc.inc + inc) = sm := ⟨_, rfl⟩
  obtain ⟨ov, hov⟩ : ∃ ov, decide (9223372036854775807 < cc.inc + inc) = ov := ⟨_, rfl⟩
  have HSM := Lib.hid hsm
  have HOV := Lib.hid hov
  rw [hsm, hov]
  clear v1 v2 hA1 hem hnd hnd2 hgl hel hne1 hne2 hne3 hne4 hsm hov
  cases hco : cc.over
  case false =>
    have C2c := Lib.hid (show V1.cell? ⟨w3.heap.size, 2, none⟩ = some (.bool false) from hco ▸ C2b.out)
    have HCO := Lib.hid hco
    clear hco
    go_wp2_with fail
    refine wp_region_noPanic ?_
    refine wp_region_held_drew (S := (fun w' => Only (· = e.m) V1 w')) (by kernel_rfl) ?_ (fun hHeld => ?_)
    · exact Only.of_new (drew_below V1)
    refine wpAnyH_take (i := 0) (oi := _) (v := ?_) rfl (by kernel_rfl) (by kernel_rfl) (by kernel_rfl) (fun _ _ _ h => h) (Or.inl ⟨by rfl, ?_⟩) (by assumption) ?_
    rotate_left 1
    · (intro w hSw; (try dsimp only at hSw); go_simp; (try with_reducible rfl))
    try simp only [Act.put, List.getElem_toArray, List.getElem_cons_zero, List.setIfInBounds_toArray, List.set_cons_zero, List.set_cons_succ]
    refine wpAnyH_take (i := 1) (oi := _) (v := ?_) rfl (by kernel_rfl) (by kernel_rfl) (by kernel_rfl) (fun _ _ _ h => h) (Or.inl ⟨by rfl, ?_⟩) (by assumption) ?_
    rotate_left 1
    · (intro w hSw; (try dsimp only at hSw); go_simp; (try with_reducible rfl))
    try simp only [Act.put, List.getElem_toArray, List.getElem_cons_succ, List.getElem_cons_zero, List.setIfInBounds_toArray, List.set_cons_zero, List.set_cons_succ]
    refine wpAnyH_take (i := 2) (oi := _) (v := ?_) rfl (by kernel_rfl) (by kernel_rfl) (by kernel_rfl) (fun _ _ _ h => h) (Or.inl ⟨by rfl, ?_⟩) (by assumption) ?_
    rotate_left 1
    · (intro w hSw; (try dsimp only at hSw); go_simp; (try with_reducible rfl))
    try simp only [Act.put, List.getElem_toArray, List.getElem_cons_succ, List.getElem_cons_zero, List.setIfInBounds_toArray, List.set_cons_zero, List.set_cons_succ]
    refine wpAnyH_take (i := 3) (oi := _) (v := ?_) rfl (by kernel_rfl) (by kernel_rfl) (by kernel_rfl) (fun _ _ _ h => h) (Or.inl ⟨by rfl, ?_⟩) (by assumption) ?_
    rotate_left 1
    · (intro w hSw; (try dsimp only at hSw); (have q3 := hSw.cell G3b.out HNE.out.1; go_simp); (try with_reducible rfl))
    try simp only [Act.put, List.getElem_toArray, List.getElem_cons_succ, List.getElem_cons_zero, List.setIfInBounds_toArray, List.set_cons_zero, List.set_cons_succ]
    refine wpAnyH_take (i := 4) (oi := _) (v := ?_) rfl (by kernel_rfl) (by kernel_rfl) (by kernel_rfl) (fun _ _ _ h => h) (Or.inl ⟨by rfl, ?_⟩) (by assumption) ?_
    rotate_left 1
    · (intro w hSw; (try dsimp only at hSw); go_simp; (try with_reducible rfl))
    try simp only [Act.put, List.getElem_toArray, List.getElem_cons_succ, List.getElem_cons_zero, List.setIfInBounds_toArray, List.set_cons_zero, List.set_cons_succ]
    refine wpAnyH_take (i := 5) (oi := _) (v := ?_) rfl (by kernel_rfl) (by kernel_rfl) (by kernel_rfl) (fun _ _ _ h => h) (Or.inl ⟨by rfl, ?_⟩) (by assumption) ?_
    rotate_left 1
    · (intro w hSw; (try dsimp only at hSw); (have q5 := held_lookup1 (HMM.out.only hSw HNE.out.2.1) HGT.out; go_simp); (try with_reducible rfl))
    try simp only [Act.put, List.getElem_toArray, List.getElem_cons_succ, List.getElem_cons_zero, List.setIfInBounds_toArray, List.set_cons_zero, List.set_cons_succ]
    refine wpAnyH_take (i := 6) (oi := _) (v := ?_) rfl (by kernel_rfl) (by kernel_rfl) (by kernel_rfl) (fun _ _ _ h => h) (Or.inl ⟨by rfl, ?_⟩) (by assumption) ?_
    rotate_left 1
    · (intro w hSw; (try dsimp only at hSw); go_simp; (try with_reducible rfl))
    try simp only [Act.put, List.getElem_toArray, List.getElem_cons_succ, List.getElem_cons_zero, List.setIfInBounds_toArray, List.set_cons_zero, List.set_cons_succ]
    refine wpAnyH_take (i := 7) (oi := _) (v := ?_) rfl (by kernel_rfl) (by kernel_rfl) (by kernel_rfl) (fun _ _ _ h => h) (Or.inl ⟨by rfl, ?_⟩) (by assumption) ?_
    rotate_left 1
    · (intro w hSw; (try dsimp only at hSw); (have q7 := hSw.cell X0b.out HNE.out.2.2.1; go_simp); (try with_reducible rfl))
    try simp only [Act.put, List.getElem_toArray, List.getElem_cons_succ, List.getElem_cons_zero, List.setIfInBounds_toArray, List.set_cons_zero, List.set_cons_succ]
    refine wpAnyH_take (i := 8) (oi := _) (v := ?_) rfl (by kernel_rfl) (by kernel_rfl) (by kernel_rfl) (fun _ _ _ h => h) (Or.inl ⟨by rfl, ?_⟩) (by assumption) ?_
    rotate_left 1
    · (intro w hSw; (try dsimp only at hSw); go_simp; (try with_reducible rfl))
    try simp only [Act.put, List.getElem_toArray, List.getElem_cons_succ, List.getElem_cons_zero, List.setIfInBounds_toArray, List.set_cons_zero, List.set_cons_succ]
    refine wpAnyH_take (i := 9) (oi := _) (v := ?_) rfl (by kernel_rfl) (by kernel_rfl) (by kernel_rfl) (fun _ _ _ h => h) (Or.inl ⟨by rfl, ?_⟩) (by assumption) ?_
    rotate_left 1
    · (intro w hSw; (try dsimp only at hSw); (have q7 := hSw.cell X0b.out HNE.out.2.2.1; go_simp); (try with_reducible rfl))
    try simp only [Act.put, List.getElem_toArray, List.getElem_cons_succ, List.getElem_cons_zero, List.setIfInBounds_toArray, List.set_cons_zero, List.set_cons_succ]
    refine wpAnyH_take (i := 10) (oi := _) (v := ?_) rfl (by kernel_rfl) (by kernel_rfl) (by kernel_rfl) (fun _ _ _ h => h) (Or.inl ⟨by rfl, ?_⟩) (by assumption) ?_
    rotate_left 1
    · (intro w hSw; (try dsimp only at hSw); go_simp; (try with_reducible rfl))
    try simp only [Act.put, List.getElem_toArray, List.getElem_cons_succ, List.getElem_cons_zero, List.setIfInBounds_toArray, List.set_cons_zero, List.set_cons_succ]
    refine wpAnyH_take (i := 11) (oi := _) (v := ?_) rfl (by kernel_rfl) (by kernel_rfl) (by kernel_rfl) (fun _ _ _ h => h) (Or.inl ⟨by rfl, ?_⟩) (by assumption) ?_
    rotate_left 1
    · (intro w hSw; (try dsimp only at hSw); go_simp; (try with_reducible rfl))
    try simp only [Act.put, List.getElem_toArray, List.getElem_cons_succ, List.getElem_cons_zero, List.setIfInBounds_toArray, List.set_cons_zero, List.set_cons_succ]
    refine wpAnyH_take (i := 12) (oi := _) (v := ?_) rfl (by kernel_rfl) (by kernel_rfl) (by kernel_rfl) (fun _ _ _ h => h) (Or.inl ⟨by rfl, ?_⟩) (by assumption) ?_
    rotate_left 1
    · (intro w hSw; (try dsimp only at hSw); (have q9 := hSw.cell C2c.out HNE.out.2.2.2; go_simp); (try with_reducible rfl))
    try simp only [Act.put, List.getElem_toArray, List.getElem_cons_succ, List.getElem_cons_zero, List.setIfInBounds_toArray, List.set_cons_zero, List.set_cons_succ]
    refine wpAnyH_take (i := 13) (oi := _) (v := ?_) rfl (by kernel_rfl) (by kernel_rfl) (by kernel_rfl) (fun _ _ _ h => h) (Or.inl ⟨by rfl, ?_⟩) (by assumption) ?_
    rotate_left 1
    · (intro w hSw; (try dsimp only at hSw); go_simp; (try with_reducible rfl))
    try simp only [Act.put, List.getElem_toArray, List.getElem_cons_succ, List.getElem_cons_zero, List.setIfInBounds_toArray, List.set_cons_zero, List.set_cons_succ]
    refine wpAnyH_take (i := 14) (oi := _) (v := ?_) rfl (by kernel_rfl) (by kernel_rfl) (by kernel_rfl) (fun _ _ _ h => h) (Or.inl ⟨by rfl, ?_⟩) (by assumption) ?_
    rotate_left 1
    · (intro w hSw; (try dsimp only at hSw); go_simp; (try with_reducible rfl))
    try simp only [Act.put, List.getElem_toArray, List.getElem_cons_succ, List.getElem_cons_zero, List.setIfInBounds_toArray, List.set_cons_zero, List.set_cons_succ]
    refine wpAnyH_take (i := 15) (oi := _) (v := ?_) rfl (by kernel_rfl) (by kernel_rfl) (by kernel_rfl) (fun _ _ _ h => h) (Or.inl ⟨by rfl, ?_⟩) (by assumption) ?_
    rotate_left 1
    · (intro w hSw; (try dsimp only at hSw); go_simp; (try with_reducible rfl))
    try simp only [Act.put, List.getElem_toArray, List.getElem_cons_succ, List.getElem_cons_zero, List.setIfInBounds_toArray, List.set_cons_zero, List.set_cons_succ]
    refine wpAnyH_take (i := 16) (oi := _) (v := ?_) rfl (by kernel_rfl) (by kernel_rfl) (by kernel_rfl) (fun _ _ _ h => h) (Or.inl ⟨by rfl, ?_⟩) (by assumption) ?_
    rotate_left 1
    · (intro w hSw; (try dsimp only at hSw); go_simp; (try with_reducible rfl))
    try simp only [Act.put, List.getElem_toArray, List.getElem_cons_succ, List.getElem_cons_zero, List.setIfInBounds_toArray, List.set_cons_zero, List.set_cons_succ]
    refine wpAnyH_ready (rs := [17]) (by kernel_rfl) (by simp) ?_
    refine AllReadyH.cons (o := _) rfl (fun K hK => ?_) AllReadyH.nil
    have hMe : MapAt encStr V1.drew e.m (ckv e.ks) := HIN2.out.1
    obtain ⟨ub, hup, hm2⟩ := run_update (P := Try.prog) sKey hMe Try.underlying66 nm (.agg #[encStr nm, .int .i64 sm, .bool ov])
    have hup2 : Sem.run Try.prog (Instr.mapUpdate 66 (.map (some e.m)) (encStr nm) (.agg #[encStr nm, .int .i64 sm, .bool ov])) V1.drew = .ok () (ChangeMaps.setBlock V1.drew e.m ub) := hup
    have hoU : Only (· = e.m) V1 (ChangeMaps.setBlock V1.drew e.m ub) := (Only.of_new (F := (· = e.m)) (drew_below V1)).trans ((Only.refl (· = e.m) V1.drew).setBlock e.m ub (fun _ => rfl)) (fun _ _ h => h)
    generalize ChangeMaps.setBlock V1.drew e.m ub = V2 at hup2 hm2 hoU
    clear hup
    go_simp
    refine hK.out _ _ ?_ (fun _ => ?_)
    · exact hoU
    clear hK K
    try simp only [Act.put, List.getElem_toArray, List.getElem_cons_succ, List.getElem_cons_zero, List.setIfInBounds_toArray, List.set_cons_zero, List.set_cons_succ]
    refine wpAnyH_done (by kernel_rfl) ?_ _
    refine NoPanic.normal ?_
    have hval : (.agg #[encStr nm, .int .i64 sm, .bool ov] : Value) = (crNew cc nm inc).val := by
      unfold crNew Cr.val
      rw [HSM.out, HOV.out, HCO.out]
      simp
    rw [hval] at hm2
    have hm3 : MapAt encStr V2 e.m (ckv (uset Cr.nm (crNew cc nm inc) e.ks)) := by
      rw [← mput_ckv]
      exact hm2
    have hks : (uset Cr.nm (crNew cc nm inc) e.ks).Perm (crPut nm inc e.cr) := by
      unfold crPut
      rw [HCC.out]
      exact uset_sset ordN _ HIN2.out.2.1 HIN2.out.2.2
    have hA2 := HA1.out.upd hoU hm3 hks (HIN2.out.2.2.set _)
    have hp2 := es_set (e := e) (e' := { e with ks := uset Cr.nm (crNew cc nm inc) e.ks, cr := crPut nm inc e.cr }) rfl HP.out HS.out
    have hs2 := HS.out.set (WE.vw { e with ks := uset Cr.nm (crNew cc nm inc) e.ks, cr := crPut nm inc e.cr })
    have h6 : V2.cell? ⟨g, 6, none⟩ = some (.int .i64 s.cred) := hA2.cell 6 rfl
    have z6 : V2.frozen? ⟨g, 6, none⟩ = false := frozen_of_row V2 _ _ _ _ hA2.1
    have l6 := World.block_lt_of_cell? V2 _ h6
    simp only at l6
    have hcr := HC.out.cred
    have hto := hA2.setTo (s' := { s with cred := s.cred + 1 }) hp2 hs2 6 (.int .i64 (s.cred + 1)) rfl
    have hff : wfoot g M (pre ++ { e with ks := uset Cr.nm (crNew cc nm inc) e.ks, cr := crPut nm inc e.cr } :: post) = wfoot g M (pre ++ e :: post) := by simp [wfoot]
    have hst : WinTo w3 B g (wfoot g M (pre ++ e :: post)) { s with cred := s.cred + 1 } (wvSet (WE.vw { e with ks := uset Cr.nm (crNew cc nm inc) e.ks, cr := crPut nm inc e.cr }) L) (V2.setCell ⟨g, 6, none⟩ (.int .i64 (s.cred + 1))) := by
      rw [hff] at hto
      obtain ⟨F9, k1, k2, k3⟩ := hto
      have ho9 := (Only.of_new (F := (· ∈ wfoot g M (pre ++ e :: post))) HBV.out).trans hoU (fun k _ e0 => by rw [show k = e.m from e0]; simp [wfoot])
      exact ⟨F9, k1, ho9.trans k2 (fun _ _ h => h), fun k hk => (k3 k hk).elim .inl (fun h => .inr (Nat.le_trans ho9.size h))⟩
    have HFIN := Lib.hid (show AddP w B g F (false, [], { s with cred := s.cred + 1 }, wvPut q nm inc L) (.returned (.tuple #[.bool false, .slice none 0 0])) (V2.setCell ⟨g, 6, none⟩ (.int .i64 (s.cred + 1))) from by
      have h9 : wvSet (WE.vw { e with ks := uset Cr.nm (crNew cc nm inc) e.ks, cr := crPut nm inc e.cr }) L = wvPut q nm inc L := by
        unfold wvPut
        rw [← HEC.out, ← HEN.out]
        rfl
      rw [← h9]
      exact AddP.fin (cl := []) (F1 := wfoot g M (pre ++ e :: post)) (fun k hk => .inl (by rw [HFE.out]; exact hk)) (Only.of_new HB3.out) (WinsM.nil _ _) hst)
    clear hm2 hm3 hks hA2 hp2 hs2 hto hff hst hval
    generalize hcd : s.cred = cd at h6 hcr
    have HCD := Lib.hid hcd
    clear hcd
    go_wp2
    go_ret2
    rw [← HCD.out]
    exact HFIN.out
  case true =>
    have C2c := Lib.hid (show V1.cell? ⟨w3.heap.size, 2, none⟩ = some (.bool true) from hco ▸ C2b.out)
    have HCO := Lib.hid hco
    clear hco
    go_wp2_with fail
    refine wp_region_noPanic ?_
    refine wp_region_held_drew (S := (fun w' => Only (· = e.m) V1 w')) (by kernel_rfl) ?_ (fun hHeld => ?_)
    · exact Only.of_new (drew_below V1)
    refine wpAnyH_take (i := 0) (oi := _) (v := ?_) rfl (by kernel_rfl) (by kernel_rfl) (by kernel_rfl) (fun _ _ _ h => h) (Or.inl ⟨by rfl, ?_⟩) (by assumption) ?_
    rotate_left 1
    · (intro w hSw; (try dsimp only at hSw); go_simp; (try with_reducible rfl))
    try simp only [Act.put, List.getElem_toArray, List.getElem_cons_zero, List.setIfInBounds_toArray, List.set_cons_zero, List.set_cons_succ]
    refine wpAnyH_take (i := 1) (oi := _) (v := ?_) rfl (by kernel_rfl) (by kernel_rfl) (by kernel_rfl) (fun _ _ _ h => h) (Or.inl ⟨by rfl, ?_⟩) (by assumption) ?_
    rotate_left 1
    · (intro w hSw; (try dsimp only at hSw); go_simp; (try with_reducible rfl))
    try simp only [Act.put, List.getElem_toArray, List.getElem_cons_succ, List.getElem_cons_zero, List.setIfInBounds_toArray, List.set_cons_zero, List.set_cons_succ]
    refine wpAnyH_take (i := 2) (oi := _) (v := ?_) rfl (by kernel_rfl) (by kernel_rfl) (by kernel_rfl) (fun _ _ _ h => h) (Or.inl ⟨by rfl, ?_⟩) (by assumption) ?_
    rotate_left 1
    · (intro w hSw; (try dsimp only at hSw); go_simp; (try with_reducible rfl))
    try simp only [Act.put, List.getElem_toArray, List.getElem_cons_succ, List.getElem_cons_zero, List.setIfInBounds_toArray, List.set_cons_zero, List.set_cons_succ]
    refine wpAnyH_take (i := 3) (oi := _) (v := ?_) rfl (by kernel_rfl) (by kernel_rfl) (by kernel_rfl) (fun _ _ _ h => h) (Or.inl ⟨by rfl, ?_⟩) (by assumption) ?_
    rotate_left 1
    · (intro w hSw; (try dsimp only at hSw); (have q3 := hSw.cell G3b.out HNE.out.1; go_simp); (try with_reducible rfl))
    try simp only [Act.put, List.getElem_toArray, List.getElem_cons_succ, List.getElem_cons_zero, List.setIfInBounds_toArray, List.set_cons_zero, List.set_cons_succ]
    refine wpAnyH_take (i := 4) (oi := _) (v := ?_) rfl (by kernel_rfl) (by kernel_rfl) (by kernel_rfl) (fun _ _ _ h => h) (Or.inl ⟨by rfl, ?_⟩) (by assumption) ?_
    rotate_left 1
    · (intro w hSw; (try dsimp only at hSw); go_simp; (try with_reducible rfl))
    try simp only [Act.put, List.getElem_toArray, List.getElem_cons_succ, List.getElem_cons_zero, List.setIfInBounds_toArray, List.set_cons_zero, List.set_cons_succ]
    refine wpAnyH_take (i := 5) (oi := _) (v := ?_) rfl (by kernel_rfl) (by kernel_rfl) (by kernel_rfl) (fun _ _ _ h => h) (Or.inl ⟨by rfl, ?_⟩) (by assumption) ?_
    rotate_left 1
    · (intro w hSw; (try dsimp only at hSw); (have q5 := held_lookup1 (HMM.out.only hSw HNE.out.2.1) HGT.out; go_simp); (try with_reducible rfl))
    try simp only [Act.put, List.getElem_toArray, List.getElem_cons_succ, List.getElem_cons_zero, List.setIfInBounds_toArray, List.set_cons_zero, List.set_cons_succ]
    refine wpAnyH_take (i := 6) (oi := _) (v := ?_) rfl (by kernel_rfl) (by kernel_rfl) (by kernel_rfl) (fun _ _ _ h => h) (Or.inl ⟨by rfl, ?_⟩) (by assumption) ?_
    rotate_left 1
    · (intro w hSw; (try dsimp only at hSw); go_simp; (try with_reducible rfl))
    try simp only [Act.put, List.getElem_toArray, List.getElem_cons_succ, List.getElem_cons_zero, List.setIfInBounds_toArray, List.set_cons_zero, List.set_cons_succ]
    refine wpAnyH_take (i := 7) (oi := _) (v := ?_) rfl (by kernel_rfl) (by kernel_rfl) (by kernel_rfl) (fun _ _ _ h => h) (Or.inl ⟨by rfl, ?_⟩) (by assumption) ?_
    rotate_left 1
    · (intro w hSw; (try dsimp only at hSw); (have q7 := hSw.cell X0b.out HNE.out.2.2.1; go_simp); (try with_reducible rfl))
    try simp only [Act.put, List.getElem_toArray, List.getElem_cons_succ, List.getElem_cons_zero, List.setIfInBounds_toArray, List.set_cons_zero, List.set_cons_succ]
    refine wpAnyH_take (i := 8) (oi := _) (v := ?_) rfl (by kernel_rfl) (by kernel_rfl) (by kernel_rfl) (fun _ _ _ h => h) (Or.inl ⟨by rfl, ?_⟩) (by assumption) ?_
    rotate_left 1
    · (intro w hSw; (try dsimp only at hSw); go_simp; (try with_reducible rfl))
    try simp only [Act.put, List.getElem_toArray, List.getElem_cons_succ, List.getElem_cons_zero, List.setIfInBounds_toArray, List.set_cons_zero, List.set_cons_succ]
    refine wpAnyH_take (i := 9) (oi := _) (v := ?_) rfl (by kernel_rfl) (by kernel_rfl) (by kernel_rfl) (fun _ _ _ h => h) (Or.inl ⟨by rfl, ?_⟩) (by assumption) ?_
    rotate_left 1
    · (intro w hSw; (try dsimp only at hSw); (have q7 := hSw.cell X0b.out HNE.out.2.2.1; go_simp); (try with_reducible rfl))
    try simp only [Act.put, List.getElem_toArray, List.getElem_cons_succ, List.getElem_cons_zero, List.setIfInBounds_toArray, List.set_cons_zero, List.set_cons_succ]
    refine wpAnyH_take (i := 10) (oi := _) (v := ?_) rfl (by kernel_rfl) (by kernel_rfl) (by kernel_rfl) (fun _ _ _ h => h) (Or.inl ⟨by rfl, ?_⟩) (by assumption) ?_
    rotate_left 1
    · (intro w hSw; (try dsimp only at hSw); go_simp; (try with_reducible rfl))
    try simp only [Act.put, List.getElem_toArray, List.getElem_cons_succ, List.getElem_cons_zero, List.setIfInBounds_toArray, List.set_cons_zero, List.set_cons_succ]
    refine wpAnyH_take (i := 11) (oi := _) (v := ?_) rfl (by kernel_rfl) (by kernel_rfl) (by kernel_rfl) (fun _ _ _ h => h) (Or.inl ⟨by rfl, ?_⟩) (by assumption) ?_
    rotate_left 1
    · (intro w hSw; (try dsimp only at hSw); go_simp; (try with_reducible rfl))
    try simp only [Act.put, List.getElem_toArray, List.getElem_cons_succ, List.getElem_cons_zero, List.setIfInBounds_toArray, List.set_cons_zero, List.set_cons_succ]
    refine wpAnyH_take (i := 12) (oi := _) (v := ?_) rfl (by kernel_rfl) (by kernel_rfl) (by kernel_rfl) (fun _ _ _ h => h) (Or.inl ⟨by rfl, ?_⟩) (by assumption) ?_
    rotate_left 1
    · (intro w hSw; (try dsimp only at hSw); (have q9 := hSw.cell C2c.out HNE.out.2.2.2; go_simp); (try with_reducible rfl))
    try simp only [Act.put, List.getElem_toArray, List.getElem_cons_succ, List.getElem_cons_zero, List.setIfInBounds_toArray, List.set_cons_zero, List.set_cons_succ]
    refine wpAnyH_take (i := 13) (oi := _) (v := ?_) rfl (by kernel_rfl) (by kernel_rfl) (by kernel_rfl) (fun _ _ _ h => h) (Or.inl ⟨by rfl, ?_⟩) (by assumption) ?_
    rotate_left 1
    · (intro w hSw; (try dsimp only at hSw); go_simp; (try with_reducible rfl))
    try simp only [Act.put, List.getElem_toArray, List.getElem_cons_succ, List.getElem_cons_zero, List.setIfInBounds_toArray, List.set_cons_zero, List.set_cons_succ]
    refine wpAnyH_take (i := 14) (oi := _) (v := undef) rfl (by kernel_rfl) (by kernel_rfl) (by kernel_rfl) (fun _ _ _ h => h) (Or.inr ⟨by rfl, rfl⟩) (by assumption) ?_
    try simp only [Act.put, List.getElem_toArray, List.getElem_cons_succ, List.getElem_cons_zero, List.setIfInBounds_toArray, List.set_cons_zero, List.set_cons_succ]
    refine wpAnyH_take (i := 15) (oi := _) (v := ?_) rfl (by kernel_rfl) (by kernel_rfl) (by kernel_rfl) (fun _ _ _ h => h) (Or.inl ⟨by rfl, ?_⟩) (by assumption) ?_
    rotate_left 1
    · (intro w hSw; (try dsimp only at hSw); go_simp; (try with_reducible rfl))
    try simp only [Act.put, List.getElem_toArray, List.getElem_cons_succ, List.getElem_cons_zero, List.setIfInBounds_toArray, List.set_cons_zero, List.set_cons_succ]
    refine wpAnyH_take (i := 16) (oi := _) (v := ?_) rfl (by kernel_rfl) (by kernel_rfl) (by kernel_rfl) (fun _ _ _ h => h) (Or.inl ⟨by rfl, ?_⟩) (by assumption) ?_
    rotate_left 1
    · (intro w hSw; (try dsimp only at hSw); go_simp; (try with_reducible rfl))
    try simp only [Act.put, List.getElem_toArray, List.getElem_cons_succ, List.getElem_cons_zero, List.setIfInBounds_toArray, List.set_cons_zero, List.set_cons_succ]
    refine wpAnyH_ready (rs := [17]) (by kernel_rfl) (by simp) ?_
    refine AllReadyH.cons (o := _) rfl (fun K hK => ?_) AllReadyH.nil
    have hMe : MapAt encStr V1.drew e.m (ckv e.ks) := HIN2.out.1
    obtain ⟨ub, hup, hm2⟩ := run_update (P := Try.prog) sKey hMe Try.underlying66 nm (.agg #[encStr nm, .int .i64 sm, .bool true])
    have hup2 : Sem.run Try.prog (Instr.mapUpdate 66 (.map (some e.m)) (encStr nm) (.agg #[encStr nm, .int .i64 sm, .bool true])) V1.drew = .ok () (ChangeMaps.setBlock V1.drew e.m ub) := hup
    have hoU : Only (· = e.m) V1 (ChangeMaps.setBlock V1.drew e.m ub) := (Only.of_new (F := (· = e.m)) (drew_below V1)).trans ((Only.refl (· = e.m) V1.drew).setBlock e.m ub (fun _ => rfl)) (fun _ _ h => h)
    generalize ChangeMaps.setBlock V1.drew e.m ub = V2 at hup2 hm2 hoU
    clear hup
    go_simp
    refine hK.out _ _ ?_ (fun _ => ?_)
    · exact hoU
    clear hK K
    try simp only [Act.put, List.getElem_toArray, List.getElem_cons_succ, List.getElem_cons_zero, List.setIfInBounds_toArray, List.set_cons_zero, List.set_cons_succ]
    refine wpAnyH_done (by kernel_rfl) ?_ _
    refine NoPanic.normal ?_
    have hval : (.agg #[encStr nm, .int .i64 sm, .bool true] : Value) = (crNew cc nm inc).val := by
      unfold crNew Cr.val
      rw [HSM.out, HOV.out, HCO.out]
      simp
    rw [hval] at hm2
    have hm3 : MapAt encStr V2 e.m (ckv (uset Cr.nm (crNew cc nm inc) e.ks)) := by
      rw [← mput_ckv]
      exact hm2
    have hks : (uset Cr.nm (crNew cc nm inc) e.ks).Perm (crPut nm inc e.cr) := by
      unfold crPut
      rw [HCC.out]
      exact uset_sset ordN _ HIN2.out.2.1 HIN2.out.2.2
    have hA2 := HA1.out.upd hoU hm3 hks (HIN2.out.2.2.set _)
    have hp2 := es_set (e := e) (e' := { e with ks := uset Cr.nm (crNew cc nm inc) e.ks, cr := crPut nm inc e.cr }) rfl HP.out HS.out
    have hs2 := HS.out.set (WE.vw { e with ks := uset Cr.nm (crNew cc nm inc) e.ks, cr := crPut nm inc e.cr })
    have h6 : V2.cell? ⟨g, 6, none⟩ = some (.int .i64 s.cred) := hA2.cell 6 rfl
    have z6 : V2.frozen? ⟨g, 6, none⟩ = false := frozen_of_row V2 _ _ _ _ hA2.1
    have l6 := World.block_lt_of_cell? V2 _ h6
    simp only at l6
    have hcr := HC.out.cred
    have hto := hA2.setTo (s' := { s with cred := s.cred + 1 }) hp2 hs2 6 (.int .i64 (s.cred + 1)) rfl
    have hff : wfoot g M (pre ++ { e with ks := uset Cr.nm (crNew cc nm inc) e.ks, cr := crPut nm inc e.cr } :: post) = wfoot g M (pre ++ e :: post) := by simp [wfoot]
    have hst : WinTo w3 B g (wfoot g M (pre ++ e :: post)) { s with cred := s.cred + 1 } (wvSet (WE.vw { e with ks := uset Cr.nm (crNew cc nm inc) e.ks, cr := crPut nm inc e.cr }) L) (V2.setCell ⟨g, 6, none⟩ (.int .i64 (s.cred + 1))) := by
      rw [hff] at hto
      obtain ⟨F9, k1, k2, k3⟩ := hto
      have ho9 := (Only.of_new (F := (· ∈ wfoot g M (pre ++ e :: post))) HBV.out).trans hoU (fun k _ e0 => by rw [show k = e.m from e0]; simp [wfoot])
      exact ⟨F9, k1, ho9.trans k2 (fun _ _ h => h), fun k hk => (k3 k hk).elim .inl (fun h => .inr (Nat.le_trans ho9.size h))⟩
    have HFIN := Lib.hid (show AddP w B g F (false, [], { s with cred := s.cred + 1 }, wvPut q nm inc L) (.returned (.tuple #[.bool false, .slice none 0 0])) (V2.setCell ⟨g, 6, none⟩ (.int .i64 (s.cred + 1))) from by
      have h9 : wvSet (WE.vw { e with ks := uset Cr.nm (crNew cc nm inc) e.ks, cr := crPut nm inc e.cr }) L = wvPut q nm inc L := by
        unfold wvPut
        rw [← HEC.out, ← HEN.out]
        rfl
      rw [← h9]
      exact AddP.fin (cl := []) (F1 := wfoot g M (pre ++ e :: post)) (fun k hk => .inl (by rw [HFE.out]; exact hk)) (Only.of_new HB3.out) (WinsM.nil _ _) hst)
    clear hm2 hm3 hks hA2 hp2 hs2 hto hff hst hval
    generalize hcd : s.cred = cd at h6 hcr
    have HCD := Lib.hid hcd
    clear hcd
    go_wp2
    go_ret2
    rw [← HCD.out]
    exact HFIN.out
set_option maxHeartbeats 8000000 in
set_option maxRecDepth 100000 in
theorem add_noroom (h : WinIs w B g s L F) (hb : WBd L) (hc : SOk s) (nm : List UInt8) (time inc q : Int) (rst : Bool) (htm : ¬ time < 0 ∧ ¬ 1125899906842624 < time) (hinc : ¬ inc < 0 ∧ inc ≤ 9223372036854775807) (hq : time.tdiv s.len = q) (hfl : ¬ q ≤ s.floor) (hno : q ∉ L.map (·.num)) (hfull : s.most ≤ (L.length : Int)) {v : WV} {t : List WV} (hL : L = v :: t) (hlt : q < v.num) :
    Calls Try.prog 13 #[.pointer (some ⟨g, 0, none⟩), .agg #[encStr nm, .int .i64 time, .int .i64 inc, .bool rst]] w (AddP w B g F (true, [], { s with late := s.late + 1 }, L)) := by
  have HW := Lib.hid (fun W (hB : Below w.heap.size w W) => h.new hB)
  have HFW := Lib.hid (fun k hk => (h.in k hk).2)
  have HNN := Lib.hid (fun W (hB : Below w.heap.size w W) => (show Calls Try.prog 27 #[.pointer (some ⟨g, 0, none⟩)] W fun e w' => e = .returned (.bool false) ∧ W = w' from by
    obtain ⟨M, es, h1, -⟩ := h
    exact none_any (h1.below hB) hc.len.1))
  have HGS := Lib.hid (fun W (hB : Below w.heap.size w W) => (show W.cell? ⟨g, 0, none⟩ = some (.int .i64 s.len) ∧ W.cell? ⟨g, 4, none⟩ = some (.int .i64 s.floor) ∧ g < w.heap.size from by
    obtain ⟨M, es, h1, -⟩ := h
    exact ⟨(h1.below hB).cell 0 rfl, (h1.below hB).cell 4 rfl, h1.lt g (by simp [wfoot])⟩))
  have HC := Lib.hid hc
  have HBD := Lib.hid hb
  have hlen := hc.len
  obtain ⟨t1, t2⟩ := htm
  obtain ⟨i1, i2⟩ := hinc
  have htd : time.tdiv s.len = time / s.len := Int.tdiv_eq_ediv_of_nonneg (by omega)
  rw [htd] at hq
  clear h hc hb htd
  go_enter Try.func13, Try.ntmps13
  go_wp2_with fail
  obtain ⟨W1, hW1⟩ : ∃ V, V = w.alloc (.cells #[encStr nm, .int .i64 time, .int .i64 inc, .bool rst] 37) := ⟨_, rfl⟩
  have HB1 := Lib.hid (show Below w.heap.size w W1 by rw [hW1]; exact (Below.refl _ _).alloc (Nat.le_refl _) _)
  have hX := (show W1.heap[w.heap.size]? = some (.cells #[encStr nm, .int .i64 time, .int .i64 inc, .bool rst] 37 (0, 0)) by rw [hW1]; exact heap_alloc_new w _)
  rw [← hW1]
  clear hW1
  refine (HNN.out W1 HB1.out).mono ?_
  rintro e w2 ⟨rfl, rfl⟩
  have x1 : W1.cell? ⟨w.heap.size, 1, none⟩ = some (.int .i64 time) := by rw [cell_of_row _ _ _ _ _ _ hX]; rfl
  have x2 : W1.cell? ⟨w.heap.size, 2, none⟩ = some (.int .i64 inc) := by rw [cell_of_row _ _ _ _ _ _ hX]; rfl
  have g0 : W1.cell? ⟨g, 0, none⟩ = some (.int .i64 s.len) := (HGS.out W1 HB1.out).1
  have g4 : W1.cell? ⟨g, 4, none⟩ = some (.int .i64 s.floor) := (HGS.out W1 HB1.out).2.1
  have HX1 := Lib.hid hX
  generalize hsl : s.len = ln at g0 hq hlen
  generalize hsf : s.floor = fl at g4 hfl
  clear hX hsl hsf
  have hz : (ln == 0) = false := by rw [beq_eq_false_iff_ne]; omega
  have hz2 : ln ≠ 0 := by omega
  have HQ := Lib.hid hq
  clear hq
  go_wp2_with fail
  go_quiet (fail)
  rw [HQ.out]
  clear hz hz2
  obtain ⟨W2, hW2⟩ : ∃ V, V = W1.drewN nq := ⟨_, rfl⟩
  have HB2 := Lib.hid (show Below w.heap.size w W2 by rw [hW2]; exact below_drewN' HB1.out _)
  have HX2 := Lib.hid (show W2.heap[w.heap.size]? = some (.cells #[encStr nm, .int .i64 time, .int .i64 inc, .bool rst] 37 (0, 0)) by rw [hW2]; exact HX1.out)
  have y1 : W2.cell? ⟨w.heap.size, 1, none⟩ = some (.int .i64 time) := by rw [cell_of_row _ _ _ _ _ _ HX2.out]; rfl
  have y2 : W2.cell? ⟨w.heap.size, 2, none⟩ = some (.int .i64 inc) := by rw [cell_of_row _ _ _ _ _ _ HX2.out]; rfl
  have g42 : W2.cell? ⟨g, 4, none⟩ = some (.int .i64 fl) := by rw [hW2]; exact g4
  rw [← hW2]
  clear hW2 x1 x2 g0 g4 HX1
  go_wp2_with fail
  clear y1 y2 g42 hfl t1 t2
  have hR := room_full (HW.out W2 HB2.out) HBD.out q hno hfull hL
  simp only [if_pos hlt] at hR
  clear hno hfull
  refine hR.mono ?_
  rintro e0 w3 ⟨rfl, hb3⟩
  have HB3 := Lib.hid (HB2.out.trans (hb3.mono HB2.out.size))
  obtain ⟨M, es, hA, hP, hS, hFe⟩ := HW.out w3 HB3.out
  have h7 : w3.cell? ⟨g, 7, none⟩ = some (.int .i64 s.late) := hA.cell 7 rfl
  have z7 : w3.frozen? ⟨g, 7, none⟩ = false := frozen_of_row w3 _ _ _ _ hA.1
  have hlb := HC.out.late
  have HFIN := Lib.hid (show AddP w B g F (true, [], { s with late := s.late + 1 }, L) (.returned (.tuple #[.bool true, .slice none 0 0])) (w3.setCell ⟨g, 7, none⟩ (.int .i64 (s.late + 1))) from
    AddP.late (HW.out w (Below.refl _ _)) HB3.out (by rw [hFe]; exact hA.setTo hP hS 7 _ rfl))
  clear hA hP hS hFe hb3 hR hL hlt
  generalize hcd : s.late = lt at h7 hlb
  have HCD := Lib.hid hcd
  clear hcd
  go_wp2
  go_ret2
  rw [← HCD.out]
  exact HFIN.out
set_option maxHeartbeats 8000000 in
set_option maxRecDepth 100000 in
theorem add_more (h : WinIs w B g s L F) (hb : WBd L) (hc : SOk s) (nm : List UInt8) (time inc q : Int) (rst : Bool) (htm : ¬ time < 0 ∧ ¬ 1125899906842624 < time) (hinc : ¬ inc < 0 ∧ inc ≤ 9223372036854775807) (hq : time.tdiv s.len = q) (hfl : ¬ q ≤ s.floor) (hno : q ∉ L.map (·.num)) (hroom : (L.length : Int) < s.most) :
    Calls Try.prog 13 #[.pointer (some ⟨g, 0, none⟩), .agg #[encStr nm, .int .i64 time, .int .i64 inc, .bool rst]] w (AddP w B g F (false, [], { s with cred := s.cred + 1 }, wvPut q nm inc L)) := by
  have HW := Lib.hid (fun W (hB : Below w.heap.size w W) => h.new hB)
  have HFW := Lib.hid (fun k hk => (h.in k hk).2)
  have HNN := Lib.hid (fun W (hB : Below w.heap.size w W) => (show Calls Try.prog 27 #[.pointer (some ⟨g, 0, none⟩)] W fun e w' => e = .returned (.bool false) ∧ W = w' from by
    obtain ⟨M, es, h1, -⟩ := h
    exact none_any (h1.below hB) hc.len.1))
  have HGS := Lib.hid (fun W (hB : Below w.heap.size w W) => (show W.cell? ⟨g, 0, none⟩ = some (.int .i64 s.len) ∧ W.cell? ⟨g, 4, none⟩ = some (.int .i64 s.floor) ∧ g < w.heap.size from by
    obtain ⟨M, es, h1, -⟩ := h
    exact ⟨(h1.below hB).cell 0 rfl, (h1.below hB).cell 4 rfl, h1.lt g (by simp [wfoot])⟩))
  have HC := Lib.hid hc
  have HBD := Lib.hid hb
  have hlen := hc.len
  obtain ⟨t1, t2⟩ := htm
  obtain ⟨i1, i2⟩ := hinc
  have htd : time.tdiv s.len = time / s.len := Int.tdiv_eq_ediv_of_nonneg (by omega)
  rw [htd] at hq
  clear h hc hb htd
  go_enter Try.func13, Try.ntmps13
  go_wp2_with fail
  obtain ⟨W1, hW1⟩ : ∃ V, V = w.alloc (.cells #[encStr nm, .int .i64 time, .int .i64 inc, .bool rst] 37) := ⟨_, rfl⟩
  have HB1 := Lib.hid (show Below w.heap.size w W1 by rw [hW1]; exact (Below.refl _ _).alloc (Nat.le_refl _) _)
  have hX := (show W1.heap[w.heap.size]? = some (.cells #[encStr nm, .int .i64 time, .int .i64 inc, .bool rst] 37 (0, 0)) by rw [hW1]; exact heap_alloc_new w _)
  rw [← hW1]
  clear hW1
  refine (HNN.out W1 HB1.out).mono ?_
  rintro e w2 ⟨rfl, rfl⟩
  have x1 : W1.cell? ⟨w.heap.size, 1, none⟩ = some (.int .i64 time) := by rw [cell_of_row _ _ _ _ _ _ hX]; rfl
  have x2 : W1.cell? ⟨w.heap.size, 2, none⟩ = some (.int .i64 inc) := by rw [cell_of_row _ _ _ _ _ _ hX]; rfl
  have g0 : W1.cell? ⟨g, 0, none⟩ = some (.int .i64 s.len) := (HGS.out W1 HB1.out).1
  have g4 : W1.cell? ⟨g, 4, none⟩ = some (.int .i64 s.floor) := (HGS.out W1 HB1.out).2.1
  have HX1 := Lib.hid hX
  generalize hsl : s.len = ln at g0 hq hlen
  generalize hsf : s.floor = fl at g4 hfl
  clear hX hsl hsf
  have hz : (ln == 0) = false := by rw [beq_eq_false_iff_ne]; omega
  have hz2 : ln ≠ 0 := by omega
  have HQ := Lib.hid hq
  clear hq
  go_wp2_with fail
  go_quiet (fail)
  rw [HQ.out]
  clear hz hz2
  obtain ⟨W2, hW2⟩ : ∃ V, V = W1.drewN nq := ⟨_, rfl⟩
  have HB2 := Lib.hid (show Below w.heap.size w W2 by rw [hW2]; exact below_drewN' HB1.out _)
  have HX2 := Lib.hid (show W2.heap[w.heap.size]? = some (.cells #[encStr nm, .int .i64 time, .int .i64 inc, .bool rst] 37 (0, 0)) by rw [hW2]; exact HX1.out)
  have y1 : W2.cell? ⟨w.heap.size, 1, none⟩ = some (.int .i64 time) := by rw [cell_of_row _ _ _ _ _ _ HX2.out]; rfl
  have y2 : W2.cell? ⟨w.heap.size, 2, none⟩ = some (.int .i64 inc) := by rw [cell_of_row _ _ _ _ _ _ HX2.out]; rfl
  have g42 : W2.cell? ⟨g, 4, none⟩ = some (.int .i64 fl) := by rw [hW2]; exact g4
  rw [← hW2]
  clear hW2 x1 x2 g0 g4 HX1
  go_wp2_with fail
  clear y1 y2 g42 hfl t1 t2
  have HNQ := Lib.hid hno
  refine (room_yes (HW.out W2 HB2.out) HBD.out q (.inr hroom)).mono ?_
  rintro e0 w3 ⟨rfl, hb3⟩
  have HB3 := Lib.hid (HB2.out.trans (hb3.mono HB2.out.size))
  have HX3 := Lib.hid (keeph' hb3 HX2.out)
  obtain ⟨M, es, hA, hP, hS, hFe⟩ := HW.out w3 HB3.out
  have HFE := Lib.hid hFe
  clear hno hroom hb3 hFe
  have HON := Lib.hid (Only.of_new (F := (· ∈ F)) HB3.out)
  have HFS := Lib.hid (show ∀ k ∈ wfoot g M es, k ∈ F from fun k hk => by rw [HFE.out]; exact hk)
  have hnd0 := List.nodup_cons.1 hA.2.2.2.1
  have HMA := Lib.hid (fun V (hB : Below w3.heap.size w3 V) => hA.2.1.only (F := fun _ => False) (Only.of_new hB) (fun h => h))
  have hno2 : mget q (wents es) = none := by
    have h9 := mget_wents_iff hP hS q
    rw [decide_eq_false HNQ.out] at h9
    cases hm : mget q (wents es) with
    | none => rfl
    | some u => rw [hm] at h9; cases h9
  have HNO := Lib.hid hno2
  have HAA := Lib.hid hA
  have HPP := Lib.hid hP
  have HSS := Lib.hid hS
  have g3 : w3.cell? ⟨g, 3, none⟩ = some (.map (some M)) := hA.cell 3 rfl
  have hlk : Sem.run Try.prog (Instr.lookup 60 (.map (some M)) (.int .i64 q) false) w3 = .ok (.map none) w3 := by
    have h9 := run_lookup iKey hA.2.1 Try.underlying60 (.map none) (zMapC w3) q false
    rw [hno2] at h9
    exact h9
  have hnq := map_nil_eq0 w3
  have hmm := @run_makeMap Try.prog
  clear hnd0 hno2 hA hP hS
  go_wp2_with (first
    | (with_reducible refine step_update iKey rfl _ _ _ _ rfl Try.underlying60 rfl (HMA.out _ ((Below.refl _ w3).alloc (Nat.le_refl _) _)) q rfl _ rfl ?_)
    | fail)
  intro w4 hm4 ho4 hs4
  have hb4 : Below w3.heap.size w3 (w3.alloc (.map #[] 0)) := (Below.refl _ _).alloc (Nat.le_refl _) _
  have hx4 : MapAt encStr (w3.alloc (.map #[] 0)) w3.heap.size [] := ⟨#[], 0, heap_alloc_new w3 _, rfl, by simp, by simp⟩
  have hA4 := HAA.out.more q w3.heap.size (Nat.le_refl _) hb4 hx4 hm4 ho4 HNO.out
  have hP4 := es_more HPP.out HSS.out q w3.heap.size HNQ.out
  have hS4 := HSS.out.set (WV.mk q [])
  have hML := HAA.out.2.1.lt
  have hMF := HFW.out M (HFS.out M (by simp [wfoot]))
  have HX := Lib.hid (ho4.heap (keeph' hb4 HX3.out) (fun e0 => by have e0 : w.heap.size = M := e0; omega))
  have HO := Lib.hid (show Only (· ∈ F) w w4 from (HON.out.trans (G := fun _ => False) (Only.of_new hb4) (fun _ _ h => h.elim)).trans ho4 (fun k _ e0 => by rw [show k = M from e0]; exact HFS.out M (by simp [wfoot])))
  have HO4 := Lib.hid (show Only (· ∈ F) w3 w4 from (Only.of_new (F := (· ∈ F)) hb4).trans ho4 (fun k _ e0 => by rw [show k = M from e0]; exact HFS.out M (by simp [wfoot])))
  obtain ⟨e, he⟩ : ∃ e, e = WE.mk q w3.heap.size [] [] := ⟨_, rfl⟩
  have HA := Lib.hid (show WinAt w4 B g M s (es ++ e :: []) by rw [he]; exact hA4)
  have HP := Lib.hid (show ((es ++ e :: []).map WE.vw).Perm (wvSet (WV.mk q []) L) by rw [he]; exact hP4)
  have HS := Lib.hid hS4
  have HBE := Lib.hid (show ∀ c ∈ e.cr, CrB c by rw [he]; intro c hc; cases hc)
  have HXE := Lib.hid (show ¬ w.heap.size = e.m by rw [he]; intro e0; have e0 : w.heap.size = w3.heap.size := e0; have := (Array.getElem?_eq_some_iff.1 HX3.out).1; omega)
  have hen : e.num = q := by rw [he]
  have HEC := Lib.hid (show e.cr = [] ∧ e.m = w3.heap.size by rw [he]; exact ⟨rfl, rfl⟩)
  clear hm4 ho4 hs4 hb4 hx4 hA4 hP4 hS4 hML hMF g3 hlk hnq hmm he
  obtain ⟨cc, hcc⟩ : ∃ cc, (crFind nm e.cr).getD zC = cc := ⟨_, rfl⟩
  have HCC := Lib.hid hcc
  have hcb := crFind_B HBE.out nm
  rw [hcc] at hcb
  have hok := HA.out.2.2.1 e (by simp)
  have HMI := Lib.hid (fun V (hB : Below w4.heap.size w4 V) => held_lookup3 (hok.1.only (F := fun _ => False) (Only.of_new hB) (fun h => h)) hok.2.1 hok.2.2 nm hcc)
  have HMO := Lib.hid (fun V (hB : Below w4.heap.size w4 V) => held_lookup1 (HA.out.2.1.only (F := fun _ => False) (Only.of_new hB) (fun h => h)) (HA.out.get (e := e) (by simp) HP.out HS.out))
  have G3 := Lib.hid (show w4.cell? ⟨g, 3, none⟩ = some (.map (some M)) from HA.out.cell 3 rfl)
  have X0 := Lib.hid (show w4.cell? ⟨w.heap.size, 0, none⟩ = some (encStr nm) by rw [cell_of_row _ _ _ _ _ _ HX.out]; rfl)
  have HEN := Lib.hid (show e.num = q from hen)
  rw [HEN.out] at HMO
  clear hcc hok
  go_wp2_with fail
  refine wp_region_noPanic ?_
  refine wp_region_held_drew (S := (fun w' => Below w4.heap.size w4 w')) (by kernel_rfl) ?_ (fun hHeld => ?_)
  · exact drew_below _
  refine wpAnyH_take (i := 0) (oi := _) (v := ?_) rfl (by kernel_rfl) (by kernel_rfl) (by kernel_rfl) (fun _ _ _ h => h) (Or.inl ⟨by rfl, ?_⟩) (by assumption) ?_
  rotate_left 1
  · (intro w hSw; (try dsimp only at hSw); go_simp; (try with_reducible rfl))
  try simp only [Act.put, List.getElem_toArray, List.getElem_cons_zero, List.setIfInBounds_toArray, List.set_cons_zero, List.set_cons_succ]
  refine wpAnyH_take (i := 1) (oi := _) (v := ?_) rfl (by kernel_rfl) (by kernel_rfl) (by kernel_rfl) (fun _ _ _ h => h) (Or.inl ⟨by rfl, ?_⟩) (by assumption) ?_
  rotate_left 1
  · (intro w hSw; (try dsimp only at hSw); go_simp; (try with_reducible rfl))
  try simp only [Act.put, List.getElem_toArray, List.getElem_cons_succ, List.getElem_cons_zero, List.setIfInBounds_toArray, List.set_cons_zero, List.set_cons_succ]
  refine wpAnyH_take (i := 2) (oi := _) (v := ?_) rfl (by kernel_rfl) (by kernel_rfl) (by kernel_rfl) (fun _ _ _ h => h) (Or.inl ⟨by rfl, ?_⟩) (by assumption) ?_
  rotate_left 1
  · (intro w hSw; (try dsimp only at hSw); go_simp; (try with_reducible rfl))
  try simp only [Act.put, List.getElem_toArray, List.getElem_cons_succ, List.getElem_cons_zero, List.setIfInBounds_toArray, List.set_cons_zero, List.set_cons_succ]
  refine wpAnyH_take (i := 3) (oi := _) (v := ?_) rfl (by kernel_rfl) (by kernel_rfl) (by kernel_rfl) (fun _ _ _ h => h) (Or.inl ⟨by rfl, ?_⟩) (by assumption) ?_
  rotate_left 1
  · (intro w hSw; (try dsimp only at hSw); (have q3 := keepc hSw G3.out; go_simp); (try with_reducible rfl))
  try simp only [Act.put, List.getElem_toArray, List.getElem_cons_succ, List.getElem_cons_zero, List.setIfInBounds_toArray, List.set_cons_zero, List.set_cons_succ]
  refine wpAnyH_take (i := 4) (oi := _) (v := ?_) rfl (by kernel_rfl) (by kernel_rfl) (by kernel_rfl) (fun _ _ _ h => h) (Or.inl ⟨by rfl, ?_⟩) (by assumption) ?_
  rotate_left 1
  · (intro w hSw; (try dsimp only at hSw); go_simp; (try with_reducible rfl))
  try simp only [Act.put, List.getElem_toArray, List.getElem_cons_succ, List.getElem_cons_zero, List.setIfInBounds_toArray, List.set_cons_zero, List.set_cons_succ]
  refine wpAnyH_take (i := 5) (oi := _) (v := ?_) rfl (by kernel_rfl) (by kernel_rfl) (by kernel_rfl) (fun _ _ _ h => h) (Or.inl ⟨by rfl, ?_⟩) (by assumption) ?_
  rotate_left 1
  · (intro w hSw; (try dsimp only at hSw); (have q5 := HMO.out _ hSw; go_simp); (try with_reducible rfl))
  try simp only [Act.put, List.getElem_toArray, List.getElem_cons_succ, List.getElem_cons_zero, List.setIfInBounds_toArray, List.set_cons_zero, List.set_cons_succ]
  refine wpAnyH_take (i := 6) (oi := _) (v := ?_) rfl (by kernel_rfl) (by kernel_rfl) (by kernel_rfl) (fun _ _ _ h => h) (Or.inl ⟨by rfl, ?_⟩) (by assumption) ?_
  rotate_left 1
  · (intro w hSw; (try dsimp only at hSw); go_simp; (try with_reducible rfl))
  try simp only [Act.put, List.getElem_toArray, List.getElem_cons_succ, List.getElem_cons_zero, List.setIfInBounds_toArray, List.set_cons_zero, List.set_cons_succ]
  refine wpAnyH_take (i := 7) (oi := _) (v := ?_) rfl (by kernel_rfl) (by kernel_rfl) (by kernel_rfl) (fun _ _ _ h => h) (Or.inl ⟨by rfl, ?_⟩) (by assumption) ?_
  rotate_left 1
  · (intro w hSw; (try dsimp only at hSw); (have q7 := keepc hSw X0.out; go_simp); (try with_reducible rfl))
  try simp only [Act.put, List.getElem_toArray, List.getElem_cons_succ, List.getElem_cons_zero, List.setIfInBounds_toArray, List.set_cons_zero, List.set_cons_succ]
  refine wpAnyH_take (i := 8) (oi := _) (v := ?_) rfl (by kernel_rfl) (by kernel_rfl) (by kernel_rfl) (fun _ _ _ h => h) (Or.inl ⟨by rfl, ?_⟩) (by assumption) ?_
  rotate_left 1
  · (intro w hSw; (try dsimp only at hSw); (have q8 := HMI.out _ hSw; go_simp); (try with_reducible rfl))
  try simp only [Act.put, List.getElem_toArray, List.getElem_cons_succ, List.getElem_cons_zero, List.setIfInBounds_toArray, List.set_cons_zero, List.set_cons_succ]
  refine wpAnyH_ready (rs := [9]) (by kernel_rfl) (by simp) ?_
  refine AllReadyH.cons (o := _) rfl (fun K hK => ?_) AllReadyH.nil
  go_simp
  refine hK.out _ _ ?_ (fun _ => ?_)
  · (first | exact bel1d' w4 _ | exact (Below.refl _ _).alloc (Nat.le_refl _) _)
  clear hK K
  try simp only [Act.put, List.getElem_toArray, List.getElem_cons_succ, List.getElem_cons_zero, List.setIfInBounds_toArray, List.set_cons_zero, List.set_cons_succ]
  refine wpAnyH_ready (rs := [10]) (by kernel_rfl) (by simp) ?_
  refine AllReadyH.cons (o := _) rfl (fun K hK => ?_) AllReadyH.nil
  go_simp
  refine hK.out _ _ ?_ (fun _ => ?_)
  · (first | exact bel1d' w4 _ | exact (Below.refl _ _).alloc (Nat.le_refl _) _)
  clear hK K
  try simp only [Act.put, List.getElem_toArray, List.getElem_cons_succ, List.getElem_cons_zero, List.setIfInBounds_toArray, List.set_cons_zero, List.set_cons_succ]
  refine wpAnyH_done (by kernel_rfl) ?_ _
  refine NoPanic.normal ?_
  obtain ⟨V1, hV1⟩ : ∃ V, V = (w4.alloc (.cells #[encStr cc.nm, .int .i64 cc.inc, .bool cc.over] 34)).drew := ⟨_, rfl⟩
  have HBV := Lib.hid (show Below w4.heap.size w4 V1 by rw [hV1]; exact bel1d' w4 _)
  have HC1 := Lib.hid (show V1.heap[w4.heap.size]? = some (.cells #[encStr cc.nm, .int .i64 cc.inc, .bool cc.over] 34 (0, 0)) by rw [hV1]; exact heap_alloc_new w4 _)
  have v1 : V1.cell? ⟨w4.heap.size, 1, none⟩ = some (.int .i64 cc.inc) := by rw [cell_of_row _ _ _ _ _ _ HC1.out]; rfl
  have v2 : V1.cell? ⟨w.heap.size, 2, none⟩ = some (.int .i64 inc) := by rw [cell_of_row _ _ _ _ _ _ (keeph' HBV.out HX.out)]; rfl
  rw [← hV1]
  clear hV1
  go_wp2_with fail
  refine (fixAdd_any V1 cc.inc inc hcb ⟨by omega, i2⟩).mono ?_
  rintro e1 w6 ⟨rfl, rfl⟩
  have hA1 := HA.out.below HBV.out
  have HA1 := Lib.hid hA1
  have hem : e.m ∈ (es ++ e :: []).map (·.m) := List.mem_map.2 ⟨e, by simp, rfl⟩
  have hnd := List.nodup_cons.1 hA1.2.2.2.1
  have hnd2 := List.nodup_cons.1 hnd.2
  have hgl := HA.out.lt g (by simp [wfoot])
  have hel := HA.out.lt e.m (by simp [wfoot])
  have hne1 : ¬ g = e.m := fun e0 => hnd.1 (by rw [e0]; exact List.mem_cons_of_mem _ hem)
  have hne2 : ¬ M = e.m := fun e0 => hnd2.1 (by rw [e0]; exact hem)
  have hne3 : ¬ w.heap.size = e.m := HXE.out
  have hne4 : ¬ w4.heap.size = e.m := by omega
  have HNE := Lib.hid (And.intro hne1 (And.intro hne2 (And.intro hne3 hne4)))
  have G3b := Lib.hid (keepc HBV.out G3.out)
  have X0b := Lib.hid (keepc HBV.out X0.out)
  have C2b := Lib.hid (show V1.cell? ⟨w4.heap.size, 2, none⟩ = some (.bool cc.over) by rw [cell_of_row _ _ _ _ _ _ HC1.out]; rfl)
  have HMM := Lib.hid hA1.2.1
  have HGT := Lib.hid (show mget q (wents (es ++ e :: [])) = some (.map (some e.m)) from HEN.out ▸ hA1.get (e := e) (by simp) HP.out HS.out)
  have HIN2 := Lib.hid (hA1.2.2.1 e (by simp))
  obtain ⟨sm, hsm⟩ : ∃ sm, satI (cc.inc + inc) = sm := ⟨_, rfl⟩
  obtain ⟨ov, hov⟩ : ∃ ov, decide (9223372036854775807 < cc.inc + inc) = ov := ⟨_, rfl⟩
  have HSM := Lib.hid hsm
  have HOV := Lib.hid hov
  rw [hsm, hov]
  clear v1 v2 hA1 hem hnd hnd2 hgl hel hne1 hne2 hne3 hne4 hsm hov
  cases hco : cc.over
  case false =>
    have C2c := Lib.hid (show V1.cell? ⟨w4.heap.size, 2, none⟩ = some (.bool false) from hco ▸ C2b.out)
    have HCO := Lib.hid hco
    clear hco
    go_wp2_with fail
    refine wp_region_noPanic ?_
    refine wp_region_held_drew (S := (fun w' => Only (· = e.m) V1 w')) (by kernel_rfl) ?_ (fun hHeld => ?_)
    · exact Only.of_new (drew_below V1)
    refine wpAnyH_take (i := 0) (oi := _) (v := ?_) rfl (by kernel_rfl) (by kernel_rfl) (by kernel_rfl) (fun _ _ _ h => h) (Or.inl ⟨by rfl, ?_⟩) (by assumption) ?_
    rotate_left 1
    · (intro w hSw; (try dsimp only at hSw); go_simp; (try with_reducible rfl))
    try simp only [Act.put, List.getElem_toArray, List.getElem_cons_zero, List.setIfInBounds_toArray, List.set_cons_zero, List.set_cons_succ]
    refine wpAnyH_take (i := 1) (oi := _) (v := ?_) rfl (by kernel_rfl) (by kernel_rfl) (by kernel_rfl) (fun _ _ _ h => h) (Or.inl ⟨by rfl, ?_⟩) (by assumption) ?_
    rotate_left 1
    · (intro w hSw; (try dsimp only at hSw); go_simp; (try with_reducible rfl))
    try simp only [Act.put, List.getElem_toArray, List.getElem_cons_succ, List.getElem_cons_zero, List.setIfInBounds_toArray, List.set_cons_zero, List.set_cons_succ]
    refine wpAnyH_take (i := 2) (oi := _) (v := ?_) rfl (by kernel_rfl) (by kernel_rfl) (by kernel_rfl) (fun _ _ _ h => h) (Or.inl ⟨by rfl, ?_⟩) (by assumption) ?_
    rotate_left 1
    · (intro w hSw; (try dsimp only at hSw); go_simp; (try with_reducible rfl))
    try simp only [Act.put, List.getElem_toArray, List.getElem_cons_succ, List.getElem_cons_zero, List.setIfInBounds_toArray, List.set_cons_zero, List.set_cons_succ]
    refine wpAnyH_take (i := 3) (oi := _) (v := ?_) rfl (by kernel_rfl) (by kernel_rfl) (by kernel_rfl) (fun _ _ _ h => h) (Or.inl ⟨by rfl, ?_⟩) (by assumption) ?_
    rotate_left 1
    · (intro w hSw; (try dsimp only at hSw); (have q3 := hSw.cell G3b.out HNE.out.1; go_simp); (try with_reducible rfl))
    try simp only [Act.put, List.getElem_toArray, List.getElem_cons_succ, List.getElem_cons_zero, List.setIfInBounds_toArray, List.set_cons_zero, List.set_cons_succ]
    refine wpAnyH_take (i := 4) (oi := _) (v := ?_) rfl (by kernel_rfl) (by kernel_rfl) (by kernel_rfl) (fun _ _ _ h => h) (Or.inl ⟨by rfl, ?_⟩) (by assumption) ?_
    rotate_left 1
    · (intro w hSw; (try dsimp only at hSw); go_simp; (try with_reducible rfl))
    try simp only [Act.put, List.getElem_toArray, List.getElem_cons_succ, List.getElem_cons_zero, List.setIfInBounds_toArray, List.set_cons_zero, List.set_cons_succ]
    refine wpAnyH_take (i := 5) (oi := _) (v := ?_) rfl (by kernel_rfl) (by kernel_rfl) (by kernel_rfl) (fun _ _ _ h => h) (Or.inl ⟨by rfl, ?_⟩) (by assumption) ?_
    rotate_left 1
    · (intro w hSw; (try dsimp only at hSw); (have q5 := held_lookup1 (HMM.out.only hSw HNE.out.2.1) HGT.out; go_simp); (try with_reducible rfl))
    try simp only [Act.put, List.getElem_toArray, List.getElem_cons_succ, List.getElem_cons_zero, List.setIfInBounds_toArray, List.set_cons_zero, List.set_cons_succ]
    refine wpAnyH_take (i := 6) (oi := _) (v := ?_) rfl (by kernel_rfl) (by kernel_rfl) (by kernel_rfl) (fun _ _ _ h => h) (Or.inl ⟨by rfl, ?_⟩) (by assumption) ?_
    rotate_left 1
    · (intro w hSw; (try dsimp only at hSw); go_simp; (try with_reducible rfl))
    try simp only [Act.put, List.getElem_toArray, List.getElem_cons_succ, List.getElem_cons_zero, List.setIfInBounds_toArray, List.set_cons_zero, List.set_cons_succ]
    refine wpAnyH_take (i := 7) (oi := _) (v := ?_) rfl (by kernel_rfl) (by kernel_rfl) (by kernel_rfl) (fun _ _ _ h => h) (Or.inl ⟨by rfl, ?_⟩) (by assumption) ?_
    rotate_left 1
    · (intro w hSw; (try dsimp only at hSw); (have q7 := hSw.cell X0b.out HNE.out.2.2.1; go_simp); (try with_reducible rfl))
    try simp only [Act.put, List.getElem_toArray, List.getElem_cons_succ, List.getElem_cons_zero, List.setIfInBounds_toArray, List.set_cons_zero, List.set_cons_succ]
    refine wpAnyH_take (i := 8) (oi := _) (v := ?_) rfl (by kernel_rfl) (by kernel_rfl) (by kernel_rfl) (fun _ _ _ h => h) (Or.inl ⟨by rfl, ?_⟩) (by assumption) ?_
    rotate_left 1
    · (intro w hSw; (try dsimp only at hSw); go_simp; (try with_reducible rfl))
    try simp only [Act.put, List.getElem_toArray, List.getElem_cons_succ, List.getElem_cons_zero, List.setIfInBounds_toArray, List.set_cons_zero, List.set_cons_succ]
    refine wpAnyH_take (i := 9) (oi := _) (v := ?_) rfl (by kernel_rfl) (by kernel_rfl) (by kernel_rfl) (fun _ _ _ h => h) (Or.inl ⟨by rfl, ?_⟩) (by assumption) ?_
    rotate_left 1
    · (intro w hSw; (try dsimp only at hSw); (have q7 := hSw.cell X0b.out HNE.out.2.2.1; go_simp); (try with_reducible rfl))
    try simp only [Act.put, List.getElem_toArray, List.getElem_cons_succ, List.getElem_cons_zero, List.setIfInBounds_toArray, List.set_cons_zero, List.set_cons_succ]
    refine wpAnyH_take (i := 10) (oi := _) (v := ?_) rfl (by kernel_rfl) (by kernel_rfl) (by kernel_rfl) (fun _ _ _ h => h) (Or.inl ⟨by rfl, ?_⟩) (by assumption) ?_
    rotate_left 1
    · (intro w hSw; (try dsimp only at hSw); go_simp; (try with_reducible rfl))
    try simp only [Act.put, List.getElem_toArray, List.getElem_cons_succ, List.getElem_cons_zero, List.setIfInBounds_toArray, List.set_cons_zero, List.set_cons_succ]
    refine wpAnyH_take (i := 11) (oi := _) (v := ?_) rfl (by kernel_rfl) (by kernel_rfl) (by kernel_rfl) (fun _ _ _ h => h) (Or.inl ⟨by rfl, ?_⟩) (by assumption) ?_
    rotate_left 1
    · (intro w hSw; (try dsimp only at hSw); go_simp; (try with_reducible rfl))
    try simp only [Act.put, List.getElem_toArray, List.getElem_cons_succ, List.getElem_cons_zero, List.setIfInBounds_toArray, List.set_cons_zero, List.set_cons_succ]
    refine wpAnyH_take (i := 12) (oi := _) (v := ?_) rfl (by kernel_rfl) (by kernel_rfl) (by kernel_rfl) (fun _ _ _ h => h) (Or.inl ⟨by rfl, ?_⟩) (by assumption) ?_
    rotate_left 1
    · (intro w hSw; (try dsimp only at hSw); (have q9 := hSw.cell C2c.out HNE.out.2.2.2; go_simp); (try with_reducible rfl))
    try simp only [Act.put, List.getElem_toArray, List.getElem_cons_succ, List.getElem_cons_zero, List.setIfInBounds_toArray, List.set_cons_zero, List.set_cons_succ]
    refine wpAnyH_take (i := 13) (oi := _) (v := ?_) rfl (by kernel_rfl) (by kernel_rfl) (by kernel_rfl) (fun _ _ _ h => h) (Or.inl ⟨by rfl, ?_⟩) (by assumption) ?_
    rotate_left 1
    · (intro w hSw; (try dsimp only at hSw); go_simp; (try with_reducible rfl))
    try simp only [Act.put, List.getElem_toArray, List.getElem_cons_succ, List.getElem_cons_zero, List.setIfInBounds_toArray, List.set_cons_zero, List.set_cons_succ]
    refine wpAnyH_take (i := 14) (oi := _) (v := ?_) rfl (by kernel_rfl) (by kernel_rfl) (by kernel_rfl) (fun _ _ _ h => h) (Or.inl ⟨by rfl, ?_⟩) (by assumption) ?_
    rotate_left 1
    · (intro w hSw; (try dsimp only at hSw); go_simp; (try with_reducible rfl))
    try simp only [Act.put, List.getElem_toArray, List.getElem_cons_succ, List.getElem_cons_zero, List.setIfInBounds_toArray, List.set_cons_zero, List.set_cons_succ]
    refine wpAnyH_take (i := 15) (oi := _) (v := ?_) rfl (by kernel_rfl) (by kernel_rfl) (by kernel_rfl) (fun _ _ _ h => h) (Or.inl ⟨by rfl, ?_⟩) (by assumption) ?_
    rotate_left 1
    · (intro w hSw; (try dsimp only at hSw); go_simp; (try with_reducible rfl))
    try simp only [Act.put, List.getElem_toArray, List.getElem_cons_succ, List.getElem_cons_zero, List.setIfInBounds_toArray, List.set_cons_zero, List.set_cons_succ]
    refine wpAnyH_take (i := 16) (oi := _) (v := ?_) rfl (by kernel_rfl) (by kernel_rfl) (by kernel_rfl) (fun _ _ _ h => h) (Or.inl ⟨by rfl, ?_⟩) (by assumption) ?_
    rotate_left 1
    · (intro w hSw; (try dsimp only at hSw); go_simp; (try with_reducible rfl))
    try simp only [Act.put, List.getElem_toArray, List.getElem_cons_succ, List.getElem_cons_zero, List.setIfInBounds_toArray, List.set_cons_zero, List.set_cons_succ]
    refine wpAnyH_ready (rs := [17]) (by kernel_rfl) (by simp) ?_
    refine AllReadyH.cons (o := _) rfl (fun K hK => ?_) AllReadyH.nil
    have hMe : MapAt encStr V1.drew e.m (ckv e.ks) := HIN2.out.1
    obtain ⟨ub, hup, hm2⟩ := run_update (P := Try.prog) sKey hMe Try.underlying66 nm (.agg #[encStr nm, .int .i64 sm, .bool ov])
    have hup2 : Sem.run Try.prog (Instr.mapUpdate 66 (.map (some e.m)) (encStr nm) (.agg #[encStr nm, .int .i64 sm, .bool ov])) V1.drew = .ok () (ChangeMaps.setBlock V1.drew e.m ub) := hup
    have hoU : Only (· = e.m) V1 (ChangeMaps.setBlock V1.drew e.m ub) := (Only.of_new (F := (· = e.m)) (drew_below V1)).trans ((Only.refl (· = e.m) V1.drew).setBlock e.m ub (fun _ => rfl)) (fun _ _ h => h)
    generalize ChangeMaps.setBlock V1.drew e.m ub = V2 at hup2 hm2 hoU
    clear hup
    go_simp
    refine hK.out _ _ ?_ (fun _ => ?_)
    · exact hoU
    clear hK K
    try simp only [Act.put, List.getElem_toArray, List.getElem_cons_succ, List.getElem_cons_zero, List.setIfInBounds_toArray, List.set_cons_zero, List.set_cons_succ]
    refine wpAnyH_done (by kernel_rfl) ?_ _
    refine NoPanic.normal ?_
    have hval : (.agg #[encStr nm, .int .i64 sm, .bool ov] : Value) = (crNew cc nm inc).val := by
      unfold crNew Cr.val
      rw [HSM.out, HOV.out, HCO.out]
      simp
    rw [hval] at hm2
    have hm3 : MapAt encStr V2 e.m (ckv (uset Cr.nm (crNew cc nm inc) e.ks)) := by
      rw [← mput_ckv]
      exact hm2
    have hks : (uset Cr.nm (crNew cc nm inc) e.ks).Perm (crPut nm inc e.cr) := by
      unfold crPut
      rw [HCC.out]
      exact uset_sset ordN _ HIN2.out.2.1 HIN2.out.2.2
    have hA2 := HA1.out.upd hoU hm3 hks (HIN2.out.2.2.set _)
    have hp2 := es_set (e := e) (e' := { e with ks := uset Cr.nm (crNew cc nm inc) e.ks, cr := crPut nm inc e.cr }) rfl HP.out HS.out
    have hs2 := HS.out.set (WE.vw { e with ks := uset Cr.nm (crNew cc nm inc) e.ks, cr := crPut nm inc e.cr })
    have h6 : V2.cell? ⟨g, 6, none⟩ = some (.int .i64 s.cred) := hA2.cell 6 rfl
    have z6 : V2.frozen? ⟨g, 6, none⟩ = false := frozen_of_row V2 _ _ _ _ hA2.1
    have l6 := World.block_lt_of_cell? V2 _ h6
    simp only at l6
    have hcr := HC.out.cred
    have hto := hA2.setTo (s' := { s with cred := s.cred + 1 }) hp2 hs2 6 (.int .i64 (s.cred + 1)) rfl
    have hff : wfoot g M (es ++ { e with ks := uset Cr.nm (crNew cc nm inc) e.ks, cr := crPut nm inc e.cr } :: []) = wfoot g M (es ++ e :: []) := by simp [wfoot]
    have hst : WinTo w4 B g (wfoot g M (es ++ e :: [])) { s with cred := s.cred + 1 } (wvSet (WE.vw { e with ks := uset Cr.nm (crNew cc nm inc) e.ks, cr := crPut nm inc e.cr }) (wvSet (WV.mk q []) L)) (V2.setCell ⟨g, 6, none⟩ (.int .i64 (s.cred + 1))) := by
      rw [hff] at hto
      obtain ⟨F9, k1, k2, k3⟩ := hto
      have ho9 := (Only.of_new (F := (· ∈ wfoot g M (es ++ e :: []))) HBV.out).trans hoU (fun k _ e0 => by rw [show k = e.m from e0]; simp [wfoot])
      exact ⟨F9, k1, ho9.trans k2 (fun _ _ h => h), fun k hk => (k3 k hk).elim .inl (fun h => .inr (Nat.le_trans ho9.size h))⟩
    have HFIN := Lib.hid (show AddP w B g F (false, [], { s with cred := s.cred + 1 }, wvPut q nm inc L) (.returned (.tuple #[.bool false, .slice none 0 0])) (V2.setCell ⟨g, 6, none⟩ (.int .i64 (s.cred + 1))) from by
      have h9 : wvSet (WE.vw { e with ks := uset Cr.nm (crNew cc nm inc) e.ks, cr := crPut nm inc e.cr }) (wvSet (WV.mk q []) L) = wvPut q nm inc L := by
        rw [← wvPut_new HNQ.out, HEC.out.1, ← HEN.out]
        rfl
      rw [← h9]
      refine AddP.fin (cl := []) (F1 := wfoot g M (es ++ e :: [])) (fun k hk => ?_) HO.out ?_ hst
      · simp only [wfoot, List.mem_cons, List.map_append, List.mem_append, List.map_cons, List.map_nil, List.not_mem_nil, or_false] at hk
        have hfs : ∀ k, k = g ∨ k = M ∨ k ∈ es.map (·.m) → k ∈ F := fun k h => HFS.out k (by simp only [wfoot, List.mem_cons]; exact h)
        rcases hk with hk | hk | hk | hk
        · exact .inl (hfs k (.inl hk))
        · exact .inl (hfs k (.inr (.inl hk)))
        · exact .inl (hfs k (.inr (.inr hk)))
        · have := HON.out.size
          have := HEC.out.2
          exact .inr (by omega)
      · exact WinsM.nil _ _)
    clear hm2 hm3 hks hA2 hp2 hs2 hto hff hst hval
    generalize hcd : s.cred = cd at h6 hcr
    have HCD := Lib.hid hcd
    clear hcd
    go_wp2
    go_ret2
    rw [← HCD.out]
    exact HFIN.out
  case true =>
    have C2c := Lib.hid (show V1.cell? ⟨w4.heap.size, 2, none⟩ = some (.bool true) from hco ▸ C2b.out)
    have HCO := Lib.hid hco
    clear hco
    go_wp2_with fail
    refine wp_region_noPanic ?_
    refine wp_region_held_drew (S := (fun w' => Only (· = e.m) V1 w')) (by kernel_rfl) ?_ (fun hHeld => ?_)
    · exact Only.of_new (drew_below V1)
    refine wpAnyH_take (i := 0) (oi := _) (v := ?_) rfl (by kernel_rfl) (by kernel_rfl) (by kernel_rfl) (fun _ _ _ h => h) (Or.inl ⟨by rfl, ?_⟩) (by assumption) ?_
    rotate_left 1
    · (intro w hSw; (try dsimp only at hSw); go_simp; (try with_reducible rfl))
    try simp only [Act.put, List.getElem_toArray, List.getElem_cons_zero, List.setIfInBounds_toArray, List.set_cons_zero, List.set_cons_succ]
    refine wpAnyH_take (i := 1) (oi := _) (v := ?_) rfl (by kernel_rfl) (by kernel_rfl) (by kernel_rfl) (fun _ _ _ h => h) (Or.inl ⟨by rfl, ?_⟩) (by assumption) ?_
    rotate_left 1
    · (intro w hSw; (try dsimp only at hSw); go_simp; (try with_reducible rfl))
    try simp only [Act.put, List.getElem_toArray, List.getElem_cons_succ, List.getElem_cons_zero, List.setIfInBounds_toArray, List.set_cons_zero, List.set_cons_succ]
    refine wpAnyH_take (i := 2) (oi := _) (v := ?_) rfl (by kernel_rfl) (by kernel_rfl) (by kernel_rfl) (fun _ _ _ h => h) (Or.inl ⟨by rfl, ?_⟩) (by assumption) ?_
    rotate_left 1
    · (intro w hSw; (try dsimp only at hSw); go_simp; (try with_reducible rfl))
    try simp only [Act.put, List.getElem_toArray, List.getElem_cons_succ, List.getElem_cons_zero, List.setIfInBounds_toArray, List.set_cons_zero, List.set_cons_succ]
    refine wpAnyH_take (i := 3) (oi := _) (v := ?_) rfl (by kernel_rfl) (by kernel_rfl) (by kernel_rfl) (fun _ _ _ h => h) (Or.inl ⟨by rfl, ?_⟩) (by assumption) ?_
    rotate_left 1
    · (intro w hSw; (try dsimp only at hSw); (have q3 := hSw.cell G3b.out HNE.out.1; go_simp); (try with_reducible rfl))
    try simp only [Act.put, List.getElem_toArray, List.getElem_cons_succ, List.getElem_cons_zero, List.setIfInBounds_toArray, List.set_cons_zero, List.set_cons_succ]
    refine wpAnyH_take (i := 4) (oi := _) (v := ?_) rfl (by kernel_rfl) (by kernel_rfl) (by kernel_rfl) (fun _ _ _ h => h) (Or.inl ⟨by rfl, ?_⟩) (by assumption) ?_
    rotate_left 1
    · (intro w hSw; (try dsimp only at hSw); go_simp; (try with_reducible rfl))
    try simp only [Act.put, List.getElem_toArray, List.getElem_cons_succ, List.getElem_cons_zero, List.setIfInBounds_toArray, List.set_cons_zero, List.set_cons_succ]
    refine wpAnyH_take (i := 5) (oi := _) (v := ?_) rfl (by kernel_rfl) (by kernel_rfl) (by kernel_rfl) (fun _ _ _ h => h) (Or.inl ⟨by rfl, ?_⟩) (by assumption) ?_
    rotate_left 1
    · (intro w hSw; (try dsimp only at hSw); (have q5 := held_lookup1 (HMM.out.only hSw HNE.out.2.1) HGT.out; go_simp); (try with_reducible rfl))
    try simp only [Act.put, List.getElem_toArray, List.getElem_cons_succ, List.getElem_cons_zero, List.setIfInBounds_toArray, List.set_cons_zero, List.set_cons_succ]
    refine wpAnyH_take (i := 6) (oi := _) (v := ?_) rfl (by kernel_rfl) (by kernel_rfl) (by kernel_rfl) (fun _ _ _ h => h) (Or.inl ⟨by rfl, ?_⟩) (by assumption) ?_
    rotate_left 1
    · (intro w hSw; (try dsimp only at hSw); go_simp; (try with_reducible rfl))
    try simp only [Act.put, List.getElem_toArray, List.getElem_cons_succ, List.getElem_cons_zero, List.setIfInBounds_toArray, List.set_cons_zero, List.set_cons_succ]
    refine wpAnyH_take (i := 7) (oi := _) (v := ?_) rfl (by kernel_rfl) (by kernel_rfl) (by kernel_rfl) (fun _ _ _ h => h) (Or.inl ⟨by rfl, ?_⟩) (by assumption) ?_
    rotate_left 1
    · (intro w hSw; (try dsimp only at hSw); (have q7 := hSw.cell X0b.out HNE.out.2.2.1; go_simp); (try with_reducible rfl))
    try simp only [Act.put, List.getElem_toArray, List.getElem_cons_succ, List.getElem_cons_zero, List.setIfInBounds_toArray, List.set_cons_zero, List.set_cons_succ]
    refine wpAnyH_take (i := 8) (oi := _) (v := ?_) rfl (by kernel_rfl) (by kernel_rfl) (by kernel_rfl) (fun _ _ _ h => h) (Or.inl ⟨by rfl, ?_⟩) (by assumption) ?_
    rotate_left 1
    · (intro w hSw; (try dsimp only at hSw); go_simp; (try with_reducible rfl))
    try simp only [Act.put, List.getElem_toArray, List.getElem_cons_succ, List.getElem_cons_zero, List.setIfInBounds_toArray, List.set_cons_zero, List.set_cons_succ]
    refine wpAnyH_take (i := 9) (oi := _) (v := ?_) rfl (by kernel_rfl) (by kernel_rfl) (by kernel_rfl) (fun _ _ _ h => h) (Or.inl ⟨by rfl, ?_⟩) (by assumption) ?_
    rotate_left 1
    · (intro w hSw; (try dsimp only at hSw); (have q7 := hSw.cell X0b.out HNE.out.2.2.1; go_simp); (try with_reducible rfl))
    try simp only [Act.put, List.getElem_toArray, List.getElem_cons_succ, List.getElem_cons_zero, List.setIfInBounds_toArray, List.set_cons_zero, List.set_cons_succ]
    refine wpAnyH_take (i := 10) (oi := _) (v := ?_) rfl (by kernel_rfl) (by kernel_rfl) (by kernel_rfl) (fun _ _ _ h => h) (Or.inl ⟨by rfl, ?_⟩) (by assumption) ?_
    rotate_left 1
    · (intro w hSw; (try dsimp only at hSw); go_simp; (try with_reducible rfl))
    try simp only [Act.put, List.getElem_toArray, List.getElem_cons_succ, List.getElem_cons_zero, List.setIfInBounds_toArray, List.set_cons_zero, List.set_cons_succ]
    refine wpAnyH_take (i := 11) (oi := _) (v := ?_) rfl (by kernel_rfl) (by kernel_rfl) (by kernel_rfl) (fun _ _ _ h => h) (Or.inl ⟨by rfl, ?_⟩) (by assumption) ?_
    rotate_left 1
    · (intro w hSw; (try dsimp only at hSw); go_simp; (try with_reducible rfl))
    try simp only [Act.put, List.getElem_toArray, List.getElem_cons_succ, List.getElem_cons_zero, List.setIfInBounds_toArray, List.set_cons_zero, List.set_cons_succ]
    refine wpAnyH_take (i := 12) (oi := _) (v := ?_) rfl (by kernel_rfl) (by kernel_rfl) (by kernel_rfl) (fun _ _ _ h => h) (Or.inl ⟨by rfl, ?_⟩) (by assumption) ?_
    rotate_left 1
    · (intro w hSw; (try dsimp only at hSw); (have q9 := hSw.cell C2c.out HNE.out.2.2.2; go_simp); (try with_reducible rfl))
    try simp only [Act.put, List.getElem_toArray, List.getElem_cons_succ, List.getElem_cons_zero, List.setIfInBounds_toArray, List.set_cons_zero, List.set_cons_succ]
    refine wpAnyH_take (i := 13) (oi := _) (v := ?_) rfl (by kernel_rfl) (by kernel_rfl) (by kernel_rfl) (fun _ _ _ h => h) (Or.inl ⟨by rfl, ?_⟩) (by assumption) ?_
    rotate_left 1
    · (intro w hSw; (try dsimp only at hSw); go_simp; (try with_reducible rfl))
    try simp only [Act.put, List.getElem_toArray, List.getElem_cons_succ, List.getElem_cons_zero, List.setIfInBounds_toArray, List.set_cons_zero, List.set_cons_succ]
    refine wpAnyH_take (i := 14) (oi := _) (v := undef) rfl (by kernel_rfl) (by kernel_rfl) (by kernel_rfl) (fun _ _ _ h => h) (Or.inr ⟨by rfl, rfl⟩) (by assumption) ?_
    try simp only [Act.put, List.getElem_toArray, List.getElem_cons_succ, List.getElem_cons_zero, List.setIfInBounds_toArray, List.set_cons_zero, List.set_cons_succ]
    refine wpAnyH_take (i := 15) (oi := _) (v := ?_) rfl (by kernel_rfl) (by kernel_rfl) (by kernel_rfl) (fun _ _ _ h => h) (Or.inl ⟨by rfl, ?_⟩) (by assumption) ?_
    rotate_left 1
    · (intro w hSw; (try dsimp only at hSw); go_simp; (try with_reducible rfl))
    try simp only [Act.put, List.getElem_toArray, List.getElem_cons_succ, List.getElem_cons_zero, List.setIfInBounds_toArray, List.set_cons_zero, List.set_cons_succ]
    refine wpAnyH_take (i := 16) (oi := _) (v := ?_) rfl (by kernel_rfl) (by kernel_rfl) (by kernel_rfl) (fun _ _ _ h => h) (Or.inl ⟨by rfl, ?_⟩) (by assumption) ?_
    rotate_left 1
    · (intro w hSw; (try dsimp only at hSw); go_simp; (try with_reducible rfl))
    try simp only [Act.put, List.getElem_toArray, List.getElem_cons_succ, List.getElem_cons_zero, List.setIfInBounds_toArray, List.set_cons_zero, List.set_cons_succ]
    refine wpAnyH_ready (rs := [17]) (by kernel_rfl) (by simp) ?_
    refine AllReadyH.cons (o := _) rfl (fun K hK => ?_) AllReadyH.nil
    have hMe : MapAt encStr V1.drew e.m (ckv e.ks) := HIN2.out.1
    obtain ⟨ub, hup, hm2⟩ := run_update (P := Try.prog) sKey hMe Try.underlying66 nm (.agg #[encStr nm, .int .i64 sm, .bool true])
    have hup2 : Sem.run Try.prog (Instr.mapUpdate 66 (.map (some e.m)) (encStr nm) (.agg #[encStr nm, .int .i64 sm, .bool true])) V1.drew = .ok () (ChangeMaps.setBlock V1.drew e.m ub) := hup
    have hoU : Only (· = e.m) V1 (ChangeMaps.setBlock V1.drew e.m ub) := (Only.of_new (F := (· = e.m)) (drew_below V1)).trans ((Only.refl (· = e.m) V1.drew).setBlock e.m ub (fun _ => rfl)) (fun _ _ h => h)
    generalize ChangeMaps.setBlock V1.drew e.m ub = V2 at hup2 hm2 hoU
    clear hup
    go_simp
    refine hK.out _ _ ?_ (fun _ => ?_)
    · exact hoU
    clear hK K
    try simp only [Act.put, List.getElem_toArray, List.getElem_cons_succ, List.getElem_cons_zero, List.setIfInBounds_toArray, List.set_cons_zero, List.set_cons_succ]
    refine wpAnyH_done (by kernel_rfl) ?_ _
    refine NoPanic.normal ?_
    have hval : (.agg #[encStr nm, .int .i64 sm, .bool true] : Value) = (crNew cc nm inc).val := by
      unfold crNew Cr.val
      rw [HSM.out, HOV.out, HCO.out]
      simp
    rw [hval] at hm2
    have hm3 : MapAt encStr V2 e.m (ckv (uset Cr.nm (crNew cc nm inc) e.ks)) := by
      rw [← mput_ckv]
      exact hm2
    have hks : (uset Cr.nm (crNew cc nm inc) e.ks).Perm (crPut nm inc e.cr) := by
      unfold crPut
      rw [HCC.out]
      exact uset_sset ordN _ HIN2.out.2.1 HIN2.out.2.2
    have hA2 := HA1.out.upd hoU hm3 hks (HIN2.out.2.2.set _)
    have hp2 := es_set (e := e) (e' := { e with ks := uset Cr.nm (crNew cc nm inc) e.ks, cr := crPut nm inc e.cr }) rfl HP.out HS.out
    have hs2 := HS.out.set (WE.vw { e with ks := uset Cr.nm (crNew cc nm inc) e.ks, cr := crPut nm inc e.cr })
    have h6 : V2.cell? ⟨g, 6, none⟩ = some (.int .i64 s.cred) := hA2.cell 6 rfl
    have z6 : V2.frozen? ⟨g, 6, none⟩ = false := frozen_of_row V2 _ _ _ _ hA2.1
    have l6 := World.block_lt_of_cell? V2 _ h6
    simp only at l6
    have hcr := HC.out.cred
    have hto := hA2.setTo (s' := { s with cred := s.cred + 1 }) hp2 hs2 6 (.int .i64 (s.cred + 1)) rfl
    have hff : wfoot g M (es ++ { e with ks := uset Cr.nm (crNew cc nm inc) e.ks, cr := crPut nm inc e.cr } :: []) = wfoot g M (es ++ e :: []) := by simp [wfoot]
    have hst : WinTo w4 B g (wfoot g M (es ++ e :: [])) { s with cred := s.cred + 1 } (wvSet (WE.vw { e with ks := uset Cr.nm (crNew cc nm inc) e.ks, cr := crPut nm inc e.cr }) (wvSet (WV.mk q []) L)) (V2.setCell ⟨g, 6, none⟩ (.int .i64 (s.cred + 1))) := by
      rw [hff] at hto
      obtain ⟨F9, k1, k2, k3⟩ := hto
      have ho9 := (Only.of_new (F := (· ∈ wfoot g M (es ++ e :: []))) HBV.out).trans hoU (fun k _ e0 => by rw [show k = e.m from e0]; simp [wfoot])
      exact ⟨F9, k1, ho9.trans k2 (fun _ _ h => h), fun k hk => (k3 k hk).elim .inl (fun h => .inr (Nat.le_trans ho9.size h))⟩
    have HFIN := Lib.hid (show AddP w B g F (false, [], { s with cred := s.cred + 1 }, wvPut q nm inc L) (.returned (.tuple #[.bool false, .slice none 0 0])) (V2.setCell ⟨g, 6, none⟩ (.int .i64 (s.cred + 1))) from by
      have h9 : wvSet (WE.vw { e with ks := uset Cr.nm (crNew cc nm inc) e.ks, cr := crPut nm inc e.cr }) (wvSet (WV.mk q []) L) = wvPut q nm inc L := by
        rw [← wvPut_new HNQ.out, HEC.out.1, ← HEN.out]
        rfl
      rw [← h9]
      refine AddP.fin (cl := []) (F1 := wfoot g M (es ++ e :: [])) (fun k hk => ?_) HO.out ?_ hst
      · simp only [wfoot, List.mem_cons, List.map_append, List.mem_append, List.map_cons, List.map_nil, List.not_mem_nil, or_false] at hk
        have hfs : ∀ k, k = g ∨ k = M ∨ k ∈ es.map (·.m) → k ∈ F := fun k h => HFS.out k (by simp only [wfoot, List.mem_cons]; exact h)
        rcases hk with hk | hk | hk | hk
        · exact .inl (hfs k (.inl hk))
        · exact .inl (hfs k (.inr (.inl hk)))
        · exact .inl (hfs k (.inr (.inr hk)))
        · have := HON.out.size
          have := HEC.out.2
          exact .inr (by omega)
      · exact WinsM.nil _ _)
    clear hm2 hm3 hks hA2 hp2 hs2 hto hff hst hval
    generalize hcd : s.cred = cd at h6 hcr
    have HCD := Lib.hid hcd
    clear hcd
    go_wp2
    go_ret2
    rw [← HCD.out]
    exact HFIN.out
theorem wdel_head {v : WV} {t : List WV} (hs : WS (v :: t)) : wdel v.num (v :: t) = t := by
  unfold WS at hs
  rw [List.map_cons, List.pairwise_cons] at hs
  unfold wdel
  rw [List.filter_cons]
  have hf : t.filter (fun u => decide (u.num ≠ v.num)) = t := List.filter_eq_self.2 fun u hu => by
    simp only [decide_eq_true_eq]
    have := hs.1 u.num (List.mem_map.2 ⟨u, hu, rfl⟩)
    omega
  rw [hf]
  simp
set_option maxHeartbeats 8000000 in
set_option maxRecDepth 100000 in
theorem add_full (h : WinIs w B g s L F) (hb : WBd L) (hc : SOk s) (nm : List UInt8) (time inc q : Int) (rst : Bool) (htm : ¬ time < 0 ∧ ¬ 1125899906842624 < time) (hinc : ¬ inc < 0 ∧ inc ≤ 9223372036854775807) (hq : time.tdiv s.len = q) (hfl : ¬ q ≤ s.floor) (hno : q ∉ L.map (·.num)) (hfull : s.most ≤ (L.length : Int)) {v : WV} {t : List WV} (hL : L = v :: t) (hlt : ¬ q < v.num) :
    Calls Try.prog 13 #[.pointer (some ⟨g, 0, none⟩), .agg #[encStr nm, .int .i64 time, .int .i64 inc, .bool rst]] w (AddP w B g F (false, [v], { s with floor := max s.floor v.num, cred := s.cred + 1 }, wvPut q nm inc t)) := by
  have HW := Lib.hid (fun W (hB : Below w.heap.size w W) => h.new hB)
  have HFW := Lib.hid (fun k hk => (h.in k hk).2)
  have HNN := Lib.hid (fun W (hB : Below w.heap.size w W) => (show Calls Try.prog 27 #[.pointer (some ⟨g, 0, none⟩)] W fun e w' => e = .returned (.bool false) ∧ W = w' from by
    obtain ⟨M, es, h1, -⟩ := h
    exact none_any (h1.below hB) hc.len.1))
  have HGS := Lib.hid (fun W (hB : Below w.heap.size w W) => (show W.cell? ⟨g, 0, none⟩ = some (.int .i64 s.len) ∧ W.cell? ⟨g, 4, none⟩ = some (.int .i64 s.floor) ∧ g < w.heap.size from by
    obtain ⟨M, es, h1, -⟩ := h
    exact ⟨(h1.below hB).cell 0 rfl, (h1.below hB).cell 4 rfl, h1.lt g (by simp [wfoot])⟩))
  have HC := Lib.hid hc
  have HBD := Lib.hid hb
  have hlen := hc.len
  obtain ⟨t1, t2⟩ := htm
  obtain ⟨i1, i2⟩ := hinc
  have htd : time.tdiv s.len = time / s.len := Int.tdiv_eq_ediv_of_nonneg (by omega)
  rw [htd] at hq
  clear h hc hb htd
  go_enter Try.func13, Try.ntmps13
  go_wp2_with fail
  obtain ⟨W1, hW1⟩ : ∃ V, V = w.alloc (.cells #[encStr nm, .int .i64 time, .int .i64 inc, .bool rst] 37) := ⟨_, rfl⟩
  have HB1 := Lib.hid (show Below w.heap.size w W1 by rw [hW1]; exact (Below.refl _ _).alloc (Nat.le_refl _) _)
  have hX := (show W1.heap[w.heap.size]? = some (.cells #[encStr nm, .int .i64 time, .int .i64 inc, .bool rst] 37 (0, 0)) by rw [hW1]; exact heap_alloc_new w _)
  rw [← hW1]
  clear hW1
  refine (HNN.out W1 HB1.out).mono ?_
  rintro e w2 ⟨rfl, rfl⟩
  have x1 : W1.cell? ⟨w.heap.size, 1, none⟩ = some (.int .i64 time) := by rw [cell_of_row _ _ _ _ _ _ hX]; rfl
  have x2 : W1.cell? ⟨w.heap.size, 2, none⟩ = some (.int .i64 inc) := by rw [cell_of_row _ _ _ _ _ _ hX]; rfl
  have g0 : W1.cell? ⟨g, 0, none⟩ = some (.int .i64 s.len) := (HGS.out W1 HB1.out).1
  have g4 : W1.cell? ⟨g, 4, none⟩ = some (.int .i64 s.floor) := (HGS.out W1 HB1.out).2.1
  have HX1 := Lib.hid hX
  generalize hsl : s.len = ln at g0 hq hlen
  generalize hsf : s.floor = fl at g4 hfl
  clear hX hsl hsf
  have hz : (ln == 0) = false := by rw [beq_eq_false_iff_ne]; omega
  have hz2 : ln ≠ 0 := by omega
  have HQ := Lib.hid hq
  clear hq
  go_wp2_with fail
  go_quiet (fail)
  rw [HQ.out]
  clear hz hz2
  obtain ⟨W2, hW2⟩ : ∃ V, V = W1.drewN nq := ⟨_, rfl⟩
  have HB2 := Lib.hid (show Below w.heap.size w W2 by rw [hW2]; exact below_drewN' HB1.out _)
  have HX2 := Lib.hid (show W2.heap[w.heap.size]? = some (.cells #[encStr nm, .int .i64 time, .int .i64 inc, .bool rst] 37 (0, 0)) by rw [hW2]; exact HX1.out)
  have y1 : W2.cell? ⟨w.heap.size, 1, none⟩ = some (.int .i64 time) := by rw [cell_of_row _ _ _ _ _ _ HX2.out]; rfl
  have y2 : W2.cell? ⟨w.heap.size, 2, none⟩ = some (.int .i64 inc) := by rw [cell_of_row _ _ _ _ _ _ HX2.out]; rfl
  have g42 : W2.cell? ⟨g, 4, none⟩ = some (.int .i64 fl) := by rw [hW2]; exact g4
  rw [← hW2]
  clear hW2 x1 x2 g0 g4 HX1
  go_wp2_with fail
  clear y1 y2 g42 hfl t1 t2
  have hR := room_full (HW.out W2 HB2.out) HBD.out q hno hfull hL
  have hlt2 : ¬ q < v.num := by omega
  simp only [if_neg hlt2] at hR
  have HNQ := Lib.hid (show q ∉ t.map (·.num) from fun h => hno (by rw [hL]; exact List.mem_cons_of_mem _ h))
  obtain ⟨M0, es0, -, -, hS0, -⟩ := HW.out w (Below.refl _ _)
  have hwd : wdel v.num L = t := by rw [hL] at hS0 ⊢; exact wdel_head hS0
  unfold RoomC at hR
  rw [hwd] at hR
  clear hno hfull hwd hS0
  refine hR.mono ?_
  rintro e0 w3 ⟨ad, rfl, hwm, F', ⟨M, es, hA, hP, hS, hFe⟩, hO3, hF3⟩
  have HX3 := Lib.hid (hO3.heap HX2.out (fun e0 => by have := HFW.out _ e0; omega))
  have HON := Lib.hid (show Only (· ∈ F) w w3 from (Only.of_new (F := (· ∈ F)) HB2.out).trans hO3 (fun _ _ h => h))
  have HFS := Lib.hid (show ∀ k ∈ wfoot g M es, k ∈ F from fun k hk => hF3 k (by rw [hFe]; exact hk))
  have HWM := Lib.hid hwm
  have HO3 := Lib.hid hO3
  clear hR hwm hO3 hF3 hFe hL hlt hlt2
  have hnd0 := List.nodup_cons.1 hA.2.2.2.1
  have HMA := Lib.hid (fun V (hB : Below w3.heap.size w3 V) => hA.2.1.only (F := fun _ => False) (Only.of_new hB) (fun h => h))
  have hno2 : mget q (wents es) = none := by
    have h9 := mget_wents_iff hP hS q
    rw [decide_eq_false HNQ.out] at h9
    cases hm : mget q (wents es) with
    | none => rfl
    | some u => rw [hm] at h9; cases h9
  have HNO := Lib.hid hno2
  have HAA := Lib.hid hA
  have HPP := Lib.hid hP
  have HSS := Lib.hid hS
  have g3 : w3.cell? ⟨g, 3, none⟩ = some (.map (some M)) := hA.cell 3 rfl
  have hlk : Sem.run Try.prog (Instr.lookup 60 (.map (some M)) (.int .i64 q) false) w3 = .ok (.map none) w3 := by
    have h9 := run_lookup iKey hA.2.1 Try.underlying60 (.map none) (zMapC w3) q false
    rw [hno2] at h9
    exact h9
  have hnq := map_nil_eq0 w3
  have hmm := @run_makeMap Try.prog
  clear hnd0 hno2 hA hP hS
  go_wp2_with (first
    | (with_reducible refine step_update iKey rfl _ _ _ _ rfl Try.underlying60 rfl (HMA.out _ ((Below.refl _ w3).alloc (Nat.le_refl _) _)) q rfl _ rfl ?_)
    | fail)
  intro w4 hm4 ho4 hs4
  have hb4 : Below w3.heap.size w3 (w3.alloc (.map #[] 0)) := (Below.refl _ _).alloc (Nat.le_refl _) _
  have hx4 : MapAt encStr (w3.alloc (.map #[] 0)) w3.heap.size [] := ⟨#[], 0, heap_alloc_new w3 _, rfl, by simp, by simp⟩
  have hA4 := HAA.out.more q w3.heap.size (Nat.le_refl _) hb4 hx4 hm4 ho4 HNO.out
  have hP4 := es_more HPP.out HSS.out q w3.heap.size HNQ.out
  have hS4 := HSS.out.set (WV.mk q [])
  have hML := HAA.out.2.1.lt
  have hMF := HFW.out M (HFS.out M (by simp [wfoot]))
  have HX := Lib.hid (ho4.heap (keeph' hb4 HX3.out) (fun e0 => by have e0 : w.heap.size = M := e0; omega))
  have HO := Lib.hid (show Only (· ∈ F) w w4 from (HON.out.trans (G := fun _ => False) (Only.of_new hb4) (fun _ _ h => h.elim)).trans ho4 (fun k _ e0 => by rw [show k = M from e0]; exact HFS.out M (by simp [wfoot])))
  have HO4 := Lib.hid (show Only (· ∈ F) w3 w4 from (Only.of_new (F := (· ∈ F)) hb4).trans ho4 (fun k _ e0 => by rw [show k = M from e0]; exact HFS.out M (by simp [wfoot])))
  obtain ⟨e, he⟩ : ∃ e, e = WE.mk q w3.heap.size [] [] := ⟨_, rfl⟩
  have HA := Lib.hid (show WinAt w4 B g M { s with floor := max s.floor v.num } (es ++ e :: []) by rw [he]; exact hA4)
  have HP := Lib.hid (show ((es ++ e :: []).map WE.vw).Perm (wvSet (WV.mk q []) t) by rw [he]; exact hP4)
  have HS := Lib.hid hS4
  have HBE := Lib.hid (show ∀ c ∈ e.cr, CrB c by rw [he]; intro c hc; cases hc)
  have HXE := Lib.hid (show ¬ w.heap.size = e.m by rw [he]; intro e0; have e0 : w.heap.size = w3.heap.size := e0; have := (Array.getElem?_eq_some_iff.1 HX3.out).1; omega)
  have hen : e.num = q := by rw [he]
  have HEC := Lib.hid (show e.cr = [] ∧ e.m = w3.heap.size by rw [he]; exact ⟨rfl, rfl⟩)
  clear hm4 ho4 hs4 hb4 hx4 hA4 hP4 hS4 hML hMF g3 hlk hnq hmm he
  obtain ⟨cc, hcc⟩ : ∃ cc, (crFind nm e.cr).getD zC = cc := ⟨_, rfl⟩
  have HCC := Lib.hid hcc
  have hcb := crFind_B HBE.out nm
  rw [hcc] at hcb
  have hok := HA.out.2.2.1 e (by simp)
  have HMI := Lib.hid (fun V (hB : Below w4.heap.size w4 V) => held_lookup3 (hok.1.only (F := fun _ => False) (Only.of_new hB) (fun h => h)) hok.2.1 hok.2.2 nm hcc)
  have HMO := Lib.hid (fun V (hB : Below w4.heap.size w4 V) => held_lookup1 (HA.out.2.1.only (F := fun _ => False) (Only.of_new hB) (fun h => h)) (HA.out.get (e := e) (by simp) HP.out HS.out))
  have G3 := Lib.hid (show w4.cell? ⟨g, 3, none⟩ = some (.map (some M)) from HA.out.cell 3 rfl)
  have X0 := Lib.hid (show w4.cell? ⟨w.heap.size, 0, none⟩ = some (encStr nm) by rw [cell_of_row _ _ _ _ _ _ HX.out]; rfl)
  have HEN := Lib.hid (show e.num = q from hen)
  rw [HEN.out] at HMO
  clear hcc hok
  go_wp2_with fail
  refine wp_region_noPanic ?_
  refine wp_region_held_drew (S := (fun w' => Below w4.heap.size w4 w')) (by kernel_rfl) ?_ (fun hHeld => ?_)
  · exact drew_below _
  refine wpAnyH_take (i := 0) (oi := _) (v := ?_) rfl (by kernel_rfl) (by kernel_rfl) (by kernel_rfl) (fun _ _ _ h => h) (Or.inl ⟨by rfl, ?_⟩) (by assumption) ?_
  rotate_left 1
  · (intro w hSw; (try dsimp only at hSw); go_simp; (try with_reducible rfl))
  try simp only [Act.put, List.getElem_toArray, List.getElem_cons_zero, List.setIfInBounds_toArray, List.set_cons_zero, List.set_cons_succ]
  refine wpAnyH_take (i := 1) (oi := _) (v := ?_) rfl (by kernel_rfl) (by kernel_rfl) (by kernel_rfl) (fun _ _ _ h => h) (Or.inl ⟨by rfl, ?_⟩) (by assumption) ?_
  rotate_left 1
  · (intro w hSw; (try dsimp only at hSw); go_simp; (try with_reducible rfl))
  try simp only [Act.put, List.getElem_toArray, List.getElem_cons_succ, List.getElem_cons_zero, List.setIfInBounds_toArray, List.set_cons_zero, List.set_cons_succ]
  refine wpAnyH_take (i := 2) (oi := _) (v := ?_) rfl (by kernel_rfl) (by kernel_rfl) (by kernel_rfl) (fun _ _ _ h => h) (Or.inl ⟨by rfl, ?_⟩) (by assumption) ?_
  rotate_left 1
  · (intro w hSw; (try dsimp only at hSw); go_simp; (try with_reducible rfl))
  try simp only [Act.put, List.getElem_toArray, List.getElem_cons_succ, List.getElem_cons_zero, List.setIfInBounds_toArray, List.set_cons_zero, List.set_cons_succ]
  refine wpAnyH_take (i := 3) (oi := _) (v := ?_) rfl (by kernel_rfl) (by kernel_rfl) (by kernel_rfl) (fun _ _ _ h => h) (Or.inl ⟨by rfl, ?_⟩) (by assumption) ?_
  rotate_left 1
  · (intro w hSw; (try dsimp only at hSw); (have q3 := keepc hSw G3.out; go_simp); (try with_reducible rfl))
  try simp only [Act.put, List.getElem_toArray, List.getElem_cons_succ, List.getElem_cons_zero, List.setIfInBounds_toArray, List.set_cons_zero, List.set_cons_succ]
  refine wpAnyH_take (i := 4) (oi := _) (v := ?_) rfl (by kernel_rfl) (by kernel_rfl) (by kernel_rfl) (fun _ _ _ h => h) (Or.inl ⟨by rfl, ?_⟩) (by assumption) ?_
  rotate_left 1
  · (intro w hSw; (try dsimp only at hSw); go_simp; (try with_reducible rfl))
  try simp only [Act.put, List.getElem_toArray, List.getElem_cons_succ, List.getElem_cons_zero, List.setIfInBounds_toArray, List.set_cons_zero, List.set_cons_succ]
  refine wpAnyH_take (i := 5) (oi := _) (v := ?_) rfl (by kernel_rfl) (by kernel_rfl) (by kernel_rfl) (fun _ _ _ h => h) (Or.inl ⟨by rfl, ?_⟩) (by assumption) ?_
  rotate_left 1
  · (intro w hSw; (try dsimp only at hSw); (have q5 := HMO.out _ hSw; go_simp); (try with_reducible rfl))
  try simp only [Act.put, List.getElem_toArray, List.getElem_cons_succ, List.getElem_cons_zero, List.setIfInBounds_toArray, List.set_cons_zero, List.set_cons_succ]
  refine wpAnyH_take (i := 6) (oi := _) (v := ?_) rfl (by kernel_rfl) (by kernel_rfl) (by kernel_rfl) (fun _ _ _ h => h) (Or.inl ⟨by rfl, ?_⟩) (by assumption) ?_
  rotate_left 1
  · (intro w hSw; (try dsimp only at hSw); go_simp; (try with_reducible rfl))
  try simp only [Act.put, List.getElem_toArray, List.getElem_cons_succ, List.getElem_cons_zero, List.setIfInBounds_toArray, List.set_cons_zero, List.set_cons_succ]
  refine wpAnyH_take (i := 7) (oi := _) (v := ?_) rfl (by kernel_rfl) (by kernel_rfl) (by kernel_rfl) (fun _ _ _ h => h) (Or.inl ⟨by rfl, ?_⟩) (by assumption) ?_
  rotate_left 1
  · (intro w hSw; (try dsimp only at hSw); (have q7 := keepc hSw X0.out; go_simp); (try with_reducible rfl))
  try simp only [Act.put, List.getElem_toArray, List.getElem_cons_succ, List.getElem_cons_zero, List.setIfInBounds_toArray, List.set_cons_zero, List.set_cons_succ]
  refine wpAnyH_take (i := 8) (oi := _) (v := ?_) rfl (by kernel_rfl) (by kernel_rfl) (by kernel_rfl) (fun _ _ _ h => h) (Or.inl ⟨by rfl, ?_⟩) (by assumption) ?_
  rotate_left 1
  · (intro w hSw; (try dsimp only at hSw); (have q8 := HMI.out _ hSw; go_simp); (try with_reducible rfl))
  try simp only [Act.put, List.getElem_toArray, List.getElem_cons_succ, List.getElem_cons_zero, List.setIfInBounds_toArray, List.set_cons_zero, List.set_cons_succ]
  refine wpAnyH_ready (rs := [9]) (by kernel_rfl) (by simp) ?_
  refine AllReadyH.cons (o := _) rfl (fun K hK => ?_) AllReadyH.nil
  go_simp
  refine hK.out _ _ ?_ (fun _ => ?_)
  · (first | exact bel1d' w4 _ | exact (Below.refl _ _).alloc (Nat.le_refl _) _)
  clear hK K
  try simp only [Act.put, List.getElem_toArray, List.getElem_cons_succ, List.getElem_cons_zero, List.setIfInBounds_toArray, List.set_cons_zero, List.set_cons_succ]
  refine wpAnyH_ready (rs := [10]) (by kernel_rfl) (by simp) ?_
  refine AllReadyH.cons (o := _) rfl (fun K hK => ?_) AllReadyH.nil
  go_simp
  refine hK.out _ _ ?_ (fun _ => ?_)
  · (first | exact bel1d' w4 _ | exact (Below.refl _ _).alloc (Nat.le_refl _) _)
  clear hK K
  try simp only [Act.put, List.getElem_toArray, List.getElem_cons_succ, List.getElem_cons_zero, List.setIfInBounds_toArray, List.set_cons_zero, List.set_cons_succ]
  refine wpAnyH_done (by kernel_rfl) ?_ _
  refine NoPanic.normal ?_
  obtain ⟨V1, hV1⟩ : ∃ V, V = (w4.alloc (.cells #[encStr cc.nm, .int .i64 cc.inc, .bool cc.over] 34)).drew := ⟨_, rfl⟩
  have HBV := Lib.hid (show Below w4.heap.size w4 V1 by rw [hV1]; exact bel1d' w4 _)
  have HC1 := Lib.hid (show V1.heap[w4.heap.size]? = some (.cells #[encStr cc.nm, .int .i64 cc.inc, .bool cc.over] 34 (0, 0)) by rw [hV1]; exact heap_alloc_new w4 _)
  have v1 : V1.cell? ⟨w4.heap.size, 1, none⟩ = some (.int .i64 cc.inc) := by rw [cell_of_row _ _ _ _ _ _ HC1.out]; rfl
  have v2 : V1.cell? ⟨w.heap.size, 2, none⟩ = some (.int .i64 inc) := by rw [cell_of_row _ _ _ _ _ _ (keeph' HBV.out HX.out)]; rfl
  rw [← hV1]
  clear hV1
  go_wp2_with fail
  refine (fixAdd_any V1 cc.inc inc hcb ⟨by omega, i2⟩).mono ?_
  rintro e1 w6 ⟨rfl, rfl⟩
  have hA1 := HA.out.below HBV.out
  have HA1 := Lib.hid hA1
  have hem : e.m ∈ (es ++ e :: []).map (·.m) := List.mem_map.2 ⟨e, by simp, rfl⟩
  have hnd := List.nodup_cons.1 hA1.2.2.2.1
  have hnd2 := List.nodup_cons.1 hnd.2
  have hgl := HA.out.lt g (by simp [wfoot])
  have hel := HA.out.lt e.m (by simp [wfoot])
  have hne1 : ¬ g = e.m := fun e0 => hnd.1 (by rw [e0]; exact List.mem_cons_of_mem _ hem)
  have hne2 : ¬ M = e.m := fun e0 => hnd2.1 (by rw [e0]; exact hem)
  have hne3 : ¬ w.heap.size = e.m := HXE.out
  have hne4 : ¬ w4.heap.size = e.m := by omega
  have HNE := Lib.hid (And.intro hne1 (And.intro hne2 (And.intro hne3 hne4)))
  have G3b := Lib.hid (keepc HBV.out G3.out)
  have X0b := Lib.hid (keepc HBV.out X0.out)
  have C2b := Lib.hid (show V1.cell? ⟨w4.heap.size, 2, none⟩ = some (.bool cc.over) by rw [cell_of_row _ _ _ _ _ _ HC1.out]; rfl)
  have HMM := Lib.hid hA1.2.1
  have HGT := Lib.hid (show mget q (wents (es ++ e :: [])) = some (.map (some e.m)) from HEN.out ▸ hA1.get (e := e) (by simp) HP.out HS.out)
  have HIN2 := Lib.hid (hA1.2.2.1 e (by simp))
  obtain ⟨sm, hsm⟩ : ∃ sm, satI (cc.inc + inc) = sm := ⟨_, rfl⟩
  obtain ⟨ov, hov⟩ : ∃ ov, decide (9223372036854775807 < cc.inc + inc) = ov := ⟨_, rfl⟩
  have HSM := Lib.hid hsm
  have HOV := Lib.hid hov
  rw [hsm, hov]
  clear v1 v2 hA1 hem hnd hnd2 hgl hel hne1 hne2 hne3 hne4 hsm hov
  cases hco : cc.over
  case false =>
    have C2c := Lib.hid (show V1.cell? ⟨w4.heap.size, 2, none⟩ = some (.bool false) from hco ▸ C2b.out)
    have HCO := Lib.hid hco
    clear hco
    go_wp2_with fail
    refine wp_region_noPanic ?_
    refine wp_region_held_drew (S := (fun w' => Only (· = e.m) V1 w')) (by kernel_rfl) ?_ (fun hHeld => ?_)
    · exact Only.of_new (drew_below V1)
    refine wpAnyH_take (i := 0) (oi := _) (v := ?_) rfl (by kernel_rfl) (by kernel_rfl) (by kernel_rfl) (fun _ _ _ h => h) (Or.inl ⟨by rfl, ?_⟩) (by assumption) ?_
    rotate_left 1
    · (intro w hSw; (try dsimp only at hSw); go_simp; (try with_reducible rfl))
    try simp only [Act.put, List.getElem_toArray, List.getElem_cons_zero, List.setIfInBounds_toArray, List.set_cons_zero, List.set_cons_succ]
    refine wpAnyH_take (i := 1) (oi := _) (v := ?_) rfl (by kernel_rfl) (by kernel_rfl) (by kernel_rfl) (fun _ _ _ h => h) (Or.inl ⟨by rfl, ?_⟩) (by assumption) ?_
    rotate_left 1
    · (intro w hSw; (try dsimp only at hSw); go_simp; (try with_reducible rfl))
    try simp only [Act.put, List.getElem_toArray, List.getElem_cons_succ, List.getElem_cons_zero, List.setIfInBounds_toArray, List.set_cons_zero, List.set_cons_succ]
    refine wpAnyH_take (i := 2) (oi := _) (v := ?_) rfl (by kernel_rfl) (by kernel_rfl) (by kernel_rfl) (fun _ _ _ h => h) (Or.inl ⟨by rfl, ?_⟩) (by assumption) ?_
    rotate_left 1
    · (intro w hSw; (try dsimp only at hSw); go_simp; (try with_reducible rfl))
    try simp only [Act.put, List.getElem_toArray, List.getElem_cons_succ, List.getElem_cons_zero, List.setIfInBounds_toArray, List.set_cons_zero, List.set_cons_succ]
    refine wpAnyH_take (i := 3) (oi := _) (v := ?_) rfl (by kernel_rfl) (by kernel_rfl) (by kernel_rfl) (fun _ _ _ h => h) (Or.inl ⟨by rfl, ?_⟩) (by assumption) ?_
    rotate_left 1
    · (intro w hSw; (try dsimp only at hSw); (have q3 := hSw.cell G3b.out HNE.out.1; go_simp); (try with_reducible rfl))
    try simp only [Act.put, List.getElem_toArray, List.getElem_cons_succ, List.getElem_cons_zero, List.setIfInBounds_toArray, List.set_cons_zero, List.set_cons_succ]
    refine wpAnyH_take (i := 4) (oi := _) (v := ?_) rfl (by kernel_rfl) (by kernel_rfl) (by kernel_rfl) (fun _ _ _ h => h) (Or.inl ⟨by rfl, ?_⟩) (by assumption) ?_
    rotate_left 1
    · (intro w hSw; (try dsimp only at hSw); go_simp; (try with_reducible rfl))
    try simp only [Act.put, List.getElem_toArray, List.getElem_cons_succ, List.getElem_cons_zero, List.setIfInBounds_toArray, List.set_cons_zero, List.set_cons_succ]
    refine wpAnyH_take (i := 5) (oi := _) (v := ?_) rfl (by kernel_rfl) (by kernel_rfl) (by kernel_rfl) (fun _ _ _ h => h) (Or.inl ⟨by rfl, ?_⟩) (by assumption) ?_
    rotate_left 1
    · (intro w hSw; (try dsimp only at hSw); (have q5 := held_lookup1 (HMM.out.only hSw HNE.out.2.1) HGT.out; go_simp); (try with_reducible rfl))
    try simp only [Act.put, List.getElem_toArray, List.getElem_cons_succ, List.getElem_cons_zero, List.setIfInBounds_toArray, List.set_cons_zero, List.set_cons_succ]
    refine wpAnyH_take (i := 6) (oi := _) (v := ?_) rfl (by kernel_rfl) (by kernel_rfl) (by kernel_rfl) (fun _ _ _ h => h) (Or.inl ⟨by rfl, ?_⟩) (by assumption) ?_
    rotate_left 1
    · (intro w hSw; (try dsimp only at hSw); go_simp; (try with_reducible rfl))
    try simp only [Act.put, List.getElem_toArray, List.getElem_cons_succ, List.getElem_cons_zero, List.setIfInBounds_toArray, List.set_cons_zero, List.set_cons_succ]
    refine wpAnyH_take (i := 7) (oi := _) (v := ?_) rfl (by kernel_rfl) (by kernel_rfl) (by kernel_rfl) (fun _ _ _ h => h) (Or.inl ⟨by rfl, ?_⟩) (by assumption) ?_
    rotate_left 1
    · (intro w hSw; (try dsimp only at hSw); (have q7 := hSw.cell X0b.out HNE.out.2.2.1; go_simp); (try with_reducible rfl))
    try simp only [Act.put, List.getElem_toArray, List.getElem_cons_succ, List.getElem_cons_zero, List.setIfInBounds_toArray, List.set_cons_zero, List.set_cons_succ]
    refine wpAnyH_take (i := 8) (oi := _) (v := ?_) rfl (by kernel_rfl) (by kernel_rfl) (by kernel_rfl) (fun _ _ _ h => h) (Or.inl ⟨by rfl, ?_⟩) (by assumption) ?_
    rotate_left 1
    · (intro w hSw; (try dsimp only at hSw); go_simp; (try with_reducible rfl))
    try simp only [Act.put, List.getElem_toArray, List.getElem_cons_succ, List.getElem_cons_zero, List.setIfInBounds_toArray, List.set_cons_zero, List.set_cons_succ]
    refine wpAnyH_take (i := 9) (oi := _) (v := ?_) rfl (by kernel_rfl) (by kernel_rfl) (by kernel_rfl) (fun _ _ _ h => h) (Or.inl ⟨by rfl, ?_⟩) (by assumption) ?_
    rotate_left 1
    · (intro w hSw; (try dsimp only at hSw); (have q7 := hSw.cell X0b.out HNE.out.2.2.1; go_simp); (try with_reducible rfl))
    try simp only [Act.put, List.getElem_toArray, List.getElem_cons_succ, List.getElem_cons_zero, List.setIfInBounds_toArray, List.set_cons_zero, List.set_cons_succ]
    refine wpAnyH_take (i := 10) (oi := _) (v := ?_) rfl (by kernel_rfl) (by kernel_rfl) (by kernel_rfl) (fun _ _ _ h => h) (Or.inl ⟨by rfl, ?_⟩) (by assumption) ?_
    rotate_left 1
    · (intro w hSw; (try dsimp only at hSw); go_simp; (try with_reducible rfl))
    try simp only [Act.put, List.getElem_toArray, List.getElem_cons_succ, List.getElem_cons_zero, List.setIfInBounds_toArray, List.set_cons_zero, List.set_cons_succ]
    refine wpAnyH_take (i := 11) (oi := _) (v := ?_) rfl (by kernel_rfl) (by kernel_rfl) (by kernel_rfl) (fun _ _ _ h => h) (Or.inl ⟨by rfl, ?_⟩) (by assumption) ?_
    rotate_left 1
    · (intro w hSw; (try dsimp only at hSw); go_simp; (try with_reducible rfl))
    try simp only [Act.put, List.getElem_toArray, List.getElem_cons_succ, List.getElem_cons_zero, List.setIfInBounds_toArray, List.set_cons_zero, List.set_cons_succ]
    refine wpAnyH_take (i := 12) (oi := _) (v := ?_) rfl (by kernel_rfl) (by kernel_rfl) (by kernel_rfl) (fun _ _ _ h => h) (Or.inl ⟨by rfl, ?_⟩) (by assumption) ?_
    rotate_left 1
    · (intro w hSw; (try dsimp only at hSw); (have q9 := hSw.cell C2c.out HNE.out.2.2.2; go_simp); (try with_reducible rfl))
    try simp only [Act.put, List.getElem_toArray, List.getElem_cons_succ, List.getElem_cons_zero, List.setIfInBounds_toArray, List.set_cons_zero, List.set_cons_succ]
    refine wpAnyH_take (i := 13) (oi := _) (v := ?_) rfl (by kernel_rfl) (by kernel_rfl) (by kernel_rfl) (fun _ _ _ h => h) (Or.inl ⟨by rfl, ?_⟩) (by assumption) ?_
    rotate_left 1
    · (intro w hSw; (try dsimp only at hSw); go_simp; (try with_reducible rfl))
    try simp only [Act.put, List.getElem_toArray, List.getElem_cons_succ, List.getElem_cons_zero, List.setIfInBounds_toArray, List.set_cons_zero, List.set_cons_succ]
    refine wpAnyH_take (i := 14) (oi := _) (v := ?_) rfl (by kernel_rfl) (by kernel_rfl) (by kernel_rfl) (fun _ _ _ h => h) (Or.inl ⟨by rfl, ?_⟩) (by assumption) ?_
    rotate_left 1
    · (intro w hSw; (try dsimp only at hSw); go_simp; (try with_reducible rfl))
    try simp only [Act.put, List.getElem_toArray, List.getElem_cons_succ, List.getElem_cons_zero, List.setIfInBounds_toArray, List.set_cons_zero, List.set_cons_succ]
    refine wpAnyH_take (i := 15) (oi := _) (v := ?_) rfl (by kernel_rfl) (by kernel_rfl) (by kernel_rfl) (fun _ _ _ h => h) (Or.inl ⟨by rfl, ?_⟩) (by assumption) ?_
    rotate_left 1
    · (intro w hSw; (try dsimp only at hSw); go_simp; (try with_reducible rfl))
    try simp only [Act.put, List.getElem_toArray, List.getElem_cons_succ, List.getElem_cons_zero, List.setIfInBounds_toArray, List.set_cons_zero, List.set_cons_succ]
    refine wpAnyH_take (i := 16) (oi := _) (v := ?_) rfl (by kernel_rfl) (by kernel_rfl) (by kernel_rfl) (fun _ _ _ h => h) (Or.inl ⟨by rfl, ?_⟩) (by assumption) ?_
    rotate_left 1
    · (intro w hSw; (try dsimp only at hSw); go_simp; (try with_reducible rfl))
    try simp only [Act.put, List.getElem_toArray, List.getElem_cons_succ, List.getElem_cons_zero, List.setIfInBounds_toArray, List.set_cons_zero, List.set_cons_succ]
    refine wpAnyH_ready (rs := [17]) (by kernel_rfl) (by simp) ?_
    refine AllReadyH.cons (o := _) rfl (fun K hK => ?_) AllReadyH.nil
    have hMe : MapAt encStr V1.drew e.m (ckv e.ks) := HIN2.out.1
    obtain ⟨ub, hup, hm2⟩ := run_update (P := Try.prog) sKey hMe Try.underlying66 nm (.agg #[encStr nm, .int .i64 sm, .bool ov])
    have hup2 : Sem.run Try.prog (Instr.mapUpdate 66 (.map (some e.m)) (encStr nm) (.agg #[encStr nm, .int .i64 sm, .bool ov])) V1.drew = .ok () (ChangeMaps.setBlock V1.drew e.m ub) := hup
    have hoU : Only (· = e.m) V1 (ChangeMaps.setBlock V1.drew e.m ub) := (Only.of_new (F := (· = e.m)) (drew_below V1)).trans ((Only.refl (· = e.m) V1.drew).setBlock e.m ub (fun _ => rfl)) (fun _ _ h => h)
    generalize ChangeMaps.setBlock V1.drew e.m ub = V2 at hup2 hm2 hoU
    clear hup
    go_simp
    refine hK.out _ _ ?_ (fun _ => ?_)
    · exact hoU
    clear hK K
    try simp only [Act.put, List.getElem_toArray, List.getElem_cons_succ, List.getElem_cons_zero, List.setIfInBounds_toArray, List.set_cons_zero, List.set_cons_succ]
    refine wpAnyH_done (by kernel_rfl) ?_ _
    refine NoPanic.normal ?_
    have hval : (.agg #[encStr nm, .int .i64 sm, .bool ov] : Value) = (crNew cc nm inc).val := by
      unfold crNew Cr.val
      rw [HSM.out, HOV.out, HCO.out]
      simp
    rw [hval] at hm2
    have hm3 : MapAt encStr V2 e.m (ckv (uset Cr.nm (crNew cc nm inc) e.ks)) := by
      rw [← mput_ckv]
      exact hm2
    have hks : (uset Cr.nm (crNew cc nm inc) e.ks).Perm (crPut nm inc e.cr) := by
      unfold crPut
      rw [HCC.out]
      exact uset_sset ordN _ HIN2.out.2.1 HIN2.out.2.2
    have hA2 := HA1.out.upd hoU hm3 hks (HIN2.out.2.2.set _)
    have hp2 := es_set (e := e) (e' := { e with ks := uset Cr.nm (crNew cc nm inc) e.ks, cr := crPut nm inc e.cr }) rfl HP.out HS.out
    have hs2 := HS.out.set (WE.vw { e with ks := uset Cr.nm (crNew cc nm inc) e.ks, cr := crPut nm inc e.cr })
    have h6 : V2.cell? ⟨g, 6, none⟩ = some (.int .i64 s.cred) := hA2.cell 6 rfl
    have z6 : V2.frozen? ⟨g, 6, none⟩ = false := frozen_of_row V2 _ _ _ _ hA2.1
    have l6 := World.block_lt_of_cell? V2 _ h6
    simp only at l6
    have hcr := HC.out.cred
    have hto := hA2.setTo (s' := { { s with floor := max s.floor v.num } with cred := s.cred + 1 }) hp2 hs2 6 (.int .i64 (s.cred + 1)) rfl
    have hff : wfoot g M (es ++ { e with ks := uset Cr.nm (crNew cc nm inc) e.ks, cr := crPut nm inc e.cr } :: []) = wfoot g M (es ++ e :: []) := by simp [wfoot]
    have hst : WinTo w4 B g (wfoot g M (es ++ e :: [])) { { s with floor := max s.floor v.num } with cred := s.cred + 1 } (wvSet (WE.vw { e with ks := uset Cr.nm (crNew cc nm inc) e.ks, cr := crPut nm inc e.cr }) (wvSet (WV.mk q []) t)) (V2.setCell ⟨g, 6, none⟩ (.int .i64 (s.cred + 1))) := by
      rw [hff] at hto
      obtain ⟨F9, k1, k2, k3⟩ := hto
      have ho9 := (Only.of_new (F := (· ∈ wfoot g M (es ++ e :: []))) HBV.out).trans hoU (fun k _ e0 => by rw [show k = e.m from e0]; simp [wfoot])
      exact ⟨F9, k1, ho9.trans k2 (fun _ _ h => h), fun k hk => (k3 k hk).elim .inl (fun h => .inr (Nat.le_trans ho9.size h))⟩
    have HFIN := Lib.hid (show AddP w B g F (false, [v], { { s with floor := max s.floor v.num } with cred := s.cred + 1 }, wvPut q nm inc t) (.returned (.tuple #[.bool false, .slice (some ad) 1 1])) (V2.setCell ⟨g, 6, none⟩ (.int .i64 (s.cred + 1))) from by
      have h9 : wvSet (WE.vw { e with ks := uset Cr.nm (crNew cc nm inc) e.ks, cr := crPut nm inc e.cr }) (wvSet (WV.mk q []) t) = wvPut q nm inc t := by
        rw [← wvPut_new HNQ.out, HEC.out.1, ← HEN.out]
        rfl
      rw [← h9]
      refine AddP.fin (cl := [v]) (F1 := wfoot g M (es ++ e :: [])) (fun k hk => ?_) HO.out ?_ hst
      · simp only [wfoot, List.mem_cons, List.map_append, List.mem_append, List.map_cons, List.map_nil, List.not_mem_nil, or_false] at hk
        have hfs : ∀ k, k = g ∨ k = M ∨ k ∈ es.map (·.m) → k ∈ F := fun k h => HFS.out k (by simp only [wfoot, List.mem_cons]; exact h)
        rcases hk with hk | hk | hk | hk
        · exact .inl (hfs k (.inl hk))
        · exact .inl (hfs k (.inr (.inl hk)))
        · exact .inl (hfs k (.inr (.inr hk)))
        · have := HON.out.size
          have := HEC.out.2
          exact .inr (by omega)
      · exact by
            have hw4 : Only (· ∈ F) w3 w4 := HO4.out
            have h8 := HWM.out.only hw4 (fun k hk hf => by have := HFW.out k hf; have := HB2.out.size; omega)
            refine h8.mono (fun k hk => ⟨by have := HB2.out.size; omega, fun hf => ?_⟩)
            simp only [wfoot, List.mem_cons, List.map_append, List.mem_append, List.map_cons, List.map_nil, List.not_mem_nil, or_false] at hf
            have hfs : ∀ k, k = g ∨ k = M ∨ k ∈ es.map (·.m) → k < w.heap.size := fun k h => HFW.out k (HFS.out k (by simp only [wfoot, List.mem_cons]; exact h))
            have h7 := HB2.out.size
            rcases hf with hf | hf | hf | hf
            · have := hfs k (.inl hf); omega
            · have := hfs k (.inr (.inl hf)); omega
            · have := hfs k (.inr (.inr hf)); omega
            · have := HEC.out.2; omega)
    clear hm2 hm3 hks hA2 hp2 hs2 hto hff hst hval
    generalize hcd : s.cred = cd at h6 hcr
    have HCD := Lib.hid hcd
    clear hcd
    go_wp2
    go_ret2
    rw [← HCD.out]
    exact HFIN.out
  case true =>
    have C2c := Lib.hid (show V1.cell? ⟨w4.heap.size, 2, none⟩ = some (.bool true) from hco ▸ C2b.out)
    have HCO := Lib.hid hco
    clear hco
    go_wp2_with fail
    refine wp_region_noPanic ?_
    refine wp_region_held_drew (S := (fun w' => Only (· = e.m) V1 w')) (by kernel_rfl) ?_ (fun hHeld => ?_)
    · exact Only.of_new (drew_below V1)
    refine wpAnyH_take (i := 0) (oi := _) (v := ?_) rfl (by kernel_rfl) (by kernel_rfl) (by kernel_rfl) (fun _ _ _ h => h) (Or.inl ⟨by rfl, ?_⟩) (by assumption) ?_
    rotate_left 1
    · (intro w hSw; (try dsimp only at hSw); go_simp; (try with_reducible rfl))
    try simp only [Act.put, List.getElem_toArray, List.getElem_cons_zero, List.setIfInBounds_toArray, List.set_cons_zero, List.set_cons_succ]
    refine wpAnyH_take (i := 1) (oi := _) (v := ?_) rfl (by kernel_rfl) (by kernel_rfl) (by kernel_rfl) (fun _ _ _ h => h) (Or.inl ⟨by rfl, ?_⟩) (by assumption) ?_
    rotate_left 1
    · (intro w hSw; (try dsimp only at hSw); go_simp; (try with_reducible rfl))
    try simp only [Act.put, List.getElem_toArray, List.getElem_cons_succ, List.getElem_cons_zero, List.setIfInBounds_toArray, List.set_cons_zero, List.set_cons_succ]
    refine wpAnyH_take (i := 2) (oi := _) (v := ?_) rfl (by kernel_rfl) (by kernel_rfl) (by kernel_rfl) (fun _ _ _ h => h) (Or.inl ⟨by rfl, ?_⟩) (by assumption) ?_
    rotate_left 1
    · (intro w hSw; (try dsimp only at hSw); go_simp; (try with_reducible rfl))
    try simp only [Act.put, List.getElem_toArray, List.getElem_cons_succ, List.getElem_cons_zero, List.setIfInBounds_toArray, List.set_cons_zero, List.set_cons_succ]
    refine wpAnyH_take (i := 3) (oi := _) (v := ?_) rfl (by kernel_rfl) (by kernel_rfl) (by kernel_rfl) (fun _ _ _ h => h) (Or.inl ⟨by rfl, ?_⟩) (by assumption) ?_
    rotate_left 1
    · (intro w hSw; (try dsimp only at hSw); (have q3 := hSw.cell G3b.out HNE.out.1; go_simp); (try with_reducible rfl))
    try simp only [Act.put, List.getElem_toArray, List.getElem_cons_succ, List.getElem_cons_zero, List.setIfInBounds_toArray, List.set_cons_zero, List.set_cons_succ]
    refine wpAnyH_take (i := 4) (oi := _) (v := ?_) rfl (by kernel_rfl) (by kernel_rfl) (by kernel_rfl) (fun _ _ _ h => h) (Or.inl ⟨by rfl, ?_⟩) (by assumption) ?_
    rotate_left 1
    · (intro w hSw; (try dsimp only at hSw); go_simp; (try with_reducible rfl))
    try simp only [Act.put, List.getElem_toArray, List.getElem_cons_succ, List.getElem_cons_zero, List.setIfInBounds_toArray, List.set_cons_zero, List.set_cons_succ]
    refine wpAnyH_take (i := 5) (oi := _) (v := ?_) rfl (by kernel_rfl) (by kernel_rfl) (by kernel_rfl) (fun _ _ _ h => h) (Or.inl ⟨by rfl, ?_⟩) (by assumption) ?_
    rotate_left 1
    · (intro w hSw; (try dsimp only at hSw); (have q5 := held_lookup1 (HMM.out.only hSw HNE.out.2.1) HGT.out; go_simp); (try with_reducible rfl))
    try simp only [Act.put, List.getElem_toArray, List.getElem_cons_succ, List.getElem_cons_zero, List.setIfInBounds_toArray, List.set_cons_zero, List.set_cons_succ]
    refine wpAnyH_take (i := 6) (oi := _) (v := ?_) rfl (by kernel_rfl) (by kernel_rfl) (by kernel_rfl) (fun _ _ _ h => h) (Or.inl ⟨by rfl, ?_⟩) (by assumption) ?_
    rotate_left 1
    · (intro w hSw; (try dsimp only at hSw); go_simp; (try with_reducible rfl))
    try simp only [Act.put, List.getElem_toArray, List.getElem_cons_succ, List.getElem_cons_zero, List.setIfInBounds_toArray, List.set_cons_zero, List.set_cons_succ]
    refine wpAnyH_take (i := 7) (oi := _) (v := ?_) rfl (by kernel_rfl) (by kernel_rfl) (by kernel_rfl) (fun _ _ _ h => h) (Or.inl ⟨by rfl, ?_⟩) (by assumption) ?_
    rotate_left 1
    · (intro w hSw; (try dsimp only at hSw); (have q7 := hSw.cell X0b.out HNE.out.2.2.1; go_simp); (try with_reducible rfl))
    try simp only [Act.put, List.getElem_toArray, List.getElem_cons_succ, List.getElem_cons_zero, List.setIfInBounds_toArray, List.set_cons_zero, List.set_cons_succ]
    refine wpAnyH_take (i := 8) (oi := _) (v := ?_) rfl (by kernel_rfl) (by kernel_rfl) (by kernel_rfl) (fun _ _ _ h => h) (Or.inl ⟨by rfl, ?_⟩) (by assumption) ?_
    rotate_left 1
    · (intro w hSw; (try dsimp only at hSw); go_simp; (try with_reducible rfl))
    try simp only [Act.put, List.getElem_toArray, List.getElem_cons_succ, List.getElem_cons_zero, List.setIfInBounds_toArray, List.set_cons_zero, List.set_cons_succ]
    refine wpAnyH_take (i := 9) (oi := _) (v := ?_) rfl (by kernel_rfl) (by kernel_rfl) (by kernel_rfl) (fun _ _ _ h => h) (Or.inl ⟨by rfl, ?_⟩) (by assumption) ?_
    rotate_left 1
    · (intro w hSw; (try dsimp only at hSw); (have q7 := hSw.cell X0b.out HNE.out.2.2.1; go_simp); (try with_reducible rfl))
    try simp only [Act.put, List.getElem_toArray, List.getElem_cons_succ, List.getElem_cons_zero, List.setIfInBounds_toArray, List.set_cons_zero, List.set_cons_succ]
    refine wpAnyH_take (i := 10) (oi := _) (v := ?_) rfl (by kernel_rfl) (by kernel_rfl) (by kernel_rfl) (fun _ _ _ h => h) (Or.inl ⟨by rfl, ?_⟩) (by assumption) ?_
    rotate_left 1
    · (intro w hSw; (try dsimp only at hSw); go_simp; (try with_reducible rfl))
    try simp only [Act.put, List.getElem_toArray, List.getElem_cons_succ, List.getElem_cons_zero, List.setIfInBounds_toArray, List.set_cons_zero, List.set_cons_succ]
    refine wpAnyH_take (i := 11) (oi := _) (v := ?_) rfl (by kernel_rfl) (by kernel_rfl) (by kernel_rfl) (fun _ _ _ h => h) (Or.inl ⟨by rfl, ?_⟩) (by assumption) ?_
    rotate_left 1
    · (intro w hSw; (try dsimp only at hSw); go_simp; (try with_reducible rfl))
    try simp only [Act.put, List.getElem_toArray, List.getElem_cons_succ, List.getElem_cons_zero, List.setIfInBounds_toArray, List.set_cons_zero, List.set_cons_succ]
    refine wpAnyH_take (i := 12) (oi := _) (v := ?_) rfl (by kernel_rfl) (by kernel_rfl) (by kernel_rfl) (fun _ _ _ h => h) (Or.inl ⟨by rfl, ?_⟩) (by assumption) ?_
    rotate_left 1
    · (intro w hSw; (try dsimp only at hSw); (have q9 := hSw.cell C2c.out HNE.out.2.2.2; go_simp); (try with_reducible rfl))
    try simp only [Act.put, List.getElem_toArray, List.getElem_cons_succ, List.getElem_cons_zero, List.setIfInBounds_toArray, List.set_cons_zero, List.set_cons_succ]
    refine wpAnyH_take (i := 13) (oi := _) (v := ?_) rfl (by kernel_rfl) (by kernel_rfl) (by kernel_rfl) (fun _ _ _ h => h) (Or.inl ⟨by rfl, ?_⟩) (by assumption) ?_
    rotate_left 1
    · (intro w hSw; (try dsimp only at hSw); go_simp; (try with_reducible rfl))
    try simp only [Act.put, List.getElem_toArray, List.getElem_cons_succ, List.getElem_cons_zero, List.setIfInBounds_toArray, List.set_cons_zero, List.set_cons_succ]
    refine wpAnyH_take (i := 14) (oi := _) (v := undef) rfl (by kernel_rfl) (by kernel_rfl) (by kernel_rfl) (fun _ _ _ h => h) (Or.inr ⟨by rfl, rfl⟩) (by assumption) ?_
    try simp only [Act.put, List.getElem_toArray, List.getElem_cons_succ, List.getElem_cons_zero, List.setIfInBounds_toArray, List.set_cons_zero, List.set_cons_succ]
    refine wpAnyH_take (i := 15) (oi := _) (v := ?_) rfl (by kernel_rfl) (by kernel_rfl) (by kernel_rfl) (fun _ _ _ h => h) (Or.inl ⟨by rfl, ?_⟩) (by assumption) ?_
    rotate_left 1
    · (intro w hSw; (try dsimp only at hSw); go_simp; (try with_reducible rfl))
    try simp only [Act.put, List.getElem_toArray, List.getElem_cons_succ, List.getElem_cons_zero, List.setIfInBounds_toArray, List.set_cons_zero, List.set_cons_succ]
    refine wpAnyH_take (i := 16) (oi := _) (v := ?_) rfl (by kernel_rfl) (by kernel_rfl) (by kernel_rfl) (fun _ _ _ h => h) (Or.inl ⟨by rfl, ?_⟩) (by assumption) ?_
    rotate_left 1
    · (intro w hSw; (try dsimp only at hSw); go_simp; (try with_reducible rfl))
    try simp only [Act.put, List.getElem_toArray, List.getElem_cons_succ, List.getElem_cons_zero, List.setIfInBounds_toArray, List.set_cons_zero, List.set_cons_succ]
    refine wpAnyH_ready (rs := [17]) (by kernel_rfl) (by simp) ?_
    refine AllReadyH.cons (o := _) rfl (fun K hK => ?_) AllReadyH.nil
    have hMe : MapAt encStr V1.drew e.m (ckv e.ks) := HIN2.out.1
    obtain ⟨ub, hup, hm2⟩ := run_update (P := Try.prog) sKey hMe Try.underlying66 nm (.agg #[encStr nm, .int .i64 sm, .bool true])
    have hup2 : Sem.run Try.prog (Instr.mapUpdate 66 (.map (some e.m)) (encStr nm) (.agg #[encStr nm, .int .i64 sm, .bool true])) V1.drew = .ok () (ChangeMaps.setBlock V1.drew e.m ub) := hup
    have hoU : Only (· = e.m) V1 (ChangeMaps.setBlock V1.drew e.m ub) := (Only.of_new (F := (· = e.m)) (drew_below V1)).trans ((Only.refl (· = e.m) V1.drew).setBlock e.m ub (fun _ => rfl)) (fun _ _ h => h)
    generalize ChangeMaps.setBlock V1.drew e.m ub = V2 at hup2 hm2 hoU
    clear hup
    go_simp
    refine hK.out _ _ ?_ (fun _ => ?_)
    · exact hoU
    clear hK K
    try simp only [Act.put, List.getElem_toArray, List.getElem_cons_succ, List.getElem_cons_zero, List.setIfInBounds_toArray, List.set_cons_zero, List.set_cons_succ]
    refine wpAnyH_done (by kernel_rfl) ?_ _
    refine NoPanic.normal ?_
    have hval : (.agg #[encStr nm, .int .i64 sm, .bool true] : Value) = (crNew cc nm inc).val := by
      unfold crNew Cr.val
      rw [HSM.out, HOV.out, HCO.out]
      simp
    rw [hval] at hm2
    have hm3 : MapAt encStr V2 e.m (ckv (uset Cr.nm (crNew cc nm inc) e.ks)) := by
      rw [← mput_ckv]
      exact hm2
    have hks : (uset Cr.nm (crNew cc nm inc) e.ks).Perm (crPut nm inc e.cr) := by
      unfold crPut
      rw [HCC.out]
      exact uset_sset ordN _ HIN2.out.2.1 HIN2.out.2.2
    have hA2 := HA1.out.upd hoU hm3 hks (HIN2.out.2.2.set _)
    have hp2 := es_set (e := e) (e' := { e with ks := uset Cr.nm (crNew cc nm inc) e.ks, cr := crPut nm inc e.cr }) rfl HP.out HS.out
    have hs2 := HS.out.set (WE.vw { e with ks := uset Cr.nm (crNew cc nm inc) e.ks, cr := crPut nm inc e.cr })
    have h6 : V2.cell? ⟨g, 6, none⟩ = some (.int .i64 s.cred) := hA2.cell 6 rfl
    have z6 : V2.frozen? ⟨g, 6, none⟩ = false := frozen_of_row V2 _ _ _ _ hA2.1
    have l6 := World.block_lt_of_cell? V2 _ h6
    simp only at l6
    have hcr := HC.out.cred
    have hto := hA2.setTo (s' := { { s with floor := max s.floor v.num } with cred := s.cred + 1 }) hp2 hs2 6 (.int .i64 (s.cred + 1)) rfl
    have hff : wfoot g M (es ++ { e with ks := uset Cr.nm (crNew cc nm inc) e.ks, cr := crPut nm inc e.cr } :: []) = wfoot g M (es ++ e :: []) := by simp [wfoot]
    have hst : WinTo w4 B g (wfoot g M (es ++ e :: [])) { { s with floor := max s.floor v.num } with cred := s.cred + 1 } (wvSet (WE.vw { e with ks := uset Cr.nm (crNew cc nm inc) e.ks, cr := crPut nm inc e.cr }) (wvSet (WV.mk q []) t)) (V2.setCell ⟨g, 6, none⟩ (.int .i64 (s.cred + 1))) := by
      rw [hff] at hto
      obtain ⟨F9, k1, k2, k3⟩ := hto
      have ho9 := (Only.of_new (F := (· ∈ wfoot g M (es ++ e :: []))) HBV.out).trans hoU (fun k _ e0 => by rw [show k = e.m from e0]; simp [wfoot])
      exact ⟨F9, k1, ho9.trans k2 (fun _ _ h => h), fun k hk => (k3 k hk).elim .inl (fun h => .inr (Nat.le_trans ho9.size h))⟩
    have HFIN := Lib.hid (show AddP w B g F (false, [v], { { s with floor := max s.floor v.num } with cred := s.cred + 1 }, wvPut q nm inc t) (.returned (.tuple #[.bool false, .slice (some ad) 1 1])) (V2.setCell ⟨g, 6, none⟩ (.int .i64 (s.cred + 1))) from by
      have h9 : wvSet (WE.vw { e with ks := uset Cr.nm (crNew cc nm inc) e.ks, cr := crPut nm inc e.cr }) (wvSet (WV.mk q []) t) = wvPut q nm inc t := by
        rw [← wvPut_new HNQ.out, HEC.out.1, ← HEN.out]
        rfl
      rw [← h9]
      refine AddP.fin (cl := [v]) (F1 := wfoot g M (es ++ e :: [])) (fun k hk => ?_) HO.out ?_ hst
      · simp only [wfoot, List.mem_cons, List.map_append, List.mem_append, List.map_cons, List.map_nil, List.not_mem_nil, or_false] at hk
        have hfs : ∀ k, k = g ∨ k = M ∨ k ∈ es.map (·.m) → k ∈ F := fun k h => HFS.out k (by simp only [wfoot, List.mem_cons]; exact h)
        rcases hk with hk | hk | hk | hk
        · exact .inl (hfs k (.inl hk))
        · exact .inl (hfs k (.inr (.inl hk)))
        · exact .inl (hfs k (.inr (.inr hk)))
        · have := HON.out.size
          have := HEC.out.2
          exact .inr (by omega)
      · exact by
            have hw4 : Only (· ∈ F) w3 w4 := HO4.out
            have h8 := HWM.out.only hw4 (fun k hk hf => by have := HFW.out k hf; have := HB2.out.size; omega)
            refine h8.mono (fun k hk => ⟨by have := HB2.out.size; omega, fun hf => ?_⟩)
            simp only [wfoot, List.mem_cons, List.map_append, List.mem_append, List.map_cons, List.map_nil, List.not_mem_nil, or_false] at hf
            have hfs : ∀ k, k = g ∨ k = M ∨ k ∈ es.map (·.m) → k < w.heap.size := fun k h => HFW.out k (HFS.out k (by simp only [wfoot, List.mem_cons]; exact h))
            have h7 := HB2.out.size
            rcases hf with hf | hf | hf | hf
            · have := hfs k (.inl hf); omega
            · have := hfs k (.inr (.inl hf)); omega
            · have := hfs k (.inr (.inr hf)); omega
            · have := HEC.out.2; omega)
    clear hm2 hm3 hks hA2 hp2 hs2 hto hff hst hval
    generalize hcd : s.cred = cd at h6 hcr
    have HCD := Lib.hid hcd
    clear hcd
    go_wp2
    go_ret2
    rw [← HCD.out]
    exact HFIN.out
end
end Go.Proofs.Ytbkpgpaanhfjfaa
