/- Windows: Clock: the walk. -/
import Derived.Test.YtbkpgpaanhfjfaaWiG
namespace Go.Proofs.Ytbkpgpaanhfjfaa
open Go.RowKit Go.Sort K
/-- The last time that counts. -/
def lastW (s : Cfg) (now : Int) : Int := min s.mark (max now (-1)) - s.lat
/-- What a clock's reading closes, and leaves. -/
def cntW (n : Int) (L : List WV) : Nat := (L.takeWhile fun v => decide (v.num ≤ n)).length
def clockW (s : Cfg) (L : List WV) (now : Int) : List WV × Cfg × List WV :=
  if lastW s now < s.len then ([], s, L)
  else (L.take (cntW (lastW s now / s.len - 1) L), { s with floor := max s.floor (lastW s now / s.len - 1) }, L.drop (cntW (lastW s now / s.len - 1) L))
def ClockP (w : World) (B g : Nat) (F : List Nat) (r : List WV × Cfg × List WV) (e : Ending) (w' : World) : Prop :=
  ∃ a c, e = .returned (.slice a r.1.length c) ∧ WinsM (fun k => w.heap.size ≤ k ∧ k < w'.heap.size) w' r.1 a ∧ WinTo w B g F r.2.1 r.2.2 w'
theorem cnt_iff {n : Int} : ∀ {L : List WV}, WS L → ∀ {k : Nat} (h : k < L.length), L[k].num ≤ n ↔ k < cntW n L
  | [], _, k, h => by simp at h
  | v :: t, hs, k, h => by
    have hs2 := hs
    unfold WS at hs2
    rw [List.map_cons, List.pairwise_cons] at hs2
    unfold cntW
    rw [List.takeWhile_cons]
    by_cases hv : v.num ≤ n
    · simp only [decide_eq_true hv, if_true, List.length_cons]
      cases k with
      | zero => simp [hv]
      | succ k =>
        have := cnt_iff (n := n) hs2.2 (k := k) (by simpa using h)
        unfold cntW at this
        simp only [List.getElem_cons_succ]
        omega
    · simp only [decide_eq_false hv, Bool.false_eq_true, if_false, List.length_nil]
      constructor
      · intro h2
        cases k with
        | zero => exact absurd h2 hv
        | succ k =>
          have h3 := hs2.1 _ (List.mem_map.2 ⟨t[k]'(by simpa using h), List.getElem_mem _, rfl⟩)
          simp only [List.getElem_cons_succ] at h2
          omega
      · intro h2
        omega
theorem cnt_le (n : Int) (L : List WV) : cntW n L ≤ L.length := by
  unfold cntW
  exact (List.takeWhile_sublist _).length_le
theorem WS.drop {L : List WV} (h : WS L) (k : Nat) : WS (L.drop k) := by
  unfold WS at h ⊢
  exact h.sublist ((List.drop_sublist k L).map _)
theorem WBd.drop {L : List WV} (h : WBd L) (k : Nat) : WBd (L.drop k) :=
  ⟨fun v hv => h.num v (List.mem_of_mem_drop hv), fun v hv => h.crs v (List.mem_of_mem_drop hv), by rw [List.length_drop]; have := h.len; omega⟩
theorem run_max (W : World) (ts : Array TypeId) (ty : TypeId) (p q v : Int) (hv : max p q = v) : (Builtin.max_ ts ty #[.int .i64 p, .int .i64 q]).run Try.prog W = .ok (.int .i64 v) W := by
  have e : (if q > p then q else p) = v := by rw [← hv]; split <;> omega
  simp [Builtin.max_, Builtin.max2, e]
theorem run_min (W : World) (ts : Array TypeId) (ty : TypeId) (p q v : Int) (hv : min p q = v) : (Builtin.min_ ts ty #[.int .i64 p, .int .i64 q]).run Try.prog W = .ok (.int .i64 v) W := by
  have e : (if q < p then q else p) = v := by rw [← hv]; split <;> omega
  simp [Builtin.min_, Builtin.min2, e]
theorem max_op (o : Oper) (a : Act) (W : World) (x y : Operand) (p q : Int) {ts : Array TypeId} {v : Int} (ho : o.op = .call { callee := .builtin .max, args := #[x, y], argTypes := ts }) (hx : a.eval x = .int .i64 p) (hy : a.eval y = .int .i64 q) (hv : max p q = v) : (execOp a.eval o).run Try.prog W = .ok (.value (.int .i64 v)) W := by
  unfold execOp
  simp only [ho, resolve, invoke, builtin, Sem.run_bind, Sem.run_pure, Result.andThen_ok, List.map_toArray, List.map_cons, List.map_nil, hx, hy, run_max _ _ _ _ _ _ hv]
theorem min_op (o : Oper) (a : Act) (W : World) (x y : Operand) (p q : Int) {ts : Array TypeId} {v : Int} (ho : o.op = .call { callee := .builtin .min, args := #[x, y], argTypes := ts }) (hx : a.eval x = .int .i64 p) (hy : a.eval y = .int .i64 q) (hv : min p q = v) : (execOp a.eval o).run Try.prog W = .ok (.value (.int .i64 v)) W := by
  unfold execOp
  simp only [ho, resolve, invoke, builtin, Sem.run_bind, Sem.run_pure, Result.andThen_ok, List.map_toArray, List.map_cons, List.map_nil, hx, hy, run_min _ _ _ _ _ _ hv]
section
variable {w : World} {B g : Nat} {s : Cfg} {L : List WV} {F : List Nat}
set_option maxHeartbeats 4000000 in
set_option maxRecDepth 100000 in
theorem clock_no (h : WinIs w B g s L F) (hb : WBd L) (hc : SOk s) (now : Int) (hcond : lastW s now < s.len) :
    Calls Try.prog 14 #[.pointer (some ⟨g, 0, none⟩), .int .i64 now] w (ClockP w B g F ([], s, L)) := by
  have HW := Lib.hid (fun W (hB : Below w.heap.size w W) => h.new hB)
  have HFW := Lib.hid (fun k hk => (h.in k hk).2)
  obtain ⟨M, es, h1, hp, hs, hFe⟩ := h
  obtain ⟨i0, hi0, hz0, hz1, hz2⟩ := info_parts info_wv
  have HN := Lib.hid (none_any h1 hc.len.1)
  have HR := Lib.hid (fun W (hB : Below w.heap.size w W) => rising_at (h1.below hB) hp hs hb)
  have HA := Lib.hid (fun W (hB : Below w.heap.size w W) => h1.below hB)
  have HLN : L.length ≤ 1000 := hb.len
  have HBD := Lib.hid hb
  have HC := Lib.hid hc
  have HS := Lib.hid hs
  have c5 : w.cell? ⟨g, 5, none⟩ = some (.int .i64 s.mark) := h1.cell 5 rfl
  have c1 : w.cell? ⟨g, 1, none⟩ = some (.int .i64 s.lat) := h1.cell 1 rfl
  have c0 : w.cell? ⟨g, 0, none⟩ = some (.int .i64 s.len) := h1.cell 0 rfl
  have hmk := hc.mark
  have hlt := hc.lat
  have hln := hc.len
  obtain ⟨mx, hmx⟩ : ∃ mx, max now (-1) = mx := ⟨_, rfl⟩
  obtain ⟨mn, hmn⟩ : ∃ mn, min s.mark mx = mn := ⟨_, rfl⟩
  have hlw : lastW s now = mn - s.lat := by unfold lastW; rw [hmx, hmn]
  have hmb : -1 ≤ mn ∧ mn ≤ 1125899906842624 := by omega
  have HMX := Lib.hid hmx
  have HMN := Lib.hid hmn
  rw [hlw] at hcond
  clear h1 hp hs hb hc hmx hmn hlw
  have hwr : IntKind.wrap .i64 (mn - s.lat) = mn - s.lat := by rw [IntKind.wrap_i64]; omega
  generalize hmk1 : s.mark = mk at c5 hmk HMN
  generalize hlt1 : s.lat = lt at c1 hlt hcond
  generalize hln1 : s.len = ln at c0 hln hcond
  have HE := Lib.hid (And.intro hlt1 (And.intro hln1 hmk1))
  clear hmk1 hlt1 hln1
  go_enter Try.func14, Try.ntmps14
  go_wp2_with fail
  refine HN.out.mono ?_
  rintro e w1 ⟨rfl, rfl⟩
  go_wp2_with fail
  have HC5 := Lib.hid c5
  have HC1 := Lib.hid c1
  have HC0 := Lib.hid c0
  refine wp_region_noPanic ?_
  refine wp_region_held_drew (S := (fun w' => Below w.heap.size w w')) (by kernel_rfl) ?_ (fun hHeld => ?_)
  · exact drew_below _
  refine wpAnyH_take (i := 0) (oi := _) (v := ?_) rfl (by kernel_rfl) (by kernel_rfl) (by kernel_rfl) (fun _ _ _ h => h) (Or.inl ⟨by rfl, ?_⟩) (by assumption) ?_
  rotate_left 1
  · (intro w hSw; (try dsimp only at hSw); go_simp; (try with_reducible rfl))
  try simp only [Act.put, List.getElem_toArray, List.getElem_cons_zero, List.setIfInBounds_toArray, List.set_cons_zero, List.set_cons_succ]
  refine wpAnyH_take (i := 1) (oi := _) (v := ?_) rfl (by kernel_rfl) (by kernel_rfl) (by kernel_rfl) (fun _ _ _ h => h) (Or.inl ⟨by rfl, ?_⟩) (by assumption) ?_
  rotate_left 1
  · (intro w hSw; (try dsimp only at hSw); go_simp; (try with_reducible rfl))
  try simp only [Act.put, List.getElem_toArray, List.getElem_cons_succ, List.getElem_cons_zero, List.setIfInBounds_toArray, List.set_cons_zero, List.set_cons_succ]
  refine wpAnyH_take (i := 2) (oi := _) (v := ?_) rfl (by kernel_rfl) (by kernel_rfl) (by kernel_rfl) (fun _ _ _ h => h) (Or.inl ⟨by rfl, ?_⟩) (by assumption) ?_
  rotate_left 1
  · (intro w hSw; (try dsimp only at hSw); go_simp; (try with_reducible rfl))
  try simp only [Act.put, List.getElem_toArray, List.getElem_cons_succ, List.getElem_cons_zero, List.setIfInBounds_toArray, List.set_cons_zero, List.set_cons_succ]
  refine wpAnyH_take (i := 3) (oi := _) (v := ?_) rfl (by kernel_rfl) (by kernel_rfl) (by kernel_rfl) (fun _ _ _ h => h) (Or.inl ⟨by rfl, ?_⟩) (by assumption) ?_
  rotate_left 1
  · (intro w hSw; (try dsimp only at hSw); (have q3 := keepc hSw HC5.out; go_simp); (try with_reducible rfl))
  try simp only [Act.put, List.getElem_toArray, List.getElem_cons_succ, List.getElem_cons_zero, List.setIfInBounds_toArray, List.set_cons_zero, List.set_cons_succ]
  refine wpAnyH_take (i := 4) (oi := _) (v := ?_) rfl (by kernel_rfl) (by kernel_rfl) (by kernel_rfl) (fun _ _ _ h => h) (Or.inl ⟨by rfl, ?_⟩) (by assumption) ?_
  rotate_left 1
  · (intro w hSw; (try dsimp only at hSw); go_simp; (try with_reducible rfl))
  try simp only [Act.put, List.getElem_toArray, List.getElem_cons_succ, List.getElem_cons_zero, List.setIfInBounds_toArray, List.set_cons_zero, List.set_cons_succ]
  refine wpAnyH_take (i := 5) (oi := _) (v := .int .i64 mx) rfl (by kernel_rfl) (by kernel_rfl) (by kernel_rfl) (fun _ _ _ h => h) (Or.inl ⟨by rfl, ?_⟩) (by assumption) ?_

  · (intro w hSw; exact max_op _ _ _ _ _ _ _ rfl rfl rfl HMX.out)
  try simp only [Act.put, List.getElem_toArray, List.getElem_cons_succ, List.getElem_cons_zero, List.setIfInBounds_toArray, List.set_cons_zero, List.set_cons_succ]
  refine wpAnyH_take (i := 6) (oi := _) (v := .int .i64 mn) rfl (by kernel_rfl) (by kernel_rfl) (by kernel_rfl) (fun _ _ _ h => h) (Or.inl ⟨by rfl, ?_⟩) (by assumption) ?_

  · (intro w hSw; exact min_op _ _ _ _ _ _ _ rfl rfl rfl HMN.out)
  try simp only [Act.put, List.getElem_toArray, List.getElem_cons_succ, List.getElem_cons_zero, List.setIfInBounds_toArray, List.set_cons_zero, List.set_cons_succ]
  refine wpAnyH_take (i := 7) (oi := _) (v := ?_) rfl (by kernel_rfl) (by kernel_rfl) (by kernel_rfl) (fun _ _ _ h => h) (Or.inl ⟨by rfl, ?_⟩) (by assumption) ?_
  rotate_left 1
  · (intro w hSw; (try dsimp only at hSw); go_simp; (try with_reducible rfl))
  try simp only [Act.put, List.getElem_toArray, List.getElem_cons_succ, List.getElem_cons_zero, List.setIfInBounds_toArray, List.set_cons_zero, List.set_cons_succ]
  refine wpAnyH_take (i := 8) (oi := _) (v := ?_) rfl (by kernel_rfl) (by kernel_rfl) (by kernel_rfl) (fun _ _ _ h => h) (Or.inl ⟨by rfl, ?_⟩) (by assumption) ?_
  rotate_left 1
  · (intro w hSw; (try dsimp only at hSw); go_simp; (try with_reducible rfl))
  try simp only [Act.put, List.getElem_toArray, List.getElem_cons_succ, List.getElem_cons_zero, List.setIfInBounds_toArray, List.set_cons_zero, List.set_cons_succ]
  refine wpAnyH_take (i := 9) (oi := _) (v := ?_) rfl (by kernel_rfl) (by kernel_rfl) (by kernel_rfl) (fun _ _ _ h => h) (Or.inl ⟨by rfl, ?_⟩) (by assumption) ?_
  rotate_left 1
  · (intro w hSw; (try dsimp only at hSw); go_simp; (try with_reducible rfl))
  try simp only [Act.put, List.getElem_toArray, List.getElem_cons_succ, List.getElem_cons_zero, List.setIfInBounds_toArray, List.set_cons_zero, List.set_cons_succ]
  refine wpAnyH_take (i := 10) (oi := _) (v := ?_) rfl (by kernel_rfl) (by kernel_rfl) (by kernel_rfl) (fun _ _ _ h => h) (Or.inl ⟨by rfl, ?_⟩) (by assumption) ?_
  rotate_left 1
  · (intro w hSw; (try dsimp only at hSw); (have q3 := keepc hSw HC1.out; go_simp); (try with_reducible rfl))
  try simp only [Act.put, List.getElem_toArray, List.getElem_cons_succ, List.getElem_cons_zero, List.setIfInBounds_toArray, List.set_cons_zero, List.set_cons_succ]
  refine wpAnyH_take (i := 11) (oi := _) (v := ?_) rfl (by kernel_rfl) (by kernel_rfl) (by kernel_rfl) (fun _ _ _ h => h) (Or.inl ⟨by rfl, ?_⟩) (by assumption) ?_
  rotate_left 1
  · (intro w hSw; (try dsimp only at hSw); go_simp; (try with_reducible rfl))
  try simp only [Act.put, List.getElem_toArray, List.getElem_cons_succ, List.getElem_cons_zero, List.setIfInBounds_toArray, List.set_cons_zero, List.set_cons_succ]
  refine wpAnyH_take (i := 12) (oi := _) (v := ?_) rfl (by kernel_rfl) (by kernel_rfl) (by kernel_rfl) (fun _ _ _ h => h) (Or.inl ⟨by rfl, ?_⟩) (by assumption) ?_
  rotate_left 1
  · (intro w hSw; (try dsimp only at hSw); go_simp; (try with_reducible rfl))
  try simp only [Act.put, List.getElem_toArray, List.getElem_cons_succ, List.getElem_cons_zero, List.setIfInBounds_toArray, List.set_cons_zero, List.set_cons_succ]
  refine wpAnyH_done (by kernel_rfl) ?_ _
  refine NoPanic.normal ?_
  have HF := Lib.hid (show ClockP w B g F ([], s, L) (.returned (.slice none 0 0)) w.drew from ⟨none, 0, rfl, WinsM.nil _ _, WinTo.same (HW.out w (Below.refl _ _)) (drew_below w)⟩)
  go_wp2
  go_ret
  exact HF.out
set_option maxHeartbeats 4000000 in
set_option maxRecDepth 100000 in
theorem clock_yes (h : WinIs w B g s L F) (hb : WBd L) (hc : SOk s) (now : Int) (hcond : ¬ lastW s now < s.len) {n : Int} (hn : lastW s now / s.len - 1 = n) :
    Calls Try.prog 14 #[.pointer (some ⟨g, 0, none⟩), .int .i64 now] w (ClockP w B g F (L.take (cntW n L), { s with floor := max s.floor n }, L.drop (cntW n L))) := by
  have HW := Lib.hid (fun W (hB : Below w.heap.size w W) => h.new hB)
  have HFW := Lib.hid (fun k hk => (h.in k hk).2)
  obtain ⟨M, es, h1, hp, hs, hFe⟩ := h
  obtain ⟨i0, hi0, hz0, hz1, hz2⟩ := info_parts info_wv
  have HN := Lib.hid (none_any h1 hc.len.1)
  have HR := Lib.hid (fun W (hB : Below w.heap.size w W) => rising_at (h1.below hB) hp hs hb)
  have HA := Lib.hid (fun W (hB : Below w.heap.size w W) => h1.below hB)
  have HLN : L.length ≤ 1000 := hb.len
  have HBD := Lib.hid hb
  have HC := Lib.hid hc
  have HS := Lib.hid hs
  have c5 : w.cell? ⟨g, 5, none⟩ = some (.int .i64 s.mark) := h1.cell 5 rfl
  have c1 : w.cell? ⟨g, 1, none⟩ = some (.int .i64 s.lat) := h1.cell 1 rfl
  have c0 : w.cell? ⟨g, 0, none⟩ = some (.int .i64 s.len) := h1.cell 0 rfl
  have hmk := hc.mark
  have hlt := hc.lat
  have hln := hc.len
  obtain ⟨mx, hmx⟩ : ∃ mx, max now (-1) = mx := ⟨_, rfl⟩
  obtain ⟨mn, hmn⟩ : ∃ mn, min s.mark mx = mn := ⟨_, rfl⟩
  have hlw : lastW s now = mn - s.lat := by unfold lastW; rw [hmx, hmn]
  have hmb : -1 ≤ mn ∧ mn ≤ 1125899906842624 := by omega
  have HMX := Lib.hid hmx
  have HMN := Lib.hid hmn
  rw [hlw] at hcond hn
  clear h1 hp hs hb hc hmx hmn hlw
  have hwr : IntKind.wrap .i64 (mn - s.lat) = mn - s.lat := by rw [IntKind.wrap_i64]; omega
  generalize hmk1 : s.mark = mk at c5 hmk HMN
  generalize hlt1 : s.lat = lt at c1 hlt hcond hwr hn
  generalize hln1 : s.len = ln at c0 hln hcond hn
  have HE := Lib.hid (And.intro hlt1 (And.intro hln1 hmk1))
  clear hmk1 hlt1 hln1
  go_enter Try.func14, Try.ntmps14
  go_wp2_with fail
  refine HN.out.mono ?_
  rintro e w1 ⟨rfl, rfl⟩
  go_wp2_with fail
  have HC5 := Lib.hid c5
  have HC1 := Lib.hid c1
  have HC0 := Lib.hid c0
  refine wp_region_noPanic ?_
  refine wp_region_held_drew (S := (fun w' => Below w.heap.size w w')) (by kernel_rfl) ?_ (fun hHeld => ?_)
  · exact drew_below _
  refine wpAnyH_take (i := 0) (oi := _) (v := ?_) rfl (by kernel_rfl) (by kernel_rfl) (by kernel_rfl) (fun _ _ _ h => h) (Or.inl ⟨by rfl, ?_⟩) (by assumption) ?_
  rotate_left 1
  · (intro w hSw; (try dsimp only at hSw); go_simp; (try with_reducible rfl))
  try simp only [Act.put, List.getElem_toArray, List.getElem_cons_zero, List.setIfInBounds_toArray, List.set_cons_zero, List.set_cons_succ]
  refine wpAnyH_take (i := 1) (oi := _) (v := ?_) rfl (by kernel_rfl) (by kernel_rfl) (by kernel_rfl) (fun _ _ _ h => h) (Or.inl ⟨by rfl, ?_⟩) (by assumption) ?_
  rotate_left 1
  · (intro w hSw; (try dsimp only at hSw); go_simp; (try with_reducible rfl))
  try simp only [Act.put, List.getElem_toArray, List.getElem_cons_succ, List.getElem_cons_zero, List.setIfInBounds_toArray, List.set_cons_zero, List.set_cons_succ]
  refine wpAnyH_take (i := 2) (oi := _) (v := ?_) rfl (by kernel_rfl) (by kernel_rfl) (by kernel_rfl) (fun _ _ _ h => h) (Or.inl ⟨by rfl, ?_⟩) (by assumption) ?_
  rotate_left 1
  · (intro w hSw; (try dsimp only at hSw); go_simp; (try with_reducible rfl))
  try simp only [Act.put, List.getElem_toArray, List.getElem_cons_succ, List.getElem_cons_zero, List.setIfInBounds_toArray, List.set_cons_zero, List.set_cons_succ]
  refine wpAnyH_take (i := 3) (oi := _) (v := ?_) rfl (by kernel_rfl) (by kernel_rfl) (by kernel_rfl) (fun _ _ _ h => h) (Or.inl ⟨by rfl, ?_⟩) (by assumption) ?_
  rotate_left 1
  · (intro w hSw; (try dsimp only at hSw); (have q3 := keepc hSw HC5.out; go_simp); (try with_reducible rfl))
  try simp only [Act.put, List.getElem_toArray, List.getElem_cons_succ, List.getElem_cons_zero, List.setIfInBounds_toArray, List.set_cons_zero, List.set_cons_succ]
  refine wpAnyH_take (i := 4) (oi := _) (v := ?_) rfl (by kernel_rfl) (by kernel_rfl) (by kernel_rfl) (fun _ _ _ h => h) (Or.inl ⟨by rfl, ?_⟩) (by assumption) ?_
  rotate_left 1
  · (intro w hSw; (try dsimp only at hSw); go_simp; (try with_reducible rfl))
  try simp only [Act.put, List.getElem_toArray, List.getElem_cons_succ, List.getElem_cons_zero, List.setIfInBounds_toArray, List.set_cons_zero, List.set_cons_succ]
  refine wpAnyH_take (i := 5) (oi := _) (v := .int .i64 mx) rfl (by kernel_rfl) (by kernel_rfl) (by kernel_rfl) (fun _ _ _ h => h) (Or.inl ⟨by rfl, ?_⟩) (by assumption) ?_

  · (intro w hSw; exact max_op _ _ _ _ _ _ _ rfl rfl rfl HMX.out)
  try simp only [Act.put, List.getElem_toArray, List.getElem_cons_succ, List.getElem_cons_zero, List.setIfInBounds_toArray, List.set_cons_zero, List.set_cons_succ]
  refine wpAnyH_take (i := 6) (oi := _) (v := .int .i64 mn) rfl (by kernel_rfl) (by kernel_rfl) (by kernel_rfl) (fun _ _ _ h => h) (Or.inl ⟨by rfl, ?_⟩) (by assumption) ?_

  · (intro w hSw; exact min_op _ _ _ _ _ _ _ rfl rfl rfl HMN.out)
  try simp only [Act.put, List.getElem_toArray, List.getElem_cons_succ, List.getElem_cons_zero, List.setIfInBounds_toArray, List.set_cons_zero, List.set_cons_succ]
  refine wpAnyH_take (i := 7) (oi := _) (v := ?_) rfl (by kernel_rfl) (by kernel_rfl) (by kernel_rfl) (fun _ _ _ h => h) (Or.inl ⟨by rfl, ?_⟩) (by assumption) ?_
  rotate_left 1
  · (intro w hSw; (try dsimp only at hSw); go_simp; (try with_reducible rfl))
  try simp only [Act.put, List.getElem_toArray, List.getElem_cons_succ, List.getElem_cons_zero, List.setIfInBounds_toArray, List.set_cons_zero, List.set_cons_succ]
  refine wpAnyH_take (i := 8) (oi := _) (v := ?_) rfl (by kernel_rfl) (by kernel_rfl) (by kernel_rfl) (fun _ _ _ h => h) (Or.inl ⟨by rfl, ?_⟩) (by assumption) ?_
  rotate_left 1
  · (intro w hSw; (try dsimp only at hSw); go_simp; (try with_reducible rfl))
  try simp only [Act.put, List.getElem_toArray, List.getElem_cons_succ, List.getElem_cons_zero, List.setIfInBounds_toArray, List.set_cons_zero, List.set_cons_succ]
  refine wpAnyH_take (i := 9) (oi := _) (v := ?_) rfl (by kernel_rfl) (by kernel_rfl) (by kernel_rfl) (fun _ _ _ h => h) (Or.inl ⟨by rfl, ?_⟩) (by assumption) ?_
  rotate_left 1
  · (intro w hSw; (try dsimp only at hSw); go_simp; (try with_reducible rfl))
  try simp only [Act.put, List.getElem_toArray, List.getElem_cons_succ, List.getElem_cons_zero, List.setIfInBounds_toArray, List.set_cons_zero, List.set_cons_succ]
  refine wpAnyH_take (i := 10) (oi := _) (v := ?_) rfl (by kernel_rfl) (by kernel_rfl) (by kernel_rfl) (fun _ _ _ h => h) (Or.inl ⟨by rfl, ?_⟩) (by assumption) ?_
  rotate_left 1
  · (intro w hSw; (try dsimp only at hSw); (have q3 := keepc hSw HC1.out; go_simp); (try with_reducible rfl))
  try simp only [Act.put, List.getElem_toArray, List.getElem_cons_succ, List.getElem_cons_zero, List.setIfInBounds_toArray, List.set_cons_zero, List.set_cons_succ]
  refine wpAnyH_take (i := 11) (oi := _) (v := ?_) rfl (by kernel_rfl) (by kernel_rfl) (by kernel_rfl) (fun _ _ _ h => h) (Or.inl ⟨by rfl, ?_⟩) (by assumption) ?_
  rotate_left 1
  · (intro w hSw; (try dsimp only at hSw); go_simp; (try with_reducible rfl))
  try simp only [Act.put, List.getElem_toArray, List.getElem_cons_succ, List.getElem_cons_zero, List.setIfInBounds_toArray, List.set_cons_zero, List.set_cons_succ]
  refine wpAnyH_take (i := 12) (oi := _) (v := ?_) rfl (by kernel_rfl) (by kernel_rfl) (by kernel_rfl) (fun _ _ _ h => h) (Or.inl ⟨by rfl, ?_⟩) (by assumption) ?_
  rotate_left 1
  · (intro w hSw; (try dsimp only at hSw); go_simp; (try with_reducible rfl))
  try simp only [Act.put, List.getElem_toArray, List.getElem_cons_succ, List.getElem_cons_zero, List.setIfInBounds_toArray, List.set_cons_zero, List.set_cons_succ]
  refine wpAnyH_done (by kernel_rfl) ?_ _
  refine NoPanic.normal ?_
  have g3 : w.drew.cell? ⟨g, 3, none⟩ = some (.map (some M)) := (HA.out w.drew (drew_below w)).cell 3 rfl
  have hq1 : 1 ≤ (mn - lt) / ln := (Int.le_ediv_iff_mul_le (by omega)).2 (by omega)
  have hq2 : (mn - lt) / ln ≤ mn - lt := Int.ediv_le_self _ (by omega)
  have hnb : 0 ≤ n ∧ n ≤ 1125899906842624 := by omega
  clear hq1 hq2
  have HWS := Lib.hid (show WinSub w B g F { s with floor := s.floor } (L.drop 0) w.drew from ⟨F, HW.out _ (drew_below w), Only.of_new (drew_below w), fun _ h => h⟩)
  go_wp2_with fail
  refine (HR.out w.drew (drew_below w)).mono ?_
  rintro e w2 ⟨nv, rfl, hrow, hb2⟩
  have hsz2 : w.heap.size ≤ w2.heap.size := hb2.size
  obtain ⟨na, nc, rfl, -, -, -, hnr⟩ := own_slice3 hrow
  have HNR := Lib.hid hnr
  have HNB := Lib.hid (show ∀ ad, na = some ad → w.heap.size ≤ ad.block ∧ ad.block < w2.heap.size from fun ad e => by subst e; exact hrow.lt ad.block rfl)
  have HS2 := Lib.hid (WinSub.after HWS.out hb2)
  have HBL := Lib.hid (Bld.nil w2.heap.size w2)
  have HSZ2 := Lib.hid hsz2
  clear hrow hnr hb2 g3 HWS HR hsz2 hmk hwr hmb c5 c1 c0 HC5 HC1 HC0 HMX HMN
  go_wp2
  go_loopw [4, 42] (fun sv iv wr => ∃ k : Nat, iv = .int .i64 k ∧ k ≤ L.length ∧ (∃ fk, s.floor ≤ fk ∧ fk ≤ max s.floor n ∧ WinSub w B g F { s with floor := fk } (L.drop (min k (cntW n L))) wr) ∧ Bld w2.heap.size wr (L.take (min k (cntW n L))) sv ∧ w2.heap.size ≤ wr.heap.size ∧ Rd wr na ((L.map (·.num)).map encZ)) (fun _ iv _ => L.length - (intOf iv).toNat)
  case atStart => exact ⟨0, rfl, Nat.zero_le _, ⟨s.floor, by omega, by omega, by rw [Nat.zero_min]; exact HS2.out⟩, by rw [Nat.zero_min]; exact HBL.out, Nat.le_refl _, HNR.out⟩
  case round =>
    obtain ⟨k, rfl, hk, ⟨fk, hf1, hf2, hsub⟩, hbd, hsz, hrd⟩ := hrel
    obtain ⟨wz, hwz⟩ : ∃ wz, wz = wr := ⟨_, rfl⟩
    subst hwz
    by_cases hc : k < L.length
    · obtain ⟨v, hv⟩ : ∃ v, v = L[k] := ⟨_, rfl⟩
      have hvm : v ∈ L := by rw [hv]; exact List.getElem_mem hc
      obtain ⟨b, off, rfl, hbl, hcell⟩ := hrd.at (k := k) (v := .int .i64 v.num) (by rw [hv]; simp [hc])
      have hcnt := cnt_iff (n := n) HS.out hc
      rw [← hv] at hcnt
      by_cases hvn : v.num ≤ n
      · have hkc : min k (cntW n L) = k := by have := hcnt.1 hvn; omega
        have hkc1 : min (k + 1) (cntW n L) = k + 1 := by have := hcnt.1 hvn; omega
        rw [hkc] at hsub hbd
        obtain ⟨Fz, hwz, hoz, hfz⟩ := hsub
        have hdk : L.drop k = v :: L.drop (k + 1) := by rw [hv]; exact List.drop_eq_getElem_cons hc
        have HT := Lib.hid (close_any hwz (HBD.out.drop k) (show v ∈ L.drop k by rw [hdk]; simp))
        have hwd : wdel v.num (L.drop k) = L.drop (k + 1) := by
          rw [hdk]
          exact wdel_head (by rw [← hdk]; exact HS.out.drop k)
        obtain ⟨ys, b1, b2, b3⟩ := hbd
        have hlk : (L.take k).length = k := by rw [List.length_take]; omega
        rw [hlk] at b2
        obtain ⟨sa, sc, hsv, hslc, -, -, -⟩ := own_slice3 b2
        subst hsv
        have HV := Lib.hid hv
        have HRD := Lib.hid hrd
        have HSZ := Lib.hid hsz
        have HY := Lib.hid (And.intro b1 (And.intro b2 b3))
        have HLK := Lib.hid hlk
        have HFK := Lib.hid (And.intro hf1 hf2)
        have HOZ := Lib.hid (And.intro hoz hfz)
        have HWD := Lib.hid hwd
        have HKC := Lib.hid hkc1
        clear hv hvm hrd hsz b1 b2 b3 hlk hslc HBL hcnt hkc hkc1 hwz hoz hfz hdk hwd hf1 hf2
        go_wp2_with fail
        refine HT.out.mono ?_
        rintro e w4 ⟨a, c, rfl, har, hab, hs4⟩
        rw [HWD.out] at hs4
        have hb45 : Below w4.heap.size w4 (w4.alloc (.cells #[.int .i64 v.num, .slice a v.cr.length c] 32)) := (Below.refl _ _).alloc (Nat.le_refl _) _
        have HP := Lib.hid (show ∀ V, V = w4.alloc (.cells #[.int .i64 v.num, .slice a v.cr.length c] 32) → V.ownsRow w2.heap.size 32 2 (.slice sa k sc) k (wcf ys) ∧ Rd V (some ⟨w4.heap.size, 0, none⟩) (WC.cells ⟨v, a, c⟩) ∧ Only (· ∈ F) wz V ∧ w2.heap.size ≤ V.heap.size ∧ WinSub w B g F { s with floor := max fk v.num } (L.drop (k + 1)) V from fun V hV => by
          have hbV : Below w4.heap.size w4 V := by rw [hV]; exact hb45
          obtain ⟨F4, hw4, ho4, hf4⟩ := hs4
          have hoV : Only (· ∈ F) wz V := (ho4.mono (G := (· ∈ F)) (fun q _ h => HOZ.out.2 q h)).trans (G := fun _ => False) (Only.of_new hbV) (fun _ _ h => h.elim)
          refine ⟨hoV.own HY.out.2.1 (fun q hq h => ?_), by rw [hV]; exact Rd.new w4 _ _ _ _ (fun j u hu => by simpa [WC.cells] using hu), hoV, Nat.le_trans HSZ.out hoV.size, F4, hw4.new hbV, HOZ.out.1.trans hoV (fun _ _ h => h), fun q hq => HOZ.out.2 q (hf4 q hq)⟩
          have h9 := HFW.out q h
          have h8 := (HY.out.2.1.lt q hq).1
          have h7 := HSZ2.out
          omega)
        have HAR := Lib.hid har
        have HAB := Lib.hid hab
        clear har hab hs4 hb45
        have HQ := Lib.hid (HP.out _ rfl)
        go_wp2_with (first
          | (with_reducible refine step_append_any (.inl rfl) _ _ 29 rfl w2.heap.size 32 i0 _ 2 32 Try.underlying29 hi0 hz0 hz1 hz2 rfl (by decide) (.slice sa k sc) k _ rfl HQ.out.1 (some ⟨w4.heap.size, 0, none⟩) 1 1 (WC.cells ⟨v, a, c⟩) rfl rfl HQ.out.2.1 (wc_one _) (by unfold maxLen; omega) (by omega) HQ.out.2.2.2.1 ?_)
          | fail)
        intro sv' w6 happ
        have hgr := happ.2.1
        have hoV := HQ.out.2.2.1
        have hY := HY.out
        have hown1 : ∀ q, (Value.slice sa k sc).ownBlock = some q → w2.heap.size ≤ q := fun q hq => (hY.2.1.lt q hq).1
        have hot : Only (fun q => (Value.slice sa k sc).ownBlock = some q) (w4.alloc (.cells #[.int .i64 v.num, .slice a v.cr.length c] 32)) w6 := (Only.refl _ _).grown hgr (fun q hq _ => hq)
        have hsub6 : WinSub w B g F { s with floor := max fk v.num } (L.drop (k + 1)) w6 := by
          obtain ⟨F5, hw5, ho5, hf5⟩ := HQ.out.2.2.2.2
          have hlow : ∀ q, q < w.heap.size → ¬ (Value.slice sa k sc).ownBlock = some q := fun q hq h => by
            have := hown1 q h
            have := HSZ2.out
            omega
          exact ⟨F5, hw5.only hot (fun q hq => hlow q (HFW.out q (hf5 q hq))), ho5.trans hot (fun q hq h => absurd h (hlow q hq)), hf5⟩
        have hFhi : ∀ q, w.heap.size ≤ q → ¬ q ∈ F := fun q hq h => by
          have := HFW.out q h
          omega
        have h3' : ∀ y ∈ ys, Rd (w4.alloc (.cells #[.int .i64 v.num, .slice a v.cr.length c] 32)) y.a (crf y.x.cr) ∧ ∀ ad, y.a = some ad → w2.heap.size ≤ ad.block ∧ ad.block < (w4.alloc (.cells #[.int .i64 v.num, .slice a v.cr.length c] 32)).heap.size ∧ (Value.slice sa k sc).ownBlock ≠ some ad.block := fun y hy =>
          ⟨hoV.rd (hY.2.2 y hy).1 (fun ad e => hFhi _ (Nat.le_trans HSZ2.out ((hY.2.2 y hy).2 ad e).1)), fun ad e => ⟨((hY.2.2 y hy).2 ad e).1, Nat.lt_of_lt_of_le ((hY.2.2 y hy).2 ad e).2.1 hoV.size, ((hY.2.2 y hy).2 ad e).2.2⟩⟩
        have hb45 : Below w4.heap.size w4 (w4.alloc (.cells #[.int .i64 v.num, .slice a v.cr.length c] 32)) := (Below.refl _ _).alloc (Nat.le_refl _) _
        have hbld := Bld.app (D := w2.heap.size) (sl := .slice sa k sc) (sl' := sv') (l := L.take k) hY.1 (by rw [HLK.out]; exact HQ.out.1) h3' ⟨v, a, c⟩ ⟨HAR.out.below hb45 (Nat.le_refl _), fun ad e => by
          have h9 := HAB.out ad e
          have h8 := HSZ.out
          have h7 := hb45.size
          refine ⟨by omega, by omega, fun hq => ?_⟩
          have h6 := (hY.2.1.lt _ hq).2
          omega⟩ (by rw [HLK.out]; exact happ)
        have htk : L.take (k + 1) = L.take k ++ [v] := by rw [List.take_add_one, List.getElem?_eq_getElem hc, HV.out]; rfl
        rw [← htk] at hbld
        have HREL := Lib.hid (show (∃ fk, s.floor ≤ fk ∧ fk ≤ max s.floor n ∧ WinSub w B g F { s with floor := fk } (L.drop (min (k + 1) (cntW n L))) w6) ∧ Bld w2.heap.size w6 (L.take (min (k + 1) (cntW n L))) sv' ∧ w2.heap.size ≤ w6.heap.size ∧ Rd w6 (some ⟨b, off, none⟩) ((L.map (·.num)).map encZ) from by
          rw [HKC.out]
          exact ⟨⟨max fk v.num, by have := HFK.out; omega, by have := HFK.out; omega, hsub6⟩, hbld, Nat.le_trans HQ.out.2.2.2.1 hot.size, hot.rd (hoV.rd HRD.out (fun ad e => hFhi _ (HNB.out ad e).1)) (fun ad e hq => by have h9 := hown1 _ hq; have h8 := (HNB.out ad e).2; omega)⟩)
        obtain ⟨va, vc, hsv, -, -, -, -⟩ := own_slice3 happ.1
        subst hsv
        clear hgr hoV hY hown1 hot hsub6 hFhi h3' hb45 hbld htk happ HP HQ
        go_wp2
        go_roundw
        case rel => exact ⟨k + 1, by go_num, by omega, HREL.out⟩
        case measure => simp [intOf]; omega
      · have hge : cntW n L ≤ k := by
          rcases Nat.lt_or_ge k (cntW n L) with h | h
          · exact absurd (hcnt.2 h) hvn
          · exact h
        rw [show min k (cntW n L) = min (k + 1) (cntW n L) by omega] at hsub hbd
        obtain ⟨sa, sc, hsv, hwin0⟩ := hbd.win
        subst hsv
        clear hwin0
        have HV := Lib.hid hv
        have HREL := Lib.hid (show (∃ fk, s.floor ≤ fk ∧ fk ≤ max s.floor n ∧ WinSub w B g F { s with floor := fk } (L.drop (min (k + 1) (cntW n L))) wz) ∧ Bld w2.heap.size wz (L.take (min (k + 1) (cntW n L))) (.slice sa (L.take (min (k + 1) (cntW n L))).length sc) ∧ w2.heap.size ≤ wz.heap.size ∧ Rd wz (some ⟨b, off, none⟩) ((L.map (·.num)).map encZ) from ⟨⟨fk, hf1, hf2, hsub⟩, hbd, hsz, hrd⟩)
        clear hsub hbd hsz hrd hge hcnt hv
        go_wp2
        go_roundw
        case rel => exact ⟨k + 1, by go_num, by omega, HREL.out⟩
        case measure => simp [intOf]; omega
    · obtain rfl : k = L.length := by omega
      have hkc : min L.length (cntW n L) = cntW n L := by have := cnt_le n L; omega
      rw [hkc] at hsub hbd
      obtain ⟨a, c, hsv, hwin⟩ := hbd.win
      subst hsv
      obtain ⟨Fz, ⟨Mz, ez, hat, hpz, hszz, hFz⟩, hoz, hfz⟩ := hsub
      have c4 : wz.cell? ⟨g, 4, none⟩ = some (.int .i64 fk) := hat.cell 4 rfl
      have z4 : wz.frozen? ⟨g, 4, none⟩ = false := frozen_of_row wz _ _ _ _ hat.1
      obtain ⟨m2, hm2⟩ : ∃ x, max fk n = x := ⟨_, rfl⟩
      have HX := Lib.hid hm2
      have HF := Lib.hid (show ∀ V, V = wz.setCell ⟨g, 4, none⟩ (.int .i64 m2) → ClockP w B g F (L.take (cntW n L), { s with floor := max s.floor n }, L.drop (cntW n L)) (.returned (.slice a (L.take (cntW n L)).length c)) V from fun V hV => by
        have h9 := hat.setTo hpz hszz 4 (.int .i64 m2) (s' := { s with floor := m2 }) rfl
        have hmm : m2 = max s.floor n := by omega
        have hgF : g ∈ F := hfz g (by rw [hFz]; simp [wfoot])
        have hoV : Only (· ∈ F) wz V := by rw [hV]; exact (Only.refl _ _).setCell _ _ (fun _ => hgF)
        obtain ⟨F9, h91, h92, h93⟩ := h9
        rw [← hV, hmm] at h91
        refine ⟨a, c, rfl, (hwin.mono (Q := fun q => w.heap.size ≤ q ∧ q < wz.heap.size) (fun q hq => ⟨Nat.le_trans HSZ2.out hq.1, hq.2⟩)).only hoV (fun q hq h => ?_) |>.mono (fun q hq => ⟨hq.1, Nat.lt_of_lt_of_le hq.2 hoV.size⟩), F9, h91, hoz.trans hoV (fun _ _ h => h), fun q hq => ?_⟩
        · have := HFW.out q h
          omega
        · rcases h93 q hq with h | h
          · exact .inl (hfz q (by rw [hFz]; exact h))
          · exact .inr (Nat.le_trans hoz.size h))
      clear hbd hwin hrd hpz hszz hat hoz hfz hf2 hf1
      clear hm2
      go_wp2_with (first
        | (with_reducible refine step_max rfl _ _ _ rfl fk n rfl rfl m2 HX.out ?_)
        | fail)
      obtain ⟨rfl, rfl, rfl⟩ := HE.out
      go_ret
      have h9 := HF.out _ rfl
      rw [List.length_take] at h9
      exact h9
theorem clock_any (h : WinIs w B g s L F) (hb : WBd L) (hc : SOk s) (now : Int) :
    Calls Try.prog 14 #[.pointer (some ⟨g, 0, none⟩), .int .i64 now] w (ClockP w B g F (clockW s L now)) := by
  unfold clockW
  by_cases hl : lastW s now < s.len
  · rw [if_pos hl]
    exact clock_no h hb hc now hl
  · rw [if_neg hl]
    exact clock_yes h hb hc now hl rfl
end
end Go.Proofs.Ytbkpgpaanhfjfaa
