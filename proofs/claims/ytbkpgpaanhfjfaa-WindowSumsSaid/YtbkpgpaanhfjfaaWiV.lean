/- Chapter 18: both windows, apart from one another; what stays from act to act; do: the walk. -/
import Derived.Test.YtbkpgpaanhfjfaaWiU
namespace Go.Proofs.Ytbkpgpaanhfjfaa
open Go.RowKit Go.Sort K
/-- What stays from act to act, of gains of any size. -/
structure WpI (k : Nat) (s : Cfg) (L : List WV) : Prop where
  k100 : k ≤ 101
  len : 1 ≤ s.len ∧ s.len ≤ 1073741824
  lat : 0 ≤ s.lat ∧ s.lat ≤ 1073741824
  most : 1 ≤ s.most ∧ s.most ≤ 64
  floor : -1 ≤ s.floor ∧ s.floor ≤ 1125899906842624
  mark : -1 ≤ s.mark ∧ s.mark ≤ 1125899906842624
  cred : 0 ≤ s.cred ∧ s.cred ≤ k
  late : 0 ≤ s.late ∧ s.late ≤ k
  mem : ∀ v ∈ L, s.floor < v.num ∧ v.num ≤ 1125899906842624 ∧ v.cr.length ≤ k ∧ (∀ c ∈ v.cr, CrB c) ∧ v.num * s.len ≤ 1125899906842624
  num : (L.length : Int) ≤ s.most
section
variable {k : Nat} {s : Cfg} {L : List WV}
theorem WpI.sok (h : WpI k s L) : SOk s := ⟨h.len, h.lat, h.most, h.floor, h.mark, ⟨h.cred.1, by have := h.cred.2; have := h.k100; omega⟩, ⟨h.late.1, by have := h.late.2; have := h.k100; omega⟩⟩
theorem WpI.wbd (h : WpI k s L) : WBd L := ⟨fun v hv => by have := h.mem v hv; have := h.floor; omega, fun v hv => ⟨by have := (h.mem v hv).2.2.1; have := h.k100; omega, (h.mem v hv).2.2.2.1⟩, by have := h.num; have := h.most; omega⟩
theorem WpI.nl (h : WpI k s L) : ∀ v ∈ L, v.num * s.len ≤ 1125899906842624 := fun v hv => (h.mem v hv).2.2.2.2
theorem WpI.up (h : WpI k s L) (hk : k ≤ 100) : WpI (k + 1) s L :=
  { h with k100 := by omega, cred := ⟨h.cred.1, by have := h.cred.2; omega⟩, late := ⟨h.late.1, by have := h.late.2; omega⟩, mem := fun v hv => ⟨(h.mem v hv).1, (h.mem v hv).2.1, by have := (h.mem v hv).2.2.1; omega, (h.mem v hv).2.2.2⟩ }
theorem WpI.note (h : WpI k s L) (t : Int) : WpI k (noteS s t) L := by
  refine { h with mark := ?_ }
  have := h.mark
  unfold noteS
  simp only
  split <;> omega
theorem WpI.clock (h : WpI k s L) (hs : WS L) (now : Int) : WpI k (clockW s L now).2.1 (clockW s L now).2.2 ∧ (clockW s L now).1.length ≤ 1000 ∧ ∀ v ∈ (clockW s L now).1, v.cr.length ≤ 1000 := by
  have hw := h.wbd
  unfold clockW
  by_cases hl : lastW s now < s.len
  · rw [if_pos hl]
    exact ⟨h, by simp, by simp⟩
  · rw [if_neg hl]
    simp only
    have hlw : lastW s now ≤ s.mark := by unfold lastW; have := h.lat; omega
    have hln := h.len
    have hmk := h.mark
    have hq1 : 1 ≤ lastW s now / s.len := (Int.le_ediv_iff_mul_le (by omega)).2 (by omega)
    have hq2 : lastW s now / s.len ≤ lastW s now := Int.ediv_le_self _ (by omega)
    obtain ⟨n, hn⟩ : ∃ n, n = lastW s now / s.len - 1 := ⟨_, rfl⟩
    rw [← hn]
    have hdr : ∀ v ∈ L.drop (cntW n L), n < v.num := fun v hv => by
      obtain ⟨i, hi, rfl⟩ := List.getElem_of_mem hv
      rw [List.length_drop] at hi
      rw [List.getElem_drop]
      have := cnt_iff (n := n) hs (k := cntW n L + i) (by omega)
      omega
    refine ⟨{ h with
        floor := by have := h.floor; exact ⟨by show -1 ≤ max s.floor n; omega, by show max s.floor n ≤ _; omega⟩
        mem := fun v hv => ⟨by have := (h.mem v (List.mem_of_mem_drop hv)).1; have := hdr v hv; show max s.floor n < v.num; omega, (h.mem v (List.mem_of_mem_drop hv)).2⟩
        num := by have := h.num; show ((L.drop (cntW n L)).length : Int) ≤ s.most; rw [List.length_drop]; omega }, by rw [List.length_take]; have := hw.len; omega, fun v hv => (hw.crs v (List.mem_of_mem_take hv)).1⟩
theorem WpI.put (h : WpI k s L) (hk : k ≤ 100) (hs : WS L) (hcs : ∀ v ∈ L, CS v.cr) {nm : List UInt8} (hnm : nm.length ≤ 140737488355328) {n inc : Int} (hn : s.floor < n ∧ n ≤ 1125899906842624) (hnl : n * s.len ≤ 1125899906842624) (hi : 0 ≤ inc) (hl : ((wvPut n nm inc L).length : Int) ≤ s.most) :
    WpI (k + 1) { s with cred := s.cred + 1 } (wvPut n nm inc L) := by
  have hu := h.up hk
  refine { hu with cred := ?_, mem := ?_, num := hl }
  · have := h.cred
    exact ⟨by show 0 ≤ s.cred + 1; omega, by show s.cred + 1 ≤ ((k + 1 : Nat) : Int); omega⟩
  · intro v hv
    rcases wvPut_mem hs hv with rfl | hv
    · refine ⟨hn.1, hn.2, ?_, crPut_B (wvCr_nil (P := CS) (by simp [CS]) hcs) (wvCr_nil (P := fun cr => ∀ c ∈ cr, CrB c) (by simp) (fun v hv => (h.mem v hv).2.2.2.1)) hnm hi, hnl⟩
      have h1 : (crPut nm inc (wvCr n L)).length ≤ (wvCr n L).length + 1 := sset_length _ _
      have h2 : (wvCr n L).length ≤ k := wvCr_nil (P := fun cr => cr.length ≤ k) (Nat.zero_le _) (fun v hv => (h.mem v hv).2.2.1)
      show (crPut nm inc (wvCr n L)).length ≤ k + 1
      omega
    · exact hu.mem v hv
theorem WpI.add (h : WpI k s L) (hk : k ≤ 100) (hs : WS L) (hcs : ∀ v ∈ L, CS v.cr) {nm : List UInt8} (hnm : nm.length ≤ 140737488355328) (time inc : Int) :
    WpI (k + 1) (addW s L nm time inc).2.2.1 (addW s L nm time inc).2.2.2 ∧ (addW s L nm time inc).2.1.length ≤ 1000 ∧ ∀ v ∈ (addW s L nm time inc).2.1, v.cr.length ≤ 1000 := by
  have hlate : WpI (k + 1) { s with late := s.late + 1 } L := { h.up hk with late := by have := h.late; exact ⟨by show 0 ≤ s.late + 1; omega, by show s.late + 1 ≤ ((k + 1 : Nat) : Int); omega⟩ }
  unfold addW
  by_cases hl : time < 0 ∨ 1125899906842624 < time ∨ inc < 0 ∨ time.tdiv s.len ≤ s.floor
  · rw [if_pos hl]
    exact ⟨hlate, by simp, by simp⟩
  rw [if_neg hl]
  have hln := h.len
  have hi0 : 0 ≤ inc := by omega
  have ht := Int.tdiv_eq_ediv_of_nonneg (a := time) (b := s.len) (by omega)
  have hq : time.tdiv s.len ≤ 1125899906842624 := by
    rw [ht]
    have := Int.ediv_le_self (a := time) s.len (by omega)
    omega
  have hnl : time.tdiv s.len * s.len ≤ 1125899906842624 := by
    rw [ht]
    have := Int.ediv_mul_le time (b := s.len) (by omega)
    omega
  have hfl : s.floor < time.tdiv s.len := by omega
  by_cases hin : time.tdiv s.len ∈ L.map (·.num) ∨ (L.length : Int) < s.most
  · rw [if_pos hin]
    refine ⟨h.put hk hs hcs hnm ⟨hfl, hq⟩ hnl hi0 ?_, by simp, by simp⟩
    have hnu := h.num
    rcases hin with hin | hin
    · have h9 := wvPut_len_in (n := 0) (nm := nm) (inc := 0) (L := L) (v := ⟨time.tdiv s.len, crPut nm inc (wvCr (time.tdiv s.len) L)⟩) hs hin
      show ((wvSet _ L).length : Int) ≤ _
      omega
    · have h9 : (wvSet ⟨time.tdiv s.len, crPut nm inc (wvCr (time.tdiv s.len) L)⟩ L).length ≤ L.length + 1 := sset_length _ _
      show ((wvSet _ L).length : Int) ≤ _
      omega
  · rw [if_neg hin]
    cases L with
    | nil => exact ⟨hlate, by simp, by simp⟩
    | cons f t =>
      simp only
      by_cases hlt : time.tdiv s.len < f.num
      · rw [if_pos hlt]
        exact ⟨hlate, by simp, by simp⟩
      · rw [if_neg hlt]
        have hm := h.mem f (by simp)
        have hfn : f.num < time.tdiv s.len := by
          have h1 : ¬ time.tdiv s.len = f.num := fun e => hin (.inl (by rw [e]; simp))
          omega
        have hs2 := hs
        unfold WS at hs2
        rw [List.map_cons, List.pairwise_cons] at hs2
        have hst : WpI k { s with floor := max s.floor f.num } t := { h with
          floor := by have := h.floor; exact ⟨by show -1 ≤ max s.floor f.num; omega, by show max s.floor f.num ≤ _; omega⟩
          mem := fun v hv => ⟨by have h1 := (h.mem v (by simp [hv])).1; have h2 := hs2.1 _ (List.mem_map.2 ⟨v, hv, rfl⟩); show max s.floor f.num < v.num; omega, (h.mem v (by simp [hv])).2⟩
          num := by have := h.num; simp only [List.length_cons] at this; show (t.length : Int) ≤ s.most; omega }
        have hp := hst.put hk (show WS t from hs2.2) (fun v hv => hcs v (by simp [hv])) hnm (n := time.tdiv s.len) (inc := inc) ⟨by show max s.floor f.num < _; omega, hq⟩ hnl hi0 (by
          have h9 : (wvSet ⟨time.tdiv s.len, crPut nm inc (wvCr (time.tdiv s.len) t)⟩ t).length ≤ t.length + 1 := sset_length _ _
          have h8 := h.num
          simp only [List.length_cons] at h8
          show ((wvSet _ t).length : Int) ≤ s.most
          omega)
        refine ⟨hp, by simp, fun v hv => ?_⟩
        simp only [List.mem_singleton] at hv
        subst hv
        have := hm.2.2.1
        have := h.k100
        omega
theorem WpI.zero {len lat most : Int} (h : MayW len lat most) : WpI 0 (cfg0 len lat most) [] := by
  obtain ⟨h1, h2, h3, h4, h5, h6⟩ := h
  exact ⟨by omega, ⟨h1, h2⟩, ⟨h3, h4⟩, ⟨h5, h6⟩, ⟨by show (-1 : Int) ≤ -1; omega, by show (-1 : Int) ≤ _; omega⟩, ⟨by show (-1 : Int) ≤ -1; omega, by show (-1 : Int) ≤ _; omega⟩, ⟨by show (0 : Int) ≤ 0; omega, by show (0 : Int) ≤ _; omega⟩, ⟨by show (0 : Int) ≤ 0; omega, by show (0 : Int) ≤ _; omega⟩, by simp, by show (0 : Int) ≤ most; omega⟩
end
/-- What an act leaves. -/
def actW (s : Cfg) (L : List WV) (x : ActR) : Cfg × List WV :=
  if x.kind = 1 then (noteS s x.n, L) else if x.kind = 2 then (addW s L x.nm x.time x.inc).2.2 else if x.kind = 3 then (clockW s L x.n).2 else (s, L)
theorem WpI.act {k : Nat} {s : Cfg} {L : List WV} (h : WpI k s L) (hk : k ≤ 100) (hs : WS L) (hcs : ∀ v ∈ L, CS v.cr) {x : ActR} (hx : x.Q) : WpI (k + 1) (actW s L x).1 (actW s L x).2 := by
  unfold actW
  by_cases h1 : x.kind = 1
  · rw [if_pos h1]
    exact (h.note _).up hk
  rw [if_neg h1]
  by_cases h2 : x.kind = 2
  · rw [if_pos h2]
    exact (h.add hk hs hcs (by have := hx.2.1; omega) _ _).1
  rw [if_neg h2]
  by_cases h3 : x.kind = 3
  · rw [if_pos h3]
    exact (h.clock hs _).1.up hk
  · rw [if_neg h3]
    exact h.up hk
/-- Both windows, apart. -/
def WpIs (w : World) (B g r : Nat) (s : Cfg) (L : List WV) (F : List Nat) (G : Nat → Prop) : Prop := WinIs w B g s L F ∧ RwIs w B r s L G ∧ (∀ k, G k → k ∉ F) ∧ r ∉ F
def WpTo (w : World) (B g r : Nat) (F : List Nat) (G : Nat → Prop) (s' : Cfg) (L' : List WV) (w' : World) : Prop := ∃ F' G', WpIs w' B g r s' L' F' G' ∧ Only (fun k => k ∈ F ∨ k = r) w w' ∧ (∀ k ∈ F', k ∈ F ∨ w.heap.size ≤ k) ∧ ∀ k, G' k → G k ∨ w.heap.size ≤ k
section
variable {w W w' : World} {B g r : Nat} {s s' : Cfg} {L L' : List WV} {F : List Nat} {G : Nat → Prop}
theorem WpIs.only {P : Nat → Prop} (h : WpIs w B g r s L F G) (ho : Only P w w') (hF : ∀ k ∈ F, ¬ P k) (hr : ¬ P r) (hG : ∀ k, G k → ¬ P k) : WpIs w' B g r s L F G :=
  ⟨h.1.only ho hF, h.2.1.only ho hr hG, h.2.2.1, h.2.2.2⟩
theorem WpIs.new (h : WpIs w B g r s L F G) (hb : Below w.heap.size w w') : WpIs w' B g r s L F G := h.only (P := fun _ => False) (Only.of_new hb) (fun _ _ h => h) (fun h => h) (fun _ _ h => h)
theorem WpIs.to (h : WpIs w B g r s L F G) : WpTo w B g r F G s L w := ⟨F, G, h, Only.refl _ _, fun _ h => .inl h, fun _ h => .inl h⟩
/-- The program's step, then the reference's. -/
theorem WpIs.step (h : WpIs w B g r s L F G) (h1 : WinTo w B g F s' L' W) (h2 : ∀ (_ : RwIs W B r s L G), RwTo W B r G s' L' w') : WpTo w B g r F G s' L' w' := by
  obtain ⟨hw, hr, hd, hn⟩ := h
  obtain ⟨F', k1, k2, k3⟩ := h1
  obtain ⟨G', j1, j2, j3⟩ := h2 (hr.only k2 hn hd)
  have hrl := hr.rlt
  have hgl := hr.glt
  have hrF : r ∉ F' := fun e => by
    rcases k3 r e with h9 | h9
    · exact hn h9
    · omega
  have hin := k1.in
  refine ⟨F', G', ⟨k1.only j2 (fun k hk e => hrF (by have e : k = r := e; rw [← e]; exact hk)), j1, fun k hk hf => ?_, hrF⟩, (k2.mono (G := fun k => k ∈ F ∨ k = r) (fun _ _ h => .inl h)).trans j2 (fun _ _ h => .inr h), k3, fun k hk => (j3 k hk).imp (fun h => h) (fun h => Nat.le_trans k2.size h)⟩
  rcases j3 k hk with h9 | h9
  · rcases k3 k hf with h8 | h8
    · exact hd k h9 h8
    · have := hgl k h9
      omega
  · have := (hin k hf).2
    omega
theorem WpTo.start (hb : Below w.heap.size w W) (h : WpTo W B g r F G s L w') : WpTo w B g r F G s L w' := by
  obtain ⟨F', G', h1, h2, h3, h4⟩ := h
  exact ⟨F', G', h1, (Only.of_new (F := fun k => k ∈ F ∨ k = r) hb).trans h2 (fun _ _ h => h), fun k hk => (h3 k hk).imp (fun h => h) (fun h => Nat.le_trans hb.size h), fun k hk => (h4 k hk).imp (fun h => h) (fun h => Nat.le_trans hb.size h)⟩
theorem WpTo.after (h : WpTo w B g r F G s L W) (hb : Below W.heap.size W w') : WpTo w B g r F G s L w' := by
  obtain ⟨F', G', h1, h2, h3, h4⟩ := h
  exact ⟨F', G', h1.new hb, h2.trans (G := fun _ => False) (Only.of_new hb) (fun _ _ h => h.elim), h3, h4⟩
end
def actO (x : ActR) : Obj := .cells #[.int .i64 x.kind, .int .i64 x.n, encStr x.nm, .int .i64 x.time, .int .i64 x.inc, .bool x.rst] 39 (0, 0)
def DoP (w : World) (B g r : Nat) (F : List Nat) (G : Nat → Prop) (R : Cfg × List WV) (e : Ending) (w' : World) : Prop := e = .returned (.bool true) ∧ WpTo w B g r F G R.1 R.2 w'
set_option maxHeartbeats 4000000 in
set_option maxRecDepth 100000 in
theorem do18_1 {w : World} {B g r k : Nat} {s : Cfg} {L : List WV} {F : List Nat} {G : Nat → Prop} (h : WpIs w B g r s L F G) (hi : WpI k s L) (hk : k ≤ 100) (n : Int) (nm : List UInt8) (time inc : Int) (rst : Bool) (hx : (ActR.mk 1 n nm time inc rst).Q) :
    Calls Try.prog 18 #[.pointer (some ⟨g, 0, none⟩), .pointer (some ⟨r, 0, none⟩), .agg #[.int .i64 1, .int .i64 n, encStr nm, .int .i64 time, .int .i64 inc, .bool rst]] w (DoP w B g r F G (noteS s n, L)) := by
  obtain ⟨hq1, hq2, hq3, hq4⟩ := hx
  simp only at hq1 hq2 hq3 hq4
  obtain ⟨A, hA⟩ : ∃ A, A = w.alloc (.cells #[.int .i64 1, .int .i64 n, encStr nm, .int .i64 time, .int .i64 inc, .bool rst] 39) := ⟨_, rfl⟩
  have hbA : Below w.heap.size w A := by rw [hA]; exact (Below.refl _ w).alloc (Nat.le_refl _) _
  have hO : A.heap[w.heap.size]? = some (actO (ActR.mk 1 n nm time inc rst)) := by rw [hA]; exact heap_alloc_new w _
  have hHA := h.new hbA
  have HA := Lib.hid hA
  have HBA := Lib.hid hbA
  have HHA := Lib.hid hHA
  have HI := Lib.hid hi
  have HO := Lib.hid hO
  have hAw : w.heap.size < A.heap.size := (Array.getElem?_eq_some_iff.1 hO).1
  have hws := hHA.1.ws
  have hcs := hHA.1.cs
  have HWS := Lib.hid hws
  have HCS := Lib.hid hcs
  have HFW := Lib.hid (fun q hq => (h.1.in q hq).2)
  have HRW := Lib.hid h.2.1.rlt
  have HGW := Lib.hid h.2.1.glt
  clear h hi hA hbA hO hHA hws hcs
  have HN := Lib.hid (note_any HHA.out.1 HI.out.len.1 n)
  have c1 : A.cell? ⟨w.heap.size, 1, none⟩ = some (.int .i64 n) := by rw [cell_of_row _ _ _ _ _ _ HO.out]; rfl
  have C1 := Lib.hid c1
  go_enter Try.func18, Try.ntmps18
  go_wp2_with fail
  rw [← HA.out]
  refine HN.out.mono ?_
  rintro e w2 ⟨⟨v2, rfl⟩, hto⟩
  obtain ⟨F2, k1, k2, k3⟩ := id hto
  have c1 : w2.cell? ⟨w.heap.size, 1, none⟩ = some (.int .i64 n) := k2.cell C1.out (fun e => Nat.lt_irrefl _ (HFW.out _ e))
  have hbl := World.block_lt_of_cell? w2 _ c1
  simp only at hbl
  have hrw := HHA.out.2.1.only k2 HHA.out.2.2.2 HHA.out.2.2.1
  have HN2 := Lib.hid (rwnote_any hrw HI.out.mark.1 n)
  have HTO := Lib.hid hto
  clear hto k1 k2 k3 hrw
  go_wp2_with fail
  refine HN2.out.mono ?_
  rintro e w3 ⟨⟨v3, rfl⟩, hto3⟩
  have HF := Lib.hid (show DoP w B g r F G (noteS s n, L) (.returned (.bool true)) w3 from ⟨rfl, (HHA.out.step HTO.out (fun _ => hto3)).start HBA.out⟩)
  clear hto3
  go_wp2
  go_ret
  exact HF.out
set_option maxHeartbeats 4000000 in
set_option maxRecDepth 100000 in
theorem do18_2 {w : World} {B g r k : Nat} {s : Cfg} {L : List WV} {F : List Nat} {G : Nat → Prop} (h : WpIs w B g r s L F G) (hi : WpI k s L) (hk : k ≤ 100) (n : Int) (nm : List UInt8) (time inc : Int) (rst : Bool) (hx : (ActR.mk 2 n nm time inc rst).Q) :
    Calls Try.prog 18 #[.pointer (some ⟨g, 0, none⟩), .pointer (some ⟨r, 0, none⟩), .agg #[.int .i64 2, .int .i64 n, encStr nm, .int .i64 time, .int .i64 inc, .bool rst]] w (DoP w B g r F G (addW s L nm time inc).2.2) := by
  obtain ⟨hq1, hq2, hq3, hq4⟩ := hx
  simp only at hq1 hq2 hq3 hq4
  obtain ⟨A, hA⟩ : ∃ A, A = w.alloc (.cells #[.int .i64 2, .int .i64 n, encStr nm, .int .i64 time, .int .i64 inc, .bool rst] 39) := ⟨_, rfl⟩
  have hbA : Below w.heap.size w A := by rw [hA]; exact (Below.refl _ w).alloc (Nat.le_refl _) _
  have hO : A.heap[w.heap.size]? = some (actO (ActR.mk 2 n nm time inc rst)) := by rw [hA]; exact heap_alloc_new w _
  have hHA := h.new hbA
  have HA := Lib.hid hA
  have HBA := Lib.hid hbA
  have HHA := Lib.hid hHA
  have HI := Lib.hid hi
  have HO := Lib.hid hO
  have hAw : w.heap.size < A.heap.size := (Array.getElem?_eq_some_iff.1 hO).1
  have hws := hHA.1.ws
  have hcs := hHA.1.cs
  have HWS := Lib.hid hws
  have HCS := Lib.hid hcs
  have HFW := Lib.hid (fun q hq => (h.1.in q hq).2)
  have HRW := Lib.hid h.2.1.rlt
  have HGW := Lib.hid h.2.1.glt
  have hadd := hi.add hk hws hcs (show nm.length ≤ 140737488355328 by omega) time inc
  have HADD := Lib.hid hadd
  clear hadd
  clear h hi hA hbA hO hHA hws hcs
  have HN := Lib.hid (add_any HHA.out.1 HI.out.wbd HI.out.sok nm time inc rst hq3 hq4.2)
  have hg : ∀ W : World, W.heap[w.heap.size]? = some (actO (ActR.mk 2 n nm time inc rst)) → W.cell? ⟨w.heap.size, 2, none⟩ = some (encStr nm) ∧ W.cell? ⟨w.heap.size, 3, none⟩ = some (.int .i64 time) ∧ W.cell? ⟨w.heap.size, 4, none⟩ = some (.int .i64 inc) ∧ W.cell? ⟨w.heap.size, 5, none⟩ = some (.bool rst) := fun W hW => by
    refine ⟨?_, ?_, ?_, ?_⟩ <;> (rw [cell_of_row _ _ _ _ _ _ hW]; rfl)
  have HG := Lib.hid hg
  clear hg
  obtain ⟨R, hR⟩ : ∃ x, x = addW s L nm time inc := ⟨_, rfl⟩
  rw [← hR] at HADD HN ⊢
  obtain ⟨b5, x5, s5, L5⟩ := R
  have HRR := Lib.hid hR
  clear hR
  go_enter Try.func18, Try.ntmps18
  go_wp2_with fail
  rw [← HA.out]
  refine HN.out.mono ?_
  rintro e w2 ⟨a2, c2, rfl, hws2, hto⟩
  obtain ⟨F2, k1, k2, k3⟩ := id hto
  have hO2 := k2.heap HO.out (fun e => by have := HFW.out _ e; omega)
  obtain ⟨e2, e3, e4, e5⟩ := HG.out w2 hO2
  have hbl : w.heap.size < w2.heap.size := (Array.getElem?_eq_some_iff.1 hO2).1
  have hrw := HHA.out.2.1.only k2 HHA.out.2.2.2 HHA.out.2.2.1
  have HN2 := Lib.hid (radd_any hrw HWS.out HCS.out HI.out.wbd HI.out.sok HI.out.num nm time inc rst hq3 hq4.2)
  rw [← HRR.out] at HN2
  have HTO := Lib.hid hto
  have HW2 := Lib.hid hws2
  have HSZ := Lib.hid k2.size
  clear hto k1 k2 k3 hrw hO2 hws2
  go_wp2_with fail
  refine HN2.out.mono ?_
  rintro e w3 ⟨a3, c3, rfl, hws3, hto3⟩
  have hdo := HHA.out.step HTO.out (fun _ => hto3)
  obtain ⟨G3, -, o3, -⟩ := hto3
  have hw2' : WinsM (fun q => A.heap.size ≤ q) w3 x5 a2 := HW2.out.only o3 (fun q hq e => by have hq : A.heap.size ≤ q := hq; have e : q = r := e; have := HRW.out; omega)
  have HSW := Lib.hid (samewin_eq (c1 := c2) (c2 := c3) hw2' hws3 HADD.out.2.1 HADD.out.2.2)
  have HDO := Lib.hid hdo
  have hbb : (b5 == b5) = true := by simp
  clear hdo o3 hw2' hws3
  go_wp2_with fail
  refine HSW.out.mono ?_
  rintro e w4 ⟨rfl, hb4⟩
  have HF := Lib.hid (show DoP w B g r F G (s5, L5) (.returned (.bool true)) w4 from ⟨rfl, (HDO.out.start HBA.out).after hb4⟩)
  clear hb4
  go_wp2
  go_ret
  exact HF.out
set_option maxHeartbeats 4000000 in
set_option maxRecDepth 100000 in
theorem do18_3 {w : World} {B g r k : Nat} {s : Cfg} {L : List WV} {F : List Nat} {G : Nat → Prop} (h : WpIs w B g r s L F G) (hi : WpI k s L) (hk : k ≤ 100) (n : Int) (nm : List UInt8) (time inc : Int) (rst : Bool) (hx : (ActR.mk 3 n nm time inc rst).Q) :
    Calls Try.prog 18 #[.pointer (some ⟨g, 0, none⟩), .pointer (some ⟨r, 0, none⟩), .agg #[.int .i64 3, .int .i64 n, encStr nm, .int .i64 time, .int .i64 inc, .bool rst]] w (DoP w B g r F G (clockW s L n).2) := by
  obtain ⟨hq1, hq2, hq3, hq4⟩ := hx
  simp only at hq1 hq2 hq3 hq4
  obtain ⟨A, hA⟩ : ∃ A, A = w.alloc (.cells #[.int .i64 3, .int .i64 n, encStr nm, .int .i64 time, .int .i64 inc, .bool rst] 39) := ⟨_, rfl⟩
  have hbA : Below w.heap.size w A := by rw [hA]; exact (Below.refl _ w).alloc (Nat.le_refl _) _
  have hO : A.heap[w.heap.size]? = some (actO (ActR.mk 3 n nm time inc rst)) := by rw [hA]; exact heap_alloc_new w _
  have hHA := h.new hbA
  have HA := Lib.hid hA
  have HBA := Lib.hid hbA
  have HHA := Lib.hid hHA
  have HI := Lib.hid hi
  have HO := Lib.hid hO
  have hAw : w.heap.size < A.heap.size := (Array.getElem?_eq_some_iff.1 hO).1
  have hws := hHA.1.ws
  have hcs := hHA.1.cs
  have HWS := Lib.hid hws
  have HCS := Lib.hid hcs
  have HFW := Lib.hid (fun q hq => (h.1.in q hq).2)
  have HRW := Lib.hid h.2.1.rlt
  have HGW := Lib.hid h.2.1.glt
  have hcl := hi.clock hws n
  have HCL := Lib.hid hcl
  clear hcl
  clear h hi hA hbA hO hHA hws hcs
  have HN := Lib.hid (fun W (hb : Below A.heap.size A W) => clock_any (HHA.out.1.new hb) HI.out.wbd HI.out.sok n)
  have C1 := Lib.hid (show A.cell? ⟨w.heap.size, 1, none⟩ = some (.int .i64 n) by rw [cell_of_row _ _ _ _ _ _ HO.out]; rfl)
  obtain ⟨R, hR⟩ : ∃ x, x = clockW s L n := ⟨_, rfl⟩
  rw [← hR] at HCL HN ⊢
  obtain ⟨x5, s5, L5⟩ := R
  have HRR := Lib.hid hR
  clear hR
  go_enter Try.func18, Try.ntmps18
  go_wp2_with fail
  rw [← HA.out]
  refine wp_region_noPanic ?_
  refine wp_region_held_drew (S := (fun w' => w'.cell? ⟨w.heap.size, 1, none⟩ = some (.int .i64 n))) (by kernel_rfl) ?_ (fun hHeld => ?_)
  · exact keepc (drew_below _) C1.out
  refine wpAnyH_take (i := 0) (oi := _) (v := ?_) rfl (by kernel_rfl) (by kernel_rfl) (by kernel_rfl) (fun _ _ _ h => h) (Or.inl ⟨by rfl, ?_⟩) (by assumption) ?_
  rotate_left 1
  · (intro w hSw; (try dsimp only at hSw); go_simp; (try with_reducible rfl))
  try simp only [Act.put, List.getElem_toArray, List.getElem_cons_succ, List.getElem_cons_zero, List.setIfInBounds_toArray, List.set_cons_zero, List.set_cons_succ]
  refine wpAnyH_take (i := 1) (oi := _) (v := ?_) rfl (by kernel_rfl) (by kernel_rfl) (by kernel_rfl) (fun _ _ _ h => h) (Or.inl ⟨by rfl, ?_⟩) (by assumption) ?_
  rotate_left 1
  · (intro w hSw; (try dsimp only at hSw); go_simp; (try with_reducible rfl))
  try simp only [Act.put, List.getElem_toArray, List.getElem_cons_succ, List.getElem_cons_zero, List.setIfInBounds_toArray, List.set_cons_zero, List.set_cons_succ]
  refine wpAnyH_take (i := 2) (oi := _) (v := ?_) rfl (by kernel_rfl) (by kernel_rfl) (by kernel_rfl) (fun _ _ _ h => h) (Or.inl ⟨by rfl, ?_⟩) (by assumption) ?_
  rotate_left 1
  · (intro w hSw; (try dsimp only at hSw); (have q := hSw; go_simp); (try with_reducible rfl))
  try simp only [Act.put, List.getElem_toArray, List.getElem_cons_succ, List.getElem_cons_zero, List.setIfInBounds_toArray, List.set_cons_zero, List.set_cons_succ]
  refine wpAnyH_take (i := 4) (oi := _) (v := ?_) rfl (by kernel_rfl) (by kernel_rfl) (by kernel_rfl) (fun _ _ _ h => h) (Or.inl ⟨by rfl, ?_⟩) (by assumption) ?_
  rotate_left 1
  · (intro w hSw; (try dsimp only at hSw); go_simp; (try with_reducible rfl))
  try simp only [Act.put, List.getElem_toArray, List.getElem_cons_succ, List.getElem_cons_zero, List.setIfInBounds_toArray, List.set_cons_zero, List.set_cons_succ]
  refine wpAnyH_take (i := 5) (oi := _) (v := ?_) rfl (by kernel_rfl) (by kernel_rfl) (by kernel_rfl) (fun _ _ _ h => h) (Or.inl ⟨by rfl, ?_⟩) (by assumption) ?_
  rotate_left 1
  · (intro w hSw; (try dsimp only at hSw); go_simp; (try with_reducible rfl))
  try simp only [Act.put, List.getElem_toArray, List.getElem_cons_succ, List.getElem_cons_zero, List.setIfInBounds_toArray, List.set_cons_zero, List.set_cons_succ]
  refine wpAnyH_take (i := 6) (oi := _) (v := ?_) rfl (by kernel_rfl) (by kernel_rfl) (by kernel_rfl) (fun _ _ _ h => h) (Or.inl ⟨by rfl, ?_⟩) (by assumption) ?_
  rotate_left 1
  · (intro w hSw; (try dsimp only at hSw); (have q := hSw; go_simp); (try with_reducible rfl))
  try simp only [Act.put, List.getElem_toArray, List.getElem_cons_succ, List.getElem_cons_zero, List.setIfInBounds_toArray, List.set_cons_zero, List.set_cons_succ]
  refine wpAnyH_ready (rs := [3]) (by kernel_rfl) (by simp) ?_
  refine AllReadyH.cons (o := _) rfl (fun K hK => ?_) AllReadyH.nil
  go_simp
  refine (HN.out _ (drew_below _)).mono ?_
  rintro e w2 ⟨a2, c2, rfl, hws2, hto⟩
  obtain ⟨F2, k1, k2, k3⟩ := id hto
  have C2 := Lib.hid (show w2.cell? ⟨w.heap.size, 1, none⟩ = some (.int .i64 n) from k2.cell (keepc (drew_below _) C1.out) (fun e => Nat.lt_irrefl _ (HFW.out _ e)))
  have HN2 := Lib.hid (rclock_any ((HHA.out.2.1.new (drew_below _)).only k2 HHA.out.2.2.2 HHA.out.2.2.1) HWS.out HI.out.wbd HI.out.sok HI.out.nl n)
  rw [← HRR.out] at HN2
  have HTO := Lib.hid hto
  have HW2 := Lib.hid hws2
  clear hto k1 k2 k3 hws2
  go_wp2_with fail
  refine hK.out _ _ ?_ (fun hHeld3 => ?_)
  · exact C2.out
  clear hK K
  try simp only [Act.put, List.getElem_toArray, List.getElem_cons_succ, List.getElem_cons_zero, List.setIfInBounds_toArray, List.set_cons_zero, List.set_cons_succ]
  refine wpAnyH_ready (rs := [7]) (by kernel_rfl) (by simp) ?_
  refine AllReadyH.cons (o := _) rfl (fun K hK => ?_) AllReadyH.nil
  go_simp
  refine HN2.out.mono ?_
  rintro e w3 ⟨a3, c3, rfl, hws3, hto3⟩
  have hdo := (HHA.out.new (drew_below _)).step HTO.out (fun _ => hto3)
  obtain ⟨G3, -, o3, -⟩ := id hto3
  have hw2' : WinsM (fun q => w.heap.size ≤ q) w3 x5 a2 := (HW2.out.mono (Q := fun q => w.heap.size ≤ q) (fun q hq => by have h9 : A.drew.heap.size ≤ q := hq.1; have h8 := (drew_below A).size; omega)).only o3 (fun q hq e => by have hq : w.heap.size ≤ q := hq; have e : q = r := e; have := HRW.out; omega)
  have HSW := Lib.hid (samewin_eq (c1 := c2) (c2 := c3) hw2' hws3 HCL.out.2.1 HCL.out.2.2)
  have HDO := Lib.hid hdo
  have C3 := Lib.hid (show w3.cell? ⟨w.heap.size, 1, none⟩ = some (.int .i64 n) from o3.cell C2.out (fun e => by have e : w.heap.size = r := e; have := HRW.out; omega))
  clear hdo o3 hw2' hws3 hto3
  go_wp2_with fail
  refine hK.out _ _ ?_ (fun hHeld7 => ?_)
  · exact C3.out
  clear hK K
  try simp only [Act.put, List.getElem_toArray, List.getElem_cons_succ, List.getElem_cons_zero, List.setIfInBounds_toArray, List.set_cons_zero, List.set_cons_succ]
  refine wpAnyH_ready (rs := [8]) (by kernel_rfl) (by simp) ?_
  refine AllReadyH.cons (o := _) rfl (fun K hK => ?_) AllReadyH.nil
  go_simp
  refine HSW.out.mono ?_
  rintro e w4 ⟨rfl, hb4⟩
  have HB4 := Lib.hid hb4
  clear hb4
  go_wp2_with fail
  refine hK.out _ _ ?_ (fun hHeld8 => ?_)
  · exact keepc HB4.out C3.out
  clear hK K
  try simp only [Act.put, List.getElem_toArray, List.getElem_cons_succ, List.getElem_cons_zero, List.setIfInBounds_toArray, List.set_cons_zero, List.set_cons_succ]
  refine wpAnyH_take (i := 9) (oi := _) (v := ?_) rfl (by kernel_rfl) (by kernel_rfl) (by kernel_rfl) (fun _ _ _ h => h) (Or.inl ⟨by rfl, ?_⟩) (by assumption) ?_
  rotate_left 1
  · (intro w hSw; (try dsimp only at hSw); go_simp; (try with_reducible rfl))
  try simp only [Act.put, List.getElem_toArray, List.getElem_cons_succ, List.getElem_cons_zero, List.setIfInBounds_toArray, List.set_cons_zero, List.set_cons_succ]
  refine wpAnyH_done (by kernel_rfl) ?_ _
  refine NoPanic.normal ?_
  have HF := Lib.hid (show DoP w B g r F G (s5, L5) (.returned (.bool true)) w4 from ⟨rfl, (((HDO.out.start (drew_below _)).start HBA.out).after HB4.out)⟩)
  go_wp2
  go_ret
  exact HF.out
set_option maxHeartbeats 4000000 in
set_option maxRecDepth 100000 in
theorem do18_0 {w : World} {B g r k : Nat} {s : Cfg} {L : List WV} {F : List Nat} {G : Nat → Prop} (h : WpIs w B g r s L F G) (hi : WpI k s L) (hk : k ≤ 100) (kind n : Int) (nm : List UInt8) (time inc : Int) (rst : Bool) (hx : (ActR.mk kind n nm time inc rst).Q) (h1 : ¬ kind = 1) (h2 : ¬ kind = 2) (h3 : ¬ kind = 3) :
    Calls Try.prog 18 #[.pointer (some ⟨g, 0, none⟩), .pointer (some ⟨r, 0, none⟩), .agg #[.int .i64 kind, .int .i64 n, encStr nm, .int .i64 time, .int .i64 inc, .bool rst]] w (DoP w B g r F G (s, L)) := by
  obtain ⟨hq1, hq2, hq3, hq4⟩ := hx
  simp only at hq1 hq2 hq3 hq4
  obtain ⟨A, hA⟩ : ∃ A, A = w.alloc (.cells #[.int .i64 kind, .int .i64 n, encStr nm, .int .i64 time, .int .i64 inc, .bool rst] 39) := ⟨_, rfl⟩
  have hbA : Below w.heap.size w A := by rw [hA]; exact (Below.refl _ w).alloc (Nat.le_refl _) _
  have hO : A.heap[w.heap.size]? = some (actO (ActR.mk kind n nm time inc rst)) := by rw [hA]; exact heap_alloc_new w _
  have hHA := h.new hbA
  have HA := Lib.hid hA
  have HBA := Lib.hid hbA
  have HHA := Lib.hid hHA
  have HI := Lib.hid hi
  have HO := Lib.hid hO
  have hAw : w.heap.size < A.heap.size := (Array.getElem?_eq_some_iff.1 hO).1
  have hws := hHA.1.ws
  have hcs := hHA.1.cs
  have HWS := Lib.hid hws
  have HCS := Lib.hid hcs
  have HFW := Lib.hid (fun q hq => (h.1.in q hq).2)
  have HRW := Lib.hid h.2.1.rlt
  have HGW := Lib.hid h.2.1.glt
  clear h hi hA hbA hO hHA hws hcs
  have n1 : (kind == 1) = false := by simpa using h1
  have n2 : (kind == 2) = false := by simpa using h2
  have n3 : (kind == 3) = false := by simpa using h3
  have HF := Lib.hid (show DoP w B g r F G (s, L) (.returned (.bool true)) (w.alloc (.cells #[.int .i64 kind, .int .i64 n, encStr nm, .int .i64 time, .int .i64 inc, .bool rst] 39)) from ⟨rfl, by rw [← HA.out]; exact HHA.out.to.start HBA.out⟩)
  go_enter Try.func18, Try.ntmps18
  go_wp2
  go_ret
  exact HF.out
theorem do18_any {w : World} {B g r k : Nat} {s : Cfg} {L : List WV} {F : List Nat} {G : Nat → Prop} (h : WpIs w B g r s L F G) (hi : WpI k s L) (hk : k ≤ 100) (x : ActR) (hx : x.Q) :
    Calls Try.prog 18 #[.pointer (some ⟨g, 0, none⟩), .pointer (some ⟨r, 0, none⟩), .agg #[.int .i64 x.kind, .int .i64 x.n, encStr x.nm, .int .i64 x.time, .int .i64 x.inc, .bool x.rst]] w (DoP w B g r F G (actW s L x)) := by
  obtain ⟨kind, n, nm, time, inc, rst⟩ := x
  unfold actW
  simp only
  by_cases h1 : kind = 1
  · subst h1
    rw [if_pos rfl]
    exact do18_1 h hi hk n nm time inc rst hx
  rw [if_neg h1]
  by_cases h2 : kind = 2
  · subst h2
    rw [if_pos rfl]
    exact do18_2 h hi hk n nm time inc rst hx
  rw [if_neg h2]
  by_cases h3 : kind = 3
  · subst h3
    rw [if_pos rfl]
    exact do18_3 h hi hk n nm time inc rst hx
  · rw [if_neg h3]
    exact do18_0 h hi hk kind n nm time inc rst hx h1 h2 h3
end Go.Proofs.Ytbkpgpaanhfjfaa
