/- The program's queue in a block; what it tells. -/
import Derived.Test.YtdomnjakhecbaaaFrK
import Derived.Test.YtdomnjakhecbaaaApp3
import Derived.Outline
namespace Go.Proofs.Ytdomnjakhecbaaa
open Go.RowKit K
structure QR where
  most : Int
  base : Int
  longest : Int
  put : Int
  acked : Int
  dropped : Int
  sink : Bool
  time : Int
  tries : Int
def QBox (w : World) (g : Nat) (v : Value) (s : QR) : Prop :=
  w.heap[g]? = some (.cells #[v, .int .i64 s.most, .int .i64 s.base, .int .i64 s.longest, .int .u64 s.put, .int .i64 s.acked, .int .i64 s.dropped, .bool s.sink, .int .i64 s.time, .int .i64 s.tries] 61 (0, 0))
section
variable {w : World} {g : Nat} {v : Value} {s : QR}
theorem QBox.cell (h : QBox w g v s) (i : Nat) : w.cell? ⟨g, i, none⟩ = (#[v, .int .i64 s.most, .int .i64 s.base, .int .i64 s.longest, .int .u64 s.put, .int .i64 s.acked, .int .i64 s.dropped, .bool s.sink, .int .i64 s.time, .int .i64 s.tries] : Array Value)[i]? := cell_of_row _ _ _ _ _ _ h
theorem QBox.c0 (h : QBox w g v s) : w.cell? ⟨g, 0, none⟩ = some v := h.cell 0
theorem QBox.c5 (h : QBox w g v s) : w.cell? ⟨g, 5, none⟩ = some (.int .i64 s.acked) := h.cell 5
theorem QBox.c6 (h : QBox w g v s) : w.cell? ⟨g, 6, none⟩ = some (.int .i64 s.dropped) := h.cell 6
theorem QBox.c7 (h : QBox w g v s) : w.cell? ⟨g, 7, none⟩ = some (.bool s.sink) := h.cell 7
theorem QBox.c8 (h : QBox w g v s) : w.cell? ⟨g, 8, none⟩ = some (.int .i64 s.time) := h.cell 8
theorem QBox.c9 (h : QBox w g v s) : w.cell? ⟨g, 9, none⟩ = some (.int .i64 s.tries) := h.cell 9
end
theorem waiting_any (w : World) (g : Nat) (a : Option Addr) (n c : Nat) (s : QR) (h : QBox w g (.slice a n c) s) :
    Calls Try.prog 16 #[.pointer (some ⟨g, 0, none⟩)] w fun e w' => e = .returned (.int .i64 n) ∧ w = w' := by
  have c0 := h.c0
  clear h
  go_enter Try.func16, Try.ntmps16
  go_wp2
  go_ret
  exact ⟨rfl, rfl⟩
theorem acked_any (w : World) (g : Nat) (v : Value) (s : QR) (h : QBox w g v s) :
    Calls Try.prog 15 #[.pointer (some ⟨g, 0, none⟩)] w fun e w' => e = .returned (.int .i64 s.acked) ∧ w = w' := by
  have c0 := h.c5
  clear h
  go_enter Try.func15, Try.ntmps15
  go_wp2
  go_ret
  exact ⟨rfl, rfl⟩
theorem dropped_any (w : World) (g : Nat) (v : Value) (s : QR) (h : QBox w g v s) :
    Calls Try.prog 22 #[.pointer (some ⟨g, 0, none⟩)] w fun e w' => e = .returned (.int .i64 s.dropped) ∧ w = w' := by
  have c0 := h.c6
  clear h
  go_enter Try.func22, Try.ntmps22
  go_wp2
  go_ret
  exact ⟨rfl, rfl⟩
theorem tries_any (w : World) (g : Nat) (v : Value) (s : QR) (h : QBox w g v s) :
    Calls Try.prog 26 #[.pointer (some ⟨g, 0, none⟩)] w fun e w' => e = .returned (.int .i64 s.tries) ∧ w = w' := by
  have c0 := h.c9
  clear h
  go_enter Try.func26, Try.ntmps26
  go_wp2
  go_ret
  exact ⟨rfl, rfl⟩
theorem atSink_any (w : World) (g : Nat) (v : Value) (s : QR) (h : QBox w g v s) :
    Calls Try.prog 28 #[.pointer (some ⟨g, 0, none⟩)] w fun e w' => e = .returned (.bool s.sink) ∧ w = w' := by
  have c0 := h.c7
  clear h
  go_enter Try.func28, Try.ntmps28
  go_wp2
  go_ret
  exact ⟨rfl, rfl⟩
end Go.Proofs.Ytdomnjakhecbaaa
namespace Go.Proofs.Ytdomnjakhecbaaa
open Go.RowKit K
def once : Int := -9223372036854775808
def newQ (most base longest : Int) : QR := ⟨max most 0, max base 1, max longest (max base 1), 0, 0, 0, false, once, 0⟩
theorem new_any (w : World) (most base longest : Int) :
    Calls Try.prog 8 #[.int .i64 most, .int .i64 base, .int .i64 longest] w fun e w' => e = .returned (.pointer (some ⟨w.heap.size, 0, none⟩)) ∧ QBox w' w.heap.size (.slice none 0 0) (newQ most base longest) ∧ Below w.heap.size w w' := by
  go_enter Try.func8, Try.ntmps8
  go_wp2
  all_goals
    go_ret
    refine ⟨rfl, (heap_alloc_new _ _).trans ?_, (Below.refl _ _).alloc (Nat.le_refl _) _⟩
    simp only [newQ, once, Option.some.injEq, Obj.cells.injEq, Array.mk.injEq, List.cons.injEq, Value.int.injEq, true_and, and_true]
    omega
def nextV (n : Nat) (s : QR) : Value := if n = 0 ∨ s.sink = true then .tuple #[.int .i64 0, .bool false] else .tuple #[.int .i64 s.time, .bool true]
theorem next_any (w : World) (g : Nat) (a : Option Addr) (n c : Nat) (s : QR) (h : QBox w g (.slice a n c) s) :
    Calls Try.prog 11 #[.pointer (some ⟨g, 0, none⟩)] w fun e w' => e = .returned (nextV n s) ∧ w = w' := by
  have c0 := h.c0
  have c7 := h.c7
  have c8 := h.c8
  clear h
  by_cases hn : n = 0
  · subst hn
    have HV := Lib.hid (show nextV 0 s = .tuple #[.int .i64 0, .bool false] by simp [nextV])
    go_enter Try.func11, Try.ntmps11
    go_wp2
    go_ret2
    exact ⟨by rw [HV.out]; rfl, rfl⟩
  · have hn2 : ((n : Int) == 0) = false := by rw [beq_eq_false_iff_ne]; omega
    obtain ⟨most, base, longest, put, acked, dropped, sink, time, tries⟩ := s
    simp only [] at c7 c8
    cases sink with
    | true =>
      have HV := Lib.hid (show nextV n ⟨most, base, longest, put, acked, dropped, true, time, tries⟩ = .tuple #[.int .i64 0, .bool false] by simp [nextV])
      go_enter Try.func11, Try.ntmps11
      go_wp2
      go_ret2
      exact ⟨by rw [HV.out]; rfl, rfl⟩
    | false =>
      have HV := Lib.hid (show nextV n ⟨most, base, longest, put, acked, dropped, false, time, tries⟩ = .tuple #[.int .i64 time, .bool true] by simp [nextV, hn])
      go_enter Try.func11, Try.ntmps11
      go_wp2
      go_ret2
      exact ⟨by rw [HV.out]; rfl, rfl⟩
end Go.Proofs.Ytdomnjakhecbaaa
namespace Go.Proofs.Ytdomnjakhecbaaa
open Go.RowKit K
def dbl (longest : Int) : Nat → Int → Int
  | 0, m => min m longest
  | k + 1, m => if longest / 2 < m then longest else dbl longest k (m * 2)
theorem dbl_succ (longest : Int) (k : Nat) (m : Int) : dbl longest (k + 1) m = if longest / 2 < m then longest else dbl longest k (m * 2) := rfl
theorem dbl_zero (longest m : Int) : dbl longest 0 m = min m longest := rfl
theorem dbl_top (longest : Int) (h : 1 ≤ longest) : ∀ k, dbl longest k longest = longest
  | 0 => by simp [dbl]
  | k + 1 => by
    unfold dbl
    rw [if_pos (by omega)]
set_option maxHeartbeats 1000000 in
theorem wait_any (w : World) (g : Nat) (v : Value) (s : QR) (h : QBox w g v s) (t : Nat) (ht : s.tries = t) (ht2 : t ≤ 9223372036854775806) (hb1 : 1 ≤ s.base) (hb2 : s.base ≤ s.longest) (hl : s.longest ≤ 9223372036854775807) :
    Calls Try.prog 37 #[.pointer (some ⟨g, 0, none⟩)] w fun e w' => e = .returned (.int .i64 (dbl s.longest t s.base)) ∧ w = w' := by
  obtain ⟨most, base, longest, put, acked, dropped, sink, time, tries⟩ := s
  simp only [] at ht hb1 hb2 hl
  subst ht
  have c2 : w.cell? ⟨g, 2, none⟩ = some (.int .i64 base) := h.cell 2
  have c3 : w.cell? ⟨g, 3, none⟩ = some (.int .i64 longest) := h.cell 3
  have c9 : w.cell? ⟨g, 9, none⟩ = some (.int .i64 t) := h.cell 9
  clear h
  go_enter Try.func37, Try.ntmps37
  go_wp2
  go_loop [3, 12] (fun x i => ∃ (k : Nat) (m : Int), k ≤ t ∧ i = .int .i64 k ∧ x = .int .i64 m ∧ 1 ≤ m ∧ m ≤ longest ∧ dbl longest (t - k) m = dbl longest t base) (fun _ i => t - (intOf i).toNat)
  case atStart => exact ⟨0, base, by omega, rfl, rfl, hb1, hb2, rfl⟩
  case round =>
    obtain ⟨k, m, hk, rfl, rfl, hm1, hm2, hd⟩ := hrel
    by_cases hlt : k < t
    · have hs : t - k = (t - (k + 1)) + 1 := by omega
      rw [hs] at hd
      rw [dbl_succ] at hd
      by_cases hc : longest / 2 < m
      · rw [if_pos hc] at hd
        have HD := Lib.hid hd
        clear hd hs
        go_wp2
        go_ret
        exact ⟨by rw [← HD.out]; rfl, rfl⟩
      · rw [if_neg hc] at hd
        have HD := Lib.hid hd
        clear hd hs
        go_wp2
        go_round
        case rel => exact ⟨k + 1, m * 2, by omega, by go_num, by go_num, by omega, by omega, HD.out⟩
        case measure => simp [intOf]; omega
    · obtain rfl : k = t := by omega
      rw [Nat.sub_self] at hd
      have HD := Lib.hid (show m = dbl longest k base by rw [← hd, dbl_zero]; omega)
      clear hd
      go_wp2
      all_goals
        go_ret
        refine ⟨?_, rfl⟩
        rw [← HD.out]
        try rfl
end Go.Proofs.Ytdomnjakhecbaaa
namespace Go.Proofs.Ytdomnjakhecbaaa
open Go.RowKit K
def zrecQ : Value := .agg #[.string ⟨#[]⟩, .int .i64 0, .int .i64 0, .int .i64 0, .bool false]
theorem recq_parts : ∃ i, Try.prog.info? 70 = some i ∧ i.zero = some zrecQ ∧ i.size = 5 ∧ i.bytes = 48 := by
  have hs : (Try.prog.info? 70).map (·.size) = some 5 := by kernel_rfl
  have hb : (Try.prog.info? 70).map (·.bytes) = some 48 := by kernel_rfl
  have hz : (Try.prog.info? 70).bind (·.zero) = some zrecQ := by kernel_rfl
  cases h : Try.prog.info? 70 with
  | none => rw [h] at hs; cases hs
  | some i =>
    rw [h] at hs hb hz
    exact ⟨i, rfl, by simpa using hz, by simpa using hs, by simpa using hb⟩
theorem rcf_length (xs : List Rec) : (rcf xs).length = 5 * xs.length := flat_length _ 5 (fun _ => rfl) xs
theorem rcf_one (xs : List Rec) : ∀ u ∈ rcf xs, u.oneCell' = true := by
  intro u hu
  simp only [rcf, List.mem_flatMap] at hu
  obtain ⟨x, _, hx⟩ := hu
  simp only [Rec.cells, List.mem_cons, List.not_mem_nil, or_false] at hx
  rcases hx with rfl | rfl | rfl | rfl | rfl <;> rfl
theorem recs_not_nil (w : World) (ad : Addr) (n c : Nat) : Sem.run Try.prog (binOp .eql 30 (.slice (some ad) n c) (.slice none 0 0)) w = .ok (.bool false) w := by kernel_rfl
theorem recs_nil (w : World) : Sem.run Try.prog (binOp .eql 30 (.slice none 0 0) (.slice none 0 0)) w = .ok (.bool true) w := by kernel_rfl
theorem own_rowq {w : World} {B e n : Nat} {v : Value} {xs : List Value} (h : w.ownsRow B e 5 v (n + 1) xs) : ∃ b c, v = .slice (some ⟨b, 0, none⟩) (n + 1) c ∧ B ≤ b ∧ Rd w (some ⟨b, 0, none⟩) xs ∧ n + 1 ≤ c ∧ c ≤ 9223372036854775807 := by
  rcases h.2 with ⟨rfl, h0⟩ | ⟨g, cap, cur, rfl, hB, hg, hn, hm, _⟩
  · cases h0
  · refine ⟨g, cap, rfl, hB, fun k v hv => ⟨g, 0, rfl, ?_⟩, hn, (by unfold maxLen at hm; omega)⟩
    have := h.cells (g := g) rfl k v hv
    simpa [Addr.add_lit] using this
theorem rd_cells {w : World} {b off : Nat} {xs : List Value} (h : Rd w (some ⟨b, off, none⟩) xs) : ∀ j u, xs[j]? = some u → w.cell? ((⟨b, off, none⟩ : Addr).add j) = some u := by
  intro j u hu
  obtain ⟨b', off', e, hc⟩ := h j u hu
  cases e
  rw [Addr.add_lit]
  exact hc
/-- A call that hands back a row in new memory. -/
def CloneP (w : World) (xs : List Rec) (e : Ending) (w' : World) : Prop :=
  ∃ a c, e = .returned (.slice a xs.length c) ∧ Rd w' a (rcf xs) ∧ Below w.heap.size w w' ∧ (xs.length ≤ c ∧ c ≤ 9223372036854775807 ∧ (a = none → c = 0)) ∧ (xs ≠ [] → ∃ b, a = some ⟨b, 0, none⟩ ∧ w.heap.size ≤ b)
set_option maxHeartbeats 400000 in
set_option maxRecDepth 100000 in
theorem clonerec_any (w : World) (a : Option Addr) (c : Nat) (xs : List Rec) (hc : xs.length ≤ c) (hc2 : c ≤ 9223372036854775807) (hl : xs.length ≤ 1000000) (ha : a = none → c = 0) (hr : Rd w a (rcf xs)) :
    Calls Try.prog 49 #[.slice a xs.length c] w (CloneP w xs) := by
  cases xs with
  | nil =>
    clear hr
    cases a with
    | none =>
      obtain rfl := ha rfl
      have hcmp := recs_nil w
      go_enter Try.func49, Try.ntmps49
      go_wp2
      go_ret
      exact ⟨none, 0, rfl, Rd.nil _ _, Below.refl _ _, ⟨by simp, by omega, fun _ => rfl⟩, by simp⟩
    | some ad =>
      have hcmp := recs_not_nil w ad 0 c
      go_enter Try.func49, Try.ntmps49
      go_wp2
      go_ret
      exact ⟨_, 0, rfl, Rd.nil _ _, (Below.refl _ _).alloc (Nat.le_refl _) _, ⟨by simp, by omega, fun _ => rfl⟩, by simp⟩
  | cons x r =>
    obtain ⟨ri, hri, hrz, hrs, hrb⟩ := recq_parts
    obtain ⟨b, off, rfl, hb, hcell⟩ := hr.at (k := 0) (v := .string x.name) (by simp [rcf, Rec.cells])
    have HR := Lib.hid hr
    have HRI := Lib.hid hri
    have hcmp := recs_not_nil w ⟨b, off, none⟩ (r.length + 1) c
    clear hcell hr hri
    go_enter Try.func49, Try.ntmps49
    go_wp2_with (first
      | (at_builtin; refine K.step_append_app _ rfl _ _ 30 rfl w.heap.size 70 ri zrecQ 5 48 Try.underlying30 HRI.out hrz hrs hrb rfl (by decide) _ 0 [] rfl (.inr ⟨rfl, ⟨w.heap.size, 0, none⟩, rfl, fun j u h => by cases h⟩) ⟨b, off, none⟩ (r.length + 1) c (rcf (x :: r)) rfl (by rw [rcf_length, List.length_cons, Nat.mul_comm]) (rd_cells (HR.out.below ((Below.refl _ _).alloc (Nat.le_refl _) _) (Nat.le_refl _))) (rcf_one _) ?d1 ?d2 ?d3 ?d4 ?_)
      | fail)
    case d1 => omega
    case d2 => unfold maxLen; simp only [List.length_cons] at hl; omega
    case d3 => simp only [List.length_cons] at hl; omega
    case d4 => simp
    intro v' w' hown hb'
    obtain ⟨b2, c2, rfl, hb2, hr2, hc3, hc4⟩ := own_rowq hown
    go_wp2
    go_ret
    exact ⟨_, c2, rfl, by simpa using hr2, ((Below.refl _ w).alloc (Nat.le_refl _) _).trans hb', ⟨hc3, hc4, fun h => by cases h⟩, fun _ => ⟨b2, rfl, hb2⟩⟩
theorem frq_one (q win : Int) (a : Option Addr) (n c : Nat) : ∀ v ∈ (#[.int .u64 q, .int .i64 win, .slice a n c] : Array Value).toList, v.oneCell' = true := by
  intro v hv
  simp only [List.mem_cons, List.not_mem_nil, or_false] at hv
  rcases hv with rfl | rfl | rfl <;> rfl
/-- A frame, its records in new memory. -/
def CopP (w : World) (q win : Int) (xs : List Rec) (e : Ending) (w' : World) : Prop :=
  ∃ a c, e = .returned (frv q win (.slice a xs.length c)) ∧ Rd w' a (rcf xs) ∧ Below w.heap.size w w' ∧ (xs.length ≤ c ∧ c ≤ 9223372036854775807 ∧ (a = none → c = 0)) ∧ (xs ≠ [] → ∃ b, a = some ⟨b, 0, none⟩ ∧ w.heap.size ≤ b)
set_option maxHeartbeats 400000 in
set_option maxRecDepth 100000 in
theorem copied_any (w : World) (q win : Int) (a : Option Addr) (c : Nat) (xs : List Rec) (hc : xs.length ≤ c) (hc2 : c ≤ 9223372036854775807) (hl : xs.length ≤ 1000000) (ha : a = none → c = 0) (hr : Rd w a (rcf xs)) :
    Calls Try.prog 31 #[frv q win (.slice a xs.length c)] w (CopP w q win xs) := by
  unfold frv
  have HC := Lib.hid (fun W (h : Below w.heap.size w W) => clonerec_any W a c xs hc hc2 hl ha (hr.below h (Nat.le_refl _)))
  clear hr ha
  go_enter Try.func31, Try.ntmps31
  go_wp2_with fail
  refine (HC.out _ (by go_grown)).mono ?_
  rintro e w1 ⟨a2, c2, rfl, hr1, hb1, hcc, hn1⟩
  have HCC := Lib.hid hcc
  clear hcc
  have hb := hb1
  simp only [World.size_alloc] at hb hn1
  have hF : w1.heap[w.heap.size]? = some (.cells #[.int .u64 q, .int .i64 win, .slice a xs.length c] 38 (0, 0)) := (hb1.block w.heap.size (by simp; omega)).trans ((Below.heap_alloc _ _ _ (by simp)).trans (heap_alloc_new w _))
  have hZ : w1.heap[w.heap.size + 1]? = some (.cells #[.int .u64 0, .int .i64 0, .slice none 0 0] 38 (0, 0)) := (hb1.block (w.heap.size + 1) (by simp)).trans (by have h := heap_alloc_new (w.alloc (.cells #[.int .u64 q, .int .i64 win, .slice a xs.length c] 38)) (.cells #[.int .u64 0, .int .i64 0, .slice none 0 0] 38); rw [World.size_alloc] at h; exact h)
  have hb01 : Below w.heap.size w w1 := (((Below.refl _ w).alloc (Nat.le_refl _) _).alloc (by simp) _).trans (hb.mono (by omega))
  have f0 : w1.cell? ⟨w.heap.size, 0, none⟩ = some (.int .u64 q) := by rw [cell_of_row _ _ _ _ _ _ hF]; rfl
  have f1 : w1.cell? ⟨w.heap.size, 1, none⟩ = some (.int .i64 win) := by rw [cell_of_row _ _ _ _ _ _ hF]; rfl
  have f2 : w1.cell? ⟨w.heap.size, 2, none⟩ = some (.slice a xs.length c) := by rw [cell_of_row _ _ _ _ _ _ hF]; rfl
  have z2 : w1.frozen? ⟨w.heap.size, 2, none⟩ = false := frozen_of_row w1 _ 2 _ _ hF
  have HF := Lib.hid (show (w1.setCell ⟨w.heap.size, 2, none⟩ (.slice a2 xs.length c2)).heap[w.heap.size]? = some (.cells #[.int .u64 q, .int .i64 win, .slice a2 xs.length c2] 38 (0, 0)) by rw [heap_setCell_same _ _ _ _ _ _ hF]; rfl)
  have ho : Only (· = w.heap.size) w1 (w1.setCell ⟨w.heap.size, 2, none⟩ (.slice a2 xs.length c2)) := (Only.refl _ w1).setCell _ _ (fun _ => rfl)
  have HZ := Lib.hid (ho.heap hZ (by omega))
  have hne : ∀ ad, a2 = some ad → rcf xs ≠ [] → ad.block ≠ w.heap.size ∧ ad.block ≠ w.heap.size + 1 := fun ad e h => by
    obtain ⟨b, e2, hb⟩ := hn1 (fun e => h (by rw [e]; rfl))
    rw [e] at e2
    cases e2
    simp only
    omega
  have hr2 : Rd (w1.setCell ⟨w.heap.size, 2, none⟩ (.slice a2 xs.length c2)) a2 (rcf xs) := by
    intro k v hv
    obtain ⟨b, off, e, hcl⟩ := hr1 k v hv
    subst e
    exact ⟨b, off, rfl, ho.cell hcl (hne _ rfl (fun e => by rw [e] at hv; cases hv)).1⟩
  have HR2 := Lib.hid hr2
  have HNE := Lib.hid hne
  have HN := Lib.hid hn1
  have HB := Lib.hid (hb01.setCell (p := ⟨w.heap.size, 2, none⟩) (Nat.le_refl _) (.slice a2 xs.length c2))
  clear hF hZ hb hb1 hr1 hn1 HC ho hr2 hne hb01
  go_wp2_with (first | (with_reducible refine K.step_store_row rfl 38 _ _ rfl (w.heap.size + 1) rfl #[.int .u64 q, .int .i64 win, .slice a2 xs.length c2] rfl #[.int .u64 0, .int .i64 0, .slice none 0 0] 38 HZ.out rfl (by kernel_rfl) (frq_one _ _ _ _ _) ?_))
  obtain ⟨w2, hw2⟩ : ∃ w2, w2 = w1.setCell ⟨w.heap.size, 2, none⟩ (.slice a2 xs.length c2) := ⟨_, rfl⟩
  rw [← hw2] at HF HZ HR2 HB ⊢
  clear hw2 f0 f1 f2 z2
  have hF8 := setRow_heap w2 (w.heap.size + 1) _ #[.int .u64 q, .int .i64 win, .slice a2 xs.length c2] _ _ HZ.out
  have y0 : (w2.setRow (w.heap.size + 1) #[.int .u64 q, .int .i64 win, .slice a2 xs.length c2]).cell? ⟨w.heap.size + 1, 0, none⟩ = some (.int .u64 q) := by rw [cell_of_row _ _ _ _ _ _ hF8]; rfl
  have y1 : (w2.setRow (w.heap.size + 1) #[.int .u64 q, .int .i64 win, .slice a2 xs.length c2]).cell? ⟨w.heap.size + 1, 1, none⟩ = some (.int .i64 win) := by rw [cell_of_row _ _ _ _ _ _ hF8]; rfl
  have y2 : (w2.setRow (w.heap.size + 1) #[.int .u64 q, .int .i64 win, .slice a2 xs.length c2]).cell? ⟨w.heap.size + 1, 2, none⟩ = some (.slice a2 xs.length c2) := by rw [cell_of_row _ _ _ _ _ _ hF8]; rfl
  have ho : Only (· = w.heap.size + 1) w2 (w2.setRow (w.heap.size + 1) #[.int .u64 q, .int .i64 win, .slice a2 xs.length c2]) := ⟨rfl, rfl, rfl, by simp, fun k _ hn => setRow_other w2 _ k _ hn⟩
  refine bodyPost_ret (v := frv q win (.slice a2 xs.length c2)) ?_ rfl ?_
  · simp [results, Try.results31, go_sem, y0, y1, y2]
    try rfl
  · refine ⟨a2, c2, rfl, ?_, HB.out.trans (ho.below HB.out.size (fun k h => by have h : k = w.heap.size + 1 := h; omega)), HCC.out, fun h => ?_⟩
    · intro k v hv
      obtain ⟨b, off, e, hcl⟩ := HR2.out k v hv
      subst e
      exact ⟨b, off, rfl, ho.cell hcl (HNE.out _ rfl (fun e => by rw [e] at hv; cases hv)).2⟩
    · obtain ⟨b, e, hb⟩ := HN.out h
      exact ⟨b, e, by omega⟩
end Go.Proofs.Ytdomnjakhecbaaa
