/- Going over a queue's frames: the walks over slices.Clone at []api.Frame, All and its iterator. -/
import Derived.Test.YtdomnjakhecbaaaQuA
import Derived.Test.YtdomnjakhecbaaaQuL
namespace Go.Proofs.Ytdomnjakhecbaaa
open Go.RowKit K
theorem own_rowz {w : World} {B e n : Nat} {v : Value} {xs : List Value} (h : w.ownsRow B e 5 v (n + 1) xs) : ∀ b m c, v = .slice (some ⟨b, 0, none⟩) m c → ∃ cur t, w.heap[b]? = some (.cells cur t (0, 0)) := by
  rcases h.2 with ⟨rfl, h0⟩ | ⟨g, cap, cur, rfl, hB, hg, hn, hm, _⟩
  · cases h0
  · intro b m c e
    cases e
    exact ⟨_, _, hg⟩
/-- A call that hands back a row in new memory. -/
def CloneZ (w : World) (xs : List Rec) (e : Ending) (w' : World) : Prop :=
  ∃ a c, e = .returned (.slice a xs.length c) ∧ Rd w' a (rcf xs) ∧ Below w.heap.size w w' ∧ (xs.length ≤ c ∧ c ≤ 9223372036854775807 ∧ (a = none → c = 0)) ∧ (xs ≠ [] → ∃ b, a = some ⟨b, 0, none⟩ ∧ w.heap.size ≤ b ∧ ∃ cur t, w'.heap[b]? = some (.cells cur t (0, 0)))
set_option maxHeartbeats 400000 in
set_option maxRecDepth 100000 in
theorem clonerec_z (w : World) (a : Option Addr) (c : Nat) (xs : List Rec) (hc : xs.length ≤ c) (hc2 : c ≤ 9223372036854775807) (hl : xs.length ≤ 1000000) (ha : a = none → c = 0) (hr : Rd w a (rcf xs)) :
    Calls Try.prog 49 #[.slice a xs.length c] w (CloneZ w xs) := by
  cases xs with
  | nil =>
    clear hr
    cases a with
    | none =>
      obtain rfl := ha rfl
      have hcmp := recs_nil w
      go_enter Try.func49, Try.ntmps49
      go_wp2
      go_ret
      exact ⟨none, 0, rfl, Rd.nil _ _, Below.refl _ _, ⟨by simp, by omega, fun _ => rfl⟩, by simp⟩
    | some ad =>
      have hcmp := recs_not_nil w ad 0 c
      go_enter Try.func49, Try.ntmps49
      go_wp2
      go_ret
      exact ⟨_, 0, rfl, Rd.nil _ _, (Below.refl _ _).alloc (Nat.le_refl _) _, ⟨by simp, by omega, fun _ => rfl⟩, by simp⟩
  | cons x r =>
    obtain ⟨ri, hri, hrz, hrs, hrb⟩ := recq_parts
    obtain ⟨b, off, rfl, hb, hcell⟩ := hr.at (k := 0) (v := .string x.name) (by simp [rcf, Rec.cells])
    have HR := Lib.hid hr
    have HRI := Lib.hid hri
    have hcmp := recs_not_nil w ⟨b, off, none⟩ (r.length + 1) c
    clear hcell hr hri
    go_enter Try.func49, Try.ntmps49
    go_wp2_with (first
      | (at_builtin; refine K.step_append_app _ rfl _ _ 30 rfl w.heap.size 70 ri zrecQ 5 48 Try.underlying30 HRI.out hrz hrs hrb rfl (by decide) _ 0 [] rfl (.inr ⟨rfl, ⟨w.heap.size, 0, none⟩, rfl, fun j u h => by cases h⟩) ⟨b, off, none⟩ (r.length + 1) c (rcf (x :: r)) rfl (by rw [rcf_length, List.length_cons, Nat.mul_comm]) (rd_cells (HR.out.below ((Below.refl _ _).alloc (Nat.le_refl _) _) (Nat.le_refl _))) (rcf_one _) ?d1 ?d2 ?d3 ?d4 ?_)
      | fail)
    case d1 => omega
    case d2 => unfold maxLen; simp only [List.length_cons] at hl; omega
    case d3 => simp only [List.length_cons] at hl; omega
    case d4 => simp
    intro v' w' hown hb'
    have hz := own_rowz hown
    obtain ⟨b2, c2, rfl, hb2, hr2, hc3, hc4⟩ := own_rowq hown
    go_wp2
    go_ret
    exact ⟨_, c2, rfl, by simpa using hr2, ((Below.refl _ w).alloc (Nat.le_refl _) _).trans hb', ⟨hc3, hc4, fun h => by cases h⟩, fun _ => ⟨b2, rfl, hb2, hz _ _ _ rfl⟩⟩
/-- A frame, its records in new memory. -/
def CopZ (w : World) (q win : Int) (xs : List Rec) (e : Ending) (w' : World) : Prop :=
  ∃ a c, e = .returned (frv q win (.slice a xs.length c)) ∧ Rd w' a (rcf xs) ∧ Below w.heap.size w w' ∧ (xs.length ≤ c ∧ c ≤ 9223372036854775807 ∧ (a = none → c = 0)) ∧ (xs ≠ [] → ∃ b, a = some ⟨b, 0, none⟩ ∧ w.heap.size ≤ b ∧ ∃ cur t, w'.heap[b]? = some (.cells cur t (0, 0)))
set_option maxHeartbeats 400000 in
set_option maxRecDepth 100000 in
theorem copied_z (w : World) (q win : Int) (a : Option Addr) (c : Nat) (xs : List Rec) (hc : xs.length ≤ c) (hc2 : c ≤ 9223372036854775807) (hl : xs.length ≤ 1000000) (ha : a = none → c = 0) (hr : Rd w a (rcf xs)) :
    Calls Try.prog 31 #[frv q win (.slice a xs.length c)] w (CopZ w q win xs) := by
  unfold frv
  have HC := Lib.hid (fun W (h : Below w.heap.size w W) => clonerec_z W a c xs hc hc2 hl ha (hr.below h (Nat.le_refl _)))
  clear hr ha
  go_enter Try.func31, Try.ntmps31
  go_wp2_with fail
  refine (HC.out _ (by go_grown)).mono ?_
  rintro e w1 ⟨a2, c2, rfl, hr1, hb1, hcc, hn1⟩
  have HCC := Lib.hid hcc
  clear hcc
  have hb := hb1
  simp only [World.size_alloc] at hb hn1
  have hF : w1.heap[w.heap.size]? = some (.cells #[.int .u64 q, .int .i64 win, .slice a xs.length c] 38 (0, 0)) := (hb1.block w.heap.size (by simp; omega)).trans ((Below.heap_alloc _ _ _ (by simp)).trans (heap_alloc_new w _))
  have hZ : w1.heap[w.heap.size + 1]? = some (.cells #[.int .u64 0, .int .i64 0, .slice none 0 0] 38 (0, 0)) := (hb1.block (w.heap.size + 1) (by simp)).trans (by have h := heap_alloc_new (w.alloc (.cells #[.int .u64 q, .int .i64 win, .slice a xs.length c] 38)) (.cells #[.int .u64 0, .int .i64 0, .slice none 0 0] 38); rw [World.size_alloc] at h; exact h)
  have hb01 : Below w.heap.size w w1 := (((Below.refl _ w).alloc (Nat.le_refl _) _).alloc (by simp) _).trans (hb.mono (by omega))
  have f0 : w1.cell? ⟨w.heap.size, 0, none⟩ = some (.int .u64 q) := by rw [cell_of_row _ _ _ _ _ _ hF]; rfl
  have f1 : w1.cell? ⟨w.heap.size, 1, none⟩ = some (.int .i64 win) := by rw [cell_of_row _ _ _ _ _ _ hF]; rfl
  have f2 : w1.cell? ⟨w.heap.size, 2, none⟩ = some (.slice a xs.length c) := by rw [cell_of_row _ _ _ _ _ _ hF]; rfl
  have z2 : w1.frozen? ⟨w.heap.size, 2, none⟩ = false := frozen_of_row w1 _ 2 _ _ hF
  have HF := Lib.hid (show (w1.setCell ⟨w.heap.size, 2, none⟩ (.slice a2 xs.length c2)).heap[w.heap.size]? = some (.cells #[.int .u64 q, .int .i64 win, .slice a2 xs.length c2] 38 (0, 0)) by rw [heap_setCell_same _ _ _ _ _ _ hF]; rfl)
  have ho : Only (· = w.heap.size) w1 (w1.setCell ⟨w.heap.size, 2, none⟩ (.slice a2 xs.length c2)) := (Only.refl _ w1).setCell _ _ (fun _ => rfl)
  have HZ := Lib.hid (ho.heap hZ (by omega))
  have HOZ := Lib.hid ho
  have hne : ∀ ad, a2 = some ad → rcf xs ≠ [] → ad.block ≠ w.heap.size ∧ ad.block ≠ w.heap.size + 1 := fun ad e h => by
    obtain ⟨b, e2, hb, -⟩ := hn1 (fun e => h (by rw [e]; rfl))
    rw [e] at e2
    cases e2
    simp only
    omega
  have hr2 : Rd (w1.setCell ⟨w.heap.size, 2, none⟩ (.slice a2 xs.length c2)) a2 (rcf xs) := by
    intro k v hv
    obtain ⟨b, off, e, hcl⟩ := hr1 k v hv
    subst e
    exact ⟨b, off, rfl, ho.cell hcl (hne _ rfl (fun e => by rw [e] at hv; cases hv)).1⟩
  have HR2 := Lib.hid hr2
  have HNE := Lib.hid hne
  have HN := Lib.hid hn1
  have HB := Lib.hid (hb01.setCell (p := ⟨w.heap.size, 2, none⟩) (Nat.le_refl _) (.slice a2 xs.length c2))
  clear hF hZ hb hb1 hr1 hn1 HC ho hr2 hne hb01
  go_wp2_with (first | (with_reducible refine K.step_store_row rfl 38 _ _ rfl (w.heap.size + 1) rfl #[.int .u64 q, .int .i64 win, .slice a2 xs.length c2] rfl #[.int .u64 0, .int .i64 0, .slice none 0 0] 38 HZ.out rfl (by kernel_rfl) (frq_one _ _ _ _ _) ?_))
  obtain ⟨w2, hw2⟩ : ∃ w2, w2 = w1.setCell ⟨w.heap.size, 2, none⟩ (.slice a2 xs.length c2) := ⟨_, rfl⟩
  rw [← hw2] at HF HZ HR2 HB HOZ ⊢
  clear hw2 f0 f1 f2 z2
  have hF8 := setRow_heap w2 (w.heap.size + 1) _ #[.int .u64 q, .int .i64 win, .slice a2 xs.length c2] _ _ HZ.out
  have y0 : (w2.setRow (w.heap.size + 1) #[.int .u64 q, .int .i64 win, .slice a2 xs.length c2]).cell? ⟨w.heap.size + 1, 0, none⟩ = some (.int .u64 q) := by rw [cell_of_row _ _ _ _ _ _ hF8]; rfl
  have y1 : (w2.setRow (w.heap.size + 1) #[.int .u64 q, .int .i64 win, .slice a2 xs.length c2]).cell? ⟨w.heap.size + 1, 1, none⟩ = some (.int .i64 win) := by rw [cell_of_row _ _ _ _ _ _ hF8]; rfl
  have y2 : (w2.setRow (w.heap.size + 1) #[.int .u64 q, .int .i64 win, .slice a2 xs.length c2]).cell? ⟨w.heap.size + 1, 2, none⟩ = some (.slice a2 xs.length c2) := by rw [cell_of_row _ _ _ _ _ _ hF8]; rfl
  have ho : Only (· = w.heap.size + 1) w2 (w2.setRow (w.heap.size + 1) #[.int .u64 q, .int .i64 win, .slice a2 xs.length c2]) := ⟨rfl, rfl, rfl, by simp, fun k _ hn => setRow_other w2 _ k _ hn⟩
  refine bodyPost_ret (v := frv q win (.slice a2 xs.length c2)) ?_ rfl ?_
  · simp [results, Try.results31, go_sem, y0, y1, y2]
    try rfl
  · refine ⟨a2, c2, rfl, ?_, HB.out.trans (ho.below HB.out.size (fun k h => by have h : k = w.heap.size + 1 := h; omega)), HCC.out, fun h => ?_⟩
    · intro k v hv
      obtain ⟨b, off, e, hcl⟩ := HR2.out k v hv
      subst e
      exact ⟨b, off, rfl, ho.cell hcl (HNE.out _ rfl (fun e => by rw [e] at hv; cases hv)).2⟩
    · obtain ⟨b, e, hb, cur, t, hz⟩ := HN.out h
      have hne := HNE.out _ e (fun e => h (List.eq_nil_of_length_eq_zero (by have h1 := rcf_length xs; rw [e] at h1; simp at h1; omega)))
      exact ⟨b, e, by omega, cur, t, ho.heap (HOZ.out.heap hz hne.1) hne.2⟩
end Go.Proofs.Ytdomnjakhecbaaa
namespace Go.Proofs.Ytdomnjakhecbaaa
open Go.RowKit K Go.Shelf
attribute [local go_sem] Oper.semAt_some
theorem frs_not_nil (w : World) (ad : Addr) (n c : Nat) : Sem.run Try.prog (binOp .eql 59 (.slice (some ad) n c) (.slice none 0 0)) w = .ok (.bool false) w := by kernel_rfl
theorem frs_nil (w : World) : Sem.run Try.prog (binOp .eql 59 (.slice none 0 0) (.slice none 0 0)) w = .ok (.bool true) w := by kernel_rfl
theorem own_rowf {w : World} {B e n : Nat} {v : Value} {xs : List Value} (h : w.ownsRow B e 3 v (n + 1) xs) : ∃ b c, v = .slice (some ⟨b, 0, none⟩) (n + 1) c ∧ B ≤ b ∧ Rd w (some ⟨b, 0, none⟩) xs ∧ n + 1 ≤ c ∧ c ≤ 9223372036854775807 := by
  rcases h.2 with ⟨rfl, h0⟩ | ⟨g, cap, cur, rfl, hB, hg, hn, hm, _⟩
  · cases h0
  · refine ⟨g, cap, rfl, hB, fun k v hv => ⟨g, 0, rfl, ?_⟩, hn, (by unfold maxLen at hm; omega)⟩
    have := h.cells (g := g) rfl k v hv
    simpa [Addr.add_lit] using this
/-- A call that hands back a row of n frames in new memory. -/
def CloneF (w : World) (n : Nat) (xs : List Value) (e : Ending) (w' : World) : Prop :=
  ∃ a c, e = .returned (.slice a n c) ∧ Rd w' a xs ∧ Below w.heap.size w w' ∧ (n ≤ c ∧ c ≤ 9223372036854775807 ∧ (a = none → c = 0)) ∧ ∀ ad, a = some ad → w.heap.size ≤ ad.block
set_option maxHeartbeats 400000 in
set_option maxRecDepth 100000 in
theorem clonefr_any (w : World) (a : Option Addr) (n c : Nat) (xs : List Value) (hx : xs.length = n * 3) (h1 : ∀ u ∈ xs, u.oneCell' = true) (hc : n ≤ c) (hc2 : c ≤ 9223372036854775807) (hl : n ≤ 1000000) (ha : a = none → c = 0) (hr : Rd w a xs) :
    Calls Try.prog 45 #[.slice a n c] w (CloneF w n xs) := by
  cases n with
  | zero =>
    obtain rfl : xs = [] := List.eq_nil_of_length_eq_zero (by omega)
    clear hr
    cases a with
    | none =>
      obtain rfl := ha rfl
      have hcmp := frs_nil w
      go_enter Try.func45, Try.ntmps45
      go_wp2
      go_ret
      exact ⟨none, 0, rfl, Rd.nil _ _, Below.refl _ _, ⟨by simp, by omega, fun _ => rfl⟩, by simp⟩
    | some ad =>
      have hcmp := frs_not_nil w ad 0 c
      go_enter Try.func45, Try.ntmps45
      go_wp2
      go_ret
      exact ⟨_, 0, rfl, Rd.nil _ _, (Below.refl _ _).alloc (Nat.le_refl _) _, ⟨by simp, by omega, fun _ => rfl⟩, fun ad e => by cases e; simp⟩
  | succ n =>
    obtain ⟨ri, hri, hrz, hrs, hrb⟩ := frq_parts
    obtain ⟨u, hu⟩ : ∃ u, xs[0]? = some u := ⟨_, List.getElem?_eq_getElem (by omega)⟩
    obtain ⟨b, off, rfl, hb, hcell⟩ := hr.at hu
    have HR := Lib.hid hr
    have HRI := Lib.hid hri
    have hcmp := frs_not_nil w ⟨b, off, none⟩ (n + 1) c
    clear hcell hr hri hu
    go_enter Try.func45, Try.ntmps45
    go_wp2_with (first
      | (at_builtin; refine K.step_append_app _ rfl _ _ 59 rfl w.heap.size 38 ri zfrQ 3 40 Try.underlying59 HRI.out hrz hrs hrb rfl (by decide) _ 0 [] rfl (.inr ⟨rfl, ⟨w.heap.size, 0, none⟩, rfl, fun j u h => by cases h⟩) ⟨b, off, none⟩ (n + 1) c xs rfl hx (rd_cells (HR.out.below ((Below.refl _ _).alloc (Nat.le_refl _) _) (Nat.le_refl _))) h1 ?d1 ?d2 ?d3 ?d4 ?_)
      | fail)
    case d1 => omega
    case d2 => unfold maxLen; omega
    case d3 => omega
    case d4 => simp
    intro v' w' hown hb'
    obtain ⟨b2, c2, rfl, hb2, hr2, hc3, hc4⟩ := own_rowf hown
    go_wp2
    go_ret
    exact ⟨_, c2, rfl, hr2, ((Below.refl _ w).alloc (Nat.le_refl _) _).trans hb', ⟨hc3, hc4, fun h => by cases h⟩, fun ad e => by cases e; exact hb2⟩
/-- All of a queue that is there: a function over the boxed row. -/
def AllP (w : World) (n : Nat) (xs : List Value) (e : Ending) (w' : World) : Prop :=
  ∃ b a c, e = .returned (.func (.func 46) #[] #[.pointer (some ⟨b, 0, none⟩)]) ∧ w.heap.size ≤ b ∧ w'.heap[b]? = some (.cells #[.slice a n c] 59 (0, 0)) ∧ Rd w' a xs ∧ Below w.heap.size w w' ∧ (n ≤ c ∧ c ≤ 9223372036854775807 ∧ (a = none → c = 0)) ∧ ∀ ad, a = some ad → w.heap.size ≤ ad.block ∧ ad.block ≠ b
set_option maxHeartbeats 400000 in
set_option maxRecDepth 100000 in
theorem all_any (w : World) (g : Nat) (s : QR) (a : Option Addr) (n c : Nat) (xs : List Value) (hbx : QBox w g (.slice a n c) s) (hx : xs.length = n * 3) (h1 : ∀ u ∈ xs, u.oneCell' = true) (hc : n ≤ c) (hc2 : c ≤ 9223372036854775807) (hl : n ≤ 1000000) (ha : a = none → c = 0) (hr : Rd w a xs) :
    Calls Try.prog 27 #[.pointer (some ⟨g, 0, none⟩)] w (AllP w n xs) := by
  have c0 := hbx.c0
  have hgl := World.block_lt_of_cell? w _ c0
  simp only [] at hgl
  have HC := Lib.hid (fun W (h : Below w.heap.size w W) => clonefr_any W a n c xs hx h1 hc hc2 hl ha (hr.below h (Nat.le_refl _)))
  clear hbx hr ha
  go_enter Try.func27, Try.ntmps27
  go_wp2_with fail
  refine (HC.out _ (by go_grown)).mono ?_
  rintro e w1 ⟨a2, c2, rfl, hr1, hb1, hcc, hn1⟩
  have hK : w1.heap[w.heap.size]? = some (.cells #[.slice none 0 0] 59 (0, 0)) := (hb1.block w.heap.size (by simp)).trans (heap_alloc_new w _)
  have z0 : w1.frozen? ⟨w.heap.size, 0, none⟩ = false := frozen_of_row w1 _ 0 _ _ hK
  have k0 : w1.cell? ⟨w.heap.size, 0, none⟩ = some (.slice none 0 0) := by rw [cell_of_row _ _ _ _ _ _ hK]; rfl
  have HK := Lib.hid hK
  have HR1 := Lib.hid hr1
  have HB1 := Lib.hid hb1
  have HCC := Lib.hid hcc
  have HN := Lib.hid hn1
  clear hK hr1 hb1 hcc hn1
  go_wp2
  go_ret
  have ho : Only (· = w.heap.size) w1 (w1.setCell ⟨w.heap.size, 0, none⟩ (.slice a2 n c2)) := (Only.refl _ w1).setCell _ _ (fun _ => rfl)
  have hne : ∀ ad, a2 = some ad → w.heap.size + 1 ≤ ad.block := fun ad e => by have := HN.out ad e; simp only [World.size_alloc] at this; exact this
  refine ⟨w.heap.size, a2, c2, rfl, Nat.le_refl _, ?_, ho.rd HR1.out (fun ad e h => by have := hne ad e; have h : ad.block = w.heap.size := h; omega), ((((Below.refl _ w).alloc (Nat.le_refl _) _).trans (HB1.out.mono (by simp))).setCell (p := ⟨w.heap.size, 0, none⟩) (Nat.le_refl _) _), HCC.out, fun ad e => ⟨by have := hne ad e; omega, by have := hne ad e; omega⟩⟩
  rw [heap_setCell_same _ _ _ _ _ _ HK.out]
  rfl
end Go.Proofs.Ytdomnjakhecbaaa
