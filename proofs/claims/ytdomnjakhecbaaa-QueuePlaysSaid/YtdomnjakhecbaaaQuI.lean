/- A queue that a law makes: it lies in new memory; what else the law keeps is kept. -/
import Derived.Test.YtdomnjakhecbaaaQuH
import Derived.Handy
namespace Go.Proofs.Ytdomnjakhecbaaa
open Go.RowKit K
def recA (win : Int) : Rec := ⟨⟨#[97]⟩, win, 1, 0, false⟩
theorem recA_may (q win : Int) (h : 1 ≤ q) : mayB q win [recA win] = true := by
  simp [mayB, recA, allOk, okAt, risesB, recOk, h]
  decide
theorem recA_fit (win : Int) (h : -9223372036854775808 ≤ win ∧ win ≤ 9223372036854775807) : RecFit (recA win) := by
  unfold RecFit recA
  refine ⟨?_, h, (by show (-9223372036854775808 : Int) ≤ 1 ∧ (1 : Int) ≤ 9223372036854775807; omega), (by show (-9223372036854775808 : Int) ≤ 0 ∧ (0 : Int) ≤ 9223372036854775807; omega)⟩
  show (1 : Nat) ≤ _
  omega
theorem frmA_ok (q win : Int) (h1 : 1 ≤ q) (h2 : q < 18446744073709551616) (h : -9223372036854775808 ≤ win ∧ win ≤ 9223372036854775807) : FOk ⟨q, win, [recA win]⟩ :=
  ⟨h2, h, fun x hx => by simp at hx; subst hx; exact recA_fit win h, recA_may q win h1⟩
set_option maxHeartbeats 400000 in
theorem record_any (w : World) (win : Int) :
    Calls Try.prog 10 #[.int .i64 win] w fun e w' => ∃ b, e = .returned (.slice (some ⟨b, 0, none⟩) 1 1) ∧ w.heap.size ≤ b ∧ Rd w' (some ⟨b, 0, none⟩) (rcf [recA win]) ∧ Below w.heap.size w w' := by
  go_enter Try.func10, Try.ntmps10
  go_wp2
  go_ret
  refine ⟨_, rfl, ?_, ?_, ?_⟩
  · exact Nat.le_refl _
  · intro k v hv
    refine ⟨_, 0, rfl, ?_⟩
    rw [Nat.zero_add, cell_of_row _ _ _ _ _ _ (heap_alloc_new w _)]
    simpa [rcf, Rec.cells, recA] using hv
  · go_grown
/-- A queue in memory that was made behind w0; K is kept. -/
def QLv (w0 : World) (K : List (Nat × Obj)) (g : Nat) (s : QR) (fs : List Frm) (w : World) : Prop :=
  ∃ M, QSt w g s fs M ∧ (∀ k, M k → w0.heap.size ≤ k) ∧ Below w0.heap.size w0 w ∧ ∀ p ∈ K, w.heap[p.1]? = some p.2 ∧ ¬ M p.1
section
variable {w0 w w' : World} {K : List (Nat × Obj)} {g : Nat} {s s' : QR} {fs fs' : List Frm}
theorem QLv.bel (h : QLv w0 K g s fs w) : Below w0.heap.size w0 w := by
  obtain ⟨_, _, _, h3, _⟩ := h
  exact h3
theorem QLv.keeps (h : QLv w0 K g s fs w) {p : Nat × Obj} (hp : p ∈ K) : w.heap[p.1]? = some p.2 := by
  obtain ⟨_, _, _, _, h4⟩ := h
  exact (h4 p hp).1
theorem QLv.step (h : QLv w0 K g s fs w) (hb : Below w.heap.size w w') : QLv w0 K g s fs w' := by
  obtain ⟨M, h1, h2, h3, h4⟩ := h
  exact ⟨M, h1.new hb, h2, h3.trans (hb.mono h3.size), fun p hp => ⟨(hb.block _ (Array.getElem?_eq_some_iff.1 (h4 p hp).1).1).trans (h4 p hp).1, (h4 p hp).2⟩⟩
theorem QLv.alloc (h : QLv w0 K g s fs w) (o : Obj) : QLv w0 ((w.heap.size, o) :: K) g s fs (w.alloc o) := by
  obtain ⟨M, h1, h2, h3, h4⟩ := h.step ((Below.refl _ w).alloc (Nat.le_refl _) o)
  obtain ⟨M, k1, k2, k3, k4⟩ := h
  refine ⟨M, k1.new ((Below.refl _ w).alloc (Nat.le_refl _) o), k2, h3, fun p hp => ?_⟩
  rcases List.mem_cons.1 hp with rfl | hp
  · exact ⟨heap_alloc_new w o, fun h => by have := k1.lt _ h; simp at this⟩
  · exact ⟨(Below.heap_alloc w o _ (Array.getElem?_eq_some_iff.1 (k4 p hp).1).1).trans (k4 p hp).1, (k4 p hp).2⟩
theorem QLv.to {M : Nat → Prop} (h2 : ∀ k, M k → w0.heap.size ≤ k) (h3 : Below w0.heap.size w0 w) (h4 : ∀ p ∈ K, w.heap[p.1]? = some p.2 ∧ ¬ M p.1) (h : QTo w M g s' fs' w') : QLv w0 K g s' fs' w' := by
  obtain ⟨M', k1, k2, k3⟩ := h
  refine ⟨M', k1, fun k hk => ?_, h3.trans (k2.below h3.size h2), fun p hp => ⟨k2.heap (h4 p hp).1 (h4 p hp).2, fun h => ?_⟩⟩
  · rcases k3 k hk with h | h
    · exact h2 k h
    · have := h3.size; omega
  · rcases k3 _ h with h | h
    · exact (h4 p hp).2 h
    · have := (Array.getElem?_eq_some_iff.1 (h4 p hp).1).1; omega
theorem lnew (w : World) (most base longest : Int) : Calls Try.prog 8 #[.int .i64 most, .int .i64 base, .int .i64 longest] w fun e w' => e = .returned (.pointer (some ⟨w.heap.size, 0, none⟩)) ∧ QLv w [] w.heap.size (newQ most base longest) [] w' := by
  refine (new_any w most base longest).mono ?_
  rintro e w' ⟨rfl, hb, hbl⟩
  refine ⟨rfl, (· = w.heap.size), ⟨_, [], fun _ => False, hb, .inl ⟨World.ownsRow_nil _ _ _ _, fun b e => by cases e⟩, rfl, rfl, fun h => h, fun _ h => h.elim, fun k h => by have h : k = w.heap.size := h; rw [h]; exact (Array.getElem?_eq_some_iff.1 hb).1⟩, fun k h => by have h : k = w.heap.size := h; omega, hbl, by simp⟩
theorem lput (h : QLv w0 K g s fs w) (win : Int) (a : Option Addr) (c : Nat) (xs : List Rec) (hc : xs.length ≤ c) (hc2 : c ≤ 9223372036854775807) (hl : xs.length ≤ 1000000) (ha : a = none → c = 0) (hr : Rd w a (rcf xs)) (hs : ∀ x ∈ xs, x.name.size ≤ 140737488355328)
    (hp : 0 ≤ s.put ∧ s.put ≤ 1000000) (hd : 0 ≤ s.dropped ∧ s.dropped ≤ 1000000) (hf : fs.length ≤ 1000000) :
    Calls Try.prog 9 #[.pointer (some ⟨g, 0, none⟩), .int .i64 win, .slice a xs.length c] w fun e w' =>
      e = .returned (.tuple #[.int .u64 (putR s fs win xs).1.1, .int .i64 (putR s fs win xs).1.2]) ∧ QLv w0 K g (putR s fs win xs).2.1 (putR s fs win xs).2.2 w' := by
  obtain ⟨M, h1, h2, h3, h4⟩ := h
  refine (qput_any h1 win a c xs hc hc2 hl ha hr hs hp hd hf).mono ?_
  rintro e w' ⟨rfl, ht⟩
  exact ⟨rfl, QLv.to h2 h3 h4 ht⟩
def LHandP (w0 : World) (K : List (Nat × Obj)) (g : Nat) (s : QR) (f : Frm) (fs : List Frm) (e : Ending) (w' : World) : Prop :=
  ∃ a c, e = .returned (.tuple #[.slice a (encB f.seq f.win f.recs).length c, .bool true]) ∧ (encB f.seq f.win f.recs).length ≤ c ∧ c ≤ 9223372036854775807 ∧ Rd w' a (bv (encB f.seq f.win f.recs)) ∧ QLv w0 K g { s with sink := true } (f :: fs) w'
theorem lhand {f : Frm} (h : QLv w0 K g s (f :: fs) w) (now : Int) (hf : ∀ x ∈ f :: fs, FOk x) (hm : (f :: fs).length ≤ 1000000) (hs : s.sink = false) (ht : s.time ≤ now) :
    Calls Try.prog 12 #[.pointer (some ⟨g, 0, none⟩), .int .i64 now] w (LHandP w0 K g s f fs) := by
  obtain ⟨M, h1, h2, h3, h4⟩ := h
  refine (qhand h1 now hf hm).mono ?_
  intro e w' hp
  change (if _ then _ else _) at hp
  rw [if_neg (by rw [hs]; simp; omega)] at hp
  obtain ⟨v, rfl, ho, hq, hon⟩ := hp
  obtain ⟨a, c, rfl, hc1, hc2, _, hr⟩ := own_slice ho
  exact ⟨a, c, rfl, hc1, hc2, hr, QLv.to h2 h3 h4 ⟨M, hq, hon, fun _ h => .inl h⟩⟩
theorem lnext (h : QLv w0 K g s fs w) : Calls Try.prog 11 #[.pointer (some ⟨g, 0, none⟩)] w fun e w' => e = .returned (nextV fs.length s) ∧ w = w' := by
  obtain ⟨M, h1, _⟩ := h
  exact qnext h1
theorem lwaiting (h : QLv w0 K g s fs w) : Calls Try.prog 16 #[.pointer (some ⟨g, 0, none⟩)] w fun e w' => e = .returned (.int .i64 fs.length) ∧ w = w' := by
  obtain ⟨M, h1, _⟩ := h
  exact qwaiting h1
theorem lacked (h : QLv w0 K g s fs w) : Calls Try.prog 15 #[.pointer (some ⟨g, 0, none⟩)] w fun e w' => e = .returned (.int .i64 s.acked) ∧ w = w' := by
  obtain ⟨M, h1, _⟩ := h
  exact qacked h1
theorem ltries (h : QLv w0 K g s fs w) : Calls Try.prog 26 #[.pointer (some ⟨g, 0, none⟩)] w fun e w' => e = .returned (.int .i64 s.tries) ∧ w = w' := by
  obtain ⟨M, h1, _⟩ := h
  exact qtries h1
theorem lanswer_ok (h : QLv w0 K g s fs w) (now : Int) (hs : s.sink = true) (hn : 0 < fs.length) (hm : fs.length ≤ 1000000) (ha : 0 ≤ s.acked ∧ s.acked ≤ 1000000) :
    Calls Try.prog 14 #[.pointer (some ⟨g, 0, none⟩), .bool true, .int .i64 now] w fun e w' => e = .returned (.int .i64 0) ∧ QLv w0 K g { s with sink := false, acked := s.acked + 1, time := once, tries := 0 } (fs.drop 1) w' := by
  obtain ⟨M, h1, h2, h3, h4⟩ := h
  refine (qanswer_ok h1 now hs hn hm ha).mono ?_
  intro e w' hp
  unfold AnsP ansR at hp
  rw [if_neg (by simp [hs]), if_pos rfl] at hp
  exact ⟨hp.1, QLv.to h2 h3 h4 ⟨M, hp.2.1, hp.2.2, fun _ h => .inl h⟩⟩
theorem lanswer_off (h : QLv w0 K g s fs w) (now : Int) (hs : s.sink = true) (hb : 1 ≤ s.base) (hb2 : s.base ≤ s.longest) (hlg : s.longest ≤ 9223372036854775807) (hnow : -9223372036854775808 ≤ now ∧ now ≤ 9223372036854775807) (t : Nat) (htr : s.tries = t) (ht : t ≤ 1000000) :
    Calls Try.prog 14 #[.pointer (some ⟨g, 0, none⟩), .bool false, .int .i64 now] w fun e w' => e = .returned (.int .i64 0) ∧ QLv w0 K g { s with sink := false, time := if now ≤ 9223372036854775807 - dbl s.longest s.tries.toNat s.base then now + dbl s.longest s.tries.toNat s.base else 9223372036854775807, tries := s.tries + 1 } fs w' := by
  obtain ⟨M, h1, h2, h3, h4⟩ := h
  refine (qanswer_off h1 now hs hb hb2 hlg hnow t htr ht).mono ?_
  intro e w' hp
  unfold AnsP ansR at hp
  rw [if_neg (by simp [hs]), if_neg (by simp)] at hp
  exact ⟨hp.1, QLv.to h2 h3 h4 ⟨M, hp.2.1, hp.2.2, fun _ h => .inl h⟩⟩
end
end Go.Proofs.Ytdomnjakhecbaaa
