/- A meter with one series, at the level of the laws. -/
import Derived.Test.YthademifhnkbiaaDlN
namespace Go.Proofs.Ythademifhnkbiaa
open Go.RowKit K
def nameA : ByteArray := ⟨#[97]⟩
def smpA (v t : Int) : Smp := ⟨nameA, v, t, true⟩
def stA : Option (Int × Int) → List SV
  | none => []
  | some p => [⟨smpA p.1 p.2, true, 1⟩]
def MLv (w0 : World) (K : List (Nat × Obj)) (w : World) (m : Nat) (most : Int) (st : Option (Int × Int)) (tal : Tal) : Prop :=
  ∃ s F, MIs w w0.heap.size m s most (stA st) F tal ∧ Below w0.heap.size w0 w ∧ ∀ p ∈ K, w.heap[p.1]? = some p.2 ∧ p.1 ≠ m ∧ p.1 ∉ F
theorem MLv.alloc {w0 w : World} {K : List (Nat × Obj)} {m : Nat} {most : Int} {st : Option (Int × Int)} {tal : Tal} (h : MLv w0 K w m most st tal) (o : Obj) : MLv w0 ((w.heap.size, o) :: K) (w.alloc o) m most st tal := by
  obtain ⟨s, F, ⟨h1, h2, h3, h4, h5⟩, h6, h7⟩ := h
  have hm := (Array.getElem?_eq_some_iff.1 h1).1
  refine ⟨s, F, ⟨(Below.heap_alloc _ _ _ hm).trans h1, h2.alloc _, h3, h4, h5⟩, h6.alloc h6.size _, fun p hp => ?_⟩
  rcases List.mem_cons.1 hp with rfl | hp
  · exact ⟨heap_alloc_new w _, fun e => by simp only at e; omega, fun hb => by have := h2.lt _ hb; simp only at this; omega⟩
  · obtain ⟨k1, k2, k3⟩ := h7 p hp
    exact ⟨(Below.heap_alloc _ _ _ (Array.getElem?_eq_some_iff.1 k1).1).trans k1, k2, k3⟩
theorem MLv.step {w0 w w' : World} {K : List (Nat × Obj)} {m : Nat} {most : Int} {st : Option (Int × Int)} {tal : Tal} (h : MLv w0 K w m most st tal) (hb : Below w.heap.size w w') : MLv w0 K w' m most st tal := by
  obtain ⟨s, F, ⟨h1, h2, h3, h4, h5⟩, h6, h7⟩ := h
  have ho : Only (fun _ => False) w w' := Only.of_new hb
  exact ⟨s, F, ⟨ho.heap h1 (fun h => h), h2.only ho (fun _ _ h => h), h3, h4, h5⟩, h6.trans (hb.mono h6.size), fun p hp => ⟨ho.heap (h7 p hp).1 (fun h => h), (h7 p hp).2⟩⟩
theorem MLv.keeps {w0 w : World} {K : List (Nat × Obj)} {m : Nat} {most : Int} {st : Option (Int × Int)} {tal : Tal} (h : MLv w0 K w m most st tal) {p : Nat × Obj} (hp : p ∈ K) : w.heap[p.1]? = some p.2 := by
  obtain ⟨s, F, _, _, h7⟩ := h
  exact (h7 p hp).1
theorem MLv.bel {w0 w : World} {K : List (Nat × Obj)} {m : Nat} {most : Int} {st : Option (Int × Int)} {tal : Tal} (h : MLv w0 K w m most st tal) : Below w0.heap.size w0 w := by
  obtain ⟨s, F, _, h6, _⟩ := h
  exact h6
/-- What the gains of one more value are. -/
def gA (st : Option (Int × Int)) (v t : Int) : List Gn :=
  match st with
  | none => []
  | some p => [⟨nameA, t, (gainV p.1 v).1, (gainV p.1 v).2⟩]
def tA (st : Option (Int × Int)) (v : Int) (tal : Tal) : Tal :=
  match st with
  | none => tal.par.one 1
  | some p => (tal.par.one 1).gain (gainV p.1 v).2
def ahA : Option (Int × Int) → Int
  | none => 0
  | some p => p.1
theorem find_A (p : Int × Int) (v t : Int) : sfind (smpA v t).name (stA (some p)) = some ⟨smpA p.1 p.2, true, 1⟩ := by simp [sfind, stA, smpA]
theorem putS_A {most : Int} (hm : 1 ≤ most) (st : Option (Int × Int)) (v t : Int) (ht : ∀ p, st = some p → p.2 < t) :
    putS most 1 (stA st) [smpA v t] = [⟨smpA v t, 1, st.isSome, ahA st⟩] ∧ putL most 1 (stA st) [smpA v t] = stA (some (v, t)) := by
  cases st with
  | none =>
    have h : ¬ most ≤ (0 : Int) := by omega
    constructor
    · simp [putS, oneV, stA, sfind, h, ahA]
    · simp [putL, oneL, stA, sfind, h]
  | some p =>
    have h1 := ht p rfl
    have h2 : ¬ t < p.2 := by omega
    have h3 : ¬ t = p.2 := by omega
    have h4 : ¬ t ≤ p.2 := by omega
    constructor
    · simp only [putS, oneV, find_A]
      simp [smpA, h2, h3, ahA]
    · simp only [putL, List.foldl_cons, List.foldl_nil, oneL, find_A]
      simp [smpA, h4, stA, sset]
theorem goneL_A (v t : Int) : goneL 1 [(smpA v t).name] (stA (some (v, t))) = stA (some (v, t)) := by
  simp [goneL, stA, inN]
theorem uniq_A (st : Option (Int × Int)) : Uniq (stA st) := by
  cases st <;> simp [Uniq, stA]
def APost (w0 : World) (K : List (Nat × Obj)) (m : Nat) (most : Int) (st : Option (Int × Int)) (v t : Int) (tal : Tal) (e : Ending) (w' : World) : Prop :=
  ∃ a1 c1 a2 c2, e = .returned (.tuple #[.slice a1 1 c1, .slice a2 (gA st v t).length c2]) ∧ Rd w' a2 (gnf (gA st v t)) ∧ MLv w0 K w' m most (some (v, t)) (tA st v tal)
theorem aput_lv {w0 w : World} {K : List (Nat × Obj)} {m : Nat} {most : Int} {st : Option (Int × Int)} {tal : Tal} (h : MLv w0 K w m most st tal) (hm : 1 ≤ most) (v t : Int) (hv : I64 v) (hst : ∀ p, st = some p → I64 p.1 ∧ p.2 < t) (b : Nat) (c : Nat)
    (hK : (b, Obj.cells (smpA v t).cells 31 (0, 0)) ∈ K) (tb : Int) (htb : TB tb tal) (htb2 : tb ≤ 1000000000000) :
    Calls Try.prog 10 #[.pointer (some ⟨m, 0, none⟩), .int .i64 1, .slice (some ⟨b, 0, none⟩) 1 c] w (APost w0 K m most st v t tal) := by
  obtain ⟨s, F, h1, h2, h3⟩ := h
  obtain ⟨e1, e2⟩ := putS_A hm st v t (fun p hp => (hst p hp).2)
  have hkb := h3 _ hK
  have hr : Rd w (some ⟨b, 0, none⟩) (smf [smpA v t]) := by
    intro k u hu
    refine ⟨b, 0, rfl, ?_⟩
    rw [Nat.zero_add, cell_of_row _ _ _ _ _ _ hkb.1]
    simpa [smf] using hu
  have hp := mput_any h1 h2.size 1 (some ⟨b, 0, none⟩) c [smpA v t] hr (by simp) (fun ad had _ => by cases had; exact hkb.2.2) (uniq_A st) (by
    rw [e1]
    intro x hx
    simp only [List.mem_singleton] at hx
    subst hx
    refine ⟨?_, hv, by show (1 : Int) ≤ 1; omega, by show (1 : Int) ≤ 4; omega⟩
    cases st with
    | none => exact ⟨by show (-9223372036854775808 : Int) ≤ 0; omega, by show (0 : Int) ≤ 9223372036854775807; omega⟩
    | some p => exact (hst p rfl).1) tb htb htb2
  refine hp.mono ?_
  rintro e w' ⟨v1, gv, F', rfl, p1, p2, p3, p4, p5⟩
  rw [e1] at p1 p2 p3
  rw [e2] at p3
  have hg : gainsL [(⟨smpA v t, 1, st.isSome, ahA st⟩ : Sn)] = gA st v t := by
    cases st with
    | none => rfl
    | some p => rfl
  have ht : [(⟨smpA v t, 1, st.isSome, ahA st⟩ : Sn)].foldl tadd tal = tA st v tal := by
    cases st with
    | none => rfl
    | some p => rfl
  rw [hg] at p2
  rw [ht] at p3
  obtain ⟨a1, c1, rfl, _, _, _⟩ := own_cells p1
  obtain ⟨a2, c2, rfl, _, hr2, _⟩ := own_cells p2
  refine ⟨a1, c1, a2, c2, rfl, hr2, s, F', by rw [← goneL_A]; exact p3, h2.trans (p4.below h2.size (fun k hk => ?_)), fun p hp => ?_⟩
  · rcases hk with rfl | hk
    · exact h1.2.2.2.1
    · exact h1.2.2.2.2 k hk
  · obtain ⟨k1, k2, k3⟩ := h3 p hp
    refine ⟨p4.heap k1 (fun hb => hb.elim k2 k3), k2, fun hb => ?_⟩
    rcases p5 _ hb with h | h
    · exact k3 h
    · have := (Array.getElem?_eq_some_iff.1 k1).1; omega
theorem anew_lv (w : World) (m : Int) : Calls Try.prog 9 #[.int .i64 m] w fun e w' => ∃ mb, e = .returned (.pointer (some ⟨mb, 0, none⟩)) ∧ MLv w [] w' mb (max m 0) none tal0 := by
  refine (dnew_any w m).mono ?_
  rintro e w' ⟨mb, s, F, rfl, h1, h2⟩
  exact ⟨mb, rfl, s, F, h1, h2, fun p hp => by cases hp⟩
theorem atally_lv {w0 w : World} {K : List (Nat × Obj)} {m : Nat} {most : Int} {st : Option (Int × Int)} {tal : Tal} (h : MLv w0 K w m most st tal) :
    Calls Try.prog 16 #[.pointer (some ⟨m, 0, none⟩)] w fun e w' => e = .returned (.agg #[.int .i64 tal.p, .int .i64 tal.a, .int .i64 tal.o, .int .i64 tal.t, .int .i64 tal.f, .int .i64 tal.g, .int .i64 tal.r]) ∧ Below w0.heap.size w0 w' := by
  obtain ⟨s, F, h1, h2, h3⟩ := h
  refine (tally_any h1).mono ?_
  rintro e w' ⟨rfl, hb⟩
  exact ⟨rfl, h2.trans (hb.mono h2.size)⟩
end Go.Proofs.Ythademifhnkbiaa
