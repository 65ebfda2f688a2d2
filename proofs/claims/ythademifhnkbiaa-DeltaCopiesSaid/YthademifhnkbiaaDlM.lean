/- A meter in memory, and what its Put counts, in plain. -/
import Derived.Test.YthademifhnkbiaaDlG
namespace Go.Proofs.Ythademifhnkbiaa
open Go.RowKit K
structure Tal where
  p : Int
  a : Int
  o : Int
  t : Int
  f : Int
  g : Int
  r : Int
def mcells (s : Nat) (x : Tal) : Array Value := #[.pointer (some ⟨s, 0, none⟩), .int .i64 x.p, .int .i64 x.a, .int .i64 x.o, .int .i64 x.t, .int .i64 x.f, .int .i64 x.g, .int .i64 x.r]
/-- One more of a verdict. -/
def Tal.one (x : Tal) (v : Int) : Tal := if v = 1 then { x with a := x.a + 1 } else if v = 2 then { x with o := x.o + 1 } else if v = 3 then { x with t := x.t + 1 } else { x with f := x.f + 1 }
def Tal.cnt (x : Tal) (v : Int) : Int := if v = 1 then x.a else if v = 2 then x.o else if v = 3 then x.t else x.f
def Tal.par (x : Tal) : Tal := { x with p := x.p + 1 }
def Tal.gain (x : Tal) (reset : Bool) : Tal := { x with g := x.g + 1, r := if reset = true then x.r + 1 else x.r }
/-- A gain. -/
structure Gn where
  name : ByteArray
  time : Int
  inc : Int
  reset : Bool
def Gn.cells (g : Gn) : Array Value := #[.string g.name, .int .i64 g.time, .int .i64 g.inc, .bool g.reset]
def gnf (l : List Gn) : List Value := l.flatMap fun g => g.cells.toList
def gainOf (x : Sn) : Gn := ⟨x.x.name, x.x.time, (gainV x.ahead x.x.val).1, (gainV x.ahead x.x.val).2⟩
def gainsL (l : List Sn) : List Gn := l.flatMap fun x => if (x.chain && x.x.counts) = true then [gainOf x] else []
def tadd (t : Tal) (x : Sn) : Tal := if (x.chain && x.x.counts) = true then (t.par.one x.verdict).gain (gainV x.ahead x.x.val).2 else t.par.one x.verdict
def TB (b : Int) (t : Tal) : Prop := (0 ≤ t.p ∧ t.p ≤ b) ∧ (0 ≤ t.a ∧ t.a ≤ b) ∧ (0 ≤ t.o ∧ t.o ≤ b) ∧ (0 ≤ t.t ∧ t.t ≤ b) ∧ (0 ≤ t.f ∧ t.f ≤ b) ∧ (0 ≤ t.g ∧ t.g ≤ b) ∧ (0 ≤ t.r ∧ t.r ≤ b)
theorem TB.par {b : Int} {t : Tal} (h : TB b t) : TB (b + 1) t.par := by
  unfold TB Tal.par at *
  simp only
  omega
theorem TB.tadd {b : Int} {t : Tal} (h : TB b t) (x : Sn) : TB (b + 1) (tadd t x) := by
  unfold TB at *
  unfold Go.Proofs.Ythademifhnkbiaa.tadd Tal.gain Tal.one Tal.par
  by_cases c : (x.chain && x.x.counts) = true
  · rw [if_pos c]
    by_cases v1 : x.verdict = 1
    · simp only [v1, if_true]; split <;> omega
    · by_cases v2 : x.verdict = 2
      · simp only [v2, if_true]; split <;> simp <;> omega
      · by_cases v3 : x.verdict = 3
        · simp only [v3]; split <;> simp <;> omega
        · simp only [v1, v2, v3, if_false]; split <;> omega
  · rw [if_neg c]
    by_cases v1 : x.verdict = 1
    · simp only [v1, if_true]; omega
    · by_cases v2 : x.verdict = 2
      · simp only [v2]; simp; omega
      · by_cases v3 : x.verdict = 3
        · simp only [v3]; simp; omega
        · simp only [v1, v2, v3, if_false]; omega
theorem TB.fold {b : Int} : ∀ (l : List Sn) {t : Tal}, TB b t → TB (b + l.length) (l.foldl Go.Proofs.Ythademifhnkbiaa.tadd t)
  | [], t, h => by simpa using h
  | x :: r, t, h => by
    have := TB.fold (b := b + 1) r (h.tadd x)
    simp only [List.foldl_cons, List.length_cons]
    rw [show b + ((r.length + 1 : Nat) : Int) = b + 1 + (r.length : Int) by omega]
    exact this
theorem gainsL_add (l : List Sn) (x : Sn) : gainsL (l ++ [x]) = gainsL l ++ (if (x.chain && x.x.counts) = true then [gainOf x] else []) := by simp [gainsL]
theorem gnf_add (l : List Gn) (g : Gn) : gnf (l ++ [g]) = gnf l ++ g.cells.toList := by simp [gnf]
theorem fold_add (l : List Sn) (x : Sn) (t : Tal) : (l ++ [x]).foldl tadd t = tadd (l.foldl tadd t) x := by simp
theorem gainsL_le : ∀ l : List Sn, (gainsL l).length ≤ l.length
  | [] => Nat.le_refl _
  | x :: r => by
    have := gainsL_le r
    have e : gainsL (x :: r) = (if (x.chain && x.x.counts) = true then [gainOf x] else []) ++ gainsL r := rfl
    rw [e, List.length_append, List.length_cons]
    have h1 : (if (x.chain && x.x.counts) = true then [gainOf x] else []).length ≤ 1 := by split <;> simp
    omega
theorem info_gain : (Try.prog.info? 33).map (fun i => (i.zero, i.size, i.bytes)) = some (some (.agg #[.string ⟨#[]⟩, .int .i64 0, .int .i64 0, .bool false]), 4, 40) := by kernel_rfl
/-- The cell of a verdict's count. -/
theorem cnt_cell (s : Nat) (x : Tal) (v : Int) (hv : 1 ≤ v ∧ v ≤ 4) : (mcells s x)[1 + v.toNat]? = some (.int .i64 (x.cnt v)) := by
  have hc : v = 1 ∨ v = 2 ∨ v = 3 ∨ v = 4 := by omega
  rcases hc with rfl | rfl | rfl | rfl <;> rfl
theorem cnt_set (s : Nat) (x : Tal) (v : Int) (hv : 1 ≤ v ∧ v ≤ 4) : (mcells s x).setIfInBounds (1 + v.toNat) (.int .i64 (x.cnt v + 1)) = mcells s (x.one v) := by
  have hc : v = 1 ∨ v = 2 ∨ v = 3 ∨ v = 4 := by omega
  rcases hc with rfl | rfl | rfl | rfl <;> rfl
theorem cnt_b {b : Int} {t : Tal} (h : TB b t) (v : Int) : 0 ≤ t.cnt v ∧ t.cnt v ≤ b := by
  unfold TB at h
  unfold Tal.cnt
  split
  · exact h.2.1
  · split
    · exact h.2.2.1
    · split
      · exact h.2.2.2.1
      · exact h.2.2.2.2.1
/-- The loop of Put. -/
def MtL (w1 : World) (m s : Nat) (sn : List Sn) (tal : Tal) (k : Nat) (gv : Value) (wr : World) : Prop :=
  wr.heap[m]? = some (.cells (mcells s ((sn.take k).foldl tadd tal)) 65 (0, 0)) ∧ wr.ownsRow w1.heap.size 33 4 gv (gainsL (sn.take k)).length (gnf (gainsL (sn.take k))) ∧ Only (· = m) w1 wr
/-- A meter at a place. -/
def MIs (w : World) (B m s : Nat) (most : Int) (l : List SV) (F : List Nat) (tal : Tal) : Prop :=
  w.heap[m]? = some (.cells (mcells s tal) 65 (0, 0)) ∧ StIs w B s most l F ∧ m ∉ F ∧ B ≤ m ∧ ∀ k ∈ F, B ≤ k
theorem seen_cells {w : World} {a : Option Addr} {l : List Sn} (hr : Rd w a (snf l)) {k : Nat} (h : k < l.length) : ∃ b off, a = some ⟨b, off, none⟩ ∧ b < w.heap.size ∧ ∀ j v, j < 7 → l[k].cells.toList[j]? = some v → w.cell? ⟨b, off + k * 7 + j, none⟩ = some v := by
  obtain ⟨b, off, rfl, hb, q0⟩ := hr.at (snf_get (j := 0) h (by omega))
  refine ⟨b, off, rfl, hb, fun j v hj hv => ?_⟩
  obtain ⟨b', off', he, hc⟩ := hr _ _ ((snf_get h hj).trans hv)
  cases he
  rw [← hc]
  congr 2
  omega
theorem own_cells {w : World} {B e size n : Nat} {v : Value} {xs : List Value} (h : w.ownsRow B e size v n xs) : ∃ a c, v = .slice a n c ∧ n ≤ c ∧ Rd w a xs ∧ ∀ ad, a = some ad → v.ownBlock = some ad.block := by
  rcases h.2 with ⟨rfl, rfl⟩ | ⟨g, cap, cur, rfl, _, hg, hn, _⟩
  · refine ⟨none, 0, rfl, Nat.le_refl _, fun k v hv => ?_, fun ad h => by cases h⟩
    have : xs = [] := List.eq_nil_of_length_eq_zero (by simpa using h.1)
    subst this
    simp at hv
  · refine ⟨_, cap, rfl, hn, fun k v hv => ⟨g, 0, rfl, ?_⟩, fun ad h => by cases h; rfl⟩
    have := h.cells (g := g) rfl k v hv
    simpa [Addr.add_lit] using this
theorem one_gr (x : Tal) (v : Int) : (x.one v).g = x.g ∧ (x.one v).r = x.r := by
  unfold Tal.one
  split
  · exact ⟨rfl, rfl⟩
  · split
    · exact ⟨rfl, rfl⟩
    · split <;> exact ⟨rfl, rfl⟩
theorem MtL.gain {w1 w' u : World} {m s k : Nat} {sn : List Sn} {tal tk : Tal} {gv v' : Value} {x : Sn} (htk : tk = (sn.take k).foldl tadd tal) (hT : sn.take (k + 1) = sn.take k ++ [x]) (hc : (x.chain && x.x.counts) = true) (hm : m < w1.heap.size)
    (hu : u.heap[m]? = some (.cells (mcells s ((tk.par.one x.verdict).gain (gainV x.ahead x.x.val).2)) 65 (0, 0))) (ho : Only (· = m) w1 u) (hgv : ∀ b, gv.ownBlock = some b → w1.heap.size ≤ b)
    (hown : w'.ownsRow w1.heap.size 33 4 v' ((gainsL (sn.take k)).length + 1) (gnf (gainsL (sn.take k)) ++ (gainOf x).cells.toList)) (hg : u.grownBy w' gv.ownBlock) : MtL w1 m s sn tal (k + 1) v' w' := by
  refine ⟨?_, ?_, ?_⟩
  · rw [hT, fold_add, ← htk, tadd, if_pos hc]
    exact ((Only.refl (fun b => gv.ownBlock = some b) u).grown hg (fun b hb _ => hb)).heap hu (fun hb => by have := hgv m hb; omega)
  · rw [hT, gainsL_add, if_pos hc, gnf_add, List.length_append]
    exact hown
  · exact ho.grown hg (fun b hb hlt => by have := hgv b hb; omega)
end Go.Proofs.Ythademifhnkbiaa
