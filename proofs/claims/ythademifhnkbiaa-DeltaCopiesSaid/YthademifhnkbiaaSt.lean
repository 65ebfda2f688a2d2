/- A store in memory: the struct, its map, each series' last sample. -/
import Derived.Test.YthademifhnkbiaaMap
import Derived.Test.YthademifhnkbiaaApp2
namespace Go.Proofs.Ythademifhnkbiaa
open Go.RowKit K
/-- A sample. -/
structure Smp where
  name : ByteArray
  val : Int
  time : Int
  counts : Bool
def Smp.cells (x : Smp) : Array Value := #[.string x.name, .int .i64 x.val, .int .i64 x.time, .bool x.counts]
/-- A series: its last sample. -/
structure SV where
  x : Smp
  live : Bool
  owner : Int
def SV.cells (v : SV) : Array Value := #[.string v.x.name, .int .i64 v.x.val, .int .i64 v.x.time, .bool v.x.counts, .bool v.live, .int .i64 v.owner]
/-- What became of a sample. -/
structure Sn where
  x : Smp
  verdict : Int
  chain : Bool
  ahead : Int
def Sn.cells (s : Sn) : Array Value := #[.string s.x.name, .int .i64 s.x.val, .int .i64 s.x.time, .bool s.x.counts, .int .i64 s.verdict, .bool s.chain, .int .i64 s.ahead]
abbrev SE := SV × Nat
def sEnc (x : ByteArray) : Value := .string x
theorem sKey : KeyEnc Try.prog 9 sEnc := string_enc Try.underlying9
def sents (es : List SE) : List (ByteArray × Value) := es.map fun e => (e.1.x.name, .pointer (some ⟨e.2, 0, none⟩))
def sfoot (s M : Nat) (es : List SE) : List Nat := s :: M :: es.map (·.2)
def StAt (w : World) (B s M : Nat) (most : Int) (es : List SE) : Prop :=
  w.heap[s]? = some (.cells #[.int .i64 most, .map (some M)] 80 (0, 0)) ∧ MapAt sEnc w M (sents es) ∧ (∀ e ∈ es, w.heap[e.2]? = some (.cells e.1.cells 88 (0, 0))) ∧ (sfoot s M es).Nodup ∧ ∀ k ∈ sfoot s M es, B ≤ k
section
variable {w w' : World} {B s M : Nat} {most : Int} {es : List SE}
theorem StAt.lt (h : StAt w B s M most es) : ∀ k ∈ sfoot s M es, k < w.heap.size := by
  obtain ⟨h1, h2, h3, _⟩ := h
  intro k hk
  simp only [sfoot, List.mem_cons, List.mem_map] at hk
  rcases hk with rfl | rfl | ⟨e, he, rfl⟩
  · exact (Array.getElem?_eq_some_iff.1 h1).1
  · exact h2.lt
  · exact (Array.getElem?_eq_some_iff.1 (h3 e he)).1
theorem StAt.only {F : Nat → Prop} (h : StAt w B s M most es) (ho : Only F w w') (hn : ∀ k ∈ sfoot s M es, ¬ F k) : StAt w' B s M most es := by
  obtain ⟨h1, h2, h3, h4, h5⟩ := h
  exact ⟨ho.heap h1 (hn s (by simp [sfoot])), h2.only ho (hn M (by simp [sfoot])), fun e he => ho.heap (h3 e he) (hn e.2 (by simp only [sfoot, List.mem_cons, List.mem_map]; exact .inr (.inr ⟨e, he, rfl⟩))), h4, h5⟩
theorem StAt.below {D : Nat} (h : StAt w B s M most es) (hb : Below D w w') (hD : w.heap.size ≤ D) : StAt w' B s M most es :=
  h.only (Only.of_below (F := fun k => D ≤ k) hb (fun k _ h => h)) (fun k hk hle => by have := h.lt k hk; omega)
theorem StAt.c0 (h : StAt w B s M most es) : w.cell? ⟨s, 0, none⟩ = some (.int .i64 most) := by rw [cell_of_row _ _ _ _ _ _ h.1]; rfl
theorem StAt.c1 (h : StAt w B s M most es) : w.cell? ⟨s, 1, none⟩ = some (.map (some M)) := by rw [cell_of_row _ _ _ _ _ _ h.1]; rfl
theorem StAt.drewN (h : StAt w B s M most es) (n : Nat) : StAt (w.drewN n) B s M most es := h
/-- One series turned. -/
theorem StAt.turned {pre post : List SE} {v v' : SV} {c : Nat} (h : StAt w B s M most (pre ++ (v, c) :: post)) (ho : Only (· = c) w w') (hn : v'.x.name = v.x.name) (hc : w'.heap[c]? = some (.cells v'.cells 88 (0, 0))) : StAt w' B s M most (pre ++ (v', c) :: post) := by
  obtain ⟨h1, h2, h3, h4, h5⟩ := h
  have hf : ∀ u : SV, sfoot s M (pre ++ (u, c) :: post) = (s :: M :: pre.map (·.2)) ++ c :: post.map (·.2) := fun u => by simp [sfoot]
  rw [hf] at h4 h5
  obtain ⟨n1, n2, n3⟩ := List.nodup_append.1 h4
  have hA : ∀ k ∈ s :: M :: pre.map (·.2), k ≠ c := fun k hk e => n3 k hk c (by simp) e
  have hP : ∀ k ∈ post.map (·.2), k ≠ c := fun k hk e => (List.nodup_cons.1 n2).1 (e ▸ hk)
  refine ⟨ho.heap h1 (hA s (by simp)), ?_, ?_, by rw [hf]; exact h4, by rw [hf]; exact h5⟩
  · have : sents (pre ++ (v', c) :: post) = sents (pre ++ (v, c) :: post) := by simp [sents, hn]
    rw [this]
    exact h2.only ho (hA M (by simp))
  · intro e he
    rcases List.mem_append.1 he with he | he
    · exact ho.heap (h3 e (by simp [he])) (hA e.2 (by simp only [List.mem_cons, List.mem_map]; exact .inr (.inr ⟨e, he, rfl⟩)))
    · rcases List.mem_cons.1 he with rfl | he
      · exact hc
      · exact ho.heap (h3 e (by simp [he])) (hP e.2 (List.mem_map.2 ⟨e, he, rfl⟩))
end
/-- The series of a name. -/
def sfind (x : ByteArray) (l : List SV) : Option SV := l.find? fun v => decide (x = v.x.name)
def efind (x : ByteArray) (es : List SE) : Option SE := es.find? fun e => decide (x = e.1.x.name)
def sset (x : ByteArray) (v' : SV) : List SV → List SV
  | [] => []
  | v :: r => if x = v.x.name then v' :: r else v :: sset x v' r
theorem sfind_map (x : ByteArray) : ∀ es : List SE, sfind x (es.map (·.1)) = (efind x es).map (·.1)
  | [] => rfl
  | e :: es => by
    have ih := sfind_map x es
    by_cases h : x = e.1.x.name
    · simp [sfind, efind, h]
    · simp only [sfind, efind, List.map_cons, List.find?_cons, decide_eq_false h] at ih ⊢
      exact ih
theorem mget_sents (x : ByteArray) : ∀ es : List SE, mget x (sents es) = (efind x es).map fun e => .pointer (some ⟨e.2, 0, none⟩)
  | [] => rfl
  | e :: es => by
    have ih := mget_sents x es
    by_cases h : x = e.1.x.name
    · simp [sents, mget, efind, h]
    · have : mget x (sents (e :: es)) = mget x (sents es) := by simp [sents, mget, h]
      rw [this, ih]
      simp [efind, h]
theorem efind_split {x : ByteArray} : ∀ {es : List SE} {e : SE}, efind x es = some e → ∃ pre post, es = pre ++ e :: post ∧ e.1.x.name = x ∧ ∀ v', sset x v' (es.map (·.1)) = pre.map (·.1) ++ v' :: post.map (·.1)
  | [], _, h => by cases h
  | y :: r, e, h => by
    by_cases hx : x = y.1.x.name
    · have : y = e := by simpa [efind, hx] using h
      subst this
      exact ⟨[], r, rfl, hx.symm, fun v' => by simp [sset, hx]⟩
    · have h' : efind x r = some e := by simpa [efind, hx] using h
      obtain ⟨pre, post, h1, h2, h3⟩ := efind_split h'
      exact ⟨y :: pre, post, by rw [h1]; rfl, h2, fun v' => by simp only [List.map_cons, sset, hx, if_false, h3, List.cons_append]⟩
/-- A store at a place, its series in the order of its map's entries, its blocks. -/
def StIs (w : World) (B s : Nat) (most : Int) (l : List SV) (F : List Nat) : Prop := ∃ M es, StAt w B s M most es ∧ l = es.map (·.1) ∧ F = sfoot s M es
def StTo (w : World) (B s : Nat) (F : List Nat) (most : Int) (l' : List SV) (w' : World) : Prop := ∃ F', StIs w' B s most l' F' ∧ Only (· ∈ F) w w' ∧ ∀ k ∈ F', k ∈ F ∨ w.heap.size ≤ k
/-- What one sample does. -/
def oneV (most : Int) (l : List SV) (x : Smp) : Sn :=
  match sfind x.name l with
  | none => if most ≤ (l.length : Int) then ⟨x, 4, false, 0⟩ else ⟨x, 1, false, 0⟩
  | some v => if x.time < v.x.time then ⟨x, 2, false, 0⟩ else if x.time = v.x.time then ⟨x, 3, false, 0⟩ else if v.live = true then ⟨x, 1, true, v.x.val⟩ else ⟨x, 1, false, 0⟩
def oneL (most owner : Int) (l : List SV) (x : Smp) : List SV :=
  match sfind x.name l with
  | none => if most ≤ (l.length : Int) then l else l ++ [⟨x, true, owner⟩]
  | some v => if x.time ≤ v.x.time then l else sset x.name ⟨x, true, owner⟩ l
end Go.Proofs.Ythademifhnkbiaa
