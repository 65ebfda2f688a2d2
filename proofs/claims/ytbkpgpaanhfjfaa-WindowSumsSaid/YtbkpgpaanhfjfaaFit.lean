/- What came in, read as plain data: shapes of values by their types, nested slices and structs too. -/
import Derived.Test.YtbkpgpaanhfjfaaKit
import Derived.ChangeArms
import Derived.SizedLaws
namespace Go.Proofs.Ytbkpgpaanhfjfaa.K
open Go.RowKit
/-- These cells are a value of a type: whole numbers fit, texts and rows are not longer than may be, and rows lie in memory. -/
def Fit (P : Program) (w : World) : Nat → TypeId → List Value → Prop
  | 0, _, _ => False
  | n + 1, t, cs =>
    match P.underlying t with
    | some .bool => ∃ b, cs = [.bool b]
    | some (.int k) => ∃ z, cs = [.int k z] ∧ (Lit.int k z).wf = true
    | some .string => ∃ s : ByteArray, cs = [.string s] ∧ s.size ≤ 140737488351232
    | some (.slice e) => cs = [.slice none 0 0] ∨ ∃ (a : Addr) (len cap : Nat) (xss : List (List Value)), cs = [.slice (some a) len cap] ∧ len ≤ cap ∧ cap ≤ maxLen ∧ len * P.bytesOf e ≤ 140737488351232 ∧ xss.length = len ∧ (∀ x ∈ xss, x.length = P.cellsOf e ∧ Fit P w n e x) ∧ Rd w (some a) xss.flatten
    | some (.struct fs) => cs.length = P.cellsOf t ∧ ∀ (j : Nat) (f : Field), fs[j]? = some f → Fit P w n f.type ((cs.drop f.offset).take (P.cellsOf f.type))
    | _ => True
section
variable {H : Type} {enc : TypeId × Value → H} {P : Program} {w : World} {base : Nat} {spare : Nat → Bool} {held : Bool}
theorem weightsAll_mem {e : TypeId} {d : DataW H} : ∀ {l : List (DataW H)}, d ∈ l → ∀ n ∈ d.weights P e, n ∈ DataW.weightsAll P e l
  | x :: l, h, n, hn => by
    simp only [DataW.weightsAll, List.mem_append]
    rcases List.mem_cons.1 h with rfl | h
    · exact .inl hn
    · exact .inr (weightsAll_mem h n hn)
theorem flatten_get {xss : List (List Value)} {c : Nat} (h : ∀ x ∈ xss, x.length = c) : ∀ {k : Nat} {v : Value}, xss.flatten[k]? = some v → 0 < c ∧ ∃ x, xss[k / c]? = some x ∧ x[k % c]? = some v := by
  induction xss with
  | nil => intro k v hv; simp at hv
  | cons x r ih =>
    intro k v hv
    have hx := h x (by simp)
    rw [List.flatten_cons] at hv
    by_cases hk : k < c
    · rw [List.getElem?_append_left (by omega)] at hv
      exact ⟨by omega, x, by simp [Nat.div_eq_of_lt hk], by rw [Nat.mod_eq_of_lt hk]; exact hv⟩
    · rw [List.getElem?_append_right (by omega), hx] at hv
      obtain ⟨hc, y, h1, h2⟩ := ih (fun y hy => h y (by simp [hy])) hv
      refine ⟨hc, y, ?_, ?_⟩
      · have : k / c = (k - c) / c + 1 := by rw [Nat.div_eq_sub_div hc (by omega)]
        rw [this]; simpa using h1
      · rw [Nat.mod_eq_sub_mod (by omega)]; exact h2
theorem rd_of_parts {a : Addr} {c : Nat} {xss : List (List Value)} (hl : ∀ x ∈ xss, x.length = c) (h : ∀ i x, xss[i]? = some x → ∀ j v, x[j]? = some v → w.cell? (a.add (i * c + j)) = some v) : Rd w (some a) xss.flatten := by
  intro k v hv
  obtain ⟨hc, x, h1, h2⟩ := flatten_get hl hv
  have hq := h _ _ h1 _ _ h2
  have hk : k / c * c + k % c = k := by rw [Nat.mul_comm]; exact Nat.div_add_mod k c
  rw [hk] at hq
  have hn : 0 < xss.length := Nat.lt_of_le_of_lt (Nat.zero_le _) (List.getElem?_eq_some_iff.1 h1).1
  have hl0 := hl xss[0] (List.getElem_mem hn)
  have hsp := World.cell?_spot (h 0 xss[0] (List.getElem?_eq_getElem hn) 0 (xss[0]'hn)[0] (List.getElem?_eq_getElem (by omega)))
  obtain ⟨b, off, sp⟩ := a
  have : sp = none := by simpa [Addr.add] using hsp
  subst this
  exact ⟨b, off, rfl, by rw [Addr.add_lit] at hq; exact hq⟩
theorem add_add (a : Addr) (i j : Nat) : (a.add i).add j = a.add (i + j) := by
  unfold Addr.add
  by_cases hi : i = 0 <;> by_cases hj : j = 0 <;> simp [hi, hj, Nat.add_assoc]
theorem fit_of_trod : ∀ (fuel : Nat) (t : TypeId) (cs : List Value) (x : DataW H × List MemPlace), DataW.trod enc P w base spare held fuel t cs = some x → (∀ n ∈ x.1.weights P t, n ≤ reachBytes) → Fit P w fuel t cs := by
  intro fuel
  induction fuel with
  | zero => intro t cs x h; simp [DataW.trod] at h
  | succ fuel ih =>
    intro t cs x h hw
    unfold Fit
    cases hu : P.underlying t with
    | none => trivial
    | some u =>
      cases u with
      | bool => obtain ⟨b, rfl, _⟩ := DataW.trod_bool hu h; exact ⟨b, rfl⟩
      | int k => obtain ⟨n, rfl, _, hn⟩ := DataW.trod_int hu h; exact ⟨n, rfl, hn⟩
      | string =>
        obtain ⟨s, rfl, hx, _⟩ := DataW.trod_string hu h
        subst hx
        have := hw s.data.toList.length (by simp [DataW.weights])
        refine ⟨s, rfl, ?_⟩
        have e : reachBytes = 140737488351232 := rfl
        have e2 : s.data.toList.length = s.size := rfl
        omega
      | slice e =>
        rcases DataW.trod_slice hu h with ⟨h0, _⟩ | ⟨a, len, cap, elems, rest, n, hn, h1, hx, _, h2, h3, h4, h5, _, _⟩
        · exact .inl h0
        · obtain rfl : fuel = n := by omega
          subst hx
          have hg : ∀ i, i < len → ∃ cs', w.cells? base (a.add (i * P.cellsOf e)) (P.cellsOf e) = some cs' ∧ ∃ y, elems[i]? = some y ∧ DataW.trod enc P w base spare held fuel e cs' = some y := fun i hi => by
            have := h5 i hi
            have hy : elems[i]? = some (elems[i]'(by omega)) := List.getElem?_eq_getElem (by omega)
            rw [hy, Option.bind_eq_some_iff] at this
            obtain ⟨cs', e1, e2⟩ := this
            exact ⟨cs', e1, _, hy, e2⟩
          refine .inr ⟨a, len, cap, (List.range len).map fun i => (w.cells? base (a.add (i * P.cellsOf e)) (P.cellsOf e)).getD [], h1, h2, h3, ?_, by simp, ?_, ?_⟩
          · have hq := hw (((elems.map (·.1)).length + (rest.map (·.1)).length) * P.bytesOf e) (by simp [DataW.weights, hu])
            have e : reachBytes = 140737488351232 := rfl
            rw [e] at hq
            refine Nat.le_trans (Nat.mul_le_mul_right _ ?_) hq
            simp only [List.length_map]
            omega
          · intro x hx
            simp only [List.mem_map, List.mem_range] at hx
            obtain ⟨i, hi, rfl⟩ := hx
            obtain ⟨cs', e1, y, e2, e3⟩ := hg i hi
            rw [e1]
            refine ⟨(World.cells?_some e1).2.1, ih e cs' y e3 (fun m hm => hw m ?_)⟩
            simp only [DataW.weights, hu, List.mem_cons, List.mem_append]
            exact .inr (.inl (weightsAll_mem (List.mem_map.2 ⟨y, List.mem_of_getElem? e2, rfl⟩) m hm))
          · refine rd_of_parts (c := P.cellsOf e) ?_ ?_
            · intro x hx
              simp only [List.mem_map, List.mem_range] at hx
              obtain ⟨i, hi, rfl⟩ := hx
              obtain ⟨cs', e1, _⟩ := hg i hi
              rw [e1]
              exact (World.cells?_some e1).2.1
            · intro i x hx j v hv
              have hi : i < len := by
                have := (List.getElem?_eq_some_iff.1 hx).1
                simpa using this
              obtain ⟨cs', e1, _⟩ := hg i hi
              simp [hi, e1] at hx
              subst hx
              obtain ⟨_, hl, hc⟩ := World.cells?_some e1
              have hj := (List.getElem?_eq_some_iff.1 hv).1
              rw [← hv, ← hc j (by omega), add_add]
      | struct fs =>
        obtain ⟨xs, n, hn, hx, h1, h2, h3⟩ := DataW.trod_struct hu h
        obtain rfl : fuel = n := by omega
        subst hx
        refine ⟨h1, fun j f hf => ?_⟩
        have hj : j < fs.size := (Array.getElem?_eq_some_iff.1 hf).1
        have hy : xs[j]? = some (xs[j]'(by omega)) := List.getElem?_eq_getElem (by omega)
        have h4 := h3 j f hf
        rw [hy] at h4
        refine ih _ _ _ h4 (fun m hm => hw m ?_)
        simp only [DataW.weights, hu]
        exact DataW.weights_mem_each (j := j) (t := f.type) (d := (xs[j]'(by omega)).1) (by simp [hf]) (by simp [hy]) m hm
      | _ => trivial
end
/-- Rows of one shape are the cells of plain data. -/
theorem fit_list {α : Type} (cells : α → List Value) (Q : α → Prop) : ∀ (xss : List (List Value)), (∀ x ∈ xss, ∃ r : α, x = cells r ∧ Q r) → ∃ xs : List α, xss.flatten = xs.flatMap cells ∧ xs.length = xss.length ∧ ∀ r ∈ xs, Q r
  | [], _ => ⟨[], rfl, rfl, by simp⟩
  | x :: r, h => by
    obtain ⟨y, hy, hQ⟩ := h x (by simp)
    obtain ⟨ys, h1, h2, h3⟩ := fit_list cells Q r (fun z hz => h z (by simp [hz]))
    exact ⟨y :: ys, by simp [h1, hy], by simp [h2], fun z hz => by
      rcases List.mem_cons.1 hz with rfl | hz
      · exact hQ
      · exact h3 z hz⟩
theorem fit_int {P : Program} {w : World} {n : Nat} {t : TypeId} {k : IntKind} {cs : List Value} (h : Fit P w n t cs) (ht : P.underlying t = some (.int k)) : ∃ z, cs = [.int k z] ∧ (Lit.int k z).wf = true := by
  cases n with
  | zero => exact h.elim
  | succ n => unfold Fit at h; rw [ht] at h; exact h
theorem fit_bool {P : Program} {w : World} {n : Nat} {t : TypeId} {cs : List Value} (h : Fit P w n t cs) (ht : P.underlying t = some .bool) : ∃ b, cs = [.bool b] := by
  cases n with
  | zero => exact h.elim
  | succ n => unfold Fit at h; rw [ht] at h; exact h
theorem fit_string {P : Program} {w : World} {n : Nat} {t : TypeId} {cs : List Value} (h : Fit P w n t cs) (ht : P.underlying t = some .string) : ∃ s : ByteArray, cs = [.string s] ∧ s.size ≤ 140737488351232 := by
  cases n with
  | zero => exact h.elim
  | succ n => unfold Fit at h; rw [ht] at h; exact h
theorem fit_struct {P : Program} {w : World} {n : Nat} {t : TypeId} {fs : Array Field} {cs : List Value} (h : Fit P w n t cs) (ht : P.underlying t = some (.struct fs)) : ∃ m, cs.length = P.cellsOf t ∧ ∀ (j : Nat) (f : Field), fs[j]? = some f → Fit P w m f.type ((cs.drop f.offset).take (P.cellsOf f.type)) := by
  cases n with
  | zero => exact h.elim
  | succ n => unfold Fit at h; rw [ht] at h; exact ⟨n, h⟩
/-- A slice of what reads as plain data: its address, its length, its capacity, the data. -/
theorem fit_slice {P : Program} {w : World} {n : Nat} {t e : TypeId} {cs : List Value} {α : Type} (cells : α → List Value) (Q : α → Prop) (h : Fit P w n t cs) (ht : P.underlying t = some (.slice e)) (he : ∀ m x, x.length = P.cellsOf e → Fit P w m e x → ∃ r : α, x = cells r ∧ Q r) :
    ∃ (a : Option Addr) (cap : Nat) (xs : List α), cs = [.slice a xs.length cap] ∧ xs.length ≤ cap ∧ cap ≤ 9223372036854775807 ∧ (a = none → cap = 0) ∧ xs.length * P.bytesOf e ≤ 140737488351232 ∧ (∀ r ∈ xs, Q r) ∧ Rd w a (xs.flatMap cells) := by
  cases n with
  | zero => exact h.elim
  | succ n =>
    unfold Fit at h
    rw [ht] at h
    rcases h with rfl | ⟨a, len, cap, xss, rfl, h1, h2, h3, h4, h5, h6⟩
    · exact ⟨none, 0, [], rfl, Nat.le_refl _, by omega, fun _ => rfl, by simp, by simp, Rd.nil _ _⟩
    · obtain ⟨xs, e1, e2, e3⟩ := fit_list cells Q xss (fun x hx => he n x (h5 x hx).1 (h5 x hx).2)
      rw [e1] at h6
      rw [← h4, ← e2] at h1 h3 ⊢
      exact ⟨some a, cap, xs, rfl, h1, (by unfold maxLen at h2; omega), (fun h => by cases h), h3, e3, h6⟩
theorem bv_flat : ∀ xs : List UInt8, xs.flatMap (fun x : UInt8 => [Value.int .u8 (x.toNat : Int)]) = bv xs
  | [] => rfl
  | x :: r => by rw [List.flatMap_cons, bv_flat r]; rfl
/-- A slice of bytes. -/
theorem fit_bytes {P : Program} {w : World} {n : Nat} {t e : TypeId} {cs : List Value} (h : Fit P w n t cs) (ht : P.underlying t = some (.slice e)) (he : P.underlying e = some (.int .u8)) (hb : P.bytesOf e = 1) :
    ∃ (a : Option Addr) (cap : Nat) (l : List UInt8), cs = [.slice a l.length cap] ∧ l.length ≤ cap ∧ cap ≤ 9223372036854775807 ∧ (a = none → cap = 0) ∧ l.length ≤ 140737488351232 ∧ Rd w a (bv l) := by
  obtain ⟨a, cap, xs, h1, h2, h3, h4, h5, _, h7⟩ := fit_slice (fun x : UInt8 => [Value.int .u8 (x.toNat : Int)]) (fun _ => True) h ht (fun m x _ hx => by
    obtain ⟨z, rfl, hz⟩ := fit_int hx he
    have hr : 0 ≤ z ∧ z ≤ 255 := by simpa [Lit.wf, IntKind.min, IntKind.max, IntKind.signed, IntKind.bits] using hz
    refine ⟨UInt8.ofNat z.toNat, ?_, trivial⟩
    rw [u8_of (by omega)]
    simp
    omega)
  rw [hb] at h5
  rw [bv_flat] at h7
  exact ⟨a, cap, xs, h1, h2, h3, h4, by omega, h7⟩
end Go.Proofs.Ytbkpgpaanhfjfaa.K
