/- Chapter 18, the reference: its credit, element by element, is crPut: the plain law. -/
import Derived.Test.YtbkpgpaanhfjfaaWiP
namespace Go.Proofs.Ytbkpgpaanhfjfaa
open Go.RowKit Go.Sort K
section
variable {α κ : Type} {key : α → κ} {lt : κ → κ → Prop} [DecidableEq κ] [DecidableRel lt]
theorem sset_app_lt (H : Ord3 lt) (v : α) : ∀ {A C : List α}, (∀ u ∈ A, lt (key u) (key v)) → sset key lt v (A ++ C) = A ++ sset key lt v C
  | [], _, _ => rfl
  | u :: r, C, h => by
    have h1 := h u (by simp)
    have h2 : ¬ key u = key v := fun e => H.irr _ (e ▸ h1)
    have h3 : ¬ lt (key v) (key u) := fun e => H.irr _ (H.tr _ _ _ h1 e)
    show (if key u = key v then v :: (r ++ C) else if lt (key v) (key u) then v :: u :: (r ++ C) else u :: sset key lt v (r ++ C)) = _
    rw [if_neg h2, if_neg h3, sset_app_lt H v (fun x hx => h x (by simp [hx]))]
    rfl
theorem sset_app_in (H : Ord3 lt) (v x : α) : ∀ {A : List α}, (∃ u ∈ A, ¬ lt (key u) (key v)) → sset key lt v (A ++ [x]) = sset key lt v A ++ [x]
  | [], h => by obtain ⟨u, hu, -⟩ := h; simp at hu
  | u :: r, h => by
    show (if key u = key v then v :: (r ++ [x]) else if lt (key v) (key u) then v :: u :: (r ++ [x]) else u :: sset key lt v (r ++ [x])) = (if key u = key v then v :: r else if lt (key v) (key u) then v :: u :: r else u :: sset key lt v r) ++ [x]
    by_cases h2 : key u = key v
    · rw [if_pos h2, if_pos h2]; rfl
    · rw [if_neg h2, if_neg h2]
      by_cases h3 : lt (key v) (key u)
      · rw [if_pos h3, if_pos h3]; rfl
      · rw [if_neg h3, if_neg h3]
        have h4 : ∃ u ∈ r, ¬ lt (key u) (key v) := by
          obtain ⟨y, hy, hn⟩ := h
          rcases List.mem_cons.1 hy with rfl | hy
          · rcases H.tri (key y) (key v) with e | e | e
            · exact absurd e hn
            · exact absurd e h2
            · exact absurd e h3
          · exact ⟨y, hy, hn⟩
        rw [sset_app_in H v x h4]
        rfl
end
/-- What the reference's credit has put behind the first credits. -/
def rcrd (nm : List UInt8) (inc : Int) (cr : List Cr) : List Cr × Bool :=
  if ∀ c ∈ cr, c.nm < nm then (cr, false) else (crPut nm inc cr, true)
theorem rcrd_nil (nm : List UInt8) (inc : Int) : rcrd nm inc [] = ([], false) := by unfold rcrd; rw [if_pos (by simp)]
theorem crFind_lt {nm : List UInt8} {cr : List Cr} (h : ∀ c ∈ cr, c.nm < nm) : crFind nm cr = none := by
  unfold crFind
  refine List.find?_eq_none.2 fun c hc => ?_
  have h1 := h c hc
  simp only [decide_eq_true_eq]
  intro e
  rw [e] at h1
  exact ordN.irr _ h1
theorem crFind_app {nm : List UInt8} {A C : List Cr} (h : ∀ c ∈ A, c.nm < nm) : crFind nm (A ++ C) = crFind nm C := by
  have h1 := crFind_lt h
  unfold crFind at h1 ⊢
  rw [List.find?_append, h1]
  rfl
/-- The gain's name at this credit. -/
theorem rcrd_eq {nm : List UInt8} {inc : Int} {A : List Cr} {x : Cr} (h : ∀ c ∈ A, c.nm < nm) (hx : x.nm = nm) : rcrd nm inc (A ++ [x]) = (A ++ [crNew x nm inc], true) := by
  unfold rcrd
  rw [if_neg (fun h2 => ordN.irr nm (by have := h2 x (by simp); rwa [hx] at this))]
  unfold crPut crSet
  rw [crFind_app h, sset_app_lt ordN _ (by exact h)]
  have hf : crFind nm [x] = some x := by unfold crFind; simp [hx]
  rw [hf]
  have hk : x.nm = (crNew x nm inc).nm := hx
  show (A ++ (if x.nm = (crNew x nm inc).nm then [crNew x nm inc] else _), true) = _
  rw [if_pos hk]
/-- The gain's name ahead of this credit. -/
theorem rcrd_gt {nm : List UInt8} {inc : Int} {A : List Cr} {x : Cr} (h : ∀ c ∈ A, c.nm < nm) (hx : nm < x.nm) : rcrd nm inc (A ++ [x]) = (A ++ [crNew zC nm inc, x], true) := by
  have hne : ¬ x.nm = nm := fun e => ordN.irr nm (by rwa [e] at hx)
  unfold rcrd
  rw [if_neg (fun h2 => ordN.irr nm (ordN.tr _ _ _ hx (h2 x (by simp))))]
  unfold crPut crSet
  rw [crFind_app h, sset_app_lt ordN _ (by exact h)]
  have hf : crFind nm [x] = none := by unfold crFind; simp [hne]
  rw [hf]
  show (A ++ (if x.nm = nm then _ else if nm < x.nm then [crNew zC nm inc, x] else _), true) = _
  rw [if_neg hne, if_pos hx]
/-- This credit stays ahead of the gain's name. -/
theorem rcrd_lt {nm : List UInt8} {inc : Int} {A : List Cr} {x : Cr} (h : ∀ c ∈ A, c.nm < nm) (hx : x.nm < nm) : rcrd nm inc (A ++ [x]) = (A ++ [x], false) := by
  unfold rcrd
  rw [if_pos]
  intro c hc
  rcases List.mem_append.1 hc with hc | hc
  · exact h c hc
  · simp only [List.mem_singleton] at hc
    rw [hc]
    exact hx
/-- It was put before. -/
theorem rcrd_in {nm : List UInt8} {inc : Int} {A : List Cr} {x : Cr} (h : ¬ ∀ c ∈ A, c.nm < nm) (hs : CS (A ++ [x])) : rcrd nm inc (A ++ [x]) = ((rcrd nm inc A).1 ++ [x], true) := by
  have h1 : ¬ ∀ c ∈ A ++ [x], c.nm < nm := fun h2 => h fun c hc => h2 c (by simp [hc])
  have he : ∃ u ∈ A, ¬ u.nm < nm := Classical.byContradiction fun hn => h fun c hc => Classical.byContradiction fun h3 => hn ⟨c, hc, h3⟩
  have hxn : ¬ x.nm = nm := fun e => by
    obtain ⟨u, hu, hn⟩ := he
    unfold CS at hs
    rw [List.map_append, List.pairwise_append] at hs
    have := hs.2.2 u.nm (List.mem_map.2 ⟨u, hu, rfl⟩) x.nm (by simp)
    rw [e] at this
    exact hn this
  unfold rcrd
  rw [if_neg h1, if_neg h]
  unfold crPut crSet
  have hf : crFind nm (A ++ [x]) = crFind nm A := by
    unfold crFind
    rw [List.find?_append]
    have : List.find? (fun c : Cr => decide (c.nm = nm)) [x] = none := by simp [hxn]
    rw [this]
    simp
  rw [hf, sset_app_in ordN _ x he]
theorem rcrd_done {nm : List UInt8} {inc : Int} {cr : List Cr} : (if (rcrd nm inc cr).2 = true then (rcrd nm inc cr).1 else (rcrd nm inc cr).1 ++ [crNew zC nm inc]) = crPut nm inc cr := by
  by_cases h : ∀ c ∈ cr, c.nm < nm
  · have e : rcrd nm inc cr = (cr, false) := by unfold rcrd; rw [if_pos h]
    rw [e]
    show cr ++ [crNew zC nm inc] = _
    unfold crPut crSet
    have := sset_app_lt (key := Cr.nm) ordN (crNew zC nm inc) (A := cr) (C := []) h
    rw [List.append_nil] at this
    rw [crFind_lt h]
    exact this.symm
  · have e : rcrd nm inc cr = (crPut nm inc cr, true) := by unfold rcrd; rw [if_neg h]
    rw [e]
    rfl
/-- How many windows are ahead of a number. -/
def atW (n : Int) (L : List WV) : Nat := (L.takeWhile fun v => decide (v.num < n)).length
theorem atW_cons (n : Int) (v : WV) (t : List WV) : atW n (v :: t) = if v.num < n then atW n t + 1 else 0 := by
  unfold atW
  rw [List.takeWhile_cons]
  by_cases h : v.num < n <;> simp [h]
theorem wvSet_at (n : Int) (x : List Cr) : ∀ {L : List WV}, WS L → wvSet ⟨n, x⟩ L = L.take (atW n L) ++ ⟨n, x⟩ :: L.drop (if n ∈ L.map (·.num) then atW n L + 1 else atW n L)
  | [], _ => by simp [wvSet, sset, atW]
  | v :: t, hs => by
    have hs2 := hs
    unfold WS at hs2
    rw [List.map_cons, List.pairwise_cons] at hs2
    have ih := wvSet_at n x (L := t) hs2.2
    show (if v.num = n then ⟨n, x⟩ :: t else if n < v.num then ⟨n, x⟩ :: v :: t else v :: wvSet ⟨n, x⟩ t) = _
    rw [atW_cons]
    by_cases h1 : v.num = n
    · rw [if_pos h1, if_neg (show ¬ v.num < n by omega), if_pos (by simp [h1])]
      rfl
    · rw [if_neg h1]
      by_cases h2 : n < v.num
      · have hno : ¬ n ∈ (v :: t).map (·.num) := fun h => by
          rcases List.mem_cons.1 h with e | e
          · exact h1 e.symm
          · have := hs2.1 _ e
            omega
        rw [if_pos h2, if_neg (show ¬ v.num < n by omega), if_neg hno]
        rfl
      · rw [if_neg h2, if_pos (show v.num < n by omega), ih, List.take_succ_cons]
        by_cases h3 : n ∈ t.map (·.num)
        · rw [if_pos h3, if_pos (by rw [List.map_cons]; exact List.mem_cons_of_mem _ h3)]
          rfl
        · have hno : ¬ n ∈ (v :: t).map (·.num) := fun h => by
            rcases List.mem_cons.1 h with e | e
            · exact h1 e.symm
            · exact h3 e
          rw [if_neg h3, if_neg hno]
          rfl
theorem atW_le (n : Int) (L : List WV) : atW n L ≤ L.length := by
  unfold atW
  exact (List.takeWhile_sublist _).length_le
theorem atW_iff {n : Int} {L : List WV} (hs : WS L) {k : Nat} (h : k < L.length) : L[k].num < n ↔ k < atW n L := by
  have h1 := cnt_iff (n := n - 1) hs h
  have h2 : cntW (n - 1) L = atW n L := by
    unfold cntW atW
    have e : (fun v : WV => decide (v.num ≤ n - 1)) = fun v : WV => decide (v.num < n) := by
      funext v
      rw [decide_eq_decide]
      omega
    rw [e]
  rw [h2] at h1
  omega
theorem wvCr_at {n : Int} : ∀ {L : List WV}, WS L → n ∈ L.map (·.num) → ∃ h : atW n L < L.length, L[atW n L].num = n ∧ wvCr n L = L[atW n L].cr
  | [], _, h => by simp at h
  | v :: t, hs, h => by
    have hs2 := hs
    unfold WS at hs2
    rw [List.map_cons, List.pairwise_cons] at hs2
    by_cases h1 : v.num = n
    · have e : atW n (v :: t) = 0 := by rw [atW_cons, if_neg (by omega)]
      refine ⟨by rw [e]; simp, ?_, ?_⟩
      · simp only [e, List.getElem_cons_zero]; exact h1
      · simp only [e, List.getElem_cons_zero]
        unfold wvCr
        rw [List.find?_cons_of_pos (by simp [h1])]
        rfl
    · have hm : n ∈ t.map (·.num) := by
        rcases List.mem_cons.1 h with e | e
        · exact absurd e.symm h1
        · exact e
      have hlt := hs2.1 _ hm
      obtain ⟨k1, k2, k3⟩ := wvCr_at (L := t) hs2.2 hm
      have e : atW n (v :: t) = atW n t + 1 := by rw [atW_cons, if_pos hlt]
      refine ⟨by rw [e]; simpa using k1, ?_, ?_⟩
      · simp only [e, List.getElem_cons_succ]; exact k2
      · simp only [e, List.getElem_cons_succ]
        rw [← k3]
        unfold wvCr
        rw [List.find?_cons_of_neg (by simp [h1])]
theorem wvCr_no {n : Int} {L : List WV} (h : ¬ n ∈ L.map (·.num)) : wvCr n L = [] := by
  unfold wvCr
  have : L.find? (fun v => decide (v.num = n)) = none := List.find?_eq_none.2 fun v hv => by
    simp only [decide_eq_true_eq]
    exact fun e => h (List.mem_map.2 ⟨v, hv, e⟩)
  rw [this]
  rfl
end Go.Proofs.Ytbkpgpaanhfjfaa
