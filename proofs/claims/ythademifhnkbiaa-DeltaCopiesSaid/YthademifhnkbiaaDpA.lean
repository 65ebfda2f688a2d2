/- A store's series in whatever order, and by rising names: plain laws. -/
import Derived.Test.YthademifhnkbiaaDlN
namespace Go.Proofs.Ythademifhnkbiaa
open Go.RowKit K
/-- Where the reference lays a new series. -/
def lessN (x y : ByteArray) : Bool := Op.bytesLess x.toList y.toList
def insAt (x : ByteArray) : List SV → Nat
  | [] => 0
  | v :: r => if lessN v.x.name x = true then insAt x r + 1 else 0
def rins (v : SV) (L : List SV) : List SV := L.take (insAt v.x.name L) ++ v :: L.drop (insAt v.x.name L)
theorem insAt_le (x : ByteArray) : ∀ L : List SV, insAt x L ≤ L.length
  | [] => Nat.le_refl _
  | v :: r => by
    have := insAt_le x r
    unfold insAt
    split <;> simp <;> omega
theorem rins_perm (v : SV) (L : List SV) : (rins v L).Perm (v :: L) := by
  unfold rins
  refine List.perm_middle.trans ?_
  rw [List.take_append_drop]
theorem rins_length (v : SV) (L : List SV) : (rins v L).length = L.length + 1 := by
  rw [(rins_perm v L).length_eq]
  rfl
def roneL (most owner : Int) (L : List SV) (x : Smp) : List SV :=
  match sfind x.name L with
  | none => if most ≤ (L.length : Int) then L else rins ⟨x, true, owner⟩ L
  | some v => if x.time ≤ v.x.time then L else sset x.name ⟨x, true, owner⟩ L
def rputL (most owner : Int) (L : List SV) (xs : List Smp) : List SV := xs.foldl (roneL most owner) L
def rputS (most owner : Int) : List SV → List Smp → List Sn
  | _, [] => []
  | L, x :: r => oneV most L x :: rputS most owner (roneL most owner L x) r
theorem rputS_add (most owner : Int) (x : Smp) : ∀ (xs : List Smp) (l : List SV), rputS most owner l (xs ++ [x]) = rputS most owner l xs ++ [oneV most (rputL most owner l xs) x]
  | [], _ => rfl
  | y :: r, l => by
    simp only [List.cons_append, rputS, rputL, List.foldl_cons]
    rw [rputS_add most owner x r]
    rfl
theorem rputL_add (most owner : Int) (x : Smp) (xs : List Smp) (l : List SV) : rputL most owner l (xs ++ [x]) = roneL most owner (rputL most owner l xs) x := by simp [rputL]
theorem rputS_length (most owner : Int) : ∀ (xs : List Smp) (l : List SV), (rputS most owner l xs).length = xs.length
  | [], _ => rfl
  | y :: r, l => by simp [rputS, rputS_length most owner r]
theorem Uniq.perm {l L : List SV} (h : Uniq l) (hp : l.Perm L) : Uniq L := by
  unfold Uniq at *
  exact (hp.map _).nodup_iff.1 h
theorem sfind_some {x : ByteArray} {l : List SV} {v : SV} (h : sfind x l = some v) : v ∈ l ∧ v.x.name = x := by
  unfold sfind at h
  refine ⟨List.mem_of_find?_eq_some h, ?_⟩
  have := List.find?_some h
  simpa using (of_decide_eq_true this).symm
theorem sfind_is {x : ByteArray} {l : List SV} {v : SV} (hu : Uniq l) (hv : v ∈ l) (hn : v.x.name = x) : sfind x l = some v := by
  cases hf : sfind x l with
  | none => exact absurd (List.mem_map.2 ⟨v, hv, hn⟩) (sfind_none hf)
  | some u =>
    obtain ⟨h1, h2⟩ := sfind_some hf
    rw [hu.one v hv u h1 (h2.trans hn.symm)]
theorem sfind_perm {l L : List SV} (hu : Uniq l) (hp : l.Perm L) (x : ByteArray) : sfind x l = sfind x L := by
  cases hf : sfind x l with
  | some v =>
    obtain ⟨h1, h2⟩ := sfind_some hf
    exact (sfind_is (hu.perm hp) (hp.mem_iff.1 h1) h2).symm
  | none =>
    cases hg : sfind x L with
    | none => rfl
    | some v =>
      obtain ⟨h1, h2⟩ := sfind_some hg
      exact absurd (List.mem_map.2 ⟨v, hp.mem_iff.2 h1, h2⟩) (sfind_none hf)
theorem oneV_perm {l L : List SV} (hu : Uniq l) (hp : l.Perm L) (most : Int) (x : Smp) : oneV most l x = oneV most L x := by
  unfold oneV
  rw [sfind_perm hu hp, hp.length_eq]
theorem sset_map {x : ByteArray} {v' : SV} : ∀ {l : List SV}, Uniq l → sset x v' l = l.map fun v => if x = v.x.name then v' else v
  | [], _ => rfl
  | v :: r, h => by
    have h' := h
    unfold Uniq at h
    rw [List.map_cons, List.nodup_cons] at h
    by_cases hx : x = v.x.name
    · simp only [sset, hx, if_true, List.map_cons]
      congr 1
      have : r.map (fun u => if v.x.name = u.x.name then v' else u) = r.map id := List.map_congr_left fun u hm => if_neg fun e => h.1 (List.mem_map.2 ⟨u, hm, e.symm⟩)
      rw [this, List.map_id]
    · simp only [sset, hx, if_false, List.map_cons]
      rw [sset_map (l := r) h.2]
theorem oneL_perm {l L : List SV} (hu : Uniq l) (hp : l.Perm L) (most owner : Int) (x : Smp) : (oneL most owner l x).Perm (roneL most owner L x) := by
  unfold oneL roneL
  rw [sfind_perm hu hp, hp.length_eq]
  cases sfind x.name L with
  | none =>
    simp only
    split
    · exact hp
    · exact (List.perm_append_singleton _ _).trans ((hp.cons _).trans (rins_perm _ _).symm)
  | some v =>
    simp only
    split
    · exact hp
    · rw [sset_map hu, sset_map (hu.perm hp)]
      exact hp.map _
theorem put_perm (most owner : Int) : ∀ (xs : List Smp) {l L : List SV}, Uniq l → l.Perm L → putS most owner l xs = rputS most owner L xs ∧ (putL most owner l xs).Perm (rputL most owner L xs)
  | [], _, _, _, hp => ⟨rfl, hp⟩
  | x :: r, l, L, hu, hp => by
    obtain ⟨h1, h2⟩ := put_perm most owner r (hu.oneL most owner x) (oneL_perm hu hp most owner x)
    exact ⟨by simp only [putS, rputS]; rw [h1, oneV_perm hu hp], h2⟩
theorem gone_perm {l L : List SV} (hp : l.Perm L) (owner : Int) (names : List ByteArray) : (goneL owner names l).Perm (goneL owner names L) := hp.map _
/-- What the reference keeps: nothing but what the program keeps. -/
structure SRel (l L : List SV) : Prop where
  uniq : Uniq l
  perm : l.Perm L
theorem SRel.put {l L : List SV} (h : SRel l L) (most owner : Int) (xs : List Smp) : SRel (goneL owner (xs.map (·.name)) (putL most owner l xs)) (goneL owner (xs.map (·.name)) (rputL most owner L xs)) := by
  refine ⟨?_, gone_perm (put_perm most owner xs h.uniq h.perm).2 _ _⟩
  unfold Uniq
  rw [goneL_names]
  exact Uniq.putL xs h.uniq
/-- Bounds of what is kept and told. -/
def SvOk (v : SV) : Prop := I64 v.x.val
theorem oneV_ok {most : Int} {l : List SV} {x : Smp} (hl : ∀ v ∈ l, SvOk v) (hx : I64 x.val) : I64 (oneV most l x).ahead ∧ I64 (oneV most l x).x.val ∧ 1 ≤ (oneV most l x).verdict ∧ (oneV most l x).verdict ≤ 4 := by
  have h0 : I64 0 := by unfold I64; omega
  unfold oneV
  cases hf : sfind x.name l with
  | none =>
    simp only
    split <;> exact ⟨h0, hx, by simp, by simp⟩
  | some v =>
    simp only
    split
    · exact ⟨h0, hx, by simp, by simp⟩
    · split
      · exact ⟨h0, hx, by simp, by simp⟩
      · split
        · exact ⟨hl v (sfind_some hf).1, hx, by simp, by simp⟩
        · exact ⟨h0, hx, by simp, by simp⟩
theorem mem_sset {x : ByteArray} {v' u : SV} : ∀ {l : List SV}, u ∈ sset x v' l → u = v' ∨ u ∈ l
  | [], h => by cases h
  | v :: r, h => by
    by_cases hx : x = v.x.name
    · simp only [sset, hx, if_true, List.mem_cons] at h
      rcases h with h | h
      · exact .inl h
      · exact .inr (List.mem_cons_of_mem _ h)
    · simp only [sset, hx, if_false, List.mem_cons] at h
      rcases h with h | h
      · exact .inr (by rw [h]; simp)
      · rcases mem_sset h with h | h
        · exact .inl h
        · exact .inr (List.mem_cons_of_mem _ h)
theorem oneL_ok {most owner : Int} {l : List SV} {x : Smp} (hl : ∀ v ∈ l, SvOk v) (hx : I64 x.val) : ∀ v ∈ oneL most owner l x, SvOk v := by
  unfold oneL
  cases hf : sfind x.name l with
  | none =>
    simp only
    split
    · exact hl
    · intro v hv
      rcases List.mem_append.1 hv with hv | hv
      · exact hl v hv
      · simp at hv
        rw [hv]
        exact hx
  | some u =>
    simp only
    split
    · exact hl
    · intro v hv
      rcases mem_sset hv with hv | hv
      · rw [hv]; exact hx
      · exact hl v hv
theorem putL_ok {most owner : Int} : ∀ (xs : List Smp) {l : List SV}, (∀ v ∈ l, SvOk v) → (∀ x ∈ xs, I64 x.val) → (∀ v ∈ putL most owner l xs, SvOk v) ∧ ∀ s ∈ putS most owner l xs, I64 s.ahead ∧ I64 s.x.val ∧ 1 ≤ s.verdict ∧ s.verdict ≤ 4
  | [], _, hl, _ => ⟨hl, by simp [putS]⟩
  | x :: r, l, hl, hx => by
    obtain ⟨h1, h2⟩ := putL_ok (most := most) (owner := owner) r (oneL_ok (most := most) (owner := owner) (x := x) hl (hx x (by simp))) (fun y hy => hx y (by simp [hy]))
    refine ⟨h1, fun s hs => ?_⟩
    simp only [putS, List.mem_cons] at hs
    rcases hs with rfl | hs
    · exact oneV_ok hl (hx x (by simp))
    · exact h2 s hs
theorem gone_ok {owner : Int} {names : List ByteArray} {l : List SV} (hl : ∀ v ∈ l, SvOk v) : ∀ v ∈ goneL owner names l, SvOk v := by
  intro v hv
  unfold goneL at hv
  obtain ⟨u, hu, rfl⟩ := List.mem_map.1 hv
  split
  · exact hl u hu
  · exact hl u hu
theorem putS_x (most owner : Int) : ∀ (xs : List Smp) (l : List SV), (putS most owner l xs).map (·.x) = xs
  | [], _ => rfl
  | x :: r, l => by
    simp only [putS, List.map_cons, putS_x most owner r]
    congr 1
    unfold oneV
    cases sfind x.name l with
    | none => simp only; split <;> rfl
    | some v =>
      simp only
      split
      · rfl
      · split
        · rfl
        · split <;> rfl
theorem oneL_len {most owner : Int} {l : List SV} {x : Smp} : (oneL most owner l x).length ≤ l.length + 1 := by
  unfold oneL
  cases sfind x.name l with
  | none => simp only; split <;> simp
  | some v =>
    simp only
    split
    · omega
    · have : ∀ l : List SV, (sset x.name ⟨x, true, owner⟩ l).length = l.length := fun l => by
        have := congrArg List.length (sset_names (x := x.name) (v' := ⟨x, true, owner⟩) rfl l)
        simpa using this
      rw [this]
      omega
theorem putL_len {most owner : Int} : ∀ (xs : List Smp) (l : List SV), (putL most owner l xs).length ≤ l.length + xs.length
  | [], l => Nat.le_refl _
  | x :: r, l => by
    have h1 := putL_len (most := most) (owner := owner) r (oneL most owner l x)
    have h2 := oneL_len (most := most) (owner := owner) (l := l) (x := x)
    show (putL most owner (oneL most owner l x) r).length ≤ _
    simp only [List.length_cons]
    omega
theorem gone_len (owner : Int) (names : List ByteArray) (l : List SV) : (goneL owner names l).length = l.length := by simp [goneL]
/-- The counts: what was parsed is what became of it. -/
theorem tally_sum {tal : Tal} {s : Sn} (h : tal.p = tal.a + tal.o + tal.t + tal.f ∧ tal.r ≤ tal.g) : (tadd tal s).p = (tadd tal s).a + (tadd tal s).o + (tadd tal s).t + (tadd tal s).f ∧ (tadd tal s).r ≤ (tadd tal s).g := by
  obtain ⟨h1, h2⟩ := h
  have key : ((tal.par.one s.verdict)).p = (tal.par.one s.verdict).a + (tal.par.one s.verdict).o + (tal.par.one s.verdict).t + (tal.par.one s.verdict).f := by
    unfold Tal.one
    split
    · show tal.p + 1 = tal.a + 1 + tal.o + tal.t + tal.f; omega
    · split
      · show tal.p + 1 = tal.a + (tal.o + 1) + tal.t + tal.f; omega
      · split
        · show tal.p + 1 = tal.a + tal.o + (tal.t + 1) + tal.f; omega
        · show tal.p + 1 = tal.a + tal.o + tal.t + (tal.f + 1); omega
  obtain ⟨e1, e2⟩ := one_gr tal.par s.verdict
  have e3 : (tal.par.one s.verdict).g = tal.g := e1
  have e4 : (tal.par.one s.verdict).r = tal.r := e2
  unfold tadd
  split
  · refine ⟨key, ?_⟩
    show (if _ then (tal.par.one s.verdict).r + 1 else (tal.par.one s.verdict).r) ≤ (tal.par.one s.verdict).g + 1
    rw [e3, e4]
    clear e1 e2 e3 e4 key
    split
    · exact Int.add_le_add_right h2 1
    · exact Int.le_trans h2 (by omega)
  · exact ⟨key, by rw [e3, e4]; exact h2⟩
theorem tally_fold : ∀ (l : List Sn) {tal : Tal}, (tal.p = tal.a + tal.o + tal.t + tal.f ∧ tal.r ≤ tal.g) → (l.foldl tadd tal).p = (l.foldl tadd tal).a + (l.foldl tadd tal).o + (l.foldl tadd tal).t + (l.foldl tadd tal).f ∧ (l.foldl tadd tal).r ≤ (l.foldl tadd tal).g
  | [], _, h => h
  | s :: r, _, h => tally_fold r (tally_sum (s := s) h)
end Go.Proofs.Ythademifhnkbiaa
