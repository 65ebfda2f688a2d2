/- Credits put among credits, windows among windows: plain laws; fix.Add. -/
import Derived.Test.YtbkpgpaanhfjfaaWiD
namespace Go.Proofs.Ytbkpgpaanhfjfaa
open Go.RowKit Go.Sort K
/-- A strict order of all keys. -/
structure Ord3 {κ : Type} (lt : κ → κ → Prop) : Prop where
  irr : ∀ a, ¬ lt a a
  tr : ∀ a b c, lt a b → lt b c → lt a c
  tri : ∀ a b, lt a b ∨ a = b ∨ lt b a
section
variable {α κ : Type} {key : α → κ} {lt : κ → κ → Prop} [DecidableEq κ] [DecidableRel lt]
/-- Put in order: another one of its key goes. -/
def sset (key : α → κ) (lt : κ → κ → Prop) [DecidableEq κ] [DecidableRel lt] (v : α) : List α → List α
  | [] => [v]
  | u :: r => if key u = key v then v :: r else if lt (key v) (key u) then v :: u :: r else u :: sset key lt v r
/-- Put at its place, or behind all. -/
def uset (key : α → κ) [DecidableEq κ] (v : α) : List α → List α
  | [] => [v]
  | u :: r => if key u = key v then v :: r else u :: uset key v r
theorem filter_ne_self {v : α} {L : List α} (h : ∀ u ∈ L, key u ≠ key v) : L.filter (fun u => decide (key u ≠ key v)) = L :=
  List.filter_eq_self.2 fun u hu => by simpa using h u hu
theorem sset_perm (H : Ord3 lt) (v : α) : ∀ {L : List α}, (L.map key).Pairwise lt → (sset key lt v L).Perm (v :: L.filter fun u => decide (key u ≠ key v))
  | [], _ => List.Perm.refl _
  | u :: r, h => by
    rw [List.map_cons, List.pairwise_cons] at h
    have hr : ∀ x ∈ r, lt (key u) (key x) := fun x hx => h.1 _ (List.mem_map.2 ⟨x, hx, rfl⟩)
    unfold sset
    by_cases h1 : key u = key v
    · have hf : r.filter (fun x => decide (key x ≠ key v)) = r := filter_ne_self fun x hx e => H.irr (key u) (by have := hr x hx; rw [e, ← h1] at this; exact this)
      rw [if_pos h1, List.filter_cons, hf]
      simp [h1]
    · by_cases h2 : lt (key v) (key u)
      · have hf : r.filter (fun x => decide (key x ≠ key v)) = r := filter_ne_self fun x hx e => H.irr (key v) (H.tr _ _ _ h2 (by have := hr x hx; rw [e] at this; exact this))
        rw [if_neg h1, if_pos h2, List.filter_cons, hf]
        simp [h1]
      · rw [if_neg h1, if_neg h2, List.filter_cons]
        have hd : decide (key u ≠ key v) = true := by simpa using h1
        rw [hd]
        simp only [if_true]
        exact ((sset_perm H v h.2).cons u).trans (List.Perm.swap v u _)
theorem sset_mem_keys (H : Ord3 lt) (v : α) {L : List α} (h : (L.map key).Pairwise lt) {x : α} (hx : x ∈ sset key lt v L) : x = v ∨ x ∈ L := by
  have := (sset_perm H v h).mem_iff.1 hx
  rcases List.mem_cons.1 this with h1 | h1
  · exact .inl h1
  · exact .inr (List.mem_filter.1 h1).1
theorem sset_sorted (H : Ord3 lt) (v : α) : ∀ {L : List α}, (L.map key).Pairwise lt → ((sset key lt v L).map key).Pairwise lt
  | [], _ => by simp [sset]
  | u :: r, h => by
    have h0 := h
    rw [List.map_cons, List.pairwise_cons] at h
    unfold sset
    by_cases h1 : key u = key v
    · rw [if_pos h1, List.map_cons, List.pairwise_cons, ← h1]
      exact h
    · by_cases h2 : lt (key v) (key u)
      · rw [if_neg h1, if_pos h2, List.map_cons, List.pairwise_cons]
        refine ⟨fun k hk => ?_, h0⟩
        rw [List.map_cons, List.mem_cons] at hk
        rcases hk with rfl | hk
        · exact h2
        · exact H.tr _ _ _ h2 (h.1 k hk)
      · rw [if_neg h1, if_neg h2, List.map_cons, List.pairwise_cons]
        refine ⟨fun k hk => ?_, sset_sorted H v h.2⟩
        obtain ⟨x, hx, rfl⟩ := List.mem_map.1 hk
        rcases sset_mem_keys H v h.2 hx with rfl | hx
        · rcases H.tri (key x) (key u) with h3 | h3 | h3
          · exact absurd h3 h2
          · exact absurd h3.symm h1
          · exact h3
        · exact h.1 _ (List.mem_map.2 ⟨x, hx, rfl⟩)
theorem uset_perm (v : α) : ∀ {L : List α}, (L.map key).Nodup → (uset key v L).Perm (v :: L.filter fun u => decide (key u ≠ key v))
  | [], _ => List.Perm.refl _
  | u :: r, h => by
    rw [List.map_cons, List.nodup_cons] at h
    unfold uset
    by_cases h1 : key u = key v
    · have hf : r.filter (fun x => decide (key x ≠ key v)) = r := filter_ne_self fun x hx e => h.1 (by rw [h1, ← e]; exact List.mem_map.2 ⟨x, hx, rfl⟩)
      rw [if_pos h1, List.filter_cons, hf]
      simp [h1]
    · rw [if_neg h1, List.filter_cons]
      have hd : decide (key u ≠ key v) = true := by simpa using h1
      rw [hd]
      simp only [if_true]
      exact ((uset_perm v h.2).cons u).trans (List.Perm.swap v u _)
theorem uset_sset (H : Ord3 lt) (v : α) {K L : List α} (hp : K.Perm L) (hs : (L.map key).Pairwise lt) : (uset key v K).Perm (sset key lt v L) := by
  have hn : (K.map key).Nodup := ((hp.map key).nodup_iff).2 (hs.imp fun {a b} h e => by subst e; exact H.irr _ h)
  exact (uset_perm v hn).trans (((hp.filter _).cons v).trans (sset_perm H v hs).symm)
theorem sset_sset (v v' : α) (hk : key v = key v') (hirr : ∀ a, ¬ lt a a) : ∀ L : List α, sset key lt v' (sset key lt v L) = sset key lt v' L
  | [] => by simp [sset, hk]
  | u :: r => by
    by_cases h1 : key u = key v
    · have h1' : key u = key v' := h1.trans hk
      simp only [sset, if_pos h1, if_pos h1', if_pos hk]
    · have h1' : ¬ key u = key v' := fun e => h1 (e.trans hk.symm)
      by_cases h2 : lt (key v) (key u)
      · have h2' : lt (key v') (key u) := hk ▸ h2
        simp only [sset, if_neg h1, if_neg h1', if_pos h2, if_pos h2', if_pos hk]
      · have h2' : ¬ lt (key v') (key u) := hk ▸ h2
        simp only [sset, if_neg h1, if_neg h1', if_neg h2, if_neg h2', sset_sset v v' hk hirr r]
end
theorem ordI : Ord3 (fun a b : Int => a < b) := ⟨fun a h => by omega, fun a b c h1 h2 => by omega, fun a b => by omega⟩
theorem ordN : Ord3 (fun a b : List UInt8 => a < b) := ⟨fun a => List.lt_irrefl a, fun a b c h1 h2 => List.lt_trans h1 h2, fun a b => by
  by_cases h : a < b
  · exact .inl h
  · by_cases h2 : b < a
    · exact .inr (.inr h2)
    · exact .inr (.inl (List.le_antisymm (List.not_lt.1 h2) (List.not_lt.1 h)))⟩
/-- A sum that stops at the greatest. -/
def satI (x : Int) : Int := if 9223372036854775807 < x then 9223372036854775807 else x
def zC : Cr := ⟨[], 0, false⟩
def crFind (nm : List UInt8) (cr : List Cr) : Option Cr := cr.find? fun c => decide (c.nm = nm)
def crNew (o : Cr) (nm : List UInt8) (inc : Int) : Cr := ⟨nm, satI (o.inc + inc), o.over || decide (9223372036854775807 < o.inc + inc)⟩
def crSet (c : Cr) (cr : List Cr) : List Cr := sset Cr.nm (fun a b : List UInt8 => a < b) c cr
def crPut (nm : List UInt8) (inc : Int) (cr : List Cr) : List Cr := crSet (crNew ((crFind nm cr).getD zC) nm inc) cr
def wvSet (v : WV) (L : List WV) : List WV := sset WV.num (fun a b : Int => a < b) v L
def wvCr (n : Int) (L : List WV) : List Cr := ((L.find? fun v => decide (v.num = n)).map WV.cr).getD []
def wvPut (n : Int) (nm : List UInt8) (inc : Int) (L : List WV) : List WV := wvSet ⟨n, crPut nm inc (wvCr n L)⟩ L
theorem mput_ckv (c : Cr) : ∀ ks : List Cr, mput c.nm c.val (ckv ks) = ckv (uset Cr.nm c ks)
  | [] => rfl
  | u :: r => by
    have ih := mput_ckv c r
    by_cases h : c.nm = u.nm
    · have h' : u.nm = c.nm := h.symm
      show (if c.nm = u.nm then (c.nm, c.val) :: ckv r else _) = _
      rw [if_pos h]
      unfold uset
      rw [if_pos h']
      rfl
    · have h' : ¬ u.nm = c.nm := fun e => h e.symm
      show (if c.nm = u.nm then _ else (u.nm, u.val) :: mput c.nm c.val (ckv r)) = _
      have hu : uset Cr.nm c (u :: r) = u :: uset Cr.nm c r := by simp only [uset, if_neg h']
      rw [if_neg h, ih, hu]
      rfl
theorem crFind_get {ks cr : List Cr} (hp : ks.Perm cr) (hs : CS cr) (nm : List UInt8) : (mget nm (ckv ks)).getD zC.val = ((crFind nm cr).getD zC).val := by
  cases hf : crFind nm cr with
  | none =>
    have hn : nm ∉ (ckv ks).map (·.1) := by
      rw [ckv_fst]
      intro h
      obtain ⟨c, hc, rfl⟩ := List.mem_map.1 h
      have := List.find?_eq_none.1 hf c (hp.mem_iff.1 hc)
      simp at this
    rw [mget_not_mem hn]
    rfl
  | some c =>
    have h1 : c ∈ cr := List.mem_of_find?_eq_some hf
    have h2 : c.nm = nm := by
      have := List.find?_some hf
      simpa using this
    rw [← h2, cr_get hp hs h1]
    rfl
theorem CS.set {cr : List Cr} (h : CS cr) (c : Cr) : CS (crSet c cr) := sset_sorted ordN c h
theorem WS.set {L : List WV} (h : WS L) (v : WV) : WS (wvSet v L) := sset_sorted ordI v h
theorem satI_le (x : Int) : satI x ≤ 9223372036854775807 := by unfold satI; split <;> omega
theorem satI_nn {x : Int} (h : 0 ≤ x) : 0 ≤ satI x := by unfold satI; split <;> omega
theorem crFind_B {cr : List Cr} (h : ∀ c ∈ cr, CrB c) (nm : List UInt8) : 0 ≤ ((crFind nm cr).getD zC).inc ∧ ((crFind nm cr).getD zC).inc ≤ 9223372036854775807 := by
  cases hf : crFind nm cr with
  | none => exact ⟨by decide, by decide⟩
  | some c => exact ⟨(h c (List.mem_of_find?_eq_some hf)).1, (h c (List.mem_of_find?_eq_some hf)).2.1⟩
theorem crPut_B {cr : List Cr} (hs : CS cr) (h : ∀ c ∈ cr, CrB c) {nm : List UInt8} {inc : Int} (hn : nm.length ≤ 140737488355328) (hi : 0 ≤ inc) : ∀ c ∈ crPut nm inc cr, CrB c := fun c hc => by
  rcases sset_mem_keys ordN _ hs hc with rfl | hc
  · have := crFind_B h nm
    exact ⟨satI_nn (by omega), satI_le _, hn⟩
  · exact h c hc
theorem sset_length {α κ : Type} {key : α → κ} {lt : κ → κ → Prop} [DecidableEq κ] [DecidableRel lt] (v : α) : ∀ L : List α, (sset key lt v L).length ≤ L.length + 1
  | [] => by simp [sset]
  | u :: r => by
    have := sset_length (key := key) (lt := lt) v r
    unfold sset
    split
    · simp
    · split
      · simp
      · simp; omega
set_option maxHeartbeats 1000000 in
theorem fixAdd_any (w : World) (a b : Int) (ha : 0 ≤ a ∧ a ≤ 9223372036854775807) (hb : 0 ≤ b ∧ b ≤ 9223372036854775807) :
    Calls Try.prog 29 #[.int .i64 a, .int .i64 b] w fun e w' => e = .returned (.tuple #[.int .i64 (satI (a + b)), .bool (decide (9223372036854775807 < a + b))]) ∧ w = w' := by
  unfold satI
  by_cases h : 9223372036854775807 < a + b
  · rw [if_pos h, decide_eq_true h]
    have h1 : IntKind.wrap .i64 (a + b) = a + b - 18446744073709551616 := by
      rw [IntKind.wrap_i64]; omega
    go_enter Try.func29, Try.ntmps29
    go_wp2
    go_ret2
    exact ⟨rfl, rfl⟩
  · rw [if_neg h, decide_eq_false h]
    by_cases ha0 : 0 < a
    · by_cases hb0 : 0 < b
      · go_enter Try.func29, Try.ntmps29
        go_wp2
        go_ret2
        exact ⟨rfl, rfl⟩
      · go_enter Try.func29, Try.ntmps29
        go_wp2
        go_ret2
        exact ⟨rfl, rfl⟩
    · go_enter Try.func29, Try.ntmps29
      go_wp2
      go_ret2
      exact ⟨rfl, rfl⟩
end Go.Proofs.Ytbkpgpaanhfjfaa
