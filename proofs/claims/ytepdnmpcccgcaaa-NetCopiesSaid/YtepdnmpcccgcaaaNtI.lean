/- Both nets side by side: plain laws. -/
import Derived.Test.YtepdnmpcccgcaaaNtH
namespace Go.Proofs.Ytepdnmpcccgcaaa
open Go.RowKit K
/-- The reference's connection as it is seen. -/
def RC.vw (v : RC) : CV := ⟨v.id, v.host, v.st, v.inn.data.toList.drop v.pos, v.out.data.toList⟩
theorem vfind_rc (x : Int) : ∀ L : List RC, vfind x (L.map RC.vw) = (rfind x L).map RC.vw
  | [] => rfl
  | y :: t => by
    have ih := vfind_rc x t
    by_cases h : x = y.id
    · simp [vfind, rfind, RC.vw, h]
    · have h' : ¬ x = y.vw.id := h
      simp only [vfind, rfind, List.map_cons, List.find?_cons, decide_eq_false h, decide_eq_false h'] at ih ⊢
      exact ih
theorem vset_rc (x : Int) (v' : RC) : ∀ L : List RC, vset x v'.vw (L.map RC.vw) = (rset x v' L).map RC.vw
  | [] => rfl
  | y :: t => by
    have ih := vset_rc x v' t
    by_cases h : x = y.id
    · have h' : x = y.vw.id := h
      simp only [List.map_cons, vset, rset, if_pos h, if_pos h', List.map_cons]
    · have h' : ¬ x = y.vw.id := h
      simp only [List.map_cons, vset, rset, if_neg h, if_neg h', List.map_cons, ih]
theorem vdel_rc (x : Int) : ∀ L : List RC, vdel x (L.map RC.vw) = (rdel x L).map RC.vw
  | [] => rfl
  | y :: t => by
    have ih := vdel_rc x t
    by_cases h : x = y.id
    · have h' : x = y.vw.id := h
      simp only [List.map_cons, vdel, rdel, if_pos h, if_pos h']
    · have h' : ¬ x = y.vw.id := h
      simp only [List.map_cons, vdel, rdel, if_neg h, if_neg h', List.map_cons, ih]
theorem rfind_mem {x : Int} {L : List RC} {v : RC} (h : rfind x L = some v) : v ∈ L := List.mem_of_find?_eq_some h
/-- An act that asks for one state. -/
theorem act_ok {x st : Int} {f : CV → CV} {g : RC → RC} {L : List RC} (h : ∀ v ∈ L, (g v).vw = f v.vw) :
    (vget x [st] (L.map RC.vw)).2 = rmust x st L ∧ vupd x [st] f (L.map RC.vw) = (ract x st g L).map RC.vw := by
  unfold vupd vget ract rupd rmust
  rw [vfind_rc]
  cases hr : rfind x L with
  | none => simp
  | some v =>
    have hv : v.vw.st = v.st := rfl
    by_cases hs : v.st = st
    · simp [hv, hs, ← h v (rfind_mem hr), vset_rc]
    · have hs' : ¬ st = v.st := fun e => hs e.symm
      simp [hv, hs]
theorem read_ok (x : Int) (L : List RC) : vin x (L.map RC.vw) = rin x L ∧ vupd x [] (fun v => { v with inn := [] }) (L.map RC.vw) = (rupd x (fun v => { v with pos := v.inn.size }) L).map RC.vw := by
  unfold vupd vget rupd vin rin
  rw [vfind_rc]
  cases hr : rfind x L with
  | none => exact ⟨rfl, rfl⟩
  | some v =>
    refine ⟨rfl, ?_⟩
    have e : ({ v with pos := v.inn.size } : RC).vw = { v.vw with inn := [] } := by
      unfold RC.vw
      simp only [CV.mk.injEq, true_and, and_true]
      exact List.drop_eq_nil_of_le (Nat.le_refl _)
    show vset x { v.vw with inn := [] } (L.map RC.vw) = _
    rw [← e, vset_rc]
theorem close_ok (x : Int) (L : List RC) : (vget x [] (L.map RC.vw)).2 = (if (rfind x L).isSome then 0 else 8) := by
  unfold vget
  rw [vfind_rc]
  cases rfind x L <;> rfl
theorem state_ok (x : Int) (L : List RC) : vst x (L.map RC.vw) = rst x L := by
  unfold vst rst
  rw [vfind_rc]
  cases rfind x L <;> rfl
theorem out_ok (x : Int) (L : List RC) : vout x (L.map RC.vw) = rout x L := by
  unfold vout rout
  rw [vfind_rc]
  cases rfind x L <;> rfl
theorem left_ok (x : Int) {L : List RC} (h : ∀ v ∈ L, v.pos ≤ v.inn.size) : ((vin x (L.map RC.vw)).length : Int) = rleft x L := by
  unfold vin rleft
  rw [vfind_rc]
  cases hr : rfind x L with
  | none => rfl
  | some v =>
    have hp := h v (rfind_mem hr)
    show (((v.inn.data.toList.drop v.pos).length : Nat) : Int) = (v.inn.size : Int) - (v.pos : Int)
    rw [List.length_drop]
    have e : v.inn.data.toList.length = v.inn.size := rfl
    rw [e]
    omega
theorem reset_ok (x : Int) (L : List RC) : (vget x [2, 3] (L.map RC.vw)).2 = rmust x (rfrom x L) L ∧ vupd x [2, 3] (fun v => { v with st := 5, inn := [] }) (L.map RC.vw) = (ract x (rfrom x L) (fun v => { v with st := 5, pos := v.inn.size }) L).map RC.vw := by
  unfold vupd vget ract rupd rmust rfrom rst
  rw [vfind_rc]
  cases hr : rfind x L with
  | none => simp
  | some v =>
    have hv : v.vw.st = v.st := rfl
    have e : ({ v with st := 5, pos := v.inn.size } : RC).vw = { v.vw with st := 5, inn := [] } := by
      unfold RC.vw
      simp only [CV.mk.injEq, true_and, and_true]
      exact List.drop_eq_nil_of_le (Nat.le_refl _)
    by_cases h3 : v.st = 3
    · simp [hv, h3, ← e, vset_rc]
    · by_cases h2 : v.st = 2
      · simp [hv, h2, ← e, vset_rc]
      · have h3' : ¬ 3 = v.st := fun e => h3 e.symm
        have h2' : ¬ 2 = v.st := fun e => h2 e.symm
        simp [hv, h3, h2]
/-- What holds of the reference's list behind so many acts of so many bytes. -/
structure NInv (most d : Int) (L : List RC) (n N : Nat) : Prop where
  ids : (L.map (·.id)).Pairwise (· < ·)
  rng : ∀ v ∈ L, 1 ≤ v.id ∧ v.id ≤ d
  d0 : 0 ≤ d
  dn : d ≤ n
  len : (L.length : Int) ≤ most
  len2 : L.length ≤ n
  sz : ∀ v ∈ L, v.inn.size ≤ N ∧ v.out.size ≤ N ∧ v.pos ≤ v.inn.size
theorem NInv.zero (m : Int) : NInv (max m 0) 0 [] 0 0 := ⟨by simp, by simp, by omega, by omega, by simp; omega, by simp, by simp⟩
theorem NInv.more {most d : Int} {L : List RC} {n N n' N' : Nat} (h : NInv most d L n N) (hn : n ≤ n') (hN : N ≤ N') : NInv most d L n' N' :=
  ⟨h.ids, h.rng, h.d0, by have := h.dn; omega, h.len, by have := h.len2; omega, fun v hv => by have := h.sz v hv; omega⟩
theorem rset_ids {x : Int} {v' : RC} : ∀ {L : List RC}, (∀ v, rfind x L = some v → v'.id = v.id) → (rset x v' L).map (·.id) = L.map (·.id)
  | [], _ => rfl
  | y :: t, h => by
    by_cases hx : x = y.id
    · have := h y (by simp [rfind, hx])
      simp only [rset, if_pos hx, List.map_cons, this]
    · have ih := rset_ids (x := x) (v' := v') (L := t) (fun v hv => h v (by
        unfold rfind at hv ⊢
        rw [List.find?_cons, decide_eq_false hx]
        exact hv))
      simp only [rset, if_neg hx, List.map_cons, ih]
theorem rset_mem {x : Int} {v' u : RC} : ∀ {L : List RC}, u ∈ rset x v' L → u = v' ∨ u ∈ L
  | [], h => by simp [rset] at h
  | y :: t, h => by
    by_cases hx : x = y.id
    · simp only [rset, if_pos hx, List.mem_cons] at h
      rcases h with h | h
      · exact .inl h
      · exact .inr (List.mem_cons_of_mem _ h)
    · simp only [rset, if_neg hx, List.mem_cons] at h
      rcases h with h | h
      · exact .inr (by rw [h]; simp)
      · rcases rset_mem h with h | h
        · exact .inl h
        · exact .inr (List.mem_cons_of_mem _ h)
theorem NInv.upd {most d : Int} {L : List RC} {n N N' : Nat} (h : NInv most d L n N) (x : Int) (g : RC → RC) (hid : ∀ v, (g v).id = v.id) (hN : N ≤ N') (hg : ∀ v ∈ L, (g v).inn.size ≤ N' ∧ (g v).out.size ≤ N' ∧ (g v).pos ≤ (g v).inn.size) : NInv most d (rupd x g L) n N' := by
  unfold rupd
  cases hr : rfind x L with
  | none => exact h.more (Nat.le_refl _) hN
  | some v =>
    have hi : (rset x (g v) L).map (·.id) = L.map (·.id) := rset_ids (fun u hu => by rw [hr] at hu; cases hu; exact hid v)
    have hl : (rset x (g v) L).length = L.length := by have := congrArg List.length hi; simpa using this
    refine ⟨by simp only; rw [hi]; exact h.ids, fun u hu => ?_, h.d0, h.dn, by simp only; rw [hl]; exact h.len, by simp only; rw [hl]; exact h.len2, fun u hu => ?_⟩
    · rcases rset_mem hu with rfl | hu
      · rw [hid]; exact h.rng v (rfind_mem hr)
      · exact h.rng u hu
    · rcases rset_mem hu with rfl | hu
      · exact hg v (rfind_mem hr)
      · have := h.sz u hu; omega
theorem NInv.act {most d : Int} {L : List RC} {n N N' : Nat} (h : NInv most d L n N) (x st : Int) (g : RC → RC) (hid : ∀ v, (g v).id = v.id) (hN : N ≤ N') (hg : ∀ v ∈ L, (g v).inn.size ≤ N' ∧ (g v).out.size ≤ N' ∧ (g v).pos ≤ (g v).inn.size) : NInv most d (ract x st g L) n N' := by
  unfold ract
  split
  · exact h.upd x g hid hN hg
  · exact h.more (Nat.le_refl _) hN
theorem rdel_sub {x : Int} : ∀ L : List RC, (rdel x L).Sublist L
  | [] => List.Sublist.refl _
  | y :: t => by
    by_cases hx : x = y.id
    · simp only [rdel, if_pos hx]
      exact List.sublist_cons_self _ _
    · simp only [rdel, if_neg hx]
      exact (rdel_sub t).cons_cons _
theorem NInv.del {most d : Int} {L : List RC} {n N : Nat} (h : NInv most d L n N) (x : Int) : NInv most d (rdel x L) n N := by
  have hs := rdel_sub (x := x) L
  have hl := hs.length_le
  exact ⟨h.ids.sublist (hs.map _), fun v hv => h.rng v (hs.mem hv), h.d0, h.dn, by have := h.len; omega, by have := h.len2; omega, fun v hv => h.sz v (hs.mem hv)⟩
theorem NInv.dial {most d : Int} {L : List RC} {n N : Nat} (h : NInv most d L n N) (host : ByteArray) (hr : (L.length : Int) < most) : NInv most (d + 1) (L ++ [⟨d + 1, host, 1, ⟨#[]⟩, 0, ⟨#[]⟩⟩]) (n + 1) N := by
  have h0 := h.d0
  have hn := h.dn
  have hl := h.len2
  refine ⟨?_, fun v hv => ?_, by omega, by omega, by rw [List.length_append]; simp; omega, by rw [List.length_append]; simp; omega, fun v hv => ?_⟩
  · rw [List.map_append, List.pairwise_append]
    refine ⟨h.ids, by simp, fun a ha b hb => ?_⟩
    obtain ⟨v, hv, rfl⟩ := List.mem_map.1 ha
    simp at hb
    have := h.rng v hv
    omega
  · rcases List.mem_append.1 hv with hv | hv
    · have := h.rng v hv; omega
    · simp at hv; subst hv; simp; omega
  · rcases List.mem_append.1 hv with hv | hv
    · exact h.sz v hv
    · simp at hv; subst hv; exact ⟨by show 0 ≤ _; omega, by show 0 ≤ _; omega, Nat.le_refl _⟩
/-- Both nets in memory, apart. -/
def NwF (w0 : World) (n r : Nat) (most d : Int) (L : List RC) (F : List Nat) (G : Nat → Prop) (w : World) : Prop :=
  NetIs w w0.heap.size n most d (L.map RC.vw) F ∧ RfIs w w0.heap.size r most d L G ∧ (∀ k ∈ F, ¬ G k) ∧ Below w0.heap.size w0 w
def nfoot (F : List Nat) (G : Nat → Prop) (k : Nat) : Prop := k ∈ F ∨ G k
section
variable {w0 w w1 w2 w' : World} {n r : Nat} {most d d' : Int} {L L' : List RC} {F : List Nat} {G P : Nat → Prop}
theorem NwF.in (h : NwF w0 n r most d L F G w) {k : Nat} (hk : nfoot F G k) : w0.heap.size ≤ k ∧ k < w.heap.size := by
  rcases hk with hk | hk
  · exact h.1.lt k hk
  · exact h.2.1.in k hk
theorem NwF.only (h : NwF w0 n r most d L F G w) (ho : Only P w w') (hd : ∀ k, nfoot F G k → ¬ P k) (hb : Below w0.heap.size w0 w') : NwF w0 n r most d L F G w' :=
  ⟨h.1.only ho (fun k hk => hd k (.inl hk)), h.2.1.only ho (fun k hk => hd k (.inr hk)), h.2.2.1, hb⟩
theorem NwF.new (h : NwF w0 n r most d L F G w) (hb : Below w.heap.size w w') : NwF w0 n r most d L F G w' :=
  h.only (P := fun _ => False) (Only.of_new hb) (fun _ _ h => h) (h.2.2.2.trans (hb.mono h.2.2.2.size))
/-- From one pair of nets to another one. -/
def NwTo (w0 : World) (n r : Nat) (most : Int) (d' : Int) (L' : List RC) (F : List Nat) (G : Nat → Prop) (w w' : World) : Prop :=
  ∃ F' G', NwF w0 n r most d' L' F' G' w' ∧ Only (nfoot F G) w w' ∧ ∀ k, nfoot F' G' k → nfoot F G k ∨ w.heap.size ≤ k
theorem NwTo.same (h : NwF w0 n r most d L F G w) (hb : Below w.heap.size w w') : NwTo w0 n r most d L F G w w' :=
  ⟨F, G, h.new hb, Only.of_new hb, fun _ hk => .inl hk⟩
theorem nw_step (h : NwF w0 n r most d L F G w) (h1 : NetTo w w0.heap.size n F most d' (L'.map RC.vw) w1) (h2 : RfIs w1 w0.heap.size r most d L G → RfTo w1 w0.heap.size r most d' L' G w2) : NwTo w0 n r most d' L' F G w w2 := by
  obtain ⟨a1, a2, a3, a4⟩ := h
  obtain ⟨F', b1, b2, b3⟩ := h1
  obtain ⟨G', c1, c2, c3⟩ := h2 (a2.only b2 (fun k hk hf => a3 k hf hk))
  have hFl : ∀ k ∈ F', k < w1.heap.size := fun k hk => (b1.lt k hk).2
  have hGl : ∀ k, G k → k < w.heap.size := fun k hk => (a2.in k hk).2
  have hd : ∀ k ∈ F', ¬ G k := fun k hk hg => (b3 k hk).elim (fun h => a3 k h hg) fun h => by have := hGl k hg; omega
  have hs := b2.size
  refine ⟨F', G', ⟨b1.only c2 hd, c1, fun k hk hg => ?_, (a4.trans (b2.below a4.size (fun k hk => (show w0.heap.size ≤ k ∧ k < w.heap.size from (show NetIs w w0.heap.size n most d (L.map RC.vw) F from a1).lt k hk).1))).trans (c2.below (Nat.le_trans a4.size hs) (fun k hk => (a2.in k hk).1))⟩, (b2.mono (fun k _ h => .inl h)).trans c2 (fun k _ h => .inr h), fun k hk => ?_⟩
  · rcases c3 k hg with h | h
    · exact hd k hk h
    · have := hFl k hk; omega
  · rcases hk with hk | hk
    · rcases b3 k hk with h | h
      · exact .inl (.inl h)
      · exact .inr h
    · rcases c3 k hk with h | h
      · exact .inl (.inr h)
      · exact .inr (by omega)
theorem NwTo.after (h : NwTo w0 n r most d' L' F G w w1) (hb : Below w1.heap.size w1 w2) : NwTo w0 n r most d' L' F G w w2 := by
  obtain ⟨F', G', h1, h2, h3⟩ := h
  exact ⟨F', G', h1.new hb, h2.trans (G := fun _ => False) (Only.of_new hb) (fun _ _ h => h.elim), h3⟩
end
end Go.Proofs.Ytepdnmpcccgcaaa
