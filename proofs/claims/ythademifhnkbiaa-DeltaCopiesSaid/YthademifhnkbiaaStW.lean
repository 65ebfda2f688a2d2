/- What a scrape leaves behind, in plain: which series are gone. -/
import Derived.Test.YthademifhnkbiaaStU
namespace Go.Proofs.Ythademifhnkbiaa
open Go.RowKit K
section
variable {α : Type} [DecidableEq α]
theorem mget_mput (x y : α) (v : Value) : ∀ l : List (α × Value), mget y (mput x v l) = if y = x then some v else mget y l
  | [] => by simp [mput, mget]
  | (z, u) :: r => by
    have ih := mget_mput x y v r
    by_cases h : x = z
    · subst h
      by_cases h2 : y = x
      · simp [mput, mget, h2]
      · simp [mput, mget, h2]
    · by_cases h2 : y = z
      · subst h2
        have : ¬ y = x := fun e => h e.symm
        simp [mput, mget, h, this]
      · simp [mput, mget, h, h2, ih]
theorem mem_mput (x y : α) (v : Value) : ∀ l : List (α × Value), y ∈ (mput x v l).map (·.1) → y = x ∨ y ∈ l.map (·.1)
  | [], h => by simpa [mput] using h
  | (z, u) :: r, h => by
    by_cases hx : x = z
    · subst hx
      simp only [mput, if_true, List.map_cons, List.mem_cons] at h ⊢
      rcases h with h | h
      · exact .inl h
      · exact .inr (.inr h)
    · simp only [mput, hx, if_false, List.map_cons, List.mem_cons] at h ⊢
      rcases h with h | h
      · exact .inr (.inl h)
      · rcases mem_mput x y v r h with h | h
        · exact .inl h
        · exact .inr (.inr h)
theorem mput_nodup (x : α) (v : Value) : ∀ l : List (α × Value), (l.map (·.1)).Nodup → ((mput x v l).map (·.1)).Nodup
  | [], _ => by simp [mput]
  | (z, u) :: r, h => by
    simp only [List.map_cons, List.nodup_cons] at h
    by_cases hx : x = z
    · subst hx
      simpa [mput] using h
    · simp only [mput, hx, if_false, List.map_cons, List.nodup_cons]
      refine ⟨fun hm => ?_, mput_nodup x v r h.2⟩
      rcases mem_mput x z v r hm with h2 | h2
      · exact hx h2.symm
      · exact h.1 h2
theorem mget_mem (x : α) : ∀ l : List (α × Value), (mget x l).isSome = true ↔ x ∈ l.map (·.1)
  | [] => by simp [mget]
  | (z, u) :: r => by
    have ih := mget_mem x r
    by_cases h : x = z
    · simp [mget, h]
    · simp only [mget, h, if_false, List.map_cons, List.mem_cons, false_or]
      exact ih
theorem mem_mdel (x y : α) : ∀ l : List (α × Value), (l.map (·.1)).Nodup → (y ∈ (mdel x l).map (·.1) ↔ y ≠ x ∧ y ∈ l.map (·.1))
  | [], _ => by simp [mdel]
  | (z, u) :: r, h => by
    simp only [List.map_cons, List.nodup_cons] at h
    by_cases hx : x = z
    · subst hx
      simp only [mdel, if_true, List.map_cons, List.mem_cons]
      constructor
      · intro hm
        exact ⟨fun e => h.1 (e ▸ hm), .inr hm⟩
      · rintro ⟨h1, h2 | h2⟩
        · exact absurd h2 h1
        · exact h2
    · simp only [mdel, hx, if_false, List.map_cons, List.mem_cons, mem_mdel x y r h.2]
      constructor
      · rintro (h1 | ⟨h1, h2⟩)
        · exact ⟨fun e => hx (e ▸ h1), .inl h1⟩
        · exact ⟨h1, .inr h2⟩
      · rintro ⟨h1, h2 | h2⟩
        · exact .inl h2
        · exact .inr ⟨h1, h2⟩
theorem mdel_nodup (x : α) : ∀ l : List (α × Value), (l.map (·.1)).Nodup → ((mdel x l).map (·.1)).Nodup
  | [], _ => by simp [mdel]
  | (z, u) :: r, h => by
    simp only [List.map_cons, List.nodup_cons] at h
    by_cases hx : x = z
    · subst hx
      simpa [mdel] using h.2
    · simp only [mdel, hx, if_false, List.map_cons, List.nodup_cons]
      exact ⟨fun hm => h.1 ((mem_mdel x z r h.2).1 hm).2, mdel_nodup x r h.2⟩
end
/-- The keys of the map of what is gone, while the series are gone over: 'rem' are still to come. -/
def GoneOk (owner : Int) (es : List SE) (rem gk : List (ByteArray × Value)) : Prop :=
  (gk.map (·.1)).Nodup ∧ (∀ x ∈ gk.map (·.1), ∃ e ∈ es, e.1.x.name = x ∧ e.1.owner = owner ∧ e.1.live = true) ∧
  ∀ e ∈ es, e.1.owner = owner → e.1.live = true → e.1.x.name ∈ gk.map (·.1) ∨ (e.1.x.name, Value.pointer (some ⟨e.2, 0, none⟩)) ∈ rem
theorem GoneOk.start (owner : Int) (es : List SE) : GoneOk owner es (sents es) [] :=
  ⟨by simp, by simp, fun e he _ _ => .inr (List.mem_map.2 ⟨e, he, rfl⟩)⟩
theorem GoneOk.put {owner : Int} {es : List SE} {pre post gk : List (ByteArray × Value)} {x : ByteArray} {v u : Value} (h : GoneOk owner es (pre ++ (x, v) :: post) gk) {e : SE} (he : e ∈ es) (hn : e.1.x.name = x) (ho : e.1.owner = owner) (hl : e.1.live = true) :
    GoneOk owner es (pre ++ post) (mput x u gk) := by
  obtain ⟨h1, h2, h3⟩ := h
  have hm : ∀ y, y ∈ (mput x u gk).map (·.1) ↔ y = x ∨ y ∈ gk.map (·.1) := fun y => by
    rw [← mget_mem, mget_mput, ← mget_mem]
    by_cases h : y = x <;> simp [h]
  refine ⟨mput_nodup _ _ _ h1, fun y hy => ?_, fun e' he' ho' hl' => ?_⟩
  · rcases (hm y).1 hy with rfl | hy
    · exact ⟨e, he, hn, ho, hl⟩
    · exact h2 y hy
  · rcases h3 e' he' ho' hl' with h | h
    · exact .inl ((hm _).2 (.inr h))
    · rcases List.mem_append.1 h with h | h
      · exact .inr (List.mem_append_left _ h)
      · rcases List.mem_cons.1 h with h | h
        · exact .inl ((hm _).2 (.inl (Prod.mk.inj h).1))
        · exact .inr (List.mem_append_right _ h)
theorem GoneOk.skip {owner : Int} {es : List SE} {pre post gk : List (ByteArray × Value)} {x : ByteArray} {v : Value} (h : GoneOk owner es (pre ++ (x, v) :: post) gk) (hno : ∀ e ∈ es, (e.1.x.name, Value.pointer (some ⟨e.2, 0, none⟩)) = (x, v) → e.1.owner = owner → e.1.live = true → False) :
    GoneOk owner es (pre ++ post) gk := by
  obtain ⟨h1, h2, h3⟩ := h
  refine ⟨h1, h2, fun e' he' ho' hl' => ?_⟩
  rcases h3 e' he' ho' hl' with h | h
  · exact .inl h
  · rcases List.mem_append.1 h with h | h
    · exact .inr (List.mem_append_left _ h)
    · rcases List.mem_cons.1 h with h | h
      · exact (hno e' he' h ho' hl').elim
      · exact .inr (List.mem_append_right _ h)
/-- Which are gone, when those of some names are taken out again. -/
def GoneTo (owner : Int) (l : List SV) (names : List ByteArray) (gk : List (ByteArray × Value)) : Prop :=
  (gk.map (·.1)).Nodup ∧ ∀ x, x ∈ gk.map (·.1) ↔ x ∉ names ∧ ∃ v ∈ l, v.x.name = x ∧ v.owner = owner ∧ v.live = true
theorem GoneOk.done {owner : Int} {es : List SE} {gk : List (ByteArray × Value)} (h : GoneOk owner es [] gk) : GoneTo owner (es.map (·.1)) [] gk := by
  obtain ⟨h1, h2, h3⟩ := h
  refine ⟨h1, fun x => ⟨fun hx => ?_, ?_⟩⟩
  · obtain ⟨e, he, r⟩ := h2 x hx
    exact ⟨by simp, e.1, List.mem_map.2 ⟨e, he, rfl⟩, r⟩
  · rintro ⟨_, v, hv, rfl, ho, hl⟩
    obtain ⟨e, he, rfl⟩ := List.mem_map.1 hv
    rcases h3 e he ho hl with h | h
    · exact h
    · cases h
theorem GoneTo.del {owner : Int} {l : List SV} {names : List ByteArray} {gk : List (ByteArray × Value)} (h : GoneTo owner l names gk) (x : ByteArray) : GoneTo owner l (names ++ [x]) (mdel x gk) := by
  obtain ⟨h1, h2⟩ := h
  refine ⟨mdel_nodup x gk h1, fun y => ?_⟩
  rw [mem_mdel x y gk h1, h2 y]
  simp only [List.mem_append, List.mem_singleton, not_or]
  constructor
  · rintro ⟨a, b, c⟩; exact ⟨⟨b, a⟩, c⟩
  · rintro ⟨⟨b, a⟩, c⟩; exact ⟨a, b, c⟩
/-- What is left when those of these names are turned off. -/
def inN (x : ByteArray) (l : List ByteArray) : Bool := l.any fun y => decide (x = y)
theorem inN_iff (x : ByteArray) (l : List ByteArray) : inN x l = true ↔ x ∈ l := by
  simp [inN]
def SV.off (v : SV) : SV := { v with live := false }
def offL (names : List ByteArray) (l : List SV) : List SV := l.map fun v => if inN v.x.name names = true then v.off else v
def goneL (owner : Int) (names : List ByteArray) (l : List SV) : List SV := l.map fun v => if v.owner = owner ∧ inN v.x.name names = false then v.off else v
def Uniq (l : List SV) : Prop := (l.map fun v => v.x.name).Nodup
theorem Uniq.one {l : List SV} (hu : Uniq l) : ∀ v ∈ l, ∀ v' ∈ l, v'.x.name = v.x.name → v' = v := by
  unfold Uniq at hu
  induction l with
  | nil => intro v hv; cases hv
  | cons a r ih =>
    intro v hv v' hv' hn
    simp only [List.map_cons, List.nodup_cons, List.mem_map, not_exists, not_and] at hu
    rcases List.mem_cons.1 hv with e | hv2
    · subst e
      rcases List.mem_cons.1 hv' with e | hv3
      · exact e
      · exact absurd hn (hu.1 v' hv3)
    · rcases List.mem_cons.1 hv' with e | hv3
      · subst e
        exact absurd hn.symm (hu.1 v hv2)
      · exact ih hu.2 v hv2 v' hv3 hn
theorem goneL_is {owner : Int} {l : List SV} {names : List ByteArray} {gk : List (ByteArray × Value)} (h : GoneTo owner l names gk) (hu : Uniq l) : offL (gk.map (·.1)) l = goneL owner names l := by
  unfold goneL offL
  refine List.map_congr_left fun v hv => ?_
  by_cases hg : v.x.name ∈ gk.map (·.1)
  · rw [if_pos ((inN_iff _ _).2 hg)]
    obtain ⟨h1, v', hv', hn, ho, hl⟩ := (h.2 _).1 hg
    rw [hu.one v hv v' hv' hn] at ho
    have h2 : inN v.x.name names = false := by
      cases hb : inN v.x.name names with
      | false => rfl
      | true => exact absurd ((inN_iff _ _).1 hb) h1
    rw [if_pos ⟨ho, h2⟩]
  · rw [if_neg (fun hb => hg ((inN_iff _ _).1 hb))]
    by_cases hc : v.owner = owner ∧ inN v.x.name names = false
    · rw [if_pos hc]
      have hl : v.live = false := by
        cases hl : v.live with
        | false => rfl
        | true => exact absurd ((h.2 _).2 ⟨fun hm => by rw [(inN_iff _ _).2 hm] at hc; exact absurd hc.2 (by simp), v, hv, rfl, hc.1, hl⟩) hg
      obtain ⟨x, live, ow⟩ := v
      simp only at hl
      subst hl
      rfl
    · rw [if_neg hc]
/-- One more turned off. -/
theorem offL_add {l : List SV} {names : List ByteArray} {x : ByteArray} (_hx : x ∉ names) : offL (names ++ [x]) l = (offL names l).map fun v => if v.x.name = x then v.off else v := by
  unfold offL
  rw [List.map_map]
  refine List.map_congr_left fun v _ => ?_
  simp only [Function.comp]
  have ha : inN v.x.name (names ++ [x]) = (inN v.x.name names || decide (v.x.name = x)) := by simp [inN]
  rw [ha]
  cases hb : inN v.x.name names with
  | true => simp [SV.off]
  | false => simp
theorem offL_nil (l : List SV) : offL [] l = l := by
  unfold offL
  simp [inN]
theorem offL_names (names : List ByteArray) (l : List SV) : (offL names l).map (fun v => v.x.name) = l.map fun v => v.x.name := by
  unfold offL
  rw [List.map_map]
  refine List.map_congr_left fun v _ => ?_
  simp only [Function.comp]
  split <;> rfl
theorem Uniq.off {l : List SV} (h : Uniq l) (names : List ByteArray) : Uniq (offL names l) := by
  unfold Uniq
  rw [offL_names]
  exact h
theorem sset_names {x : ByteArray} {v' : SV} (hn : v'.x.name = x) : ∀ l : List SV, (sset x v' l).map (fun v => v.x.name) = l.map fun v => v.x.name
  | [] => rfl
  | v :: r => by
    by_cases h : x = v.x.name
    · simp [sset, h, hn]
    · simp [sset, h, sset_names hn r]
theorem sfind_none {x : ByteArray} : ∀ {l : List SV}, sfind x l = none → x ∉ l.map fun v => v.x.name
  | [], _ => by simp
  | v :: r, h => by
    by_cases hx : x = v.x.name
    · simp [sfind, hx] at h
    · have := sfind_none (x := x) (l := r) (by simpa [sfind, hx] using h)
      simp only [List.map_cons, List.mem_cons, not_or]
      exact ⟨hx, this⟩
theorem Uniq.oneL {l : List SV} (h : Uniq l) (most owner : Int) (x : Smp) : Uniq (oneL most owner l x) := by
  unfold Go.Proofs.Ythademifhnkbiaa.oneL
  cases hf : sfind x.name l with
  | none =>
    simp only
    split
    · exact h
    · unfold Uniq at h ⊢
      rw [List.map_append, List.map_cons, List.map_nil]
      exact List.nodup_append.2 ⟨h, by simp, fun a ha b hb e => by simp at hb; subst hb; subst e; exact sfind_none hf ha⟩
  | some u =>
    simp only
    split
    · exact h
    · unfold Uniq at h ⊢
      rw [sset_names (x := x.name) (v' := ⟨x, true, owner⟩) rfl]
      exact h
theorem Uniq.putL {most owner : Int} : ∀ (xs : List Smp) {l : List SV}, Uniq l → Uniq (putL most owner l xs)
  | [], _, h => h
  | x :: r, _l, h => Uniq.putL (most := most) (owner := owner) r (h.oneL most owner x)
theorem goneL_names (owner : Int) (names : List ByteArray) (l : List SV) : (goneL owner names l).map (fun v => v.x.name) = l.map fun v => v.x.name := by
  unfold goneL
  rw [List.map_map]
  refine List.map_congr_left fun v _ => ?_
  simp only [Function.comp]
  split <;> rfl
theorem offL_congr {a b : List ByteArray} (h : ∀ x, x ∈ a ↔ x ∈ b) (l : List SV) : offL a l = offL b l := by
  unfold offL
  refine List.map_congr_left fun v _ => ?_
  have : inN v.x.name a = inN v.x.name b := by
    cases ha : inN v.x.name a with
    | true => exact ((inN_iff _ _).2 ((h _).1 ((inN_iff _ _).1 ha))).symm
    | false =>
      cases hb : inN v.x.name b with
      | false => rfl
      | true => rw [(inN_iff _ _).2 ((h _).2 ((inN_iff _ _).1 hb))] at ha; cases ha
  rw [this]
theorem off_split {pre post : List SV} {v : SV} {x : ByteArray} (hu : Uniq (pre ++ v :: post)) (hn : v.x.name = x) : (pre ++ v :: post).map (fun u => if u.x.name = x then u.off else u) = pre ++ v.off :: post := by
  unfold Uniq at hu
  rw [List.map_append, List.map_cons] at hu
  obtain ⟨h1, h2, h3⟩ := List.nodup_append.1 hu
  have hp : ∀ u ∈ pre, u.x.name ≠ x := fun u hm e => h3 _ (List.mem_map.2 ⟨u, hm, rfl⟩) _ (by simp) (e.trans hn.symm)
  have hq : ∀ u ∈ post, u.x.name ≠ x := fun u hm e => (List.nodup_cons.1 h2).1 (List.mem_map.2 ⟨u, hm, e.trans hn.symm⟩)
  rw [List.map_append, List.map_cons, if_pos hn]
  congr 1
  · rw [List.map_congr_left (g := id) (fun u hm => by simp [hp u hm])]; simp
  · congr 1
    rw [List.map_congr_left (g := id) (fun u hm => by simp [hq u hm])]; simp
theorem efind_of {x : ByteArray} : ∀ {es : List SE}, (∃ v ∈ es.map (·.1), v.x.name = x) → ∃ e, efind x es = some e
  | [], h => by obtain ⟨v, hv, _⟩ := h; cases hv
  | e :: es, h => by
    by_cases hx : x = e.1.x.name
    · exact ⟨e, by simp [efind, hx]⟩
    · obtain ⟨v, hv, hn⟩ := h
      simp only [List.map_cons, List.mem_cons] at hv
      rcases hv with rfl | hv
      · exact absurd hn.symm hx
      · obtain ⟨e', he⟩ := efind_of (x := x) (es := es) ⟨v, hv, hn⟩
        exact ⟨e', by simpa [efind, hx] using he⟩
end Go.Proofs.Ythademifhnkbiaa
