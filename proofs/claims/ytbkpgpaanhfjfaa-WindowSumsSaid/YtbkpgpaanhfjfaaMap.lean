/- Maps as lists of keys and values, in the order of their entries: look-up, store, delete, length, and a range that meets each entry once, in an open order. -/
import Derived.Test.YtbkpgpaanhfjfaaFoot
import Derived.Maps.RangeRun
import Derived.Maps.Keyed
namespace Go.Proofs.Ytbkpgpaanhfjfaa.K
open Go.RowKit
open Go.ChangeMaps (setBlock)
/-- How a key of a kind is written: whole numbers, strings. -/
structure KeyEnc (P : Program) (k : TypeId) {α : Type} [DecidableEq α] (enc : α → Value) : Prop where
  same : ∃ kd, P.underlying k = some kd ∧ ∀ x y, Instr.sameNow kd (enc x) (enc y) = some (decide (x = y))
  check : ∀ (w : World) (e : Bool) (n : Nat) x, (Instr.checkKey e (n + 1) k (enc x)).run P w = .ok () w
  bits : ∀ x, Instr.sameBits 10000 (enc x) (enc x) = true
theorem int_enc {P : Program} {k : TypeId} {q : IntKind} (h : P.underlying k = some (.int q)) : KeyEnc P k (fun x : Int => Value.int q x) :=
  ⟨⟨_, h, fun x y => by simp [Instr.sameNow]; rfl⟩, fun w e n x => by simp [Instr.checkKey, run_underlying h], fun x => by simp [Instr.sameBits]⟩
theorem bytes_beq (x y : ByteArray) : (x == y) = decide (x = y) := by
  by_cases h : x = y
  · subst h
    simp only [decide_true]
    show (x.data == x.data) = true
    simp
  · rw [decide_eq_false h]
    cases hb : x == y with
    | false => rfl
    | true =>
      exfalso
      apply h
      have h2 : (x.data == y.data) = true := hb
      have h3 : x.data = y.data := by simpa using h2
      cases x; cases y
      simp_all
theorem string_enc {P : Program} {k : TypeId} (h : P.underlying k = some .string) : KeyEnc P k (fun x : ByteArray => Value.string x) :=
  ⟨⟨_, h, fun x y => by simp only [Instr.sameNow, bytes_beq]⟩, fun w e n x => by simp [Instr.checkKey, run_underlying h], fun x => by simp [Instr.sameBits, bytes_beq]⟩
section
variable {α : Type} [DecidableEq α]
def mget (x : α) : List (α × Value) → Option Value
  | [] => none
  | (y, v) :: r => if x = y then some v else mget x r
def mput (x : α) (v : Value) : List (α × Value) → List (α × Value)
  | [] => [(x, v)]
  | (y, u) :: r => if x = y then (x, v) :: r else (y, u) :: mput x v r
def mdel (x : α) : List (α × Value) → List (α × Value)
  | [] => []
  | (y, u) :: r => if x = y then r else (y, u) :: mdel x r
def mfind (x : α) : List (α × Value) → Nat → Option (Nat × Value)
  | [], _ => none
  | (y, v) :: r, i => if x = y then some (i, v) else mfind x r (i + 1)
theorem mfind_get (x : α) : ∀ (l : List (α × Value)) i, (mfind x l i).map (·.2) = mget x l
  | [], _ => rfl
  | (y, v) :: r, i => by
    unfold mfind mget
    split
    · rfl
    · exact mfind_get x r (i + 1)
theorem mfind_ge (x : α) : ∀ (l : List (α × Value)) i j v, mfind x l i = some (j, v) → i ≤ j
  | [], _, _, _, h => by cases h
  | (y, v) :: r, i, j, u, h => by
    unfold mfind at h
    split at h
    · cases h; exact Nat.le_refl _
    · have := mfind_ge x r (i + 1) j u h; omega
theorem mfind_none (x : α) : ∀ (l : List (α × Value)) i, mfind x l i = none → mget x l = none ∧ mdel x l = l ∧ ∀ v, mput x v l = l ++ [(x, v)]
  | [], _, _ => ⟨rfl, rfl, fun _ => rfl⟩
  | (y, v) :: r, i, h => by
    unfold mfind at h
    split at h
    · cases h
    · rename_i hn
      obtain ⟨h1, h2, h3⟩ := mfind_none x r (i + 1) h
      exact ⟨by simp [mget, hn, h1], by simp [mdel, hn, h2], fun u => by simp [mput, hn, h3]⟩
theorem mget_none (x : α) : ∀ (l : List (α × Value)), mget x l = none → mdel x l = l ∧ ∀ v, mput x v l = l ++ [(x, v)] := fun l h => by
  have hf : mfind x l 0 = none := by
    have := mfind_get x l 0
    rw [h] at this
    simpa using this
  exact (mfind_none x l 0 hf).2
variable (enc : α → Value)
def kv (p : α × Value) : Value × Value := (enc p.1, p.2)
def ek (e : MapEntry) : Value × Value := (e.key, e.val)
/-- Block m is a map with these entries. -/
def MapAt (w : World) (m : Nat) (kvs : List (α × Value)) : Prop :=
  ∃ es clock, w.heap[m]? = some (.map es clock) ∧ es.toList.map ek = kvs.map (kv enc) ∧ (es.toList.map (·.born)).Nodup ∧ ∀ e ∈ es.toList, e.born < clock
omit [DecidableEq α] in
theorem MapAt.new (w : World) : MapAt enc (w.alloc (.map #[] 0)) w.heap.size ([] : List (α × Value)) :=
  ⟨#[], 0, heap_alloc_new w _, rfl, by simp, by simp⟩
omit [DecidableEq α] in
theorem MapAt.only {enc : α → Value} {F : Nat → Prop} {w w' : World} {m : Nat} {kvs : List (α × Value)} (h : MapAt enc w m kvs) (ho : Only F w w') (hn : ¬ F m) : MapAt enc w' m kvs := by
  obtain ⟨es, clock, hb, rest⟩ := h
  exact ⟨es, clock, ho.heap hb hn, rest⟩
omit [DecidableEq α] in
theorem MapAt.drewN {enc : α → Value} {w : World} {m : Nat} {kvs : List (α × Value)} (h : MapAt enc w m kvs) (n : Nat) : MapAt enc (w.drewN n) m kvs := h
omit [DecidableEq α] in
theorem MapAt.lt {enc : α → Value} {w : World} {m : Nat} {kvs : List (α × Value)} (h : MapAt enc w m kvs) : m < w.heap.size := by
  obtain ⟨es, clock, hb, _⟩ := h
  exact (Array.getElem?_eq_some_iff.1 hb).1
variable {enc}
theorem find_now {kd : TypeDesc} (hs : ∀ x y, Instr.sameNow kd (enc x) (enc y) = some (decide (x = y))) (x : α) :
    ∀ (es : List MapEntry) (kvs : List (α × Value)) (i : Nat), es.map ek = kvs.map (kv enc) → Instr.findNow kd (enc x) es i = some (mfind x kvs i)
  | [], [], i, _ => rfl
  | [], _ :: _, _, h => by cases h
  | _ :: _, [], _, h => by cases h
  | e :: es, (y, v) :: kvs, i, h => by
    simp only [List.map_cons, List.cons.injEq, ek, kv, Prod.mk.injEq] at h
    obtain ⟨⟨h1, h2⟩, h3⟩ := h
    unfold Instr.findNow mfind
    rw [h1, hs]
    by_cases e' : x = y
    · simp [e', h2]
    · simp only [e', decide_false, if_false]
      exact find_now hs x es kvs (i + 1) h3
theorem run_find {P : Program} {k : TypeId} (K : KeyEnc P k enc) (w : World) (x : α) (es : List MapEntry) (kvs : List (α × Value)) (h : es.map ek = kvs.map (kv enc)) :
    (Instr.findKey k (enc x) es).run P w = .ok (mfind x kvs 0) w := by
  obtain ⟨kd, hk, hs⟩ := K.same
  simp [Instr.findKey, run_underlying hk, find_now hs x es kvs 0 h]
theorem put_map (x : α) (v : Value) : ∀ (es : List MapEntry) (kvs : List (α × Value)) (i j : Nat) (u : Value) (f : MapEntry → MapEntry), (∀ e, ek (f e) = (enc x, v)) → es.map ek = kvs.map (kv enc) → mfind x kvs i = some (i + j, u) →
    (es.modify j f).map ek = (mput x v kvs).map (kv enc)
  | [], [], _, _, _, _, _, _, h => by cases h
  | [], _ :: _, _, _, _, _, _, h, _ => by cases h
  | _ :: _, [], _, _, _, _, _, h, _ => by cases h
  | e :: es, (y, v') :: kvs, i, j, u, f, hf, h, hm => by
    simp only [List.map_cons, List.cons.injEq] at h
    obtain ⟨h1, h3⟩ := h
    unfold mfind at hm
    unfold mput
    split at hm
    · rename_i e'
      simp only [Option.some.injEq, Prod.mk.injEq] at hm
      obtain rfl : j = 0 := by omega
      simp [e', List.modify_zero_cons, hf, h3, kv]
    · rename_i hn
      have hge := mfind_ge x kvs (i + 1) (i + j) u hm
      obtain ⟨j, rfl⟩ : ∃ j', j = j' + 1 := ⟨j - 1, by omega⟩
      have ih := put_map x v es kvs (i + 1) j u f hf h3 (by rw [hm]; congr 2; omega)
      simp [hn, List.modify_succ_cons, ih, h1]
theorem del_map (x : α) : ∀ (es : List MapEntry) (kvs : List (α × Value)) (i j : Nat) (u : Value), es.map ek = kvs.map (kv enc) → mfind x kvs i = some (i + j, u) →
    (es.eraseIdx j).map ek = (mdel x kvs).map (kv enc)
  | [], [], _, _, _, _, h => by cases h
  | [], _ :: _, _, _, _, h, _ => by cases h
  | _ :: _, [], _, _, _, h, _ => by cases h
  | e :: es, (y, v') :: kvs, i, j, u, h, hm => by
    simp only [List.map_cons, List.cons.injEq] at h
    obtain ⟨h1, h3⟩ := h
    unfold mfind at hm
    unfold mdel
    split at hm
    · rename_i e'
      simp only [Option.some.injEq, Prod.mk.injEq] at hm
      obtain rfl : j = 0 := by omega
      simp [e', h3]
    · rename_i hn
      have hge := mfind_ge x kvs (i + 1) (i + j) u hm
      obtain ⟨j, rfl⟩ : ∃ j', j = j' + 1 := ⟨j - 1, by omega⟩
      have ih := del_map x es kvs (i + 1) j u h3 (by rw [hm]; congr 2; omega)
      simp [hn, ih, h1]
theorem born_modify (f : MapEntry → MapEntry) (hf : ∀ e, (f e).born = e.born) : ∀ (es : List MapEntry) (j : Nat), (es.modify j f).map (·.born) = es.map (·.born)
  | [], _ => by simp
  | e :: es, 0 => by simp [List.modify_zero_cons, hf]
  | e :: es, j + 1 => by simp [List.modify_succ_cons, born_modify f hf es j]
section
variable {P : Program} {k : TypeId} (K : KeyEnc P k enc) {w : World} {m : Nat} {kvs : List (α × Value)} {t e : TypeId}
include K
theorem run_lookup (h : MapAt enc w m kvs) (ht : P.underlying t = some (.map k e)) (z : Value) (hz : (zeroValue e).run P w = .ok z w) (x : α) (ok : Bool) :
    (Instr.lookup t (.map (some m)) (enc x) ok).run P w = .ok (if ok then .tuple #[(mget x kvs).getD z, .bool (mget x kvs).isSome] else (mget x kvs).getD z) w := by
  obtain ⟨es, clock, hb, hes, _⟩ := h
  simp only [Instr.lookup, Sem.run_bind, run_underlying ht, Result.andThen_ok, MapKept.run_getObj_map hb, Sem.run_pure, K.check, run_find K w x es.toList kvs hes]
  rw [← mfind_get x kvs 0]
  cases hf : mfind x kvs 0 with
  | none => simp [hz]
  | some p => obtain ⟨i, v⟩ := p; simp
theorem run_update (h : MapAt enc w m kvs) (ht : P.underlying t = some (.map k e)) (x : α) (v : Value) :
    ∃ o, (Instr.mapUpdate t (.map (some m)) (enc x) v).run P w = .ok () (setBlock w m o) ∧ MapAt enc (setBlock w m o) m (mput x v kvs) := by
  obtain ⟨es, clock, hb, hes, hnd, hlt⟩ := h
  have hm := (Array.getElem?_eq_some_iff.1 hb).1
  simp only [Instr.mapUpdate, Sem.run_bind, run_underlying ht, Result.andThen_ok, MapKept.run_getObj_map hb, K.check, run_find K w x es.toList kvs hes]
  cases hf : mfind x kvs 0 with
  | none =>
    simp only [MapKept.run_setObj_map _ hb]
    refine ⟨_, rfl, es.push { key := enc x, val := v, born := clock }, clock + 1, by simp [setBlock, hm], ?_, ?_, ?_⟩
    · rw [(mfind_none x kvs 0 hf).2.2]
      simp [hes, ek, kv]
    · simp only [Array.toList_push, List.map_append, List.map_cons, List.map_nil]
      rw [List.nodup_append]
      refine ⟨hnd, by simp, ?_⟩
      intro a ha b hb'
      simp at ha hb'
      obtain ⟨e0, he0, rfl⟩ := ha
      have := hlt e0 (by simpa using he0)
      omega
    · intro e0 he0
      simp at he0
      rcases he0 with he0 | rfl
      · have := hlt e0 (by simpa using he0); omega
      · simp
  | some p =>
    obtain ⟨i, u⟩ := p
    have hi : es.toList[i]? = some (es.toList[i]?.getD default) ∧ (es.toList[i]?.getD default).key = enc x := by
      have key : ∀ (l : List MapEntry) (kvs : List (α × Value)) (n j : Nat), l.map ek = kvs.map (kv enc) → mfind x kvs n = some (n + j, u) → ∃ e0, l[j]? = some e0 ∧ e0.key = enc x := by
        intro l
        induction l with
        | nil => intro kvs n j h1 h2; cases kvs with | nil => cases h2 | cons _ _ => cases h1
        | cons e0 l ih =>
          intro kvs n j h1 h2
          cases kvs with
          | nil => cases h1
          | cons p kvs =>
            obtain ⟨y, v'⟩ := p
            simp only [List.map_cons, List.cons.injEq, ek, kv, Prod.mk.injEq] at h1
            unfold mfind at h2
            split at h2
            · rename_i e'
              simp only [Option.some.injEq, Prod.mk.injEq] at h2
              obtain rfl : j = 0 := by omega
              exact ⟨e0, rfl, by rw [h1.1.1, e']⟩
            · have hge := mfind_ge x kvs (n + 1) (n + j) u h2
              obtain ⟨j, rfl⟩ : ∃ j', j = j' + 1 := ⟨j - 1, by omega⟩
              obtain ⟨e1, h3, h4⟩ := ih kvs (n + 1) j h1.2 (by rw [h2]; congr 2; omega)
              exact ⟨e1, by simpa using h3, h4⟩
      obtain ⟨e0, h3, h4⟩ := key es.toList kvs 0 i hes (by rw [hf]; simp)
      rw [h3]
      exact ⟨rfl, h4⟩
    have hkey : ((es[i]?).map (·.key)).getD (enc x) = enc x := by
      have : es[i]? = es.toList[i]? := by simp
      rw [this, hi.1]
      exact hi.2
    simp only [hkey, Instr.keyThatStays, K.bits, if_true, Sem.run_pure, Result.andThen_ok, MapKept.run_setObj_map _ hb, Sem.run_bind]
    refine ⟨_, rfl, es.modify i (fun e => { e with key := enc x, val := v }), clock, by simp [setBlock, hm], ?_, ?_, ?_⟩
    · rw [Array.toList_modify]
      exact put_map x v es.toList kvs 0 i u _ (fun _ => rfl) hes (by rw [hf]; simp)
    · rw [Array.toList_modify, born_modify _ (by intros; rfl)]
      exact hnd
    · intro e0 he0
      rw [Array.toList_modify] at he0
      have h1 : e0.born ∈ ((es.toList.modify i (fun e => { e with key := enc x, val := v })).map (·.born)) := List.mem_map_of_mem he0
      rw [born_modify _ (by intros; rfl)] at h1
      obtain ⟨e1, h2, h3⟩ := List.mem_map.1 h1
      rw [← h3]
      exact hlt e1 h2
theorem run_delete (h : MapAt enc w m kvs) (ht : P.underlying t = some (.map k e)) (ts : Array TypeId) (hts : ts[0]? = some t) (ty : TypeId) (x : α) :
    ∃ o, (Builtin.delete_ ts ty #[.map (some m), enc x]).run P w = .ok (.tuple #[]) (setBlock w m o) ∧ MapAt enc (setBlock w m o) m (mdel x kvs) := by
  obtain ⟨es, clock, hb, hes, hnd, hlt⟩ := h
  have hm := (Array.getElem?_eq_some_iff.1 hb).1
  simp only [Builtin.delete_, hts, List.getElem?_toArray, List.getElem?_cons_zero, List.getElem?_cons_succ, Sem.run_bind, run_underlying ht, Result.andThen_ok, MapKept.run_getObj_map hb, K.check, run_find K w x es.toList kvs hes]
  cases hf : mfind x kvs 0 with
  | none =>
    simp only [Sem.run_bind, MapKept.run_setObj_map _ hb, Result.andThen_ok, Sem.run_pure]
    exact ⟨_, rfl, es, clock, by simp [setBlock, hm], by rw [(mfind_none x kvs 0 hf).2.1]; exact hes, hnd, hlt⟩
  | some p =>
    obtain ⟨i, u⟩ := p
    simp only [Sem.run_bind, MapKept.run_setObj_map _ hb, Result.andThen_ok, Sem.run_pure]
    refine ⟨_, rfl, es.eraseIdxIfInBounds i, clock, by simp [setBlock, hm], ?_, ?_, ?_⟩
    · rw [Array.toList_eraseIdxIfInBounds]
      exact del_map x es.toList kvs 0 i u hes (by rw [hf]; simp)
    · rw [Array.toList_eraseIdxIfInBounds]
      exact hnd.sublist ((List.eraseIdx_sublist _ _).map _)
    · intro e0 he0
      rw [Array.toList_eraseIdxIfInBounds] at he0
      exact hlt e0 ((List.eraseIdx_sublist _ _).subset he0)
omit K [DecidableEq α] in
theorem run_len_map (h : MapAt enc w m kvs) (ht : P.underlying t = some (.map k e)) (ty : TypeId) : (Builtin.len_ #[t] ty #[.map (some m)]).run P w = .ok (.int .i64 (kvs.length : Int)) w := by
  obtain ⟨es, clock, hb, hes, _⟩ := h
  have : es.size = kvs.length := by
    have := congrArg List.length hes
    simpa using this
  simp [Builtin.len_, run_underlying ht, MapKept.run_getObj_map hb, this, goInt]
end
/-- An iterator over map m (with entries kvs, none added since the range began), that has rem still to come. -/
def IterAt (enc : α → Value) (w : World) (r m : Nat) (kvs rem : List (α × Value)) : Prop :=
  ∃ es clock since seen last, w.heap[m]? = some (.map es clock) ∧ es.toList.map ek = kvs.map (kv enc) ∧ (es.toList.map (·.born)).Nodup ∧ (∀ e ∈ es.toList, e.born < clock) ∧
    w.heap[r]? = some (.mapIter (some m) since seen last) ∧ (∀ e ∈ es.toList, e.born < since) ∧ since ≤ last ∧ last = clock ∧ (leftOf es seen).toList.map ek = rem.map (kv enc)
omit [DecidableEq α] in
theorem IterAt.map {w : World} {r m : Nat} {kvs rem : List (α × Value)} (h : IterAt enc w r m kvs rem) : MapAt enc w m kvs := by
  obtain ⟨es, clock, since, seen, last, h1, h2, h3, h4, _⟩ := h
  exact ⟨es, clock, h1, h2, h3, h4⟩
omit [DecidableEq α] in
theorem IterAt.only {w w' : World} {F : Nat → Prop} {r m : Nat} {kvs rem : List (α × Value)} (h : IterAt enc w r m kvs rem) (ho : Only F w w') (hm : ¬ F m) (hr : ¬ F r) : IterAt enc w' r m kvs rem := by
  obtain ⟨es, clock, since, seen, last, h1, h2, h3, h4, h5, rest⟩ := h
  exact ⟨es, clock, since, seen, last, ho.heap h1 hm, h2, h3, h4, ho.heap h5 hr, rest⟩
omit [DecidableEq α] in
theorem run_range {P : Program} {w : World} {m : Nat} {kvs : List (α × Value)} {t k e : TypeId} (h : MapAt enc w m kvs) (ht : P.underlying t = some (.map k e)) :
    ∃ o, (Instr.range t (.map (some m))).run P w = .ok (.pointer (some ⟨w.heap.size, 0, none⟩)) (w.alloc o) ∧ IterAt enc (w.alloc o) w.heap.size m kvs kvs := by
  obtain ⟨es, clock, hb, hes, hnd, hlt⟩ := h
  have hm := (Array.getElem?_eq_some_iff.1 hb).1
  refine ⟨.mapIter (some m) clock #[] clock, ?_, es, clock, clock, #[], clock, (Below.heap_alloc w _ m hm).trans hb, hes, hnd, hlt, heap_alloc_new w _, hlt, Nat.le_refl _, rfl, ?_⟩
  · simp [Instr.range, run_underlying ht, MapKept.run_getObj_map hb]
  · have : leftOf es #[] = es := by unfold leftOf; exact Array.filter_eq_self.2 (by simp)
    rw [this]; exact hes
omit [DecidableEq α] in
theorem split_map {γ : Type} (f : γ → Value × Value) : ∀ (l : List γ) (rem : List (α × Value)) (e : γ), l.map f = rem.map (kv enc) → e ∈ l →
    ∃ p s pre x v post, l = p ++ e :: s ∧ rem = pre ++ (x, v) :: post ∧ f e = (enc x, v) ∧ p.map f = pre.map (kv enc) ∧ s.map f = post.map (kv enc)
  | [], _, _, _, h => by cases h
  | a :: l, [], _, h, _ => by cases h
  | a :: l, (x, v) :: rem, e, h, hm => by
    simp only [List.map_cons, List.cons.injEq] at h
    obtain ⟨h1, h2⟩ := h
    rcases List.mem_cons.1 hm with rfl | hm
    · exact ⟨[], l, [], x, v, rem, rfl, rfl, h1, rfl, h2⟩
    · obtain ⟨p, s, pre, x', v', post, e1, e2, e3, e4, e5⟩ := split_map f l rem e h2 hm
      exact ⟨a :: p, s, (x, v) :: pre, x', v', post, by rw [e1]; rfl, by rw [e2]; rfl, e3, by simp [e4, h1], e5⟩
theorem KeyEnc.inj {P : Program} {k : TypeId} (K : KeyEnc P k enc) {x y : α} (h : enc x = enc y) : x = y := by
  obtain ⟨kd, _, hs⟩ := K.same
  have h1 := hs x x
  have h2 := hs x y
  rw [← h, h1] at h2
  simpa using h2
theorem run_next {P : Program} {k : TypeId} (K : KeyEnc P k enc) {w : World} {r m : Nat} {kvs rem : List (α × Value)} (h : IterAt enc w r m kvs rem) (ty : TypeId) :
    (rem = [] ∧ (Instr.next (.pointer (some ⟨r, 0, none⟩)) false ty).run P w = .ok (.tuple #[.bool false]) w) ∨
    ∃ pre x v post w', rem = pre ++ (x, v) :: post ∧ (x, v) ∈ kvs ∧ (Instr.next (.pointer (some ⟨r, 0, none⟩)) false ty).run P w = .ok (.tuple #[.bool true, enc x, v]) w' ∧
      (Instr.entry (.pointer (some ⟨r, 0, none⟩))).run P w' = .ok (.tuple #[enc x, v]) w' ∧ IterAt enc w' r m kvs (pre ++ post) ∧ Only (· = r) w w' ∧ w'.heap.size = w.heap.size := by
  obtain ⟨es, clock, since, seen, last, hb, hes, hnd, hlt, hr, hold, hsl, rfl, hrem⟩ := h
  have hrl := (Array.getElem?_eq_some_iff.1 hr).1
  have hrm : r ≠ m := by
    intro e
    subst e
    rw [hb] at hr
    cases hr
  rcases run_next_at (P := P) w ty r m since last seen es last hr hb hold hsl with ⟨h0, hrun⟩ | ⟨e, he, w1, hw1, hrun⟩
  · left
    refine ⟨?_, hrun⟩
    have : rem.length = 0 := by
      have := congrArg List.length hrem
      simp at this
      omega
    exact List.eq_nil_of_length_eq_zero this
  · right
    obtain ⟨p, s, pre, x, v, post, e1, e2, e3, e4, e5⟩ := split_map (enc := enc) ek _ rem e hrem he
    have hmem : e ∈ es.toList := by
      have : e ∈ (leftOf es seen).toList := he
      simp [leftOf] at this
      simpa using this.1
    have hk : e.key = enc x ∧ e.val = v := by simpa [ek] using e3
    have hh : w1.heap = w.heap := by rcases hw1 with rfl | rfl <;> rfl
    have hsame : (setBlock w1 r (.mapIter (some m) since (seen.push e.born) last)).heap[r]? = some (.mapIter (some m) since (seen.push e.born) last) := by
      simp [setBlock, hh, hrl]
    have hother : (setBlock w1 r (.mapIter (some m) since (seen.push e.born) last)).heap[m]? = some (.map es last) := by
      simp [setBlock, hh, hrm, hb]
    have hkv : (x, v) ∈ kvs := by
      have : ek e ∈ es.toList.map ek := List.mem_map_of_mem hmem
      rw [hes] at this
      obtain ⟨⟨y, u⟩, h1, h2⟩ := List.mem_map.1 this
      rw [e3] at h2
      simp only [kv, Prod.mk.injEq] at h2
      obtain ⟨h3, h4⟩ := h2
      rw [← K.inj h3, ← h4]
      exact h1
    have hleft : (leftOf es (seen.push e.born)).toList.map ek = (pre ++ post).map (kv enc) := by
      have hl2 : (leftOf es (seen.push e.born)).toList = (leftOf es seen).toList.filter (fun x => !(x.born == e.born)) := by
        simp only [leftOf, Array.toList_filter, List.filter_filter]
        apply List.filter_congr
        intro x _
        by_cases h1 : x.born = e.born <;> by_cases h2 : x.born ∈ seen <;> simp [h1, h2]
      have hnd2 : ((leftOf es seen).toList.map (·.born)).Nodup := by
        have : (leftOf es seen).toList.Sublist es.toList := by simp only [leftOf, Array.toList_filter]; exact List.filter_sublist
        exact hnd.sublist (this.map _)
      rw [hl2, e1, List.filter_append, List.filter_cons]
      rw [e1, List.map_append, List.map_cons, List.nodup_append] at hnd2
      obtain ⟨n1, n2, n3⟩ := hnd2
      have n4 := List.nodup_cons.1 n2
      have f1 : p.filter (fun x => !(x.born == e.born)) = p := List.filter_eq_self.2 (fun a ha => by
        have := n3 a.born (List.mem_map_of_mem ha) e.born (by simp)
        simpa using this)
      have f2 : s.filter (fun x => !(x.born == e.born)) = s := List.filter_eq_self.2 (fun a ha => by
        have h1 : a.born ≠ e.born := fun h => n4.1 (by rw [← h]; exact List.mem_map_of_mem ha)
        simpa using h1)
      rw [f1, f2]
      simp [e4, e5]
    refine ⟨pre, x, v, post, _, e2, hkv, by rw [hrun, hk.1, hk.2], ?_, ⟨es, last, since, seen.push e.born, last, hother, hes, hnd, hlt, hsame, hold, hsl, rfl, hleft⟩, ?_, by simp [setBlock, hh]⟩
    · rw [run_entry_at _ r m since seen es last e hsame hother hmem hnd, hk.1, hk.2]
    · refine ⟨?_, ?_, ?_, by simp [setBlock, hh], fun k hk hn => ?_⟩
      · rcases hw1 with rfl | rfl <;> rfl
      · rcases hw1 with rfl | rfl <;> rfl
      · rcases hw1 with rfl | rfl <;> rfl
      · simp [setBlock, hh, Ne.symm hn]
section
variable {P : Program} {k : TypeId} (K : KeyEnc P k enc) {w : World} {m : Nat} {kvs : List (α × Value)} {e : TypeId} {ops : Array Oper} {rest : List Oper} {o : Oper} {a : Act} {Q : Exit → Act → World → Prop}
include K
/-- 'm[x]', 'v, ok := m[x]', at the operation. -/
theorem step_lookup (hg : o.guard = none) (t : TypeId) (y z : Operand) (ok : Bool) (ho : o.op = .lookup t y z ok) (ht : P.underlying t = some (.map k e)) (hy : a.eval y = .map (some m)) (h : MapAt enc w m kvs) (x : α) (hz : a.eval z = enc x)
    (zero : Value) (hzero : (zeroValue e).run P w = .ok zero w)
    (hK : wpList P ops Q rest (a.put o.dst (if ok then .tuple #[(mget x kvs).getD zero, .bool (mget x kvs).isSome] else (mget x kvs).getD zero)) w) : wpList P ops Q (o :: rest) a w := by
  refine step_val hg _ w ?_ hK
  unfold execOp
  simp only [ho, hy, hz, Sem.run_bind, run_lookup K h ht zero hzero x ok, Result.andThen_ok, Sem.run_pure]
/-- 'm[x] = v', at the operation. -/
theorem step_update (hg : o.guard = none) (t : TypeId) (y z u : Operand) (ho : o.op = .mapUpdate t y z u) (ht : P.underlying t = some (.map k e)) (hy : a.eval y = .map (some m)) (h : MapAt enc w m kvs) (x : α) (hz : a.eval z = enc x)
    (v : Value) (hv : a.eval u = v)
    (hK : ∀ w', MapAt enc w' m (mput x v kvs) → Only (· = m) w w' → w'.heap.size = w.heap.size → wpList P ops Q rest (a.put o.dst undef) w') : wpList P ops Q (o :: rest) a w := by
  obtain ⟨ob, hr, hm⟩ := run_update K h ht x v
  refine step_skip hg _ ?_ (hK _ hm ((Only.refl _ _).setBlock m ob (fun _ => rfl)) (by simp [setBlock]))
  unfold execOp
  simp only [ho, hy, hz, hv, Sem.run_bind, hr, Result.andThen_ok, Sem.run_pure]
/-- 'delete(m, x)', at the operation. -/
theorem step_delete (hg : o.guard = none) (t k' : TypeId) (y z : Operand) (ho : o.op = .call { callee := .builtin .delete, args := #[y, z], argTypes := #[t, k'] }) (ht : P.underlying t = some (.map k e)) (hy : a.eval y = .map (some m)) (h : MapAt enc w m kvs) (x : α) (hz : a.eval z = enc x)
    (hK : ∀ w', MapAt enc w' m (mdel x kvs) → Only (· = m) w w' → w'.heap.size = w.heap.size → wpList P ops Q rest (a.put o.dst (.tuple #[])) w') : wpList P ops Q (o :: rest) a w := by
  obtain ⟨ob, hr, hm⟩ := run_delete K h ht #[t, k'] rfl o.type x
  refine step_val hg _ _ ?_ (hK _ hm ((Only.refl _ _).setBlock m ob (fun _ => rfl)) (by simp [setBlock]))
  unfold execOp
  simp only [ho, resolve, invoke, builtin, Sem.run_bind, Sem.run_pure, Result.andThen_ok, List.map_toArray, List.map_cons, List.map_nil, hy, hz, hr]
omit K [DecidableEq α] in
/-- 'range m', at the operation. -/
theorem step_range (hg : o.guard = none) (t : TypeId) (y : Operand) (ho : o.op = .range t y) (ht : P.underlying t = some (.map k e)) (hy : a.eval y = .map (some m)) (h : MapAt enc w m kvs)
    (hK : ∀ w', IterAt enc w' w.heap.size m kvs kvs → Below w.heap.size w w' → w'.heap.size = w.heap.size + 1 → wpList P ops Q rest (a.put o.dst (.pointer (some ⟨w.heap.size, 0, none⟩))) w') : wpList P ops Q (o :: rest) a w := by
  obtain ⟨ob, hr, hm⟩ := run_range (P := P) h ht
  refine step_val hg _ _ ?_ (hK _ hm ((Below.refl _ _).alloc (Nat.le_refl _) ob) (by simp))
  unfold execOp
  simp only [ho, hy, Sem.run_bind, hr, Result.andThen_ok, Sem.run_pure]
/-- The step of a range, at the operation. -/
theorem step_next (hg : o.guard = none) (y : Operand) (ho : o.op = .next y false) {r : Nat} {rem : List (α × Value)} (hy : a.eval y = .pointer (some ⟨r, 0, none⟩)) (h : IterAt enc w r m kvs rem)
    (hdone : rem = [] → wpList P ops Q rest (a.put o.dst (.tuple #[.bool false])) w)
    (hK : ∀ w' pre x v post, rem = pre ++ (x, v) :: post → (x, v) ∈ kvs → IterAt enc w' r m kvs (pre ++ post) → Only (· = r) w w' → w'.heap.size = w.heap.size →
      (Instr.entry (.pointer (some ⟨r, 0, none⟩))).run P w' = .ok (.tuple #[enc x, v]) w' → wpList P ops Q rest (a.put o.dst (.tuple #[.bool true, enc x, v])) w') : wpList P ops Q (o :: rest) a w := by
  rcases run_next K h o.type with ⟨h0, hr⟩ | ⟨pre, x, v, post, w', h1, h2, hr, he, hi, ho', hs⟩
  · refine step_val hg _ _ ?_ (hdone h0)
    unfold execOp
    simp only [ho, hy, Sem.run_bind, hr, Result.andThen_ok, Sem.run_pure]
  · refine step_val hg _ _ ?_ (hK w' pre x v post h1 h2 hi ho' hs he)
    unfold execOp
    simp only [ho, hy, Sem.run_bind, hr, Result.andThen_ok, Sem.run_pure]
end
end
end Go.Proofs.Ytbkpgpaanhfjfaa.K
