/- A net in memory: the struct, its map, each connection's struct and its two rows of bytes, all apart. -/
import Derived.Test.YtepdnmpcccgcaaaMap
namespace Go.Proofs.Ytepdnmpcccgcaaa
open Go.RowKit K
/-- A connection, and where it lies. -/
structure CE where
  id : Int
  host : ByteArray
  st : Int
  inn : List UInt8
  out : List UInt8
  c : Nat
  iv : Value
  ov : Value
def CE.blocks (e : CE) : List Nat := e.c :: (e.iv.ownBlock.toList ++ e.ov.ownBlock.toList)
/-- A row of bytes that grows: nil, or a row of its own. -/
def Buf (w : World) (B : Nat) (v : Value) (l : List UInt8) : Prop := w.ownsRow B 5 1 v l.length (bv l) ∧ (l = [] → v = .slice none 0 0)
def ConnAt (w : World) (B : Nat) (e : CE) : Prop :=
  w.heap[e.c]? = some (.cells #[.string e.host, .int .i64 e.st, e.iv, e.ov] 60 (0, 0)) ∧ Buf w B e.iv e.inn ∧ Buf w B e.ov e.out
def iEnc (x : Int) : Value := .int .i64 x
def ents (es : List CE) : List (Int × Value) := es.map fun e => (e.id, .pointer (some ⟨e.c, 0, none⟩))
def foot (n M : Nat) (es : List CE) : List Nat := n :: M :: es.flatMap CE.blocks
def NetAt (w : World) (B n M : Nat) (most dialed : Int) (es : List CE) : Prop :=
  w.heap[n]? = some (.cells #[.map (some M), .int .i64 most, .int .i64 dialed] 50 (0, 0)) ∧ MapAt iEnc w M (ents es) ∧ (∀ e ∈ es, ConnAt w B e) ∧ (foot n M es).Nodup ∧ ∀ k ∈ foot n M es, B ≤ k
theorem iKey : KeyEnc Try.prog 3 iEnc := int_enc Try.underlying3
theorem Buf.nil (w : World) (B : Nat) : Buf w B (.slice none 0 0) [] := ⟨World.ownsRow_nil _ _ _ _, fun _ => rfl⟩
theorem Buf.only {w w' : World} {B : Nat} {v : Value} {l : List UInt8} {F : Nat → Prop} (h : Buf w B v l) (ho : Only F w w') (hn : ∀ k, v.ownBlock = some k → ¬ F k) : Buf w' B v l := ⟨ho.own h.1 hn, h.2⟩
theorem Buf.rd {w : World} {B : Nat} {v : Value} {l : List UInt8} (h : Buf w B v l) : ∃ a c, v = .slice a l.length c ∧ l.length ≤ c ∧ Rd w a (bv l) ∧ (∀ ad, a = some ad → v.ownBlock = some ad.block) := by
  obtain ⟨a, c, rfl, h1, h2⟩ := App.cells (.inl h.1)
  exact ⟨a, c, rfl, h1, h2, fun ad e => by subst e; rfl⟩
theorem Buf.lt {w : World} {B : Nat} {v : Value} {l : List UInt8} (h : Buf w B v l) : ∀ k, v.ownBlock = some k → B ≤ k ∧ k < w.heap.size := h.1.lt
theorem ConnAt.only {w w' : World} {B : Nat} {e : CE} {F : Nat → Prop} (h : ConnAt w B e) (ho : Only F w w') (hn : ∀ k ∈ e.blocks, ¬ F k) : ConnAt w' B e :=
  ⟨ho.heap h.1 (hn e.c (by simp [CE.blocks])), h.2.1.only ho (fun k hk => hn k (by simp [CE.blocks, hk])), h.2.2.only ho (fun k hk => hn k (by simp [CE.blocks, hk]))⟩
theorem ConnAt.lt {w : World} {B : Nat} {e : CE} (h : ConnAt w B e) : ∀ k ∈ e.blocks, k < w.heap.size := by
  intro k hk
  simp only [CE.blocks, List.mem_cons, List.mem_append, Option.mem_toList] at hk
  rcases hk with rfl | hk | hk
  · exact (Array.getElem?_eq_some_iff.1 h.1).1
  · exact (h.2.1.lt k hk).2
  · exact (h.2.2.lt k hk).2
section
variable {w w' : World} {B n M : Nat} {most dialed : Int} {es : List CE}
theorem NetAt.lt (h : NetAt w B n M most dialed es) : ∀ k ∈ foot n M es, k < w.heap.size := by
  obtain ⟨h1, h2, h3, _⟩ := h
  intro k hk
  simp only [foot, List.mem_cons, List.mem_flatMap] at hk
  rcases hk with rfl | rfl | ⟨e, he, hk⟩
  · exact (Array.getElem?_eq_some_iff.1 h1).1
  · exact h2.lt
  · exact (h3 e he).lt k hk
/-- What does not touch the net's own blocks leaves it as it is. -/
theorem NetAt.only {F : Nat → Prop} (h : NetAt w B n M most dialed es) (ho : Only F w w') (hn : ∀ k ∈ foot n M es, ¬ F k) : NetAt w' B n M most dialed es := by
  obtain ⟨h1, h2, h3, h4, h5⟩ := h
  exact ⟨ho.heap h1 (hn n (by simp [foot])), h2.only ho (hn M (by simp [foot])), fun e he => (h3 e he).only ho (fun k hk => hn k (by simp only [foot, List.mem_cons, List.mem_flatMap]; exact .inr (.inr ⟨e, he, hk⟩))), h4, h5⟩
theorem NetAt.below {D : Nat} (h : NetAt w B n M most dialed es) (hb : Below D w w') (hD : w.heap.size ≤ D) : NetAt w' B n M most dialed es :=
  h.only (Only.of_below (F := fun k => D ≤ k) hb (fun k _ h => h)) (fun k hk hle => by have := h.lt k hk; omega)
theorem foot_split {pre post : List CE} {e : CE} : foot n M (pre ++ e :: post) = (n :: M :: pre.flatMap CE.blocks) ++ (e.blocks ++ post.flatMap CE.blocks) := by
  simp [foot]
/-- One connection turned into another one at the same place. -/
theorem NetAt.turned {pre post : List CE} {e e' : CE} (h : NetAt w B n M most dialed (pre ++ e :: post)) (ho : Only (· ∈ e.blocks) w w') (hid : e'.id = e.id) (hc : e'.c = e.c) (hconn : ConnAt w' B e')
    (hbl : ∀ k ∈ e'.blocks, k ∈ e.blocks ∨ w.heap.size ≤ k) (hnd : e'.blocks.Nodup) (hB : B ≤ w.heap.size) : NetAt w' B n M most dialed (pre ++ e' :: post) := by
  have hlt := h.lt
  obtain ⟨h1, h2, h3, h4, h5⟩ := h
  rw [foot_split] at h4 h5 hlt
  obtain ⟨n1, n2, n3⟩ := List.nodup_append.1 h4
  obtain ⟨m1, m2, m3⟩ := List.nodup_append.1 n2
  have hA : ∀ k ∈ n :: M :: pre.flatMap CE.blocks, k ∉ e.blocks := fun k hk hk2 => n3 k hk k (List.mem_append_left _ hk2) rfl
  have hP : ∀ k ∈ post.flatMap CE.blocks, k ∉ e.blocks := fun k hk hk2 => m3 k hk2 k hk rfl
  refine ⟨ho.heap h1 (hA n (by simp)), ?_, ?_, ?_, ?_⟩
  · have : ents (pre ++ e' :: post) = ents (pre ++ e :: post) := by simp [ents, hid, hc]
    rw [this]
    exact h2.only ho (hA M (by simp))
  · intro x hx
    rcases List.mem_append.1 hx with hx | hx
    · exact (h3 x (by simp [hx])).only ho (fun k hk => hA k (by simp only [List.mem_cons, List.mem_flatMap]; exact .inr (.inr ⟨x, hx, hk⟩)))
    · rcases List.mem_cons.1 hx with rfl | hx
      · exact hconn
      · exact (h3 x (by simp [hx])).only ho (fun k hk => hP k (List.mem_flatMap.2 ⟨x, hx, hk⟩))
  · rw [foot_split]
    refine List.nodup_append.2 ⟨n1, List.nodup_append.2 ⟨hnd, m2, ?_⟩, ?_⟩
    · intro a ha b hb hab
      subst hab
      rcases hbl a ha with h | h
      · exact m3 a h a hb rfl
      · have := hlt a (by simp only [List.mem_append]; exact .inr (.inr hb)); omega
    · intro a ha b hb hab
      subst hab
      rcases List.mem_append.1 hb with hb | hb
      · rcases hbl a hb with h | h
        · exact hA a ha h
        · have := hlt a (by simp only [List.mem_append]; exact .inl ha); omega
      · exact n3 a ha a (List.mem_append_right _ hb) rfl
  · intro k hk
    rw [foot_split] at hk
    rcases List.mem_append.1 hk with hk | hk
    · exact h5 k (List.mem_append_left _ hk)
    · rcases List.mem_append.1 hk with hk | hk
      · rcases hbl k hk with h | h
        · exact h5 k (by simp [h])
        · omega
      · exact h5 k (by simp [hk])
end
/-- The connection of a number. -/
def cfind (id : Int) (es : List CE) : Option CE := es.find? fun e => decide (id = e.id)
theorem mget_ents (id : Int) : ∀ es : List CE, mget id (ents es) = (cfind id es).map fun e => .pointer (some ⟨e.c, 0, none⟩)
  | [] => rfl
  | e :: es => by
    have ih := mget_ents id es
    by_cases h : id = e.id
    · simp [ents, mget, cfind, h]
    · have : mget id (ents (e :: es)) = mget id (ents es) := by simp [ents, mget, h]
      rw [this, ih]
      simp [cfind, h]
theorem cfind_split {id : Int} {es : List CE} {e : CE} (h : cfind id es = some e) : e.id = id ∧ ∃ pre post, es = pre ++ e :: post := by
  have h1 := List.find?_some (p := fun e : CE => decide (id = e.id)) h
  have h2 := List.mem_of_find?_eq_some h
  obtain ⟨pre, post, h3⟩ := List.append_of_mem h2
  exact ⟨(of_decide_eq_true h1).symm, pre, post, h3⟩
end Go.Proofs.Ytepdnmpcccgcaaa
