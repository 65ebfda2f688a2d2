/- What one byte that is another one does to a frame's bytes, in plain. -/
import Derived.Test.YtdomnjakhecbaaaFrP
namespace Go.Proofs.Ytdomnjakhecbaaa
open Go.RowKit K
theorem all_parts {win : Int} {xs : List Rec} (h : allOk win xs xs.length = true) : ∀ x ∈ xs, x.win = win ∧ x.name.size ≤ 65536 ∧ 0 ≤ x.inc ∧ 0 ≤ x.rate := by
  intro x hx
  obtain ⟨k, hk, rfl⟩ := List.getElem_of_mem hx
  unfold allOk at h
  rw [List.all_eq_true] at h
  have h1 := h k (by simpa using hk)
  simp only [okAt, hk, List.getElem?_eq_getElem, Option.map_some, Option.getD_some, recOk, Bool.and_eq_true, decide_eq_true_eq, beq_iff_eq] at h1
  exact ⟨h1.2.1, h1.2.2.1, h1.2.2.2.1, h1.2.2.2.2.1⟩
theorem may_parts {q win : Int} {xs : List Rec} (h : mayB q win xs = true) : 1 ≤ q ∧ 1 ≤ xs.length ∧ xs.length ≤ 4096 ∧ ∀ x ∈ xs, x.win = win ∧ x.name.size ≤ 65536 ∧ 0 ≤ x.inc ∧ 0 ≤ x.rate := by
  unfold mayB at h
  simp only [Bool.and_eq_true, decide_eq_true_eq] at h
  exact ⟨h.1, h.2.1, h.2.2.1, all_parts h.2.2.2⟩
theorem sum4_inj {s t : Nat} (hs : s < 4294967296) (ht : t < 4294967296) (h : sum4 s = sum4 t) : s = t := by
  unfold sum4 at h
  simp only [List.cons.injEq, and_true] at h
  obtain ⟨h1, h2, h3, h4⟩ := h
  have e : ∀ a b : Nat, UInt8.ofNat a = UInt8.ofNat b → a % 256 = b % 256 := fun a b h => by
    have := congrArg UInt8.toNat h
    simpa using this
  have := e _ _ h1
  have := e _ _ h2
  have := e _ _ h3
  have := e _ _ h4
  omega
theorem set_ne {l : List UInt8} {i : Nat} {y : UInt8} (hi : i < l.length) (hne : l[i] ≠ y) : l.set i y ≠ l := by
  intro h
  have := congrArg (·[i]?) h
  simp only [List.getElem?_set, hi, if_true, List.getElem?_eq_getElem, Option.some.injEq] at this
  exact hne this.symm
theorem sumOf_set {l : List UInt8} {i : Nat} {y : UInt8} (hi : i < l.length) (hne : l[i] ≠ y) : sumOf (l.set i y) ≠ sumOf l := by
  unfold sumOf nats
  rw [List.map_set]
  refine Crc.sum_set_ne (by simpa using hi) y.toNat_lt ?_ (nats_lt l)
  simp only [List.getElem_map]
  intro h
  exact hne (UInt8.toNat_inj.1 h)
def taggedB (l : List UInt8) : Bool := decide (l.take 4 = tagB)
theorem byte_law (body : List UInt8) (ht : body.take 4 = tagB) (h4 : 4 ≤ body.length) (i : Nat) (y : UInt8) (hi : i < (body ++ sum4 (sumOf body)).length) (hne : (body ++ sum4 (sumOf body))[i] ≠ y) :
    (i < 4 → taggedB ((body ++ sum4 (sumOf body)).set i y) = false) ∧
    (4 ≤ i → taggedB ((body ++ sum4 (sumOf body)).set i y) = true ∧ ((body ++ sum4 (sumOf body)).set i y).drop body.length ≠ sum4 (sumOf (((body ++ sum4 (sumOf body)).set i y).take body.length))) := by
  have htl : (body ++ sum4 (sumOf body)).take 4 = tagB := by rw [List.take_append_of_le_length h4]; exact ht
  constructor
  · intro hi4
    unfold taggedB
    rw [decide_eq_false_iff_not, List.take_set, htl]
    have e : tagB[i]'(by exact hi4) = (body ++ sum4 (sumOf body))[i] := by
      have := congrArg (·[i]?) htl
      simp only [List.getElem?_take, hi4, if_true] at this
      rw [List.getElem?_eq_getElem hi, List.getElem?_eq_getElem (show i < tagB.length from hi4)] at this
      exact (Option.some.inj this).symm
    exact set_ne (by exact hi4) (by rw [e]; exact hne)
  · intro hi4
    refine ⟨?_, ?_⟩
    · unfold taggedB
      rw [decide_eq_true_eq, List.take_set, htl]
      exact List.set_eq_of_length_le hi4
    · have e1 : (body ++ sum4 (sumOf body)).take body.length = body := List.take_left
      have e2 : (body ++ sum4 (sumOf body)).drop body.length = sum4 (sumOf body) := List.drop_left
      rw [List.take_set, List.drop_set, e1, e2]
      by_cases hb : i < body.length
      · rw [if_pos hb]
        have hb2 : body[i] ≠ y := by
          rw [List.getElem_append_left hb] at hne
          exact hne
        intro h
        exact sumOf_set hb hb2 (sum4_inj (sumOf_lt _) (sumOf_lt _) h).symm
      · have hb3 : body.length ≤ i := by omega
        rw [if_neg hb, List.set_eq_of_length_le hb3]
        have hb2 : (sum4 (sumOf body))[i - body.length]'(by rw [List.length_append] at hi; omega) ≠ y := by
          rw [List.getElem_append_right (by omega)] at hne
          exact hne
        exact set_ne _ hb2
theorem body_tag (q win : Int) (xs : List Rec) (k : Nat) : (bodyB q win xs k).take 4 = tagB ∧ 4 ≤ (bodyB q win xs k).length := by
  unfold bodyB headB
  constructor
  · rw [List.append_assoc, List.append_assoc, List.append_assoc]
    exact List.take_left (l₁ := tagB)
  · simp only [List.length_append, tagB, List.length_cons, List.length_nil]
    omega
end Go.Proofs.Ytdomnjakhecbaaa
