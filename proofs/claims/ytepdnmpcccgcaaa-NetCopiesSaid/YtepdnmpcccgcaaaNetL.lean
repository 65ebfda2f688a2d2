/- Net's functions, upon a net that a law has made itself: all old memory stays. -/
import Derived.Test.YtepdnmpcccgcaaaNetD
namespace Go.Proofs.Ytepdnmpcccgcaaa
open Go.RowKit K
/-- A net that was made since w0. -/
def Lv (w0 w : World) (n : Nat) (most dialed : Int) (l : List CV) : Prop := ∃ F, NetIs w w0.heap.size n most dialed l F ∧ Below w0.heap.size w0 w
section
variable {w0 w : World} {n : Nat} {most dialed : Int} {l : List CV}
theorem Lv.bel (h : Lv w0 w n most dialed l) : Below w0.heap.size w0 w := by
  obtain ⟨F, _, h2⟩ := h
  exact h2
theorem Lv.to {F : List Nat} {l' : List CV} {d' : Int} {w' : World} (h : NetIs w w0.heap.size n most dialed l F) (hb : Below w0.heap.size w0 w) (ht : NetTo w w0.heap.size n F most d' l' w') : Lv w0 w' n most d' l' := by
  obtain ⟨F', h1, h2, _⟩ := ht
  exact ⟨F', h1, hb.trans (h2.below hb.size (fun k hk => (h.lt k hk).1))⟩
theorem Lv.step {w' : World} (h : Lv w0 w n most dialed l) (hb : Below w.heap.size w w') : Lv w0 w' n most dialed l := by
  obtain ⟨F, h1, h2⟩ := h
  exact ⟨F, h1.below hb (Nat.le_refl _), h2.trans (hb.mono h2.size)⟩
theorem accept_lv (h : Lv w0 w n most dialed l) (id : Int) :
    Calls Try.prog 10 #[.pointer (some ⟨n, 0, none⟩), .int .i64 id] w fun e w' => e = .returned (.int .i64 (vget id [1] l).2) ∧ Lv w0 w' n most dialed (vupd id [1] (fun v => { v with st := 2 }) l) := by
  obtain ⟨F, h1, h2⟩ := h
  exact (accept_any h1 h2.size id).mono fun e w' ⟨he, ht⟩ => ⟨he, Lv.to h1 h2 ht⟩
theorem refuse_lv (h : Lv w0 w n most dialed l) (id : Int) :
    Calls Try.prog 24 #[.pointer (some ⟨n, 0, none⟩), .int .i64 id] w fun e w' => e = .returned (.int .i64 (vget id [1] l).2) ∧ Lv w0 w' n most dialed (vupd id [1] (fun v => { v with st := 4 }) l) := by
  obtain ⟨F, h1, h2⟩ := h
  exact (refuse_any h1 h2.size id).mono fun e w' ⟨he, ht⟩ => ⟨he, Lv.to h1 h2 ht⟩
theorem end_lv (h : Lv w0 w n most dialed l) (id : Int) :
    Calls Try.prog 14 #[.pointer (some ⟨n, 0, none⟩), .int .i64 id] w fun e w' => e = .returned (.int .i64 (vget id [2] l).2) ∧ Lv w0 w' n most dialed (vupd id [2] (fun v => { v with st := 3 }) l) := by
  obtain ⟨F, h1, h2⟩ := h
  exact (end_any h1 h2.size id).mono fun e w' ⟨he, ht⟩ => ⟨he, Lv.to h1 h2 ht⟩
theorem reset_lv (h : Lv w0 w n most dialed l) (id : Int) :
    Calls Try.prog 25 #[.pointer (some ⟨n, 0, none⟩), .int .i64 id] w fun e w' => e = .returned (.int .i64 (vget id [2, 3] l).2) ∧ Lv w0 w' n most dialed (vupd id [2, 3] (fun v => { v with st := 5, inn := [] }) l) := by
  obtain ⟨F, h1, h2⟩ := h
  exact (reset_any h1 h2.size id).mono fun e w' ⟨he, ht⟩ => ⟨he, Lv.to h1 h2 ht⟩
theorem arrive_lv (h : Lv w0 w n most dialed l) (id : Int) (a : Option Addr) (c : Nat) (b : List UInt8) (hr : Rd w a (bv b)) (hbd : ∀ v ∈ l, v.inn.length + b.length ≤ 70368744177664) :
    Calls Try.prog 11 #[.pointer (some ⟨n, 0, none⟩), .int .i64 id, .slice a b.length c] w fun e w' => e = .returned (.int .i64 (vget id [2] l).2) ∧ Lv w0 w' n most dialed (vupd id [2] (fun v => { v with inn := v.inn ++ b }) l) := by
  obtain ⟨F, h1, h2⟩ := h
  exact (arrive_any h1 h2.size id a c b hr hbd).mono fun e w' ⟨he, ht⟩ => ⟨he, Lv.to h1 h2 ht⟩
theorem send_lv (h : Lv w0 w n most dialed l) (id : Int) (a : Option Addr) (c : Nat) (b : List UInt8) (hr : Rd w a (bv b)) (hbd : ∀ v ∈ l, v.out.length + b.length ≤ 70368744177664) :
    Calls Try.prog 26 #[.pointer (some ⟨n, 0, none⟩), .int .i64 id, .slice a b.length c] w fun e w' => e = .returned (.int .i64 (vget id [2] l).2) ∧ Lv w0 w' n most dialed (vupd id [2] (fun v => { v with out := v.out ++ b }) l) := by
  obtain ⟨F, h1, h2⟩ := h
  exact (send_any h1 h2.size id a c b hr hbd).mono fun e w' ⟨he, ht⟩ => ⟨he, Lv.to h1 h2 ht⟩
def ReadLv (w0 : World) (n : Nat) (most dialed : Int) (l : List CV) (id : Int) (e : Ending) (w' : World) : Prop :=
  ∃ a c, e = .returned (.slice a (vin id l).length c) ∧ Rd w' a (bv (vin id l)) ∧ Lv w0 w' n most dialed (vupd id [] (fun v => { v with inn := [] }) l)
theorem read_lv (h : Lv w0 w n most dialed l) (id : Int) :
    Calls Try.prog 12 #[.pointer (some ⟨n, 0, none⟩), .int .i64 id] w (ReadLv w0 n most dialed l id) := by
  obtain ⟨F, h1, h2⟩ := h
  refine (read_any h1 h2.size id).mono fun e w' ⟨v, he, F', h3, h4, h5, h6, _⟩ => ?_
  obtain ⟨a, c, hv, _, hr, _⟩ := h6.rd
  exact ⟨a, c, by rw [he, hv], hr, F', h3, h2.trans (h4.below h2.size (fun k hk => (h1.lt k hk).1))⟩
theorem left_lv (h : Lv w0 w n most dialed l) (id : Int) :
    Calls Try.prog 13 #[.pointer (some ⟨n, 0, none⟩), .int .i64 id] w fun e w' => e = .returned (.int .i64 ((vin id l).length : Int)) ∧ w = w' := by
  obtain ⟨F, h1, h2⟩ := h
  exact left_any h1 id
theorem dial_lv (h : Lv w0 w n most dialed l) (hd : 0 ≤ dialed) (hd2 : dialed ≤ 1000000) (hnew : vfind (dialed + 1) l = none) (host : ByteArray) (hroom : (l.length : Int) < most) :
    Calls Try.prog 9 #[.pointer (some ⟨n, 0, none⟩), .string host] w fun e w' => e = .returned (.tuple #[.int .i64 (dialed + 1), .int .i64 0]) ∧ Lv w0 w' n most (dialed + 1) (l ++ [⟨dialed + 1, host, 1, [], []⟩]) := by
  obtain ⟨F, h1, h2⟩ := h
  exact (dial_any h1 h2.size hd hd2 hnew host hroom).mono fun e w' ⟨he, ht⟩ => ⟨he, Lv.to h1 h2 ht⟩
def NewLv (w0 : World) (m : Int) (e : Ending) (w' : World) : Prop := ∃ n, e = .returned (.pointer (some ⟨n, 0, none⟩)) ∧ Lv w0 w' n (max m 0) 0 []
theorem new_lv (hb : Below w0.heap.size w0 w) (m : Int) : Calls Try.prog 8 #[.int .i64 m] w (NewLv w0 m) :=
  (new_any w0.heap.size hb.size m).mono fun _e _w' ⟨n, F, he, h1, h2, _⟩ => ⟨n, he, F, h1, hb.trans (h2.mono hb.size)⟩
end
end Go.Proofs.Ytepdnmpcccgcaaa
