/- The walk over the reference's record at what an encoder wrote. -/
import Derived.Test.YtdomnjakhecbaaaRRf
import Derived.Handy
namespace Go.Proofs.Ytdomnjakhecbaaa
open Go.RowKit K
theorem drop_more {α : Type} {l x r : List α} {a : Nat} (h : l.drop a = x ++ r) : l.drop (a + x.length) = r := by
  rw [← List.drop_drop, h, List.drop_left]
def RecOk (w : World) (x : Rec) (p : Nat) (e : Ending) (w' : World) : Prop :=
  e = .returned (.tuple #[.agg x.cells, .int .i64 p, .int .i64 0]) ∧ Below w.heap.size w w'
set_option maxHeartbeats 2000000 in
set_option maxRecDepth 100000 in
theorem rrecord_ok (w : World) (a : Option Addr) (c p0 p1 p2 p3 p4 : Nat) (x : Rec) (l rest : List UInt8) (hl : l.length ≤ 140737488355328) (hc : l.length ≤ c) (hd : l.drop p0 = recB x ++ rest) (hn : x.name.size ≤ 65536) (hi : 0 ≤ x.inc ∧ x.inc ≤ 9223372036854775807) (hrt : 0 ≤ x.rate ∧ x.rate ≤ 9223372036854775807)
    (h1 : p1 = p0 + (putU x.name.size).length) (h2 : p2 = p1 + x.name.size) (h3 : p3 = p2 + (putU x.inc.toNat).length) (h4 : p4 = p3 + (putU x.rate.toNat).length) (hr : Rd w a (bv l)) :
    Calls Try.prog 36 #[.slice a l.length c, .int .i64 p0, .int .i64 x.win] w (RecOk w x (p4 + 1)) := by
  obtain ⟨name, win, inc, rate, over⟩ := x
  simp only at hn hi hrt h1 h2 h3 h4 hd ⊢
  obtain ⟨inc, rfl⟩ : ∃ k : Nat, inc = k := ⟨inc.toNat, by omega⟩
  obtain ⟨rate, rfl⟩ : ∃ k : Nat, rate = k := ⟨rate.toNat, by omega⟩
  simp only [Int.toNat_natCast] at h3 h4
  have e1 : l.drop p0 = putU name.size ++ (name.data.toList ++ (putU inc ++ (putU rate ++ ([if over = true then 1 else 0] ++ rest)))) := by
    rw [hd]
    simp [recB]
  have e2 := drop_more e1
  rw [← h1] at e2
  have e3 := drop_more e2
  rw [show name.data.toList.length = name.size from rfl, ← h2] at e3
  have e4 := drop_more e3
  rw [← h3] at e4
  have e5 := drop_more e4
  rw [← h4] at e5
  have hl5 := congrArg List.length e5
  rw [List.length_drop, List.length_append] at hl5
  simp only [List.length_cons, List.length_nil] at hl5
  have hp4 : p4 < l.length := by omega
  obtain ⟨ab, ao, rfl, hab, hcl⟩ := hr.at (bv_get hp4)
  have hb4 : l[p4] = if over = true then 1 else 0 := by
    have := List.drop_eq_getElem_cons hp4
    rw [e5] at this
    simpa using (List.cons.inj this).1.symm
  have hcell : w.cell? ⟨ab, ao + p4, none⟩ = some (.int .u8 (if over = true then 1 else 0)) := by
    rw [hcl, hb4]
    cases over <;> rfl
  have HN1 := Lib.hid (fun W (hb : Below w.heap.size w W) => rnumber_ok W (some ⟨ab, ao, none⟩) c p0 name.size l _ (by omega) hl hc e1 (hr.below hb (Nat.le_refl _)))
  have HN2 := Lib.hid (fun W (hb : Below w.heap.size w W) => rnumber_ok W (some ⟨ab, ao, none⟩) c p2 inc l _ (by omega) hl hc e3 (hr.below hb (Nat.le_refl _)))
  have HN3 := Lib.hid (fun W (hb : Below w.heap.size w W) => rnumber_ok W (some ⟨ab, ao, none⟩) c p3 rate l _ (by omega) hl hc e4 (hr.below hb (Nat.le_refl _)))
  have hnm : (l.drop p1).take name.size = name.data.toList := by
    rw [e2]
    exact List.take_left
  have hrn : Rd w (some ⟨ab, ao + p1, none⟩) (bv name.data.toList) := by
    rw [← hnm]
    exact rdd_take (rdd_drop hr p1) _
  obtain ⟨L, hL⟩ : ∃ L, L = l.length := ⟨_, rfl⟩
  rw [← h1] at HN1
  rw [← h3] at HN2
  rw [← h4] at HN3
  rw [← hL] at HN1 HN2 HN3 hl hc hp4 ⊢
  have q1 : p0 ≤ p1 := by omega
  have q2 : p1 ≤ p2 := by omega
  have q3 : p2 ≤ p3 := by omega
  have q4 : p3 ≤ p4 := by omega
  have q5 : (p2 : Int) = p1 + name.size := by omega
  have hne : ¬ c = p1 := by omega
  have q6 : (name.size : Int) ≤ L - p1 := by omega
  have q7 : p1 + name.size ≤ L := by omega
  have HRN := Lib.hid hrn
  rw [q5] at HN2
  have HCELL := Lib.hid hcell
  clear hrn hnm hcl hr hb4 hl5 e1 e2 e3 e4 e5 hd h1 h2 h3 h4 hL q5 hcell
  go_enter Try.func36, Try.ntmps36
  go_wp2_with fail
  refine (HN1.out _ (((Below.refl _ _).alloc (Nat.le_refl _) _).alloc (by simp) _)).mono ?_
  rintro e w1 ⟨rfl, rfl⟩
  have hcv : ∀ A B, Sem.run Try.prog (convert 34 9 (.slice (some ⟨ab, ao + p1, none⟩) name.size (c - p1))) ((w.alloc A).alloc B) = .ok (.string name) ((w.alloc A).alloc B) := fun A B => by
    have h := run_bytes_string (P := Try.prog) ((w.alloc A).alloc B) 34 9 5 Try.underlying34 Try.underlying5 Try.underlying9 (some ⟨ab, ao + p1, none⟩) (c - p1) name.data.toList (HRN.out.below (((Below.refl _ _).alloc (Nat.le_refl _) _).alloc (by simp) _) (Nat.le_refl _))
    exact h
  go_wp2_with fail
  refine (HN2.out _ ?_).mono ?_
  · go_grown
  rintro e w2 ⟨rfl, rfl⟩
  go_wp2_with fail
  refine (HN3.out _ ?_).mono ?_
  · go_grown
  rintro e w3 ⟨rfl, rfl⟩
  have hcell : w.cell? ⟨ab, ao + p4, none⟩ = some (.int .u8 (if over = true then 1 else 0)) := HCELL.out
  cases over with
  | true =>
    simp only [if_true] at hcell
    go_wp2_with fail
    go_returns
    exact ⟨rfl, by go_grown⟩
  | false =>
    simp only [Bool.false_eq_true, if_false] at hcell
    go_wp2_with fail
    go_returns
    exact ⟨rfl, by go_grown⟩
end Go.Proofs.Ytdomnjakhecbaaa
