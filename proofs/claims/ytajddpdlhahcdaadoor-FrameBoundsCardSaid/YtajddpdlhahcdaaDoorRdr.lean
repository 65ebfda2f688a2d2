/- The walks over a frame's reader where nothing is wrong: took, number, signed, text, flag. -/
import Derived.Test.YtajddpdlhahcdaaDoorUy
import Derived.Test.YtajddpdlhahcdaaDoorFoot
import Derived.Test.YtajddpdlhahcdaaDoorFrP
import Derived.Test.YtajddpdlhahcdaaDoorFrV
namespace Go.Proofs.YtajddpdlhahcdaaDoor
open Go.RowKit K
/-- A reader in block R: the bytes that are left, and nothing that was wrong. -/
def RdrIs (w : World) (R b off : Nat) (l : List UInt8) (cap : Nat) : Prop :=
  w.heap[R]? = some (.cells #[.slice (some ⟨b, off, none⟩) l.length cap, .nilIface] 56 (0, 0)) ∧ l.length ≤ cap ∧ cap ≤ 9223372036854775807 ∧ Rd w (some ⟨b, off, none⟩) (bv l) ∧ b ≠ R ∧ 0 < R ∧ GErr w
/-- A reader whose bytes lie below D. -/
def RdrB (w : World) (D R : Nat) (l : List UInt8) : Prop := ∃ b off cap, RdrIs w R b off l cap ∧ b < D ∧ R < D
section
variable {w w' : World} {R b off cap : Nat} {l : List UInt8}
theorem RdrIs.c0 (h : RdrIs w R b off l cap) : w.cell? ⟨R, 0, none⟩ = some (.slice (some ⟨b, off, none⟩) l.length cap) := by rw [cell_of_row _ _ _ _ _ _ h.1]; rfl
theorem RdrIs.c1 (h : RdrIs w R b off l cap) : w.cell? ⟨R, 1, none⟩ = some .nilIface := by rw [cell_of_row _ _ _ _ _ _ h.1]; rfl
theorem RdrIs.f0 (h : RdrIs w R b off l cap) : w.frozen? ⟨R, 0, none⟩ = false := frozen_of_row w R 0 _ _ h.1
theorem RdrIs.below (h : RdrIs w R b off l cap) (hb : Below w.heap.size w w') : RdrIs w' R b off l cap := by
  obtain ⟨h1, h2, h3, h4, h5, h6, h7⟩ := h
  have hR := (Array.getElem?_eq_some_iff.1 h1).1
  exact ⟨(hb.block R hR).trans h1, h2, h3, h4.below hb (Nat.le_refl _), h5, h6, h7.below hb (by omega)⟩
theorem RdrIs.lt (h : RdrIs w R b off l cap) : R < w.heap.size := (Array.getElem?_eq_some_iff.1 h.1).1
theorem RdrB.only {F : Nat → Prop} {D : Nat} (h : RdrB w D R l) (ho : Only F w w') (hF : ∀ k, F k → D ≤ k) : RdrB w' D R l := by
  obtain ⟨b, off, cap, ⟨h1, h2, h3, h4, h5, h6, h7⟩, hb, hR⟩ := h
  exact ⟨b, off, cap, ⟨ho.heap h1 (fun e => by have := hF _ e; omega), h2, h3, ho.rd h4 (fun ad e => by cases e; intro e2; have := hF _ e2; simp only at this; omega), h5, h6, ho.cell h7 (fun e => by have := hF _ e; simp only at this; omega)⟩, hb, hR⟩
/-- How the reader goes on. -/
theorem RdrIs.step {x rest : List UInt8} (h : RdrIs w R b off (x ++ rest) cap) : RdrIs (w.setCell ⟨R, 0, none⟩ (.slice (some ⟨b, off + x.length, none⟩) rest.length (cap - x.length))) R b (off + x.length) rest (cap - x.length) := by
  obtain ⟨h1, h2, h3, h4, h5, h6, h7⟩ := h
  have ho := (Only.refl (· = R) w).setCell ⟨R, 0, none⟩ (.slice (some ⟨b, off + x.length, none⟩) rest.length (cap - x.length)) (fun _ => rfl)
  rw [List.length_append] at h2
  refine ⟨?_, by omega, by omega, ?_, h5, h6, ?_⟩
  · rw [heap_setCell_same _ _ _ _ _ _ h1]; rfl
  · have := rd_drop h4 x.length
    rw [List.drop_left] at this
    exact ho.rd this (fun ad e => by cases e; exact h5)
  · exact ho.cell h7 (fun e => by have e : (0 : Nat) = R := e; omega)
end
theorem RdrIs.last {w : World} {R b off : Nat} {x : List UInt8} (h : RdrIs w R b off (x ++ []) x.length) : RdrIs (w.setCell ⟨R, 0, none⟩ (.slice (some ⟨b, off, none⟩) 0 0)) R b off [] 0 := by
  obtain ⟨h1, h2, h3, h4, h5, h6, h7⟩ := h
  have ho := (Only.refl (· = R) w).setCell ⟨R, 0, none⟩ (.slice (some ⟨b, off, none⟩) 0 0) (fun _ => rfl)
  refine ⟨?_, by simp, by omega, Rd.nil _ _, h5, h6, ?_⟩
  · rw [heap_setCell_same _ _ _ _ _ _ h1]; rfl
  · exact ho.cell h7 (fun e => by have e : (0 : Nat) = R := e; omega)
set_option maxHeartbeats 1000000 in
theorem took_ok (w : World) (R b off cap : Nat) (x rest : List UInt8) (h : RdrIs w R b off (x ++ rest) cap) :
    Calls Tryd.prog 37 #[.pointer (some ⟨R, 0, none⟩), .int .i64 x.length, .int .i64 0] w fun e w' => e = .returned (.bool true) ∧ (∃ off' cap', RdrIs w' R b off' rest cap') ∧ Only (· = R) w w' := by
  have c0 := h.c0
  have c1 := h.c1
  have f0 := h.f0
  have hcap := h.2.1
  rw [List.length_append] at c0 hcap
  by_cases hz : cap = x.length
  · obtain rfl : rest = [] := List.eq_nil_of_length_eq_zero (by omega)
    subst hz
    have HS := Lib.hid h.last
    simp only [List.length_nil, Nat.add_zero] at c0 hcap
    clear h
    go_enter Tryd.func37, Tryd.ntmps37
    go_wp2
    go_ret
    exact ⟨rfl, ⟨_, _, HS.out⟩, (Only.refl _ w).setCell _ _ (fun _ => rfl)⟩
  · have HS := Lib.hid h.step
    have hl2 : x.length + rest.length - x.length = rest.length := by omega
    have hb1 : (x.length : Int) ≤ x.length + rest.length := by omega
    clear h
    go_enter Tryd.func37, Tryd.ntmps37
    go_wp2
    go_ret
    exact ⟨rfl, ⟨_, _, HS.out⟩, (Only.refl _ w).setCell _ _ (fun _ => rfl)⟩
end Go.Proofs.YtajddpdlhahcdaaDoor
