/- The walk over the chapter's row, known(): it answers true. -/
import Derived.Test.YtocnjejolamdlaaDoorPutV
import Derived.Test.YtocnjejolamdlaaDoorSum
import Derived.Lib.SlBytesConst
namespace Go.Proofs.YtocnjejolamdlaaDoor
open Go.RowKit
theorem put300 : putU 300 = [172, 2] := by decide
theorem putm3 : putU (zig (-3)) = [5] := by decide
theorem sum19 : sumOf [49, 50, 51, 52, 53, 54, 55, 56, 57] = 3421780262 := by
  have e : nats [49, 50, 51, 52, 53, 54, 55, 56, 57] = [49, 50, 51, 52, 53, 54, 55, 56, 57] := by decide
  unfold sumOf
  rw [e]
  exact Crc.known
theorem ownsRow_rd {w : World} {B e n : Nat} {v : Value} {xs : List Value} (h : w.ownsRow B e 1 v n xs) : ∃ a c, v = .slice a n c ∧ n ≤ c ∧ K.Rd w a xs := K.App.cells (.inl h)
set_option maxHeartbeats 400000 in
set_option maxRecDepth 100000 in
theorem known_any (w : World) :
    Calls Tryd.prog 8 #[] w fun e w' => e = .returned (.bool true) ∧ Below w.heap.size w w' := by
  have kc := fun (w : World) (C : Array Value) (n c : Nat) => Lib.run_convert_bytes_const (P := Tryd.prog) w 26 5 C n c Tryd.underlying26 Tryd.underlying5
  go_enter Tryd.func8, Tryd.ntmps8
  go_wp2_with fail
  refine (putUvarint_any none 0 [] 300 w (by omega) (by simp) (by omega) (by simp) (fun _ => rfl) (fun k v h => by simp [K.bv] at h)).mono ?_
  rintro e w1 ⟨v, rfl, ho, hb1⟩
  rw [List.nil_append, put300] at ho
  obtain ⟨a1, c1, rfl, -, hr1⟩ := ownsRow_rd ho
  have HR1 := Lib.hid hr1
  clear hr1 ho
  go_wp2_with (first | (with_reducible refine K.step_bytes_string _ (.inl rfl) 26 9 5 _ rfl Tryd.underlying26 Tryd.underlying5 Tryd.underlying9 a1 2 c1 [172, 2] rfl rfl HR1.out ⟨#[172, 2]⟩ rfl ?_) | fail)
  refine (putVarint_any none 0 [] (-3) w1 (by omega) (by omega) (by simp) (by omega) (by simp) (fun _ => rfl) (fun k v h => by simp [K.bv] at h)).mono ?_
  rintro e w2 ⟨v, rfl, ho, hb2⟩
  rw [List.nil_append, putm3] at ho
  obtain ⟨a2, c2, rfl, -, hr2⟩ := ownsRow_rd ho
  have HR2 := Lib.hid hr2
  clear hr2 ho
  go_wp2_with (first | (with_reducible refine K.step_bytes_string _ (.inr rfl) 26 9 5 _ rfl Tryd.underlying26 Tryd.underlying5 Tryd.underlying9 a2 1 c2 [5] rfl rfl HR2.out ⟨#[5]⟩ rfl ?_) | fail)
  refine (sum_any (some ⟨w2.heap.size, 0, none⟩) 9 [49, 50, 51, 52, 53, 54, 55, 56, 57] _ (by simp) (K.Rd.new w2 _ _ _ _ (fun k v h => by simpa [K.bv] using h))).mono ?_
  rintro e w3 ⟨rfl, hb3⟩
  rw [sum19]
  go_wp2
  go_ret
  exact ⟨rfl, (hb1.trans (hb2.mono hb1.size)).trans (((Below.refl _ w2).alloc (by have := hb1.size; have := hb2.size; omega) _).trans (hb3.mono (by simp; have := hb1.size; have := hb2.size; omega)))⟩
end Go.Proofs.YtocnjejolamdlaaDoor
