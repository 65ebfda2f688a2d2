/- The walks over the chapter's frame and its row. -/
import Derived.Test.YtajddpdlhahcdaaDoorFrK
namespace Go.Proofs.YtajddpdlhahcdaaDoor
open Go.RowKit K
def oneR : Rec := ⟨⟨#[97]⟩, 2, 3, 4, false⟩
theorem one_may : mayB 1 2 [oneR] = true := by decide
theorem one_enc : ∃ c : List UInt8, c.length = 4 ∧ encB 1 2 [oneR] = [79, 68, 79, 1, 1, 4, 1, 1, 97, 3, 4, 0] ++ c :=
  ⟨sum4 (sumOf (bodyB 1 2 [oneR] 1)), rfl, by
    have e : bodyB 1 2 [oneR] 1 = [79, 68, 79, 1, 1, 4, 1, 1, 97, 3, 4, 0] := by decide
    unfold encB
    show bodyB 1 2 [oneR] 1 ++ sum4 (sumOf (bodyB 1 2 [oneR] 1)) = _
    rw [e]⟩
set_option maxHeartbeats 400000 in
theorem one_any (w : World) :
    Calls Tryd.prog 14 #[] w fun e w' => ∃ g, e = .returned (frv 1 2 (.slice (some ⟨g, 0, none⟩) 1 1)) ∧ Below w.heap.size w w' ∧ Rd w' (some ⟨g, 0, none⟩) (rcf [oneR]) := by
  go_enter Tryd.func14, Tryd.ntmps14
  go_wp2
  go_returns
  refine ⟨_, rfl, ?_, ?_⟩
  · go_grown
  · intro k v hv
    refine ⟨_, 0, rfl, ?_⟩
    have hb := heap_alloc_new (w.alloc (.cells #[.int .u64 1, .int .i64 2, .slice (some ⟨w.heap.size + 1, 0, none⟩) 1 1] 25)) (.cells #[.string ⟨#[97]⟩, .int .i64 2, .int .i64 3, .int .i64 4, .bool false] 40)
    rw [World.size_alloc] at hb
    rw [Nat.zero_add, cell_of_row _ _ _ _ _ _ hb]
    simpa [rcf, Rec.cells, oneR] using hv
set_option maxHeartbeats 1000000 in
set_option maxRecDepth 100000 in
theorem known_any (w : World) :
    Calls Tryd.prog 7 #[] w fun e w' => e = .returned (.bool true) ∧ Below w.heap.size w w' := by
  go_enter Tryd.func7, Tryd.ntmps7
  go_wp2_with fail
  refine (one_any w).mono ?_
  rintro e w1 ⟨g, rfl, hb1, hr1⟩
  go_wp2_with fail
  refine (encode_yes w1 1 2 (some ⟨g, 0, none⟩) 1 [oneR] (by omega) (by omega) (by omega) (by omega) (by simp) (fun x hx => by simp at hx; subst hx; unfold RecFit oneR; decide) (fun x hx => by simp at hx; subst hx; decide) hr1 one_may).mono ?_
  rintro e w2 ⟨v, rfl, ho, hb2⟩
  obtain ⟨c4, hc4, hen⟩ := one_enc
  have hlen : (encB 1 2 [oneR]).length = 16 := by rw [hen, List.length_append, hc4]; rfl
  obtain ⟨a, c, rfl, hc, -, -, hrd⟩ := own_slice ho
  rw [hlen] at hc ⊢
  have hr12 : Rd w2 (cutA a c 0) (bv [79, 68, 79, 1, 1, 4, 1, 1, 97, 3, 4, 0]) := by
    have := hrd.cut c 0 12 (by simp [bv, hlen]; omega)
    have e : ((bv (encB 1 2 [oneR])).take 12).drop 0 = bv [79, 68, 79, 1, 1, 4, 1, 1, 97, 3, 4, 0] := by rw [hen]; simp [bv]
    rw [e] at this
    exact this
  have HR := Lib.hid hr12
  have HB := Lib.hid (hb1.trans (hb2.mono hb1.size))
  clear hr12 hrd ho hen hlen hb1 hb2 hr1
  go_wp2_with (first
    | (with_reducible refine step_cut0 (.inr rfl) 28 5 _ _ rfl Tryd.underlying28 info_b1 a 16 c rfl 12 rfl 12 rfl ?g1 ?_)
    | (with_reducible refine step_bytes_string _ (.inr rfl) 28 9 5 _ rfl Tryd.underlying28 Tryd.underlying5 Tryd.underlying9 (cutA a c 0) 12 c [79, 68, 79, 1, 1, 4, 1, 1, 97, 3, 4, 0] rfl rfl HR.out ⟨#[79, 68, 79, 1, 1, 4, 1, 1, 97, 3, 4, 0]⟩ rfl ?_)
    | fail)
  case g1 => omega
  go_ret
  exact ⟨rfl, HB.out⟩
end Go.Proofs.YtajddpdlhahcdaaDoor
