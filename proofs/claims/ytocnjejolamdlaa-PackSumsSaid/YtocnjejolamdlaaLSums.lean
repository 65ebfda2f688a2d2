/- The walk over the law PackSums: it answers true, and turns nothing that was there. -/
import Derived.Test.YtocnjejolamdlaaKnown
import Derived.Test.YtocnjejolamdlaaRSum
namespace Go.Proofs.Ytocnjejolamdlaa
open Go.RowKit
theorem sum_nil : sumOf [] = 0 := by decide
set_option maxHeartbeats 1000000 in
set_option maxRecDepth 100000 in
theorem packSums_any (a : Option Addr) (c : Nat) (l : List UInt8) (at_ by_ : Int) (w : World) (hl0 : l.length ≤ 9223372036854775807) (h1 : -9223372036854775808 ≤ at_) (h2 : at_ ≤ 9223372036854775807) (h3 : 0 ≤ by_) (h4 : by_ ≤ 255) (hr : K.Rd w a (K.bv l)) :
    Calls Try.prog 3 #[.slice a l.length c, .int .i64 at_, .int .u8 by_] w fun e w' => e = .returned (.bool true) ∧ Below w.heap.size w w' := by
  have HR := Lib.hid hr
  clear hr
  by_cases c1 : 2000 < l.length
  · go_enter Try.func3, Try.ntmps3
    go_wp2_with fail
    refine (sum_any none 0 [] w (by simp) (K.Rd.nil _ _)).mono ?_
    rintro e w1 ⟨rfl, hb1⟩
    rw [sum_nil]
    go_wp2_with fail
    refine (known_any w1).mono ?_
    rintro e w2 ⟨rfl, hb2⟩
    go_wp2
    go_ret
    exact ⟨rfl, hb1.trans (hb2.mono hb1.size)⟩
  by_cases c2 : at_ < 0
  · go_enter Try.func3, Try.ntmps3
    go_wp2_with fail
    refine (sum_any none 0 [] w (by simp) (K.Rd.nil _ _)).mono ?_
    rintro e w1 ⟨rfl, hb1⟩
    rw [sum_nil]
    go_wp2_with fail
    refine (known_any w1).mono ?_
    rintro e w2 ⟨rfl, hb2⟩
    go_wp2
    go_ret
    exact ⟨rfl, hb1.trans (hb2.mono hb1.size)⟩
  by_cases c3 : (l.length : Int) ≤ at_
  · go_enter Try.func3, Try.ntmps3
    go_wp2_with fail
    refine (sum_any none 0 [] w (by simp) (K.Rd.nil _ _)).mono ?_
    rintro e w1 ⟨rfl, hb1⟩
    rw [sum_nil]
    go_wp2_with fail
    refine (known_any w1).mono ?_
    rintro e w2 ⟨rfl, hb2⟩
    go_wp2
    go_ret
    exact ⟨rfl, hb1.trans (hb2.mono hb1.size)⟩
  by_cases c4 : by_ = 0
  · subst c4
    · go_enter Try.func3, Try.ntmps3
      go_wp2_with fail
      refine (sum_any none 0 [] w (by simp) (K.Rd.nil _ _)).mono ?_
      rintro e w1 ⟨rfl, hb1⟩
      rw [sum_nil]
      go_wp2_with fail
      refine (known_any w1).mono ?_
      rintro e w2 ⟨rfl, hb2⟩
      go_wp2
      go_ret
      exact ⟨rfl, hb1.trans (hb2.mono hb1.size)⟩
  have hl : l.length ≤ 140737488355328 := by omega
  have c4' : (by_ == 0) = false := by rw [beq_eq_false_iff_ne]; exact c4
  obtain ⟨i, rfl⟩ := Int.eq_ofNat_of_zero_le (show 0 ≤ at_ by omega)
  obtain ⟨y, rfl⟩ := Int.eq_ofNat_of_zero_le h3
  have hi : i < l.length := by omega
  obtain ⟨b, off, rfl, hbl, -⟩ := HR.out.at (K.bv_get hi)
  obtain ⟨i0, hi0, hz0, hz1, hz2⟩ := info_parts info_byte
  go_enter Try.func3, Try.ntmps3
  go_wp2_with (first
    | (at_builtin; refine K.step_append_app _ rfl _ _ 22 rfl w.heap.size 5 i0 (.int .u8 0) 1 1 Try.underlying22 hi0 hz0 hz1 hz2 rfl (by decide) _ 0 [] rfl (.inl (World.ownsRow_nil _ _ _ _)) ⟨b, off, none⟩ l.length c (K.bv l) rfl ?g0 ?g1 ?g2 ?g3 ?g4 ?g5 (Nat.le_refl _) ?_)
    | fail)
  case g0 => simp [K.bv]
  case g1 =>
    intro j u hu
    obtain ⟨b', off', e', hcl⟩ := HR.out j u hu
    cases e'
    exact hcl
  case g2 => exact K.bv_one l
  case g3 => omega
  case g4 => unfold maxLen; omega
  intro v' w2 hown hb2
  obtain ⟨hln, hcase⟩ := hown
  rcases hcase with ⟨-, hn0⟩ | ⟨g, cap, cur, rfl, hg, hblk, hcap, hcm, hcs, htake⟩
  · omega
  have hcs' : cur.size = cap := by simpa using hcs
  have hrd2 : K.Rd w2 (some ⟨g, 0, none⟩) (K.bv l) := by
    intro k v hv
    refine ⟨g, 0, rfl, ?_⟩
    rw [Nat.zero_add, cell_of_row _ _ _ _ _ _ hblk]
    have htk : cur.toList.take l.length = K.bv l := by simpa using htake
    rw [← htk, List.getElem?_take] at hv
    split at hv
    · simpa using hv
    · cases hv
  have HCS := Lib.hid hcs'
  have HBLK := Lib.hid hblk
  have HTK := Lib.hid htake
  have HRD := Lib.hid hrd2
  have HLN := Lib.hid hln
  clear hcs hcs' hblk htake hrd2 hln
  have hglt : g < w2.heap.size := (Array.getElem?_eq_some_iff.1 HBLK.out).1
  go_wp2_with fail
  refine (sum_any (some ⟨g, 0, none⟩) cap l w2 hl HRD.out).mono ?_
  rintro e w3 ⟨rfl, hb3⟩
  have hb23 : Below w.heap.size w w3 := hb2.trans (hb3.mono hb2.size)
  go_wp2_with fail
  refine (rsum_any (some ⟨b, off, none⟩) c l w3 hl (HR.out.below hb23 (Nat.le_refl _))).mono ?_
  rintro e w3' ⟨rfl, rfl⟩
  have hblk3 : w3.heap[g]? = some (.cells cur 5) := (hb3.block g hglt).trans HBLK.out
  have hc3 : w3.cell? ⟨g, i, none⟩ = some (.int .u8 (l[i].toNat : Int)) := by
    obtain ⟨b', off', e', hcl⟩ := (HRD.out.below hb3 (Nat.le_refl _)) i _ (K.bv_get hi)
    cases e'
    simpa using hcl
  have hf3 : w3.frozen? ⟨g, i, none⟩ = false := frozen_of_row w3 g i cur 5 hblk3
  have HB3 := Lib.hid hblk3
  clear hblk3
  have hx := l[i].toNat_lt
  obtain ⟨x, hxe⟩ : ∃ x, x = l[i].toNat := ⟨_, rfl⟩
  rw [← hxe] at hc3 hx
  have HX := Lib.hid hxe
  clear hxe
  have hbits : bits .xor .u8 (x : Int) (y : Int) = ((x ^^^ y : Nat) : Int) := u8_xor_nat x y (by omega) (by omega)
  have hxy : x ^^^ y < 256 := Nat.xor_lt_two_pow (n := 8) (by omega) (by omega)
  go_wp2_with (first
    | (with_reducible refine K.step_bytes_string _ (.inr rfl) 22 9 5 _ rfl Try.underlying22 Try.underlying5 Try.underlying9 (some ⟨g, 0, none⟩) l.length cap l rfl rfl (HRD.out.below hb3 (Nat.le_refl _)) ⟨l.toArray⟩ rfl ?_)
    | (with_reducible refine K.step_bytes_string _ (.inr rfl) 22 9 5 _ rfl Try.underlying22 Try.underlying5 Try.underlying9 (some ⟨b, off, none⟩) l.length c l rfl rfl (HR.out.below hb23 (Nat.le_refl _)) ⟨l.toArray⟩ rfl ?_)
    | fail)
  have hset : K.bv (l.set i (UInt8.ofNat (x ^^^ y))) = (K.bv l).set i (.int .u8 ((x ^^^ y : Nat) : Int)) := by
    unfold K.bv
    rw [List.map_set, K.u8_of hxy]
  have hrd4 : K.Rd (w3.setCell ⟨g, i, none⟩ (.int .u8 ((x ^^^ y : Nat) : Int))) (some ⟨g, 0, none⟩) (K.bv (l.set i (UInt8.ofNat (x ^^^ y)))) := by
    intro k v hv
    refine ⟨g, 0, rfl, ?_⟩
    rw [hset, List.getElem?_set] at hv
    by_cases hk : i = k
    · subst hk
      rw [Nat.zero_add, World.cell?_setCell_same _ _ _ hc3]
      rw [if_pos rfl] at hv
      split at hv
      · exact hv
      · cases hv
    · rw [if_neg hk] at hv
      rw [World.cell?_setCell_other _ _ _ _ (by simp)]
      obtain ⟨b', off', e', hcl⟩ := (HRD.out.below hb3 (Nat.le_refl _)) k v hv
      cases e'
      exact hcl
  have hne : sumOf (l.set i (UInt8.ofNat (x ^^^ y))) ≠ sumOf l := by
    unfold sumOf nats
    rw [List.map_set]
    refine Crc.sum_set_ne (by simpa using hi) (by rw [K.u8_of hxy]; exact hxy) ?_ (nats_lt l)
    simp only [List.getElem_map, ← HX.out]
    intro hcon
    rw [K.u8_of hxy] at hcon
    have h6 : x ^^^ 0 = x ^^^ y := by simpa using hcon
    have h7 := Crc.xor_cancel_left h6
    omega
  have hneb : ((sumOf (l.set i (UInt8.ofNat (x ^^^ y))) : Int) != (sumOf l : Int)) = true := by
    rw [bne_iff_ne]; omega
  have hlen : (l.set i (UInt8.ofNat (x ^^^ y))).length = l.length := List.length_set
  have HLEN := Lib.hid hlen
  clear hlen hset hne
  have hs := sum_any (some ⟨g, 0, none⟩) cap (l.set i (UInt8.ofNat (x ^^^ y))) _ (by rw [HLEN.out]; exact hl) hrd4
  rw [HLEN.out] at hs
  generalize sumOf (l.set i (UInt8.ofNat (x ^^^ y))) = s2 at hs hneb
  refine hs.mono ?_
  rintro e w5 ⟨rfl, hb5⟩
  clear hs
  go_wp2_with fail
  refine (known_any w5).mono ?_
  rintro e w6 ⟨rfl, hb6⟩
  go_wp2
  go_ret
  have h8 : Below w.heap.size w (w3.setCell ⟨g, i, none⟩ (.int .u8 ((x ^^^ y : Nat) : Int))) := hb23.setCell hg _
  have h9 := h8.trans (hb5.mono h8.size)
  exact ⟨rfl, h9.trans (hb6.mono h9.size)⟩
end Go.Proofs.Ytocnjejolamdlaa
