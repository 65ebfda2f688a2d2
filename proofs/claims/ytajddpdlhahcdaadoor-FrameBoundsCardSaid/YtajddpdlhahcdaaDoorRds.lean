/- The walks over a frame's reader where nothing is wrong: number, signed, text, flag. -/
import Derived.Test.YtajddpdlhahcdaaDoorRdr
namespace Go.Proofs.YtajddpdlhahcdaaDoor
open Go.RowKit K
set_option maxHeartbeats 300000 in
set_option maxRecDepth 100000 in
theorem number_ok (w : World) (D R : Nat) (n : Nat) (rest : List UInt8) (hn : n < 18446744073709551616) (h : RdrB w D R (putU n ++ rest)) :
    Calls Tryd.prog 30 #[.pointer (some ⟨R, 0, none⟩)] w fun e w' => e = .returned (.int .u64 n) ∧ RdrB w' D R rest ∧ Only (· = R) w w' := by
  obtain ⟨b, off, cap, h, hbD, hRD⟩ := h
  have hu := uvarint_any (some ⟨b, off, none⟩) cap (putU n ++ rest) w (by have := h.2.1; have := h.2.2.1; omega) h.2.2.2.1 h.2.2.2.2.2.2
  rw [readU_putU n rest hn] at hu
  simp only [] at hu
  obtain ⟨p, hp⟩ : ∃ p, p = putU n := ⟨_, rfl⟩
  rw [← hp] at hu h
  obtain ⟨l, hl⟩ : ∃ l, l = p ++ rest := ⟨_, rfl⟩
  rw [← hl] at hu h
  have HU := Lib.hid hu
  have H := Lib.hid h
  have HL := Lib.hid hl
  have c0 := h.c0
  clear hl
  clear hp hu h
  go_enter Tryd.func30, Tryd.ntmps30
  go_wp2_with fail
  refine HU.out.mono ?_
  rintro e w1 ⟨rfl, hb1⟩
  go_wp2_with fail
  refine (took_ok w1 R b off cap p rest (by rw [← HL.out]; exact H.out.below hb1)).mono ?_
  rintro e w2 ⟨rfl, ⟨off2, cap2, h2⟩, ho2⟩
  go_wp2
  go_ret
  exact ⟨rfl, ⟨_, _, _, h2, hbD, hRD⟩, (Only.of_new hb1).trans ho2 (fun _ _ h => h)⟩
set_option maxHeartbeats 300000 in
set_option maxRecDepth 100000 in
theorem signed_ok (w : World) (D R : Nat) (n : Int) (rest : List UInt8) (hn1 : -9223372036854775808 ≤ n) (hn2 : n ≤ 9223372036854775807) (h : RdrB w D R (putU (zig n) ++ rest)) :
    Calls Tryd.prog 31 #[.pointer (some ⟨R, 0, none⟩)] w fun e w' => e = .returned (.int .i64 n) ∧ RdrB w' D R rest ∧ Only (· = R) w w' := by
  obtain ⟨b, off, cap, h, hbD, hRD⟩ := h
  have hu := varint_any (some ⟨b, off, none⟩) cap (putU (zig n) ++ rest) w (by have := h.2.1; have := h.2.2.1; omega) h.2.2.2.1 h.2.2.2.2.2.2
  rw [readU_putU (zig n) rest (zig_lt n hn1 hn2)] at hu
  simp only [zag_zig] at hu
  obtain ⟨p, hp⟩ : ∃ p, p = putU (zig n) := ⟨_, rfl⟩
  rw [← hp] at hu h
  obtain ⟨l, hl⟩ : ∃ l, l = p ++ rest := ⟨_, rfl⟩
  rw [← hl] at hu h
  have HU := Lib.hid hu
  have H := Lib.hid h
  have HL := Lib.hid hl
  have c0 := h.c0
  clear hl
  clear hp hu h
  go_enter Tryd.func31, Tryd.ntmps31
  go_wp2_with fail
  refine HU.out.mono ?_
  rintro e w1 ⟨rfl, hb1⟩
  go_wp2_with fail
  refine (took_ok w1 R b off cap p rest (by rw [← HL.out]; exact H.out.below hb1)).mono ?_
  rintro e w2 ⟨rfl, ⟨off2, cap2, h2⟩, ho2⟩
  go_wp2
  go_ret
  exact ⟨rfl, ⟨_, _, _, h2, hbD, hRD⟩, (Only.of_new hb1).trans ho2 (fun _ _ h => h)⟩
set_option maxHeartbeats 300000 in
set_option maxRecDepth 100000 in
theorem text_ok (w : World) (D R : Nat) (t : ByteArray) (rest : List UInt8) (ht : t.size ≤ 65536) (h : RdrB w D R (putU t.size ++ t.data.toList ++ rest)) :
    Calls Tryd.prog 32 #[.pointer (some ⟨R, 0, none⟩)] w fun e w' => e = .returned (.string t) ∧ RdrB w' D R rest ∧ Only (· = R) w w' := by
  obtain ⟨b, off, cap, h, hbD, hRD⟩ := h
  have hu := text_any (some ⟨b, off, none⟩) cap (putU t.size ++ t.data.toList ++ rest) 65536 w (by have := h.2.1; have := h.2.2.1; omega) h.2.1 (by omega) (by omega) h.2.2.2.1 h.2.2.2.2.2.2
  rw [textU_put t rest 65536 (by omega) (by omega)] at hu
  have et : (⟨t.data.toList.toArray⟩ : ByteArray) = t := by cases t; simp
  simp only [et] at hu
  obtain ⟨p, hp⟩ : ∃ p, p = putU t.size ++ t.data.toList := ⟨_, rfl⟩
  have hpl : (putU t.size).length + t.size = p.length := by rw [hp, List.length_append]; rfl
  rw [← hp, hpl] at hu
  rw [← hp] at h
  obtain ⟨l, hl⟩ : ∃ l, l = p ++ rest := ⟨_, rfl⟩
  rw [← hl] at hu h
  have HU := Lib.hid hu
  have H := Lib.hid h
  have HL := Lib.hid hl
  have c0 := h.c0
  clear hl
  clear hp hu h hpl et
  go_enter Tryd.func32, Tryd.ntmps32
  go_wp2_with fail
  refine HU.out.mono ?_
  rintro e w1 ⟨rfl, hb1⟩
  go_wp2_with fail
  refine (took_ok w1 R b off cap p rest (by rw [← HL.out]; exact H.out.below hb1)).mono ?_
  rintro e w2 ⟨rfl, ⟨off2, cap2, h2⟩, ho2⟩
  go_wp2
  go_ret
  exact ⟨rfl, ⟨_, _, _, h2, hbD, hRD⟩, (Only.of_new hb1).trans ho2 (fun _ _ h => h)⟩
set_option maxHeartbeats 300000 in
set_option maxRecDepth 100000 in
theorem flag_ok (w : World) (D R : Nat) (ov : Bool) (rest : List UInt8) (h : RdrB w D R ([if ov = true then 1 else 0] ++ rest)) :
    Calls Tryd.prog 33 #[.pointer (some ⟨R, 0, none⟩)] w fun e w' => e = .returned (.bool ov) ∧ RdrB w' D R rest ∧ Only (· = R) w w' := by
  obtain ⟨b, off, cap, h, hbD, hRD⟩ := h
  have c0 := h.c0
  obtain ⟨b', off', e', cb⟩ := h.2.2.2.1 0 _ (bv_get (show 0 < ([if ov = true then 1 else 0] ++ rest : List UInt8).length by simp))
  cases e'
  have hT := took_ok w R b off cap [if ov = true then 1 else 0] rest h
  rw [List.length_append] at c0
  simp only [List.length_cons, List.length_nil] at c0 hT
  have hT := hT
  have HT := Lib.hid hT
  clear h hT
  have hne : ((0 + 1 + rest.length : Nat) : Int) ≠ 0 := by omega
  cases ov with
  | false =>
    have cb2 : w.cell? ⟨b, off, none⟩ = some (.int .u8 0) := by simpa using cb
    clear cb
    go_enter Tryd.func33, Tryd.ntmps33
    go_wp2_with fail
    refine HT.out.mono ?_
    rintro e w1 ⟨rfl, ⟨off1, cap1, h1⟩, ho1⟩
    go_wp2
    go_ret
    exact ⟨rfl, ⟨_, _, _, h1, hbD, hRD⟩, ho1⟩
  | true =>
    have cb2 : w.cell? ⟨b, off, none⟩ = some (.int .u8 1) := by simpa using cb
    clear cb
    go_enter Tryd.func33, Tryd.ntmps33
    go_wp2_with fail
    refine HT.out.mono ?_
    rintro e w1 ⟨rfl, ⟨off1, cap1, h1⟩, ho1⟩
    go_wp2
    go_ret
    exact ⟨rfl, ⟨_, _, _, h1, hbD, hRD⟩, ho1⟩
end Go.Proofs.YtajddpdlhahcdaaDoor
