/- The walk over the chapter's row, known(): it answers true. -/
import Derived.Test.YtepdnmpcccgcaaaNetL
import Derived.Lib.SlBytesConst
namespace Go.Proofs.Ytepdnmpcccgcaaa
open Go.RowKit K
def hostA : ByteArray := ⟨#[97]⟩
def k1 : List CV := [⟨1, hostA, 1, [], []⟩]
def k2 : List CV := [⟨1, hostA, 2, [], []⟩]
def k3 : List CV := [⟨1, hostA, 2, [97, 98], []⟩]
def k4 : List CV := [⟨1, hostA, 3, [97, 98], []⟩]
theorem k1_new : vfind (0 + 1) ([] : List CV) = none := rfl
theorem k1_is : ([] : List CV) ++ [⟨0 + 1, hostA, 1, [], []⟩] = k1 := rfl
theorem k2_is : vupd 1 [1] (fun v => { v with st := 2 }) k1 = k2 := rfl
theorem k2_c : (vget 1 [1] k1).2 = 0 := rfl
theorem k3_is : vupd 1 [2] (fun v => { v with inn := v.inn ++ [97, 98] }) k2 = k3 := rfl
theorem k3_c : (vget 1 [2] k2).2 = 0 := rfl
theorem k4_is : vupd 1 [2] (fun v => { v with st := 3 }) k3 = k4 := rfl
theorem k4_c : (vget 1 [2] k3).2 = 0 := rfl
theorem k5_is : vupd 1 [2] (fun v => { v with inn := v.inn ++ [99] }) k4 = k4 := rfl
theorem k5_c : (vget 1 [2] k4).2 = 7 := rfl
theorem k6 : vin 1 k4 = [97, 98] := rfl
set_option maxHeartbeats 1000000 in
set_option maxRecDepth 100000 in
theorem known_any (w : World) :
    Calls Try.prog 7 #[] w fun e w' => e = .returned (.bool true) ∧ Below w.heap.size w w' := by
  have kc := fun (w : World) (C : Array Value) (n c : Nat) => Lib.run_convert_bytes_const (P := Try.prog) w 22 5 C n c Try.underlying22 Try.underlying5
  go_enter Try.func7, Try.ntmps7
  go_wp2_with fail
  refine (new_lv (Below.refl _ _) 3).mono ?_
  rintro e w1 ⟨n, rfl, h1⟩
  have H1 := Lib.hid h1
  clear h1
  go_wp2_with fail
  have hd := dial_lv H1.out (by omega) (by omega) k1_new hostA (by decide)
  rw [k1_is] at hd
  refine hd.mono ?_
  clear hd
  rintro e w2 ⟨rfl, h2⟩
  have H2 := Lib.hid h2
  clear h2
  go_wp2_with fail
  have hd := accept_lv H2.out 1
  rw [k2_is, k2_c] at hd
  refine hd.mono ?_
  clear hd
  rintro e w3 ⟨rfl, h3⟩
  have H3 := Lib.hid h3
  clear h3
  go_wp2_with fail
  have hs : Below w3.heap.size w3 (w3.alloc (.cells #[.int .u8 97, .int .u8 98] 5 (2, 3))) := (Below.refl _ _).alloc (Nat.le_refl _) _
  have hd := arrive_lv (H3.out.step hs) 1 (some ⟨w3.heap.size, 0, none⟩) 2 [97, 98] (Rd.new w3 _ _ _ _ (fun k v h => by simpa [bv] using h)) (by simp [k2])
  rw [k3_is, k3_c] at hd
  refine hd.mono ?_
  clear hd hs
  rintro e w4 ⟨rfl, h4⟩
  have H4 := Lib.hid h4
  clear h4
  go_wp2_with fail
  have hd := end_lv H4.out 1
  rw [k4_is, k4_c] at hd
  refine hd.mono ?_
  clear hd
  rintro e w5 ⟨rfl, h5⟩
  have H5 := Lib.hid h5
  clear h5
  go_wp2_with fail
  have hs : Below w5.heap.size w5 (w5.alloc (.cells #[.int .u8 99] 5 (1, 2))) := (Below.refl _ _).alloc (Nat.le_refl _) _
  have hd := arrive_lv (H5.out.step hs) 1 (some ⟨w5.heap.size, 0, none⟩) 1 [99] (Rd.new w5 _ _ _ _ (fun k v h => by simpa [bv] using h)) (by simp [k4])
  rw [k5_is, k5_c] at hd
  refine hd.mono ?_
  clear hd hs
  rintro e w6 ⟨rfl, h6⟩
  have H6 := Lib.hid h6
  clear h6
  go_wp2_with fail
  refine (read_lv H6.out 1).mono ?_
  rintro e w7 ⟨a, c, rfl, hr, h7⟩
  rw [k6] at hr
  have HR := Lib.hid hr
  have HB := Lib.hid h7.bel
  clear hr h7
  go_wp2_with (first | (with_reducible refine step_bytes_string _ (.inl rfl) 22 9 5 _ rfl Try.underlying22 Try.underlying5 Try.underlying9 a 2 c [97, 98] rfl rfl HR.out ⟨#[97, 98]⟩ rfl ?_) | fail)
  go_ret
  exact ⟨rfl, HB.out⟩
end Go.Proofs.Ytepdnmpcccgcaaa
