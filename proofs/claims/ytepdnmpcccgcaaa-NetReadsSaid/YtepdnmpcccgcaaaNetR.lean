/- The walk over the law NetReads: it answers true, and turns nothing that was there. -/
import Derived.Test.YtepdnmpcccgcaaaNetK
namespace Go.Proofs.Ytepdnmpcccgcaaa
open Go.RowKit K
theorem info_byte1 : (Try.prog.info? 5).map (·.size) = some 1 := by kernel_rfl
def bs (l : List UInt8) : ByteArray := ⟨l.toArray⟩
theorem bs_is (l : List UInt8) : bs l = ⟨l.toArray⟩ := rfl
theorem bs_size (l : List UInt8) : (bs l).size = l.length := by simp [bs, ByteArray.size]
theorem bs_append (l m : List UInt8) : bs l ++ bs m = bs (l ++ m) := by
  apply ByteArray.ext
  simp [bs]
def pd (l : List UInt8) : List CV := [⟨1, hostA, 2, l, []⟩]
theorem pd_new : vfind (0 + 1) ([] : List CV) = none := rfl
theorem pd_open : vupd 1 [1] (fun v => { v with st := 2 }) ([] ++ [⟨0 + 1, hostA, 1, [], []⟩]) = pd [] := rfl
theorem pd_c (l m : List UInt8) : vupd 1 [2] (fun v => { v with inn := v.inn ++ m }) (pd l) = pd (l ++ m) := rfl
theorem pd_c0 (l : List UInt8) : (vget 1 [2] (pd l)).2 = 0 := rfl
theorem pd_r (l : List UInt8) : vupd 1 [] (fun v => { v with inn := [] }) (pd l) = pd [] := rfl
theorem pd_v (l : List UInt8) : vin 1 (pd l) = l := rfl
def pe (l : List UInt8) : List CV := [⟨1, hostA, 3, l, []⟩]
theorem pe_is (l : List UInt8) : vupd 1 [2] (fun v => { v with st := 3 }) (pd l) = pe l := rfl
theorem pe_r (l : List UInt8) : vupd 1 [] (fun v => { v with inn := [] }) (pe l) = pe [] := rfl
theorem pe_v (l : List UInt8) : vin 1 (pe l) = l := rfl
theorem take_drop_join (l : List UInt8) (g a k : Nat) (h : g ≤ a) (h2 : a + k ≤ l.length) : (l.take a).drop g ++ (l.take (a + k)).drop a = (l.take (a + k)).drop g := by
  have e : l.take (a + k) = l.take a ++ (l.drop a).take k := List.take_add
  have hl : (l.take a).length = a := by simp; omega
  rw [e, List.drop_append_of_le_length (by omega), List.drop_append_of_le_length (by omega)]
  rw [show (l.take a).drop a = [] from List.drop_eq_nil_of_le (by omega)]
  rfl
theorem bv_cut (l : List UInt8) (i j : Nat) : ((bv l).take j).drop i = bv ((l.take j).drop i) := by simp [bv]
theorem strv (s : ByteArray) : (s.toList != s.toList) = false := by simp
set_option maxHeartbeats 4000000 in
set_option maxRecDepth 100000 in
theorem netReads_any (a0 : Option Addr) (c : Nat) (l : List UInt8) (a1 : Option Addr) (c1 : Nat) (zs : List Int) (w : World) (hlc : l.length ≤ c) (hcm : c ≤ 9223372036854775807) (hzm : zs.length ≤ 9223372036854775807)
    (hz : ∀ z ∈ zs, -9223372036854775808 ≤ z ∧ z ≤ 9223372036854775807) (hr : Rd w a0 (bv l)) (hr1 : Rd w a1 (stv zs)) :
    Calls Try.prog 3 #[.slice a0 l.length c, .slice a1 zs.length c1] w fun e w' => e = .returned (.bool true) ∧ Below w.heap.size w w' := by
  have HR := Lib.hid hr
  have HR1 := Lib.hid hr1
  have HZ := Lib.hid hz
  clear hr hr1 hz
  by_cases b1 : 3000 < l.length
  · go_enter Try.func3, Try.ntmps3
    go_wp2_with fail
    refine (known_any w).mono ?_
    rintro e w2 ⟨rfl, hb2⟩
    go_wp2
    go_ret
    exact ⟨rfl, hb2⟩
  by_cases b2 : 60 < zs.length
  · go_enter Try.func3, Try.ntmps3
    go_wp2_with fail
    refine (known_any w).mono ?_
    rintro e w2 ⟨rfl, hb2⟩
    go_wp2
    go_ret
    exact ⟨rfl, hb2⟩
  go_enter Try.func3, Try.ntmps3
  go_wp2_with fail
  refine (new_lv (Below.refl _ _) 1).mono ?_
  rintro e w1 ⟨n, rfl, h1⟩
  have H1 := Lib.hid h1
  clear h1
  go_wp2_with fail
  refine (dial_lv H1.out (by omega) (by omega) pd_new hostA (by decide)).mono ?_
  rintro e w2 ⟨rfl, h2⟩
  have H2 := Lib.hid h2
  clear h2
  go_wp2_with fail
  have hd := accept_lv H2.out 1
  rw [pd_open] at hd
  refine hd.mono ?_
  clear hd
  rintro e w3 ⟨rfl, h3⟩
  have H3 := Lib.hid h3
  clear h3
  go_wp2
  go_loopw [6, 7, 8] (fun g t i wr => ∃ (k at_ got : Nat) (s : ByteArray), k ≤ zs.length ∧ i = .int .i64 k ∧ t = .int .i64 at_ ∧ g = .string s ∧ at_ ≤ l.length ∧ got ≤ at_ ∧ s.size = got ∧ s = bs (l.take got) ∧ Lv w wr n (max 1 0) (0 + 1) (pd ((l.take at_).drop got))) (fun _ _ i _ => zs.length - (intOf i).toNat)
  case atStart => exact ⟨0, 0, 0, _, by omega, rfl, rfl, rfl, by omega, by omega, rfl, rfl, H3.out⟩
  case round =>
    obtain ⟨k, at_, got, s, hk, rfl, rfl, rfl, hat, hgot, hss, hs, hlv⟩ := hrel
    have HSS := Lib.hid hss
    have HS := Lib.hid hs
    have HLV := Lib.hid hlv
    clear hss hs hlv
    by_cases hlt : k < zs.length
    · obtain ⟨b, off, rfl, hbl, hcell⟩ := (HR1.out.below HLV.out.bel (Nat.le_refl _)).at (stv_get hlt)
      obtain ⟨z, hze⟩ : ∃ z, z = zs[k] := ⟨_, rfl⟩
      rw [← hze] at hcell
      have hzb := HZ.out zs[k] (List.getElem_mem hlt)
      rw [← hze] at hzb
      clear hze
      obtain ⟨kk, hkk⟩ : ∃ kk : Nat, min (max z 0) ((l.length : Int) - (at_ : Int)) = (kk : Int) := ⟨(min (max z 0) ((l.length : Int) - (at_ : Int))).toNat, by omega⟩
      have hkk2 : at_ + kk ≤ l.length := by omega
      have HKK := Lib.hid hkk
      clear hkk
      have hrd := Lib.hid ((HR.out.below HLV.out.bel (Nat.le_refl _)).cut c at_ (at_ + kk) (by rw [bv_length]; exact hlc))
      go_wp2_with (first
        | (with_reducible refine step_max rfl _ _ _ rfl z 0 rfl rfl (max z 0) rfl ?_)
        | (with_reducible refine step_min rfl _ _ _ rfl (max z 0) ((l.length : Int) - (at_ : Int)) rfl rfl (kk : Int) HKK.out ?_)
        | (with_reducible refine step_cut (.inl rfl) 22 5 _ _ _ rfl Try.underlying22 info_byte1 a0 l.length c rfl ((at_ : Int)) ((at_ : Int) + (kk : Int)) rfl rfl at_ (at_ + kk) rfl ?g1 ?g2 ?g3 ?_)
        | fail)
      case g1 => omega
      case g2 => omega
      case g3 => omega
      obtain ⟨m, hm⟩ : ∃ m, m = (l.take (at_ + kk)).drop at_ := ⟨_, rfl⟩
      have hml : m.length = kk := by rw [hm]; simp; omega
      have hrd2 : Rd wr (cutA a0 c at_) (bv m) := by rw [hm, ← bv_cut]; exact hrd.out
      have hd := arrive_lv HLV.out 1 (cutA a0 c at_) (c - at_) m hrd2 (by simp [pd]; omega)
      rw [hml, pd_c0, pd_c, hm, take_drop_join l got at_ kk hgot hkk2] at hd
      have HD := Lib.hid hd
      clear hd hm hml hrd2 hrd
      refine HD.out.mono ?_
      rintro e w4 ⟨rfl, h4⟩
      have HLVX := Lib.hid h4
      clear h4 HD
      by_cases hr3 : k % 3 = 2
      · have hb3 : ((k : Int) % 3 != 2) = false := by rw [bne_eq_false_iff_eq]; omega
        go_wp2_with fail
        obtain ⟨xl, hxl⟩ : ∃ xl, ((l.take (at_ + kk)).drop got).length = xl := ⟨_, rfl⟩
        have hXl : xl = at_ + kk - got := by rw [← hxl]; simp; omega
        have HXL := Lib.hid hxl
        clear hxl
        have hs1 : s.size ≤ 3000 := by rw [HSS.out]; omega
        have hs2 : xl ≤ 3000 := by omega
        have hne : (((s.size : Nat) : Int) + (xl : Int) != (at_ : Int) + (kk : Int)) = false := by rw [bne_eq_false_iff_eq, HSS.out]; omega
        clear hXl
        refine (left_lv HLVX.out 1).mono ?_
        rintro e w6 ⟨rfl, rfl⟩
        rw [pd_v, HXL.out]
        have HRG := Lib.hid ((HR.out.below HLVX.out.bel (Nat.le_refl _)).cut c 0 got (by rw [bv_length]; exact hlc))
        have HRG2 : Hid (Rd _ (cutA a0 c 0) (bv (l.take got))) := Lib.hid (by have := HRG.out; rw [bv_cut] at this; simpa using this)
        have HLG := Lib.hid (show got = (l.take got).length by simp; omega)
        clear HRG
        go_wp2_with (first
          | (with_reducible refine step_cut0 (.inr rfl) 22 5 _ _ rfl Try.underlying22 info_byte1 a0 l.length c rfl ((s.size : Nat) : Int) rfl got (by rw [HSS.out]) ?g1 ?_)
          | (with_reducible refine step_bytes_string _ (.inr rfl) 22 9 5 _ rfl Try.underlying22 Try.underlying5 Try.underlying9 (cutA a0 c 0) got c (l.take got) rfl HLG.out HRG2.out s (HS.out.trans (bs_is _)) ?_)
          | fail)
        case g1 => omega
        go_roundw
        case rel => exact ⟨k + 1, at_ + kk, got, s, by omega, by go_num, by go_num, rfl, by omega, by omega, HSS.out, HS.out, HLVX.out⟩
        case measure => simp [intOf]; omega
      · have hb3 : ((k : Int) % 3 != 2) = true := by rw [bne_iff_ne]; omega
        go_wp2_with fail
        obtain ⟨X, hX⟩ : ∃ X, X = (l.take (at_ + kk)).drop got := ⟨_, rfl⟩
        have h9 := HLVX.out
        rw [← hX] at h9
        have HXX := Lib.hid hX
        have H9 := Lib.hid h9
        clear hX h9 HLVX
        refine (read_lv H9.out 1).mono ?_
        rintro e w5 ⟨ra, rc, rfl, hrr, hrl⟩
        rw [pd_v] at hrr ⊢
        rw [pd_r] at hrl
        have HRR := Lib.hid hrr
        clear hrr
        have HLVX := Lib.hid hrl
        clear hrl
        obtain ⟨s2, hs2⟩ : ∃ s2, s2 = bs (l.take (at_ + kk)) := ⟨_, rfl⟩
        have HST := Lib.hid hs2
        have HSZ2 : Hid (s2.size = at_ + kk) := Lib.hid (by rw [hs2, bs_size]; simp; omega)
        have HCAT : Hid (s ++ bs X = s2) := Lib.hid (by
          rw [HS.out, hs2, bs_append, HXX.out]
          congr 1
          have e : l.take got = (l.take (at_ + kk)).take got := by rw [List.take_take]; congr 1; omega
          rw [e, List.take_append_drop])
        clear hs2
        have HCB : Hid (s.size + (bs X).size ≤ 9223372036854775807) := Lib.hid (by rw [HSS.out, bs_size, HXX.out]; simp; omega)
        go_wp2_with (first
          | (with_reducible refine step_bytes_string _ (.inl rfl) 22 9 5 _ rfl Try.underlying22 Try.underlying5 Try.underlying9 ra _ rc X rfl rfl HRR.out (bs X) (bs_is _) ?_)
          | (with_reducible refine step_concat rfl _ _ _ _ rfl s (bs X) s2 rfl rfl HCAT.out HCB.out ?_)
          | fail)
        obtain ⟨xl, hxl⟩ : ∃ xl, (([] : List UInt8)).length = xl := ⟨_, rfl⟩
        have hXl : xl = at_ + kk - (at_ + kk) := by rw [← hxl]; simp
        have HXL := Lib.hid hxl
        clear hxl
        have hs1 : s2.size ≤ 3000 := by rw [HSZ2.out]; omega
        have hs2 : xl ≤ 3000 := by omega
        have hne : (((s2.size : Nat) : Int) + (xl : Int) != (at_ : Int) + (kk : Int)) = false := by rw [bne_eq_false_iff_eq, HSZ2.out]; omega
        clear hXl
        refine (left_lv HLVX.out 1).mono ?_
        rintro e w6 ⟨rfl, rfl⟩
        rw [pd_v, HXL.out]
        have HRG := Lib.hid ((HR.out.below HLVX.out.bel (Nat.le_refl _)).cut c 0 (at_ + kk) (by rw [bv_length]; exact hlc))
        have HRG2 : Hid (Rd _ (cutA a0 c 0) (bv (l.take (at_ + kk)))) := Lib.hid (by have := HRG.out; rw [bv_cut] at this; simpa using this)
        have HLG := Lib.hid (show (at_ + kk) = (l.take (at_ + kk)).length by simp; omega)
        clear HRG
        go_wp2_with (first
          | (with_reducible refine step_cut0 (.inr rfl) 22 5 _ _ rfl Try.underlying22 info_byte1 a0 l.length c rfl ((s2.size : Nat) : Int) rfl (at_ + kk) (by rw [HSZ2.out]) ?g1 ?_)
          | (with_reducible refine step_bytes_string _ (.inr rfl) 22 9 5 _ rfl Try.underlying22 Try.underlying5 Try.underlying9 (cutA a0 c 0) (at_ + kk) c (l.take (at_ + kk)) rfl HLG.out HRG2.out s2 (HST.out.trans (bs_is _)) ?_)
          | fail)
        case g1 => omega
        go_roundw
        case rel => exact ⟨k + 1, at_ + kk, (at_ + kk), s2, by omega, by go_num, by go_num, rfl, by omega, by omega, HSZ2.out, HST.out, by rw [show (l.take (at_ + kk)).drop (at_ + kk) = [] from List.drop_eq_nil_of_le (by simp; omega)]; exact HLVX.out⟩
        case measure => simp [intOf]; omega
    · obtain rfl : k = zs.length := by omega
      go_wp2_with fail
      have hd := end_lv HLV.out 1
      rw [pe_is] at hd
      refine hd.mono ?_
      clear hd
      rintro e w4 ⟨rfl, h4⟩
      obtain ⟨X, hX⟩ : ∃ X, X = (l.take at_).drop got := ⟨_, rfl⟩
      rw [← hX] at h4
      have HXX := Lib.hid hX
      have H4 := Lib.hid h4
      clear hX h4 HLV
      go_wp2_with fail
      refine (read_lv H4.out 1).mono ?_
      rintro e w5 ⟨ra, rc, rfl, hrr, hrl⟩
      rw [pe_v] at hrr ⊢
      rw [pe_r] at hrl
      have HRR := Lib.hid hrr
      have H5 := Lib.hid hrl
      clear hrl hrr
      obtain ⟨s2, hs2⟩ : ∃ s2, s2 = bs (l.take at_) := ⟨_, rfl⟩
      have HST := Lib.hid hs2
      have HCAT : Hid (s ++ bs X = s2) := Lib.hid (by
        rw [HS.out, hs2, bs_append, HXX.out]
        congr 1
        have e : l.take got = (l.take at_).take got := by rw [List.take_take]; congr 1; omega
        rw [e, List.take_append_drop])
      clear hs2
      have HCB : Hid (s.size + (bs X).size ≤ 9223372036854775807) := Lib.hid (by rw [HSS.out, bs_size, HXX.out]; simp; omega)
      have HRG := Lib.hid ((HR.out.below H5.out.bel (Nat.le_refl _)).cut c 0 at_ (by rw [bv_length]; exact hlc))
      have HRG2 : Hid (Rd _ (cutA a0 c 0) (bv (l.take at_))) := Lib.hid (by have := HRG.out; rw [bv_cut] at this; simpa using this)
      have HLG := Lib.hid (show at_ = (l.take at_).length by simp; omega)
      clear HRG
      go_wp2_with (first
        | (with_reducible refine step_bytes_string _ (.inl rfl) 22 9 5 _ rfl Try.underlying22 Try.underlying5 Try.underlying9 ra _ rc X rfl rfl HRR.out (bs X) (bs_is _) ?_)
        | (with_reducible refine step_concat rfl _ _ _ _ rfl s (bs X) s2 rfl rfl HCAT.out HCB.out ?_)
        | (with_reducible refine step_cut0 (.inl rfl) 22 5 _ _ rfl Try.underlying22 info_byte1 a0 l.length c rfl (at_ : Int) rfl at_ rfl ?g1 ?_)
        | (with_reducible refine step_bytes_string _ (.inl rfl) 22 9 5 _ rfl Try.underlying22 Try.underlying5 Try.underlying9 (cutA a0 c 0) at_ c (l.take at_) rfl HLG.out HRG2.out s2 (HST.out.trans (bs_is _)) ?_)
        | fail)
      case g1 => omega
      refine (left_lv H5.out 1).mono ?_
      rintro e w6 ⟨rfl, rfl⟩
      rw [pe_v]
      go_wp2_with fail
      refine (known_any w5).mono ?_
      rintro e w7 ⟨rfl, hb7⟩
      have HB5 := Lib.hid H5.out.bel
      go_wp2
      go_ret
      exact ⟨rfl, HB5.out.trans (hb7.mono HB5.out.size)⟩
end Go.Proofs.Ytepdnmpcccgcaaa
