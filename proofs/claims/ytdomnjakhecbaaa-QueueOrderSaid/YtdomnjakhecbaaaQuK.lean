/- The walk over QueueOrder. -/
import Derived.Test.YtdomnjakhecbaaaQuJ
namespace Go.Proofs.Ytdomnjakhecbaaa
open Go.RowKit K
def frA (j : Nat) : Frm := ⟨(j : Int) + 1, j, [recA j]⟩
def frs (n : Nat) : List Frm := (List.range n).map frA
theorem frs_succ (n : Nat) : frs (n + 1) = frs n ++ [frA n] := by simp [frs, List.range_succ]
theorem frs_length (n : Nat) : (frs n).length = n := by simp [frs]
theorem frs_drop (n a : Nat) (h : a < n) : (frs n).drop a = frA a :: (frs n).drop (a + 1) := by
  rw [List.drop_eq_getElem_cons (by rw [frs_length]; exact h)]
  simp [frs]
theorem frA_ok (j : Nat) (h : j ≤ 100) : FOk (frA j) := frmA_ok _ _ (by omega) (by omega) (by omega)
theorem frs_ok (n a : Nat) (h : n ≤ 100) : ∀ x ∈ (frs n).drop a, FOk x := by
  intro x hx
  have hx := List.mem_of_mem_drop hx
  simp only [frs, List.mem_map, List.mem_range] at hx
  obtain ⟨j, hj, rfl⟩ := hx
  exact frA_ok j (by omega)
def sP (k : Nat) : QR := ⟨20, 1, 4, k, 0, 0, false, once, 0⟩
def sO (m a : Nat) (t : Int) (r : Nat) : QR := ⟨20, 1, 4, m, a, 0, false, t, r⟩
theorem putR_P (k : Nat) (h : k < 20) : putR (sP k) (frs k) k [recA k] = (((k : Int) + 1, 0), sP (k + 1), frs (k + 1)) := by
  unfold putR
  rw [if_neg (by rw [show (sP k).put + 1 = (k : Int) + 1 from rfl, recA_may _ k (by omega)]; simp), if_neg (by rw [frs_length]; show ¬ (20 : Int) ≤ k; omega), frs_succ]
  rfl
def bsv (bs : List Bool) : List Value := bs.map Value.bool
theorem bsv_flat : ∀ bs : List Bool, (bs.flatMap fun b => [Value.bool b]) = bsv bs
  | [] => rfl
  | b :: r => by rw [List.flatMap_cons, bsv_flat r]; rfl
set_option maxHeartbeats 2000000 in
set_option maxRecDepth 100000 in
theorem queueOrder_any (w : World) (many : Int) (a : Option Addr) (c : Nat) (bs : List Bool) (hr : Rd w a (bsv bs)) (hl : bs.length ≤ 9223372036854775807) :
    Calls Try.prog 3 #[.int .i64 many, .slice a bs.length c] w fun e w' => e = .returned (.bool true) ∧ Below w.heap.size w w' := by
  by_cases hin : 0 ≤ many ∧ many ≤ 20 ∧ bs.length ≤ 40
  · obtain ⟨h1, h2, h3⟩ := hin
    obtain ⟨m, rfl⟩ : ∃ m : Nat, many = m := ⟨many.toNat, by omega⟩
    have HR := Lib.hid hr
    clear hr
    go_enter Try.func3, Try.ntmps3
    go_wp2_with fail
    refine (lnew w 20 1 4).mono ?_
    rintro e w1 ⟨rfl, hq⟩
    have HQ := Lib.hid (show QLv w [] w.heap.size (sP 0) (frs 0) w1 from hq)
    clear hq
    have hm20 : m ≤ 20 := by omega
    have hd1 : decide ((m : Int) < 0) = false := by simp
    have hd2 : decide ((20 : Int) < m) = false := by simp; omega
    have hd3 : decide ((40 : Int) < bs.length) = false := by simp; omega
    clear h1 h2
    go_wp2_with fail
    go_loopw [6] (fun i wr => ∃ k : Nat, k ≤ m ∧ i = .int .i64 k ∧ QLv w [] w.heap.size (sP k) (frs k) wr) (fun i _ => m - (intOf i).toNat)
    case atStart => exact ⟨0, by omega, rfl, HQ.out⟩
    case round =>
      obtain ⟨k, hk, rfl, hI⟩ := hrel
      have HI := Lib.hid hI
      clear hI HQ
      by_cases hlt : k < m
      · go_wp2_with fail
        refine (record_any wr k).mono ?_
        rintro e w2 ⟨b, rfl, hb, hr2, hbl⟩
        have h2 := HI.out.step hbl
        have HP := Lib.hid (lput h2 k (some ⟨b, 0, none⟩) 1 [recA k] (by simp) (by omega) (by simp) (by simp) hr2 (fun x hx => by simp at hx; subst hx; exact (recA_fit k (by omega)).1) (show (0 : Int) ≤ k ∧ (k : Int) ≤ 1000000 by omega) (show (0 : Int) ≤ 0 ∧ (0 : Int) ≤ 1000000 by omega) (by rw [frs_length]; omega))
        rw [putR_P k (by omega)] at HP
        clear h2 hr2 hbl hb HI
        go_wp2_with fail
        refine HP.out.mono ?_
        rintro e w3 ⟨rfl, h3⟩
        have H3 := Lib.hid h3
        clear h3 HP
        go_wp2
        go_roundw
        case rel => exact ⟨k + 1, by omega, by go_num, H3.out⟩
        case measure => simp [intOf]; omega
      · obtain rfl : k = m := by omega
        have H0 := Lib.hid (show QLv w [] w.heap.size (sO k 0 once 0) ((frs k).drop 0) wr from HI.out)
        obtain ⟨m, rfl⟩ : ∃ m, m = k := ⟨_, rfl⟩
        clear HI hk hlt
        go_wp2_with fail
        go_loopw [9, 10, 11] (fun ak nw i wr => ∃ (k a2 r : Nat) (n t : Int), k ≤ bs.length ∧ i = .int .i64 k ∧ ak = .int .u64 a2 ∧ nw = .int .i64 n ∧ a2 ≤ m ∧ r ≤ k ∧ 0 ≤ n ∧ n ≤ 4 * k ∧ once ≤ t ∧ t ≤ n + 4 ∧ QLv w [] w.heap.size (sO m a2 t r) ((frs m).drop a2) wr) (fun _ _ i _ => bs.length - (intOf i).toNat)
        case atStart => exact ⟨0, 0, 0, 0, once, by omega, rfl, rfl, rfl, by omega, by omega, by omega, by omega, by decide, by decide, H0.out⟩
        case round =>
          obtain ⟨k, a2, r, n, t, hk, rfl, rfl, rfl, ha2, hrk, hn0, hn4, ht0, ht4, hI⟩ := hrel
          have HI := Lib.hid hI
          have HBEL := Lib.hid hI.bel
          clear hI H0
          by_cases hlt : k < bs.length
          · by_cases hmore : a2 < m
            · have hlen : ((frs m).drop a2).length = m - a2 := by rw [List.length_drop, frs_length]
              have HNE := Lib.hid (show Calls Try.prog 11 #[.pointer (some ⟨w.heap.size, 0, none⟩)] wr fun e w' => e = .returned (.tuple #[.int .i64 t, .bool true]) ∧ wr = w' by
                have hh := lnext HI.out
                unfold nextV at hh
                rw [hlen, if_neg (by simp [sO]; omega)] at hh
                exact hh)
              obtain ⟨m2, hm2⟩ : ∃ m2, m2 = max n t := ⟨_, rfl⟩
              have hm3 : t ≤ m2 ∧ n ≤ m2 ∧ 0 ≤ m2 ∧ m2 ≤ 4 * k + 4 := by omega
              have HM2 := Lib.hid hm2.symm
              have HH := Lib.hid (lhand (f := frA a2) (fs := (frs m).drop (a2 + 1)) (by rw [← frs_drop m a2 hmore]; exact HI.out) m2 (by rw [← frs_drop m a2 hmore]; exact frs_ok m a2 (by omega)) (by rw [← frs_drop m a2 hmore, hlen]; omega) rfl hm3.1)
              clear hm2 hlen
              go_wp2_with fail
              refine HNE.out.mono ?_
              rintro e w2 ⟨rfl, rfl⟩
              go_wp2_with (first | (with_reducible refine step_max rfl _ _ _ rfl n t rfl rfl m2 HM2.out ?_))
              refine HH.out.mono ?_
              rintro e w5 ⟨ad, c5, rfl, hc1, hc2, hrd, h5⟩
              have HD := Lib.hid (show Calls Try.prog 13 #[.slice ad (encB (frA a2).seq (frA a2).win (frA a2).recs).length c5] w5 (RDecOk w5 ((a2 : Int) + 1) a2 [recA a2]) from rdecode_ok w5 (a2 + 1) a2 ad c5 [recA a2] _ rfl (by omega) (by omega) (by omega) (fun x hx => by simp at hx; subst hx; exact recA_fit a2 (by omega)) (recA_may _ _ (by omega)) hc1 hc2 hrd)
              have H5 := Lib.hid h5
              obtain ⟨ab, ao, rfl, hab, hcell⟩ := (HR.out.below HBEL.out (Nat.le_refl _)).at (k := k) (v := .bool bs[k]) (by simp [bsv, hlt])
              have hb5 := h5.bel
              clear hc1 hc2 hrd h5 HH
              go_wp2_with fail
              refine HD.out.mono ?_
              rintro e w6 ⟨a4, c4, rfl, hrd2, hb6⟩
              unfold frv
              have h6 := H5.out.step hb6
              have h7 := h6.step ((Below.refl _ w6).alloc (Nat.le_refl _) (.cells #[.int .u64 ((a2 : Int) + 1), .int .i64 a2, .slice a4 1 c4] 38))
              have HCL := Lib.hid (show ∀ W, Below w.heap.size w W → W.cell? ⟨ab, ao + k, none⟩ = some (.bool bs[k]) ∧ ab < W.heap.size from fun W hW => by
                obtain ⟨b', o', e, hlt', hc⟩ := (HR.out.below hW (Nat.le_refl _)).at (k := k) (v := .bool bs[k]) (by simp [bsv, hlt])
                cases e
                exact ⟨hc, hlt'⟩)
              obtain ⟨hcell6, hab6⟩ := HCL.out w6 h6.bel
              clear h6 H5 HD hrd2 hb6 hcell hb5 HNE
              cases hbk : bs[k] with
              | true =>
                rw [hbk] at hcell6 HCL
                clear hbk
                have HAN := Lib.hid (lanswer_ok h7 m2 rfl (by simp) (by rw [List.length_cons, List.length_drop, frs_length]; omega) (show (0 : Int) ≤ a2 ∧ (a2 : Int) ≤ 1000000 by omega))
                clear h7
                go_wp2_with fail
                refine HAN.out.mono ?_
                rintro e w8 ⟨rfl, h8⟩
                have H8 := Lib.hid (show QLv w [] w.heap.size (sO m (a2 + 1) once 0) ((frs m).drop (a2 + 1)) w8 from h8)
                obtain ⟨hcell8, hab8⟩ := HCL.out w8 h8.bel
                clear h8 HAN
                go_wp2
                go_roundw
                case rel => exact ⟨k + 1, a2 + 1, 0, m2, once, by omega, by go_num, by go_num, rfl, by omega, by omega, by omega, by omega, by decide, by unfold once; omega, H8.out⟩
                case measure => simp [intOf]; omega
              | false =>
                rw [hbk] at hcell6 HCL
                clear hbk
                have hdb := dbl_le 4 (by omega) r 1 (by omega) (by omega)
                have HAN := Lib.hid (lanswer_off h7 m2 rfl (show (1 : Int) ≤ 1 by omega) (show (1 : Int) ≤ 4 by omega) (show (4 : Int) ≤ 9223372036854775807 by omega) (by omega) r rfl (by omega))
                have HDB := Lib.hid hdb
                clear h7 hdb
                go_wp2_with fail
                refine HAN.out.mono ?_
                rintro e w8 ⟨rfl, h8⟩
                have H8 := Lib.hid (show QLv w [] w.heap.size (sO m a2 (m2 + dbl 4 r 1) (r + 1)) ((frs m).drop a2) w8 by
                  rw [frs_drop m a2 hmore]
                  have e : (if m2 ≤ 9223372036854775807 - dbl 4 (r : Int).toNat 1 then m2 + dbl 4 (r : Int).toNat 1 else 9223372036854775807) = m2 + dbl 4 r 1 := if_pos (by rw [Int.toNat_natCast]; have := HDB.out; omega)
                  rw [← e]
                  exact h8)
                obtain ⟨hcell8, hab8⟩ := HCL.out w8 h8.bel
                clear h8 HAN
                go_wp2
                go_roundw
                case rel => exact ⟨k + 1, a2, r + 1, m2, m2 + dbl 4 r 1, by omega, by go_num, rfl, rfl, by omega, by omega, by omega, by omega, by have := HDB.out; unfold once; omega, by have := HDB.out; omega, H8.out⟩
                case measure => simp [intOf]; omega
            · obtain rfl : a2 = m := by omega
              obtain ⟨m, rfl⟩ : ∃ m, m = a2 := ⟨_, rfl⟩
              have HNE := Lib.hid (show Calls Try.prog 11 #[.pointer (some ⟨w.heap.size, 0, none⟩)] wr fun e w' => e = .returned (.tuple #[.int .i64 0, .bool false]) ∧ wr = w' by
                have hh := lnext HI.out
                unfold nextV at hh
                rw [List.length_drop, frs_length, Nat.sub_self, if_pos (.inl rfl)] at hh
                exact hh)
              have HA := Lib.hid (show Calls Try.prog 15 #[.pointer (some ⟨w.heap.size, 0, none⟩)] wr fun e w' => e = .returned (.int .i64 m) ∧ wr = w' from lacked HI.out)
              have HWT := Lib.hid (show Calls Try.prog 16 #[.pointer (some ⟨w.heap.size, 0, none⟩)] wr fun e w' => e = .returned (.int .i64 0) ∧ wr = w' by
                have hh := lwaiting HI.out
                rw [List.length_drop, frs_length, Nat.sub_self] at hh
                exact hh)
              go_wp2_with fail
              refine HNE.out.mono ?_
              rintro e w2 ⟨rfl, rfl⟩
              go_wp2_with fail
              refine HA.out.mono ?_
              rintro e w2 ⟨rfl, rfl⟩
              go_wp2_with fail
              refine HWT.out.mono ?_
              rintro e w2 ⟨rfl, rfl⟩
              go_wp2_with fail
              refine (known_any wr).mono ?_
              rintro e w2 ⟨rfl, hb⟩
              go_wp2
              go_ret
              exact ⟨rfl, HBEL.out.trans (hb.mono HBEL.out.size)⟩
          · obtain rfl : k = bs.length := by omega
            have HA := Lib.hid (show Calls Try.prog 15 #[.pointer (some ⟨w.heap.size, 0, none⟩)] wr fun e w' => e = .returned (.int .i64 a2) ∧ wr = w' from lacked HI.out)
            have HWT := Lib.hid (show Calls Try.prog 16 #[.pointer (some ⟨w.heap.size, 0, none⟩)] wr fun e w' => e = .returned (.int .i64 ((m : Int) - a2)) ∧ wr = w' by
              have hh := lwaiting HI.out
              rw [List.length_drop, frs_length, show ((m - a2 : Nat) : Int) = (m : Int) - a2 by omega] at hh
              exact hh)
            go_wp2_with fail
            refine HA.out.mono ?_
            rintro e w2 ⟨rfl, rfl⟩
            go_wp2_with fail
            refine HWT.out.mono ?_
            rintro e w2 ⟨rfl, rfl⟩
            go_wp2_with fail
            refine (known_any wr).mono ?_
            rintro e w2 ⟨rfl, hb⟩
            go_wp2
            go_ret
            exact ⟨rfl, HBEL.out.trans (hb.mono HBEL.out.size)⟩
  · have hout : many < 0 ∨ 20 < many ∨ 40 < (bs.length : Int) := by omega
    clear hr
    by_cases c1 : many < 0
    · go_enter Try.func3, Try.ntmps3
      go_wp2_with fail
      refine (known_any w).mono ?_
      rintro e w2 ⟨rfl, hb⟩
      go_wp2
      go_ret
      exact ⟨rfl, hb⟩
    · by_cases c2 : 20 < many
      · go_enter Try.func3, Try.ntmps3
        go_wp2_with fail
        refine (known_any w).mono ?_
        rintro e w2 ⟨rfl, hb⟩
        go_wp2
        go_ret
        exact ⟨rfl, hb⟩
      · have c3 : 40 < (bs.length : Int) := by omega
        clear hout hin
        go_enter Try.func3, Try.ntmps3
        go_wp2_with fail
        refine (known_any w).mono ?_
        rintro e w2 ⟨rfl, hb⟩
        go_wp2
        go_ret
        exact ⟨rfl, hb⟩
end Go.Proofs.Ytdomnjakhecbaaa
