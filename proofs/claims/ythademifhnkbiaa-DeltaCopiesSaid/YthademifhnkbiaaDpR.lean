/- The walks over Alike of both references, and Same of the program's meter. -/
import Derived.Test.YthademifhnkbiaaDpP
import Derived.Test.YthademifhnkbiaaDpQ
namespace Go.Proofs.Ythademifhnkbiaa
open Go.RowKit K
section
variable {w : World} {B r : Nat} {most : Int} {L1 : List SV} {G : Nat → Prop} {B2 r2 : Nat} {L2 : List SV} {G2 : Nat → Prop}
set_option maxHeartbeats 4000000 in
theorem ralike16_any (h1 : RsIs w B r most L1 G) (h2 : RsIs w B2 r2 most L2 G2) (hl1 : L1.length ≤ 1000000) (_hl2 : L2.length ≤ 1000000) :
    Calls Try.prog 34 #[.pointer (some ⟨r, 0, none⟩), .pointer (some ⟨r2, 0, none⟩)] w fun e w' => e = .returned (.bool (alikeB L1 L2)) ∧ ∃ n, w' = w.drewN n := by
  obtain ⟨a, c, hb, hc, hr, -⟩ := h1.shape
  obtain ⟨a', c', hb', hc', hr', -⟩ := h2.shape
  have c0 : w.cell? ⟨r, 0, none⟩ = some (.slice a L1.length c) := by rw [cell_of_row _ _ _ _ _ _ hb]; rfl
  have c1 : w.cell? ⟨r, 1, none⟩ = some (.int .i64 most) := by rw [cell_of_row _ _ _ _ _ _ hb]; rfl
  have d0 : w.cell? ⟨r2, 0, none⟩ = some (.slice a' L2.length c') := by rw [cell_of_row _ _ _ _ _ _ hb']; rfl
  have d1 : w.cell? ⟨r2, 1, none⟩ = some (.int .i64 most) := by rw [cell_of_row _ _ _ _ _ _ hb']; rfl
  have HR := Lib.hid hr
  have HR2 := Lib.hid hr'
  clear h1 h2 hb hb' hr hr'
  by_cases hl : L1.length = L2.length
  · have HL := Lib.hid hl
    have hne : ((L1.length : Int) != (L2.length : Int)) = false := by rw [bne_eq_false_iff_eq]; omega
    clear hl
    go_enter Try.func34, Try.ntmps34
    go_wp2_with fail
    go_quiet (fail)
    go_wp2
    go_loopw [5] (fun i wr => ∃ k m : Nat, i = .int .i64 k ∧ k ≤ L1.length ∧ wr = w.drewN m ∧ alikeB L1 L2 = alikeB (L1.drop k) (L2.drop k)) (fun i _ => L1.length - (intOf i).toNat)
    case atStart => exact ⟨0, _, rfl, Nat.zero_le _, rfl, rfl⟩
    case round =>
      obtain ⟨k, m, rfl, hk, rfl, hal⟩ := hrel
      by_cases hlt : k < L1.length
      · have hlt2 : k < L2.length := by have := HL.out; omega
        obtain ⟨b, off, rfl, -, hq⟩ := on_cells HR.out hlt
        obtain ⟨b', off', rfl, -, hq'⟩ := on_cells HR2.out hlt2
        have HAL := Lib.hid (show alikeB L1 L2 = (svB L1[k] L2[k] && alikeB (L1.drop (k + 1)) (L2.drop (k + 1))) by rw [hal, ← List.getElem_cons_drop hlt, ← List.getElem_cons_drop hlt2]; rfl)
        generalize L1[k] = u at hq HAL
        generalize L2[k]'hlt2 = v at hq' HAL
        obtain ⟨⟨n, z, t, cc⟩, lv, ow⟩ := u
        obtain ⟨⟨n', z', t', cc'⟩, lv', ow'⟩ := v
        have p0 := hq 0 _ (by omega) rfl
        have p1 := hq 1 _ (by omega) rfl
        have p2 := hq 2 _ (by omega) rfl
        have p3 := hq 3 _ (by omega) rfl
        have p4 := hq 4 _ (by omega) rfl
        have p5 := hq 5 _ (by omega) rfl
        have p6 := hq 6 _ (by omega) rfl
        have q0 := hq' 0 _ (by omega) rfl
        have q1 := hq' 1 _ (by omega) rfl
        have q2 := hq' 2 _ (by omega) rfl
        have q3 := hq' 3 _ (by omega) rfl
        have q4 := hq' 4 _ (by omega) rfl
        have q5 := hq' 5 _ (by omega) rfl
        have q6 := hq' 6 _ (by omega) rfl
        simp only [Nat.add_zero] at p0 q0
        clear hq hq' hal
        by_cases h0 : n = n'
        rotate_left 1
        · have HS := Lib.hid (show svB (⟨⟨n, z, t, cc⟩, lv, ow⟩ : SV) (⟨⟨n', z', t', cc'⟩, lv', ow'⟩ : SV) = false from Bool.eq_false_iff.2 fun h => h0 (by have e := svB_iff.1 h; simp only [SV.mk.injEq, Smp.mk.injEq] at e; simp only [e]))
          have g0 := tl_ne h0
          clear h0
          go_wp2_with fail
          go_quiet (fail)
          go_wp2
          go_ret
          exact ⟨by rw [HAL.out, HS.out]; rfl, _, World.drewN_drewN _ _ _⟩
        subst h0
        by_cases h1 : z = z'
        rotate_left 1
        · have HS := Lib.hid (show svB (⟨⟨n, z, t, cc⟩, lv, ow⟩ : SV) (⟨⟨n, z', t', cc'⟩, lv', ow'⟩ : SV) = false from Bool.eq_false_iff.2 fun h => h1 (by have e := svB_iff.1 h; simp only [SV.mk.injEq, Smp.mk.injEq] at e; simp only [e]))
          have g1 : (z == z') = false := by rw [beq_eq_false_iff_ne]; exact h1
          clear h1
          go_wp2_with fail
          go_quiet (fail)
          go_wp2
          go_ret
          exact ⟨by rw [HAL.out, HS.out]; rfl, _, World.drewN_drewN _ _ _⟩
        subst h1
        by_cases h2 : t = t'
        rotate_left 1
        · have HS := Lib.hid (show svB (⟨⟨n, z, t, cc⟩, lv, ow⟩ : SV) (⟨⟨n, z, t', cc'⟩, lv', ow'⟩ : SV) = false from Bool.eq_false_iff.2 fun h => h2 (by have e := svB_iff.1 h; simp only [SV.mk.injEq, Smp.mk.injEq] at e; simp only [e]))
          have g2 : (t == t') = false := by rw [beq_eq_false_iff_ne]; exact h2
          clear h2
          go_wp2_with fail
          go_quiet (fail)
          go_wp2
          go_ret
          exact ⟨by rw [HAL.out, HS.out]; rfl, _, World.drewN_drewN _ _ _⟩
        subst h2
        by_cases h3 : cc = cc'
        rotate_left 1
        · have HS := Lib.hid (show svB (⟨⟨n, z, t, cc⟩, lv, ow⟩ : SV) (⟨⟨n, z, t, cc'⟩, lv', ow'⟩ : SV) = false from Bool.eq_false_iff.2 fun h => h3 (by have e := svB_iff.1 h; simp only [SV.mk.injEq, Smp.mk.injEq] at e; simp only [e]))
          cases cc <;> cases cc'
          all_goals first | exact absurd rfl h3 | skip
          all_goals clear h3
          ·
            go_wp2_with fail
            go_quiet (fail)
            go_wp2
            go_ret
            exact ⟨by rw [HAL.out, HS.out]; rfl, _, World.drewN_drewN _ _ _⟩
          ·
            go_wp2_with fail
            go_quiet (fail)
            go_wp2
            go_ret
            exact ⟨by rw [HAL.out, HS.out]; rfl, _, World.drewN_drewN _ _ _⟩
        subst h3
        by_cases h4 : lv = lv'
        rotate_left 1
        · have HS := Lib.hid (show svB (⟨⟨n, z, t, cc⟩, lv, ow⟩ : SV) (⟨⟨n, z, t, cc⟩, lv', ow'⟩ : SV) = false from Bool.eq_false_iff.2 fun h => h4 (by have e := svB_iff.1 h; simp only [SV.mk.injEq] at e; simp only [e]))
          cases lv <;> cases lv'
          all_goals first | exact absurd rfl h4 | skip
          all_goals clear h4
          ·
            go_wp2_with fail
            go_quiet (fail)
            go_wp2
            go_ret
            exact ⟨by rw [HAL.out, HS.out]; rfl, _, World.drewN_drewN _ _ _⟩
          ·
            go_wp2_with fail
            go_quiet (fail)
            go_wp2
            go_ret
            exact ⟨by rw [HAL.out, HS.out]; rfl, _, World.drewN_drewN _ _ _⟩
        subst h4
        by_cases h5 : ow = ow'
        rotate_left 1
        · have HS := Lib.hid (show svB (⟨⟨n, z, t, cc⟩, lv, ow⟩ : SV) (⟨⟨n, z, t, cc⟩, lv, ow'⟩ : SV) = false from Bool.eq_false_iff.2 fun h => h5 (by have e := svB_iff.1 h; simp only [SV.mk.injEq] at e; simp only [e]))
          have g5 : (ow == ow') = false := by rw [beq_eq_false_iff_ne]; exact h5
          clear h5
          go_wp2_with fail
          go_quiet (fail)
          go_wp2
          go_ret
          exact ⟨by rw [HAL.out, HS.out]; rfl, _, World.drewN_drewN _ _ _⟩
        subst h5
        have HS := Lib.hid (show svB (⟨⟨n, z, t, cc⟩, lv, ow⟩ : SV) (⟨⟨n, z, t, cc⟩, lv, ow⟩ : SV) = true from svB_iff.2 rfl)
        go_wp2_with fail
        go_quiet (fail)
        go_wp2
        go_roundw
        case rel => exact ⟨k + 1, _, by go_num, by omega, rfl, by rw [HAL.out, HS.out]; rfl⟩
        case measure => simp [intOf]; omega
      · obtain rfl : k = L1.length := by omega
        have HE := Lib.hid (show alikeB L1 L2 = true by rw [hal, List.drop_length, show L1.length = L2.length from HL.out, List.drop_length]; rfl)
        clear hal
        go_wp2
        go_ret
        exact ⟨by rw [HE.out]; rfl, _, rfl⟩
  · have HE := Lib.hid (show alikeB L1 L2 = false from Bool.eq_false_iff.2 fun h => hl (by rw [alikeB_iff.1 h]))
    have hne : ((L1.length : Int) != (L2.length : Int)) = true := by rw [bne_iff_ne]; omega
    clear hl
    go_enter Try.func34, Try.ntmps34
    go_wp2_with fail
    go_quiet (fail)
    go_wp2
    go_ret
    exact ⟨by rw [HE.out]; rfl, _, rfl⟩
end
theorem eqM_perm {l1 l2 l1' l2' : List SV} (p1 : l1'.Perm l1) (p2 : l2'.Perm l2) (u1 : Uniq l1) (u2 : Uniq l2) : eqM l1' l2' = eqM l1 l2 := by
  rw [Bool.eq_iff_iff, eqM_iff (u1.perm p1.symm) (u2.perm p2.symm), eqM_iff u1 u2]
  exact ⟨fun h => (p1.symm.trans h).trans p2, fun h => (p1.trans h).trans p2.symm⟩
/-- Are two counts the same? -/
def talB (x y : Tal) : Bool := x.p == y.p && (x.a == y.a && (x.o == y.o && (x.t == y.t && (x.f == y.f && (x.g == y.g && x.r == y.r)))))
theorem talB_iff {x y : Tal} : talB x y = true ↔ x = y := by
  obtain ⟨a1, a2, a3, a4, a5, a6, a7⟩ := x
  obtain ⟨b1, b2, b3, b4, b5, b6, b7⟩ := y
  unfold talB
  simp only [Bool.and_eq_true, beq_iff_eq, Tal.mk.injEq]
set_option maxHeartbeats 4000000 in
set_option maxRecDepth 100000 in
theorem ralike17_any {w : World} {B m r : Nat} {most : Int} {L1 : List SV} {G : Nat → Prop} {tal : Tal} {B2 m2 r2 : Nat} {L2 : List SV} {G2 : Nat → Prop} {tal2 : Tal} (h1 : RmIs w B m r most L1 G tal) (h2 : RmIs w B2 m2 r2 most L2 G2 tal2) (hl1 : L1.length ≤ 1000000) (hl2 : L2.length ≤ 1000000) :
    Calls Try.prog 22 #[.pointer (some ⟨m, 0, none⟩), .pointer (some ⟨m2, 0, none⟩)] w fun e w' => e = .returned (.bool (talB tal tal2 && alikeB L1 L2)) ∧ Below w.heap.size w w' := by
  have k1 := h1.1
  have k2 := h2.1
  have HC := Lib.hid (fun W (hb : Below w.heap.size w W) => ralike16_any (h1.2.1.new hb) (h2.2.1.new hb) hl1 hl2)
  obtain ⟨x1, x2, x3, x4, x5, x6, x7⟩ := tal
  obtain ⟨y1, y2, y3, y4, y5, y6, y7⟩ := tal2
  have c0 : w.cell? ⟨m, 0, none⟩ = some (.pointer (some ⟨r, 0, none⟩)) := by rw [cell_of_row _ _ _ _ _ _ k1]; rfl
  have c1 : w.cell? ⟨m, 1, none⟩ = some (.int .i64 x1) := by rw [cell_of_row _ _ _ _ _ _ k1]; rfl
  have c2 : w.cell? ⟨m, 2, none⟩ = some (.int .i64 x2) := by rw [cell_of_row _ _ _ _ _ _ k1]; rfl
  have c3 : w.cell? ⟨m, 3, none⟩ = some (.int .i64 x3) := by rw [cell_of_row _ _ _ _ _ _ k1]; rfl
  have c4 : w.cell? ⟨m, 4, none⟩ = some (.int .i64 x4) := by rw [cell_of_row _ _ _ _ _ _ k1]; rfl
  have c5 : w.cell? ⟨m, 5, none⟩ = some (.int .i64 x5) := by rw [cell_of_row _ _ _ _ _ _ k1]; rfl
  have c6 : w.cell? ⟨m, 6, none⟩ = some (.int .i64 x6) := by rw [cell_of_row _ _ _ _ _ _ k1]; rfl
  have c7 : w.cell? ⟨m, 7, none⟩ = some (.int .i64 x7) := by rw [cell_of_row _ _ _ _ _ _ k1]; rfl
  have d0 : w.cell? ⟨m2, 0, none⟩ = some (.pointer (some ⟨r2, 0, none⟩)) := by rw [cell_of_row _ _ _ _ _ _ k2]; rfl
  have d1 : w.cell? ⟨m2, 1, none⟩ = some (.int .i64 y1) := by rw [cell_of_row _ _ _ _ _ _ k2]; rfl
  have d2 : w.cell? ⟨m2, 2, none⟩ = some (.int .i64 y2) := by rw [cell_of_row _ _ _ _ _ _ k2]; rfl
  have d3 : w.cell? ⟨m2, 3, none⟩ = some (.int .i64 y3) := by rw [cell_of_row _ _ _ _ _ _ k2]; rfl
  have d4 : w.cell? ⟨m2, 4, none⟩ = some (.int .i64 y4) := by rw [cell_of_row _ _ _ _ _ _ k2]; rfl
  have d5 : w.cell? ⟨m2, 5, none⟩ = some (.int .i64 y5) := by rw [cell_of_row _ _ _ _ _ _ k2]; rfl
  have d6 : w.cell? ⟨m2, 6, none⟩ = some (.int .i64 y6) := by rw [cell_of_row _ _ _ _ _ _ k2]; rfl
  have d7 : w.cell? ⟨m2, 7, none⟩ = some (.int .i64 y7) := by rw [cell_of_row _ _ _ _ _ _ k2]; rfl
  clear h1 h2 k1 k2 hl1 hl2
  generalize alikeB L1 L2 = bz at HC
  by_cases h0 : x1 = y1
  rotate_left 1
  · have HS := Lib.hid (show talB ⟨x1, x2, x3, x4, x5, x6, x7⟩ ⟨y1, y2, y3, y4, y5, y6, y7⟩ = false from Bool.eq_false_iff.2 fun h => h0 (by have e := talB_iff.1 h; simp only [Tal.mk.injEq] at e; simp only [e]))
    have g0 : (x1 == y1) = false := by rw [beq_eq_false_iff_ne]; exact h0
    clear h0
    go_enter Try.func22, Try.ntmps22
    go_wp2_with fail
    go_quiet (fail)
    go_wp2
    go_ret
    exact ⟨by rw [HS.out]; rfl, below_drewN (Below.refl _ _) _⟩
  subst h0
  by_cases h1 : x2 = y2
  rotate_left 1
  · have HS := Lib.hid (show talB ⟨x1, x2, x3, x4, x5, x6, x7⟩ ⟨x1, y2, y3, y4, y5, y6, y7⟩ = false from Bool.eq_false_iff.2 fun h => h1 (by have e := talB_iff.1 h; simp only [Tal.mk.injEq] at e; simp only [e]))
    have g1 : (x2 == y2) = false := by rw [beq_eq_false_iff_ne]; exact h1
    clear h1
    go_enter Try.func22, Try.ntmps22
    go_wp2_with fail
    go_quiet (fail)
    go_wp2
    go_ret
    exact ⟨by rw [HS.out]; rfl, below_drewN (Below.refl _ _) _⟩
  subst h1
  by_cases h2 : x3 = y3
  rotate_left 1
  · have HS := Lib.hid (show talB ⟨x1, x2, x3, x4, x5, x6, x7⟩ ⟨x1, x2, y3, y4, y5, y6, y7⟩ = false from Bool.eq_false_iff.2 fun h => h2 (by have e := talB_iff.1 h; simp only [Tal.mk.injEq] at e; simp only [e]))
    have g2 : (x3 == y3) = false := by rw [beq_eq_false_iff_ne]; exact h2
    clear h2
    go_enter Try.func22, Try.ntmps22
    go_wp2_with fail
    go_quiet (fail)
    go_wp2
    go_ret
    exact ⟨by rw [HS.out]; rfl, below_drewN (Below.refl _ _) _⟩
  subst h2
  by_cases h3 : x4 = y4
  rotate_left 1
  · have HS := Lib.hid (show talB ⟨x1, x2, x3, x4, x5, x6, x7⟩ ⟨x1, x2, x3, y4, y5, y6, y7⟩ = false from Bool.eq_false_iff.2 fun h => h3 (by have e := talB_iff.1 h; simp only [Tal.mk.injEq] at e; simp only [e]))
    have g3 : (x4 == y4) = false := by rw [beq_eq_false_iff_ne]; exact h3
    clear h3
    go_enter Try.func22, Try.ntmps22
    go_wp2_with fail
    go_quiet (fail)
    go_wp2
    go_ret
    exact ⟨by rw [HS.out]; rfl, below_drewN (Below.refl _ _) _⟩
  subst h3
  by_cases h4 : x5 = y5
  rotate_left 1
  · have HS := Lib.hid (show talB ⟨x1, x2, x3, x4, x5, x6, x7⟩ ⟨x1, x2, x3, x4, y5, y6, y7⟩ = false from Bool.eq_false_iff.2 fun h => h4 (by have e := talB_iff.1 h; simp only [Tal.mk.injEq] at e; simp only [e]))
    have g4 : (x5 == y5) = false := by rw [beq_eq_false_iff_ne]; exact h4
    clear h4
    go_enter Try.func22, Try.ntmps22
    go_wp2_with fail
    go_quiet (fail)
    go_wp2
    go_ret
    exact ⟨by rw [HS.out]; rfl, below_drewN (Below.refl _ _) _⟩
  subst h4
  by_cases h5 : x6 = y6
  rotate_left 1
  · have HS := Lib.hid (show talB ⟨x1, x2, x3, x4, x5, x6, x7⟩ ⟨x1, x2, x3, x4, x5, y6, y7⟩ = false from Bool.eq_false_iff.2 fun h => h5 (by have e := talB_iff.1 h; simp only [Tal.mk.injEq] at e; simp only [e]))
    have g5 : (x6 == y6) = false := by rw [beq_eq_false_iff_ne]; exact h5
    clear h5
    go_enter Try.func22, Try.ntmps22
    go_wp2_with fail
    go_quiet (fail)
    go_wp2
    go_ret
    exact ⟨by rw [HS.out]; rfl, below_drewN (Below.refl _ _) _⟩
  subst h5
  by_cases h6 : x7 = y7
  rotate_left 1
  · have HS := Lib.hid (show talB ⟨x1, x2, x3, x4, x5, x6, x7⟩ ⟨x1, x2, x3, x4, x5, x6, y7⟩ = false from Bool.eq_false_iff.2 fun h => h6 (by have e := talB_iff.1 h; simp only [Tal.mk.injEq] at e; simp only [e]))
    have g6 : (x7 == y7) = false := by rw [beq_eq_false_iff_ne]; exact h6
    clear h6
    go_enter Try.func22, Try.ntmps22
    go_wp2_with fail
    go_quiet (fail)
    go_wp2
    go_ret
    exact ⟨by rw [HS.out]; rfl, below_drewN (Below.refl _ _) _⟩
  subst h6
  have HS := Lib.hid (show talB ⟨x1, x2, x3, x4, x5, x6, x7⟩ ⟨x1, x2, x3, x4, x5, x6, x7⟩ = true from talB_iff.2 rfl)
  have C0 := Lib.hid c0
  have D0 := Lib.hid d0
  have C1 := Lib.hid c1
  have D1 := Lib.hid d1
  have C2 := Lib.hid c2
  have D2 := Lib.hid d2
  have C3 := Lib.hid c3
  have D3 := Lib.hid d3
  have C4 := Lib.hid c4
  have D4 := Lib.hid d4
  have C5 := Lib.hid c5
  have D5 := Lib.hid d5
  have C6 := Lib.hid c6
  have D6 := Lib.hid d6
  have C7 := Lib.hid c7
  have D7 := Lib.hid d7
  clear c0 d0 c1 d1 c2 d2 c3 d3 c4 d4 c5 d5 c6 d6 c7 d7
  go_enter Try.func22, Try.ntmps22
  go_wp2_with fail
  refine wp_region_noPanic ?_
  refine wp_region_held_drew (S := (fun w' => Below w.heap.size w w')) (by kernel_rfl) ?_ (fun hHeld => ?_)
  · exact drew_below _
  refine wpAnyH_take (i := 0) (oi := _) (v := ?_) rfl (by kernel_rfl) (by kernel_rfl) (by kernel_rfl) (fun _ _ _ h => h) (Or.inl ⟨by rfl, ?_⟩) (by assumption) ?_
  rotate_left 1
  · (intro w hSw; (try dsimp only at hSw); go_simp; (try with_reducible rfl))
  try simp only [Act.put, List.getElem_toArray, List.getElem_cons_zero, List.setIfInBounds_toArray, List.set_cons_zero, List.set_cons_succ]
  refine wpAnyH_take (i := 1) (oi := _) (v := ?_) rfl (by kernel_rfl) (by kernel_rfl) (by kernel_rfl) (fun _ _ _ h => h) (Or.inl ⟨by rfl, ?_⟩) (by assumption) ?_
  rotate_left 1
  · (intro w hSw; (try dsimp only at hSw); go_simp; (try with_reducible rfl))
  try simp only [Act.put, List.getElem_toArray, List.getElem_cons_succ, List.getElem_cons_zero, List.setIfInBounds_toArray, List.set_cons_zero, List.set_cons_succ]
  refine wpAnyH_take (i := 2) (oi := _) (v := ?_) rfl (by kernel_rfl) (by kernel_rfl) (by kernel_rfl) (fun _ _ _ h => h) (Or.inl ⟨by rfl, ?_⟩) (by assumption) ?_
  rotate_left 1
  · (intro w hSw; (try dsimp only at hSw); go_simp; (try with_reducible rfl))
  try simp only [Act.put, List.getElem_toArray, List.getElem_cons_succ, List.getElem_cons_zero, List.setIfInBounds_toArray, List.set_cons_zero, List.set_cons_succ]
  refine wpAnyH_take (i := 3) (oi := _) (v := ?_) rfl (by kernel_rfl) (by kernel_rfl) (by kernel_rfl) (fun _ _ _ h => h) (Or.inl ⟨by rfl, ?_⟩) (by assumption) ?_
  rotate_left 1
  · (intro w hSw; (try dsimp only at hSw); (have q1 := keepc hSw C1.out; have q2 := keepc hSw C2.out; have q3 := keepc hSw C3.out; have q4 := keepc hSw C4.out; have q5 := keepc hSw C5.out; have q6 := keepc hSw C6.out; have q7 := keepc hSw C7.out; go_simp); (try with_reducible rfl))
  try simp only [Act.put, List.getElem_toArray, List.getElem_cons_succ, List.getElem_cons_zero, List.setIfInBounds_toArray, List.set_cons_zero, List.set_cons_succ]
  refine wpAnyH_take (i := 4) (oi := _) (v := ?_) rfl (by kernel_rfl) (by kernel_rfl) (by kernel_rfl) (fun _ _ _ h => h) (Or.inl ⟨by rfl, ?_⟩) (by assumption) ?_
  rotate_left 1
  · (intro w hSw; (try dsimp only at hSw); go_simp; (try with_reducible rfl))
  try simp only [Act.put, List.getElem_toArray, List.getElem_cons_succ, List.getElem_cons_zero, List.setIfInBounds_toArray, List.set_cons_zero, List.set_cons_succ]
  refine wpAnyH_take (i := 5) (oi := _) (v := ?_) rfl (by kernel_rfl) (by kernel_rfl) (by kernel_rfl) (fun _ _ _ h => h) (Or.inl ⟨by rfl, ?_⟩) (by assumption) ?_
  rotate_left 1
  · (intro w hSw; (try dsimp only at hSw); go_simp; (try with_reducible rfl))
  try simp only [Act.put, List.getElem_toArray, List.getElem_cons_succ, List.getElem_cons_zero, List.setIfInBounds_toArray, List.set_cons_zero, List.set_cons_succ]
  refine wpAnyH_take (i := 6) (oi := _) (v := ?_) rfl (by kernel_rfl) (by kernel_rfl) (by kernel_rfl) (fun _ _ _ h => h) (Or.inl ⟨by rfl, ?_⟩) (by assumption) ?_
  rotate_left 1
  · (intro w hSw; (try dsimp only at hSw); go_simp; (try with_reducible rfl))
  try simp only [Act.put, List.getElem_toArray, List.getElem_cons_succ, List.getElem_cons_zero, List.setIfInBounds_toArray, List.set_cons_zero, List.set_cons_succ]
  refine wpAnyH_take (i := 7) (oi := _) (v := ?_) rfl (by kernel_rfl) (by kernel_rfl) (by kernel_rfl) (fun _ _ _ h => h) (Or.inl ⟨by rfl, ?_⟩) (by assumption) ?_
  rotate_left 1
  · (intro w hSw; (try dsimp only at hSw); (have q1 := keepc hSw D1.out; have q2 := keepc hSw D2.out; have q3 := keepc hSw D3.out; have q4 := keepc hSw D4.out; have q5 := keepc hSw D5.out; have q6 := keepc hSw D6.out; have q7 := keepc hSw D7.out; go_simp); (try with_reducible rfl))
  try simp only [Act.put, List.getElem_toArray, List.getElem_cons_succ, List.getElem_cons_zero, List.setIfInBounds_toArray, List.set_cons_zero, List.set_cons_succ]
  refine wpAnyH_take (i := 8) (oi := _) (v := ?_) rfl (by kernel_rfl) (by kernel_rfl) (by kernel_rfl) (fun _ _ _ h => h) (Or.inl ⟨by rfl, ?_⟩) (by assumption) ?_
  rotate_left 1
  · (intro w hSw; (try dsimp only at hSw); go_simp; (try with_reducible rfl))
  try simp only [Act.put, List.getElem_toArray, List.getElem_cons_succ, List.getElem_cons_zero, List.setIfInBounds_toArray, List.set_cons_zero, List.set_cons_succ]
  refine wpAnyH_take (i := 9) (oi := _) (v := ?_) rfl (by kernel_rfl) (by kernel_rfl) (by kernel_rfl) (fun _ _ _ h => h) (Or.inl ⟨by rfl, ?_⟩) (by assumption) ?_
  rotate_left 1
  · (intro w hSw; (try dsimp only at hSw); go_simp; (try with_reducible rfl))
  try simp only [Act.put, List.getElem_toArray, List.getElem_cons_succ, List.getElem_cons_zero, List.setIfInBounds_toArray, List.set_cons_zero, List.set_cons_succ]
  refine wpAnyH_take (i := 10) (oi := _) (v := ?_) rfl (by kernel_rfl) (by kernel_rfl) (by kernel_rfl) (fun _ _ _ h => h) (Or.inl ⟨by rfl, ?_⟩) (by assumption) ?_
  rotate_left 1
  · (intro w hSw; (try dsimp only at hSw); go_simp; (try with_reducible rfl))
  try simp only [Act.put, List.getElem_toArray, List.getElem_cons_succ, List.getElem_cons_zero, List.setIfInBounds_toArray, List.set_cons_zero, List.set_cons_succ]
  refine wpAnyH_take (i := 11) (oi := _) (v := ?_) rfl (by kernel_rfl) (by kernel_rfl) (by kernel_rfl) (fun _ _ _ h => h) (Or.inl ⟨by rfl, ?_⟩) (by assumption) ?_
  rotate_left 1
  · (intro w hSw; (try dsimp only at hSw); go_simp; (try with_reducible rfl))
  try simp only [Act.put, List.getElem_toArray, List.getElem_cons_succ, List.getElem_cons_zero, List.setIfInBounds_toArray, List.set_cons_zero, List.set_cons_succ]
  refine wpAnyH_take (i := 12) (oi := _) (v := ?_) rfl (by kernel_rfl) (by kernel_rfl) (by kernel_rfl) (fun _ _ _ h => h) (Or.inl ⟨by rfl, ?_⟩) (by assumption) ?_
  rotate_left 1
  · (intro w hSw; (try dsimp only at hSw); go_simp; (try with_reducible rfl))
  try simp only [Act.put, List.getElem_toArray, List.getElem_cons_succ, List.getElem_cons_zero, List.setIfInBounds_toArray, List.set_cons_zero, List.set_cons_succ]
  refine wpAnyH_take (i := 13) (oi := _) (v := ?_) rfl (by kernel_rfl) (by kernel_rfl) (by kernel_rfl) (fun _ _ _ h => h) (Or.inl ⟨by rfl, ?_⟩) (by assumption) ?_
  rotate_left 1
  · (intro w hSw; (try dsimp only at hSw); (have q := keepc hSw C0.out; go_simp); (try with_reducible rfl))
  try simp only [Act.put, List.getElem_toArray, List.getElem_cons_succ, List.getElem_cons_zero, List.setIfInBounds_toArray, List.set_cons_zero, List.set_cons_succ]
  refine wpAnyH_take (i := 14) (oi := _) (v := ?_) rfl (by kernel_rfl) (by kernel_rfl) (by kernel_rfl) (fun _ _ _ h => h) (Or.inl ⟨by rfl, ?_⟩) (by assumption) ?_
  rotate_left 1
  · (intro w hSw; (try dsimp only at hSw); go_simp; (try with_reducible rfl))
  try simp only [Act.put, List.getElem_toArray, List.getElem_cons_succ, List.getElem_cons_zero, List.setIfInBounds_toArray, List.set_cons_zero, List.set_cons_succ]
  refine wpAnyH_take (i := 15) (oi := _) (v := ?_) rfl (by kernel_rfl) (by kernel_rfl) (by kernel_rfl) (fun _ _ _ h => h) (Or.inl ⟨by rfl, ?_⟩) (by assumption) ?_
  rotate_left 1
  · (intro w hSw; (try dsimp only at hSw); go_simp; (try with_reducible rfl))
  try simp only [Act.put, List.getElem_toArray, List.getElem_cons_succ, List.getElem_cons_zero, List.setIfInBounds_toArray, List.set_cons_zero, List.set_cons_succ]
  refine wpAnyH_take (i := 16) (oi := _) (v := ?_) rfl (by kernel_rfl) (by kernel_rfl) (by kernel_rfl) (fun _ _ _ h => h) (Or.inl ⟨by rfl, ?_⟩) (by assumption) ?_
  rotate_left 1
  · (intro w hSw; (try dsimp only at hSw); go_simp; (try with_reducible rfl))
  try simp only [Act.put, List.getElem_toArray, List.getElem_cons_succ, List.getElem_cons_zero, List.setIfInBounds_toArray, List.set_cons_zero, List.set_cons_succ]
  refine wpAnyH_take (i := 17) (oi := _) (v := ?_) rfl (by kernel_rfl) (by kernel_rfl) (by kernel_rfl) (fun _ _ _ h => h) (Or.inl ⟨by rfl, ?_⟩) (by assumption) ?_
  rotate_left 1
  · (intro w hSw; (try dsimp only at hSw); (have q := keepc hSw D0.out; go_simp); (try with_reducible rfl))
  try simp only [Act.put, List.getElem_toArray, List.getElem_cons_succ, List.getElem_cons_zero, List.setIfInBounds_toArray, List.set_cons_zero, List.set_cons_succ]
  refine wpAnyH_ready (rs := [18]) (by kernel_rfl) (by simp) ?_
  refine AllReadyH.cons (o := _) rfl (fun K hK => ?_) AllReadyH.nil
  go_simp
  refine (HC.out _ hHeld).mono ?_
  rintro e w2 ⟨rfl, kk, rfl⟩
  go_wp2_with fail
  refine hK.out _ _ ?_ (fun hHeld18 => ?_)
  · exact below_drewN (Below.refl _ _) _
  clear hK K
  try simp only [Act.put, List.getElem_toArray, List.getElem_cons_succ, List.getElem_cons_zero, List.setIfInBounds_toArray, List.set_cons_zero, List.set_cons_succ]
  refine wpAnyH_take (i := 19) (oi := _) (v := ?_) rfl (by kernel_rfl) (by kernel_rfl) (by kernel_rfl) (fun _ _ _ h => h) (Or.inl ⟨by rfl, ?_⟩) (by assumption) ?_
  rotate_left 1
  · (intro w hSw; (try dsimp only at hSw); go_simp; (try with_reducible rfl))
  try simp only [Act.put, List.getElem_toArray, List.getElem_cons_succ, List.getElem_cons_zero, List.setIfInBounds_toArray, List.set_cons_zero, List.set_cons_succ]
  refine wpAnyH_take (i := 20) (oi := _) (v := ?_) rfl (by kernel_rfl) (by kernel_rfl) (by kernel_rfl) (fun _ _ _ h => h) (Or.inl ⟨by rfl, ?_⟩) (by assumption) ?_
  rotate_left 1
  · (intro w hSw; (try dsimp only at hSw); go_simp; (try with_reducible rfl))
  try simp only [Act.put, List.getElem_toArray, List.getElem_cons_succ, List.getElem_cons_zero, List.setIfInBounds_toArray, List.set_cons_zero, List.set_cons_succ]
  refine wpAnyH_done (by kernel_rfl) ?_ _
  refine NoPanic.normal ?_
  go_wp2
  go_ret
  exact ⟨by rw [HS.out]; rfl, hHeld18⟩
set_option maxHeartbeats 4000000 in
set_option maxRecDepth 100000 in
theorem msame_any {w : World} {B m s : Nat} {most : Int} {l1 : List SV} {F : List Nat} {tal : Tal} {B2 m2 s2 : Nat} {l2 : List SV} {F2 : List Nat} {tal2 : Tal} (h1 : MIs w B m s most l1 F tal) (h2 : MIs w B2 m2 s2 most l2 F2 tal2) (hu1 : Uniq l1) (hu2 : Uniq l2) (hm0 : 0 ≤ most) (hl1 : l1.length ≤ 1000000) (hl2 : l2.length ≤ 1000000) :
    Calls Try.prog 21 #[.pointer (some ⟨m, 0, none⟩), .pointer (some ⟨m2, 0, none⟩)] w fun e w' => e = .returned (.bool (talB tal tal2 && eqM l1 l2)) ∧ Below w.heap.size w w' := by
  have k1 := h1.1
  have k2 := h2.1
  have HC1 := Lib.hid (fun W (hb : Below w.heap.size w W) => mstore_any (h1.new hb) hu1 hm0)
  have HC2 := Lib.hid (fun W (hb : Below w.heap.size w W) => mstore_any (h2.new hb) hu2 hm0)
  have HU1 := Lib.hid hu1
  have HU2 := Lib.hid hu2
  have HL1 := Lib.hid hl1
  have HL2 := Lib.hid hl2
  obtain ⟨x1, x2, x3, x4, x5, x6, x7⟩ := tal
  obtain ⟨y1, y2, y3, y4, y5, y6, y7⟩ := tal2
  have c1 : w.cell? ⟨m, 1, none⟩ = some (.int .i64 x1) := by rw [cell_of_row _ _ _ _ _ _ k1]; rfl
  have c2 : w.cell? ⟨m, 2, none⟩ = some (.int .i64 x2) := by rw [cell_of_row _ _ _ _ _ _ k1]; rfl
  have c3 : w.cell? ⟨m, 3, none⟩ = some (.int .i64 x3) := by rw [cell_of_row _ _ _ _ _ _ k1]; rfl
  have c4 : w.cell? ⟨m, 4, none⟩ = some (.int .i64 x4) := by rw [cell_of_row _ _ _ _ _ _ k1]; rfl
  have c5 : w.cell? ⟨m, 5, none⟩ = some (.int .i64 x5) := by rw [cell_of_row _ _ _ _ _ _ k1]; rfl
  have c6 : w.cell? ⟨m, 6, none⟩ = some (.int .i64 x6) := by rw [cell_of_row _ _ _ _ _ _ k1]; rfl
  have c7 : w.cell? ⟨m, 7, none⟩ = some (.int .i64 x7) := by rw [cell_of_row _ _ _ _ _ _ k1]; rfl
  have d1 : w.cell? ⟨m2, 1, none⟩ = some (.int .i64 y1) := by rw [cell_of_row _ _ _ _ _ _ k2]; rfl
  have d2 : w.cell? ⟨m2, 2, none⟩ = some (.int .i64 y2) := by rw [cell_of_row _ _ _ _ _ _ k2]; rfl
  have d3 : w.cell? ⟨m2, 3, none⟩ = some (.int .i64 y3) := by rw [cell_of_row _ _ _ _ _ _ k2]; rfl
  have d4 : w.cell? ⟨m2, 4, none⟩ = some (.int .i64 y4) := by rw [cell_of_row _ _ _ _ _ _ k2]; rfl
  have d5 : w.cell? ⟨m2, 5, none⟩ = some (.int .i64 y5) := by rw [cell_of_row _ _ _ _ _ _ k2]; rfl
  have d6 : w.cell? ⟨m2, 6, none⟩ = some (.int .i64 y6) := by rw [cell_of_row _ _ _ _ _ _ k2]; rfl
  have d7 : w.cell? ⟨m2, 7, none⟩ = some (.int .i64 y7) := by rw [cell_of_row _ _ _ _ _ _ k2]; rfl
  clear h1 h2 k1 k2 hl1 hl2 hu1 hu2
  by_cases h0 : x1 = y1
  rotate_left 1
  · have HS := Lib.hid (show talB ⟨x1, x2, x3, x4, x5, x6, x7⟩ ⟨y1, y2, y3, y4, y5, y6, y7⟩ = false from Bool.eq_false_iff.2 fun h => h0 (by have e := talB_iff.1 h; simp only [Tal.mk.injEq] at e; simp only [e]))
    have g0 : (x1 == y1) = false := by rw [beq_eq_false_iff_ne]; exact h0
    clear h0
    go_enter Try.func21, Try.ntmps21
    go_wp2_with fail
    go_quiet (fail)
    go_wp2
    go_ret
    exact ⟨by rw [HS.out]; rfl, below_drewN (Below.refl _ _) _⟩
  subst h0
  by_cases h1 : x2 = y2
  rotate_left 1
  · have HS := Lib.hid (show talB ⟨x1, x2, x3, x4, x5, x6, x7⟩ ⟨x1, y2, y3, y4, y5, y6, y7⟩ = false from Bool.eq_false_iff.2 fun h => h1 (by have e := talB_iff.1 h; simp only [Tal.mk.injEq] at e; simp only [e]))
    have g1 : (x2 == y2) = false := by rw [beq_eq_false_iff_ne]; exact h1
    clear h1
    go_enter Try.func21, Try.ntmps21
    go_wp2_with fail
    go_quiet (fail)
    go_wp2
    go_ret
    exact ⟨by rw [HS.out]; rfl, below_drewN (Below.refl _ _) _⟩
  subst h1
  by_cases h2 : x3 = y3
  rotate_left 1
  · have HS := Lib.hid (show talB ⟨x1, x2, x3, x4, x5, x6, x7⟩ ⟨x1, x2, y3, y4, y5, y6, y7⟩ = false from Bool.eq_false_iff.2 fun h => h2 (by have e := talB_iff.1 h; simp only [Tal.mk.injEq] at e; simp only [e]))
    have g2 : (x3 == y3) = false := by rw [beq_eq_false_iff_ne]; exact h2
    clear h2
    go_enter Try.func21, Try.ntmps21
    go_wp2_with fail
    go_quiet (fail)
    go_wp2
    go_ret
    exact ⟨by rw [HS.out]; rfl, below_drewN (Below.refl _ _) _⟩
  subst h2
  by_cases h3 : x4 = y4
  rotate_left 1
  · have HS := Lib.hid (show talB ⟨x1, x2, x3, x4, x5, x6, x7⟩ ⟨x1, x2, x3, y4, y5, y6, y7⟩ = false from Bool.eq_false_iff.2 fun h => h3 (by have e := talB_iff.1 h; simp only [Tal.mk.injEq] at e; simp only [e]))
    have g3 : (x4 == y4) = false := by rw [beq_eq_false_iff_ne]; exact h3
    clear h3
    go_enter Try.func21, Try.ntmps21
    go_wp2_with fail
    go_quiet (fail)
    go_wp2
    go_ret
    exact ⟨by rw [HS.out]; rfl, below_drewN (Below.refl _ _) _⟩
  subst h3
  by_cases h4 : x5 = y5
  rotate_left 1
  · have HS := Lib.hid (show talB ⟨x1, x2, x3, x4, x5, x6, x7⟩ ⟨x1, x2, x3, x4, y5, y6, y7⟩ = false from Bool.eq_false_iff.2 fun h => h4 (by have e := talB_iff.1 h; simp only [Tal.mk.injEq] at e; simp only [e]))
    have g4 : (x5 == y5) = false := by rw [beq_eq_false_iff_ne]; exact h4
    clear h4
    go_enter Try.func21, Try.ntmps21
    go_wp2_with fail
    go_quiet (fail)
    go_wp2
    go_ret
    exact ⟨by rw [HS.out]; rfl, below_drewN (Below.refl _ _) _⟩
  subst h4
  by_cases h5 : x6 = y6
  rotate_left 1
  · have HS := Lib.hid (show talB ⟨x1, x2, x3, x4, x5, x6, x7⟩ ⟨x1, x2, x3, x4, x5, y6, y7⟩ = false from Bool.eq_false_iff.2 fun h => h5 (by have e := talB_iff.1 h; simp only [Tal.mk.injEq] at e; simp only [e]))
    have g5 : (x6 == y6) = false := by rw [beq_eq_false_iff_ne]; exact h5
    clear h5
    go_enter Try.func21, Try.ntmps21
    go_wp2_with fail
    go_quiet (fail)
    go_wp2
    go_ret
    exact ⟨by rw [HS.out]; rfl, below_drewN (Below.refl _ _) _⟩
  subst h5
  by_cases h6 : x7 = y7
  rotate_left 1
  · have HS := Lib.hid (show talB ⟨x1, x2, x3, x4, x5, x6, x7⟩ ⟨x1, x2, x3, x4, x5, x6, y7⟩ = false from Bool.eq_false_iff.2 fun h => h6 (by have e := talB_iff.1 h; simp only [Tal.mk.injEq] at e; simp only [e]))
    have g6 : (x7 == y7) = false := by rw [beq_eq_false_iff_ne]; exact h6
    clear h6
    go_enter Try.func21, Try.ntmps21
    go_wp2_with fail
    go_quiet (fail)
    go_wp2
    go_ret
    exact ⟨by rw [HS.out]; rfl, below_drewN (Below.refl _ _) _⟩
  subst h6
  have HS := Lib.hid (show talB ⟨x1, x2, x3, x4, x5, x6, x7⟩ ⟨x1, x2, x3, x4, x5, x6, x7⟩ = true from talB_iff.2 rfl)
  have C1 := Lib.hid c1
  have D1 := Lib.hid d1
  have C2 := Lib.hid c2
  have D2 := Lib.hid d2
  have C3 := Lib.hid c3
  have D3 := Lib.hid d3
  have C4 := Lib.hid c4
  have D4 := Lib.hid d4
  have C5 := Lib.hid c5
  have D5 := Lib.hid d5
  have C6 := Lib.hid c6
  have D6 := Lib.hid d6
  have C7 := Lib.hid c7
  have D7 := Lib.hid d7
  clear c1 d1 c2 d2 c3 d3 c4 d4 c5 d5 c6 d6 c7 d7
  go_enter Try.func21, Try.ntmps21
  go_wp2_with fail
  refine wp_region_noPanic ?_
  refine wp_region_held_drew (S := (fun w' => Below w.heap.size w w')) (by kernel_rfl) ?_ (fun hHeld => ?_)
  · exact drew_below _
  refine wpAnyH_take (i := 0) (oi := _) (v := ?_) rfl (by kernel_rfl) (by kernel_rfl) (by kernel_rfl) (fun _ _ _ h => h) (Or.inl ⟨by rfl, ?_⟩) (by assumption) ?_
  rotate_left 1
  · (intro w hSw; (try dsimp only at hSw); go_simp; (try with_reducible rfl))
  try simp only [Act.put, List.getElem_toArray, List.getElem_cons_zero, List.setIfInBounds_toArray, List.set_cons_zero, List.set_cons_succ]
  refine wpAnyH_take (i := 1) (oi := _) (v := ?_) rfl (by kernel_rfl) (by kernel_rfl) (by kernel_rfl) (fun _ _ _ h => h) (Or.inl ⟨by rfl, ?_⟩) (by assumption) ?_
  rotate_left 1
  · (intro w hSw; (try dsimp only at hSw); go_simp; (try with_reducible rfl))
  try simp only [Act.put, List.getElem_toArray, List.getElem_cons_succ, List.getElem_cons_zero, List.setIfInBounds_toArray, List.set_cons_zero, List.set_cons_succ]
  refine wpAnyH_take (i := 2) (oi := _) (v := ?_) rfl (by kernel_rfl) (by kernel_rfl) (by kernel_rfl) (fun _ _ _ h => h) (Or.inl ⟨by rfl, ?_⟩) (by assumption) ?_
  rotate_left 1
  · (intro w hSw; (try dsimp only at hSw); go_simp; (try with_reducible rfl))
  try simp only [Act.put, List.getElem_toArray, List.getElem_cons_succ, List.getElem_cons_zero, List.setIfInBounds_toArray, List.set_cons_zero, List.set_cons_succ]
  refine wpAnyH_take (i := 3) (oi := _) (v := ?_) rfl (by kernel_rfl) (by kernel_rfl) (by kernel_rfl) (fun _ _ _ h => h) (Or.inl ⟨by rfl, ?_⟩) (by assumption) ?_
  rotate_left 1
  · (intro w hSw; (try dsimp only at hSw); (have q1 := keepc hSw C1.out; have q2 := keepc hSw C2.out; have q3 := keepc hSw C3.out; have q4 := keepc hSw C4.out; have q5 := keepc hSw C5.out; have q6 := keepc hSw C6.out; have q7 := keepc hSw C7.out; go_simp); (try with_reducible rfl))
  try simp only [Act.put, List.getElem_toArray, List.getElem_cons_succ, List.getElem_cons_zero, List.setIfInBounds_toArray, List.set_cons_zero, List.set_cons_succ]
  refine wpAnyH_take (i := 4) (oi := _) (v := ?_) rfl (by kernel_rfl) (by kernel_rfl) (by kernel_rfl) (fun _ _ _ h => h) (Or.inl ⟨by rfl, ?_⟩) (by assumption) ?_
  rotate_left 1
  · (intro w hSw; (try dsimp only at hSw); go_simp; (try with_reducible rfl))
  try simp only [Act.put, List.getElem_toArray, List.getElem_cons_succ, List.getElem_cons_zero, List.setIfInBounds_toArray, List.set_cons_zero, List.set_cons_succ]
  refine wpAnyH_take (i := 5) (oi := _) (v := ?_) rfl (by kernel_rfl) (by kernel_rfl) (by kernel_rfl) (fun _ _ _ h => h) (Or.inl ⟨by rfl, ?_⟩) (by assumption) ?_
  rotate_left 1
  · (intro w hSw; (try dsimp only at hSw); go_simp; (try with_reducible rfl))
  try simp only [Act.put, List.getElem_toArray, List.getElem_cons_succ, List.getElem_cons_zero, List.setIfInBounds_toArray, List.set_cons_zero, List.set_cons_succ]
  refine wpAnyH_take (i := 6) (oi := _) (v := ?_) rfl (by kernel_rfl) (by kernel_rfl) (by kernel_rfl) (fun _ _ _ h => h) (Or.inl ⟨by rfl, ?_⟩) (by assumption) ?_
  rotate_left 1
  · (intro w hSw; (try dsimp only at hSw); go_simp; (try with_reducible rfl))
  try simp only [Act.put, List.getElem_toArray, List.getElem_cons_succ, List.getElem_cons_zero, List.setIfInBounds_toArray, List.set_cons_zero, List.set_cons_succ]
  refine wpAnyH_take (i := 7) (oi := _) (v := ?_) rfl (by kernel_rfl) (by kernel_rfl) (by kernel_rfl) (fun _ _ _ h => h) (Or.inl ⟨by rfl, ?_⟩) (by assumption) ?_
  rotate_left 1
  · (intro w hSw; (try dsimp only at hSw); (have q1 := keepc hSw D1.out; have q2 := keepc hSw D2.out; have q3 := keepc hSw D3.out; have q4 := keepc hSw D4.out; have q5 := keepc hSw D5.out; have q6 := keepc hSw D6.out; have q7 := keepc hSw D7.out; go_simp); (try with_reducible rfl))
  try simp only [Act.put, List.getElem_toArray, List.getElem_cons_succ, List.getElem_cons_zero, List.setIfInBounds_toArray, List.set_cons_zero, List.set_cons_succ]
  refine wpAnyH_take (i := 8) (oi := _) (v := ?_) rfl (by kernel_rfl) (by kernel_rfl) (by kernel_rfl) (fun _ _ _ h => h) (Or.inl ⟨by rfl, ?_⟩) (by assumption) ?_
  rotate_left 1
  · (intro w hSw; (try dsimp only at hSw); go_simp; (try with_reducible rfl))
  try simp only [Act.put, List.getElem_toArray, List.getElem_cons_succ, List.getElem_cons_zero, List.setIfInBounds_toArray, List.set_cons_zero, List.set_cons_succ]
  refine wpAnyH_take (i := 9) (oi := _) (v := ?_) rfl (by kernel_rfl) (by kernel_rfl) (by kernel_rfl) (fun _ _ _ h => h) (Or.inl ⟨by rfl, ?_⟩) (by assumption) ?_
  rotate_left 1
  · (intro w hSw; (try dsimp only at hSw); go_simp; (try with_reducible rfl))
  try simp only [Act.put, List.getElem_toArray, List.getElem_cons_succ, List.getElem_cons_zero, List.setIfInBounds_toArray, List.set_cons_zero, List.set_cons_succ]
  refine wpAnyH_take (i := 10) (oi := _) (v := ?_) rfl (by kernel_rfl) (by kernel_rfl) (by kernel_rfl) (fun _ _ _ h => h) (Or.inl ⟨by rfl, ?_⟩) (by assumption) ?_
  rotate_left 1
  · (intro w hSw; (try dsimp only at hSw); go_simp; (try with_reducible rfl))
  try simp only [Act.put, List.getElem_toArray, List.getElem_cons_succ, List.getElem_cons_zero, List.setIfInBounds_toArray, List.set_cons_zero, List.set_cons_succ]
  refine wpAnyH_take (i := 12) (oi := _) (v := ?_) rfl (by kernel_rfl) (by kernel_rfl) (by kernel_rfl) (fun _ _ _ h => h) (Or.inl ⟨by rfl, ?_⟩) (by assumption) ?_
  rotate_left 1
  · (intro w hSw; (try dsimp only at hSw); go_simp; (try with_reducible rfl))
  try simp only [Act.put, List.getElem_toArray, List.getElem_cons_succ, List.getElem_cons_zero, List.setIfInBounds_toArray, List.set_cons_zero, List.set_cons_succ]
  refine wpAnyH_ready (rs := [11]) (by kernel_rfl) (by simp) ?_
  refine AllReadyH.cons (o := _) rfl (fun K hK => ?_) AllReadyH.nil
  go_simp
  refine (HC1.out _ hHeld).mono ?_
  rintro e w2 ⟨sa, Fa, la, rfl, ha, hpa, hba, -⟩
  have HBA := Lib.hid (hHeld.trans (hba.mono hHeld.size))
  have HA := Lib.hid ha
  have HPA := Lib.hid hpa
  clear ha hpa hba
  go_wp2_with fail
  refine hK.out _ _ ?_ (fun hHeld11 => ?_)
  · exact HBA.out
  clear hK K
  try simp only [Act.put, List.getElem_toArray, List.getElem_cons_succ, List.getElem_cons_zero, List.setIfInBounds_toArray, List.set_cons_zero, List.set_cons_succ]
  refine wpAnyH_ready (rs := [13]) (by kernel_rfl) (by simp) ?_
  refine AllReadyH.cons (o := _) rfl (fun K hK => ?_) AllReadyH.nil
  go_simp
  refine (HC2.out _ HBA.out).mono ?_
  rintro e w3 ⟨sb, Fb, lb, rfl, hb, hpb, hbb, -⟩
  have HBB := Lib.hid (HBA.out.trans (hbb.mono HBA.out.size))
  have HSM := Lib.hid (show Calls Try.prog 33 #[.pointer (some ⟨sa, 0, none⟩), .pointer (some ⟨sb, 0, none⟩)] w3 fun e w' => e = .returned (.bool (eqM l1 l2)) ∧ Below w3.heap.size w3 w' from by (have h := ssame_any (HA.out.only (G := fun _ => False) (Only.of_new hbb) (fun _ _ h => h)) hb (by rw [HPA.out.length_eq]; exact HL1.out) (by rw [hpb.length_eq]; exact HL2.out); rw [eqM_perm HPA.out hpb HU1.out HU2.out] at h; exact h))
  clear hb hpb hbb
  go_wp2_with fail
  refine hK.out _ _ ?_ (fun hHeld13 => ?_)
  · exact HBB.out
  clear hK K
  try simp only [Act.put, List.getElem_toArray, List.getElem_cons_succ, List.getElem_cons_zero, List.setIfInBounds_toArray, List.set_cons_zero, List.set_cons_succ]
  refine wpAnyH_ready (rs := [14]) (by kernel_rfl) (by simp) ?_
  refine AllReadyH.cons (o := _) rfl (fun K hK => ?_) AllReadyH.nil
  go_simp
  refine HSM.out.mono ?_
  rintro e w4 ⟨rfl, hb4⟩
  have HB4 := Lib.hid (HBB.out.trans (hb4.mono HBB.out.size))
  clear hb4
  go_wp2_with fail
  refine hK.out _ _ ?_ (fun hHeld14 => ?_)
  · exact HB4.out
  clear hK K
  try simp only [Act.put, List.getElem_toArray, List.getElem_cons_succ, List.getElem_cons_zero, List.setIfInBounds_toArray, List.set_cons_zero, List.set_cons_succ]
  refine wpAnyH_take (i := 15) (oi := _) (v := ?_) rfl (by kernel_rfl) (by kernel_rfl) (by kernel_rfl) (fun _ _ _ h => h) (Or.inl ⟨by rfl, ?_⟩) (by assumption) ?_
  rotate_left 1
  · (intro w hSw; (try dsimp only at hSw); go_simp; (try with_reducible rfl))
  try simp only [Act.put, List.getElem_toArray, List.getElem_cons_succ, List.getElem_cons_zero, List.setIfInBounds_toArray, List.set_cons_zero, List.set_cons_succ]
  refine wpAnyH_take (i := 16) (oi := _) (v := ?_) rfl (by kernel_rfl) (by kernel_rfl) (by kernel_rfl) (fun _ _ _ h => h) (Or.inl ⟨by rfl, ?_⟩) (by assumption) ?_
  rotate_left 1
  · (intro w hSw; (try dsimp only at hSw); go_simp; (try with_reducible rfl))
  try simp only [Act.put, List.getElem_toArray, List.getElem_cons_succ, List.getElem_cons_zero, List.setIfInBounds_toArray, List.set_cons_zero, List.set_cons_succ]
  refine wpAnyH_done (by kernel_rfl) ?_ _
  refine NoPanic.normal ?_
  go_wp2
  go_ret
  exact ⟨by rw [HS.out]; rfl, HB4.out⟩
end Go.Proofs.Ythademifhnkbiaa
