/- The reference's queue in memory; the walks over its New, Waiting, Next, Wait, Answer. -/
import Derived.Test.YtdomnjakhecbaaaQuH
import Derived.Deep.QuietTactic
import Derived.BigQuiet
import Derived.Outline
namespace Go.Proofs.Ytdomnjakhecbaaa
open Go.RowKit K
structure RQ where
  gone : Int
  most : Int
  base : Int
  longest : Int
  drop : Int
  at_ : Bool
  timed : Bool
  when_ : Int
  tries : Int
def RQBox (w : World) (g : Nat) (v : Value) (s : RQ) : Prop :=
  w.heap[g]? = some (.cells #[v, .int .i64 s.gone, .int .i64 s.most, .int .i64 s.base, .int .i64 s.longest, .int .i64 s.drop, .bool s.at_, .bool s.timed, .int .i64 s.when_, .int .i64 s.tries] 79 (0, 0))
section
variable {w : World} {g : Nat} {v : Value} {s : RQ}
theorem RQBox.cell (h : RQBox w g v s) (i : Nat) : w.cell? ⟨g, i, none⟩ = (#[v, .int .i64 s.gone, .int .i64 s.most, .int .i64 s.base, .int .i64 s.longest, .int .i64 s.drop, .bool s.at_, .bool s.timed, .int .i64 s.when_, .int .i64 s.tries] : Array Value)[i]? := cell_of_row _ _ _ _ _ _ h
theorem RQBox.c0 (h : RQBox w g v s) : w.cell? ⟨g, 0, none⟩ = some v := h.cell 0
theorem RQBox.c1 (h : RQBox w g v s) : w.cell? ⟨g, 1, none⟩ = some (.int .i64 s.gone) := h.cell 1
theorem RQBox.c2 (h : RQBox w g v s) : w.cell? ⟨g, 2, none⟩ = some (.int .i64 s.most) := h.cell 2
theorem RQBox.c3 (h : RQBox w g v s) : w.cell? ⟨g, 3, none⟩ = some (.int .i64 s.base) := h.cell 3
theorem RQBox.c4 (h : RQBox w g v s) : w.cell? ⟨g, 4, none⟩ = some (.int .i64 s.longest) := h.cell 4
theorem RQBox.c5 (h : RQBox w g v s) : w.cell? ⟨g, 5, none⟩ = some (.int .i64 s.drop) := h.cell 5
theorem RQBox.c6 (h : RQBox w g v s) : w.cell? ⟨g, 6, none⟩ = some (.bool s.at_) := h.cell 6
theorem RQBox.c7 (h : RQBox w g v s) : w.cell? ⟨g, 7, none⟩ = some (.bool s.timed) := h.cell 7
theorem RQBox.c8 (h : RQBox w g v s) : w.cell? ⟨g, 8, none⟩ = some (.int .i64 s.when_) := h.cell 8
theorem RQBox.c9 (h : RQBox w g v s) : w.cell? ⟨g, 9, none⟩ = some (.int .i64 s.tries) := h.cell 9
theorem RQBox.fz (h : RQBox w g v s) (i : Nat) : w.frozen? ⟨g, i, none⟩ = false := frozen_of_row w g i _ _ h
end
/-- The reference's queue at g: its frames, the blocks that it lies in. -/
def RSt (w : World) (g : Nat) (s : RQ) (L : List Frm) (M : Nat → Prop) : Prop :=
  ∃ a c xs N, RQBox w g (.slice a L.length c) s ∧ (L.length ≤ c ∧ c ≤ 9223372036854775807 ∧ (a = none → c = 0)) ∧ Rd w a xs ∧ (∀ ad, a = some ad → N ad.block) ∧ Frs w N L xs ∧ M g ∧ ¬ N g ∧ (∀ k, N k → M k) ∧ ∀ k, M k → k < w.heap.size
def RTo (w : World) (M : Nat → Prop) (g : Nat) (s : RQ) (L : List Frm) (w' : World) : Prop := ∃ M', RSt w' g s L M' ∧ Only M w w' ∧ ∀ k, M' k → M k ∨ w.heap.size ≤ k
section
variable {w w' : World} {g : Nat} {s s' : RQ} {L : List Frm} {M F : Nat → Prop}
theorem RSt.only (h : RSt w g s L M) (ho : Only F w w') (hd : ∀ k, M k → ¬ F k) : RSt w' g s L M := by
  obtain ⟨a, c, xs, N, h1, h2, h3, h4, h5, h6, h7, h8, h9⟩ := h
  exact ⟨a, c, xs, N, ho.heap h1 (hd g h6), h2, ho.rd h3 (fun ad e => hd _ (h8 _ (h4 ad e))), h4, Frs.only ho (fun k hk => hd k (h8 k hk)) (fun _ h => h) h5, h6, h7, h8, fun k hk => Nat.lt_of_lt_of_le (h9 k hk) ho.size⟩
theorem RSt.lt (h : RSt w g s L M) : ∀ k, M k → k < w.heap.size := by
  obtain ⟨_, _, _, _, _, _, _, _, _, _, _, _, h9⟩ := h
  exact h9
theorem RSt.mem (h : RSt w g s L M) : M g := by
  obtain ⟨_, _, _, _, _, _, _, _, _, h6, _⟩ := h
  exact h6
theorem RSt.new (h : RSt w g s L M) (hb : Below w.heap.size w w') : RSt w' g s L M :=
  h.only (F := fun k => w.heap.size ≤ k) (Only.of_below hb (fun _ _ h => h)) (fun k hk hle => by have := h.lt k hk; omega)
theorem RSt.turn (h : RSt w g s L M) (hbox : ∀ v, RQBox w g v s → RQBox w' g v s') (ho : Only (· = g) w w') : RSt w' g s' L M := by
  obtain ⟨a, c, xs, N, h1, h2, h3, h4, h5, h6, h7, h8, h9⟩ := h
  have hn : ∀ k, N k → ¬ k = g := fun k hk e => h7 (by rw [← e]; exact hk)
  exact ⟨a, c, xs, N, hbox _ h1, h2, ho.rd h3 (fun ad e => hn _ (h4 ad e)), h4, Frs.only ho hn (fun _ h => h) h5, h6, h7, h8, fun k hk => Nat.lt_of_lt_of_le (h9 k hk) ho.size⟩
theorem RSt.box (h : RSt w g s L M) : ∃ a c, RQBox w g (.slice a L.length c) s := by
  obtain ⟨a, c, xs, N, h1, _⟩ := h
  exact ⟨a, c, h1⟩
set_option maxHeartbeats 400000 in
set_option maxRecDepth 100000 in
theorem rnew_any (w : World) (most base longest : Int) :
    Calls Try.prog 18 #[.int .i64 most, .int .i64 base, .int .i64 longest] w fun e w' => e = .returned (.pointer (some ⟨w.heap.size, 0, none⟩)) ∧ RSt w' w.heap.size ⟨0, max most 0, max base 1, max longest (max base 1), 0, false, false, 0, 0⟩ [] (· = w.heap.size) ∧ Below w.heap.size w w' := by
  have key : ∀ most' base' longest' : Int, most' = max most 0 → base' = max base 1 → longest' = max longest (max base 1) → RSt (w.alloc (.cells #[.slice none 0 0, .int .i64 0, .int .i64 most', .int .i64 base', .int .i64 longest', .int .i64 0, .bool false, .bool false, .int .i64 0, .int .i64 0] 79)) w.heap.size ⟨0, max most 0, max base 1, max longest (max base 1), 0, false, false, 0, 0⟩ [] (· = w.heap.size) := by
    rintro _ _ _ rfl rfl rfl
    exact ⟨none, 0, [], fun _ => False, heap_alloc_new w _, ⟨by simp, by omega, fun _ => rfl⟩, Rd.nil _ _, (fun ad e => by cases e), rfl, rfl, (fun h => h), (fun _ h => h.elim), fun k h => by have h : k = w.heap.size := h; rw [h]; simp⟩
  have KEY := Lib.hid key
  clear key
  go_enter Try.func18, Try.ntmps18
  go_wp2
  all_goals
    go_ret
    exact ⟨rfl, KEY.out _ _ _ (by omega) (by omega) (by omega), (Below.refl _ _).alloc (Nat.le_refl _) _⟩
theorem rwaiting_any (h : RSt w g s L M) (hg : 0 ≤ s.gone ∧ s.gone ≤ L.length) (hl : L.length ≤ 1000000) : Calls Try.prog 40 #[.pointer (some ⟨g, 0, none⟩)] w fun e w' => e = .returned (.int .i64 ((L.length : Int) - s.gone)) ∧ ∃ n, w' = w.drewN n := by
  obtain ⟨a, c, hb⟩ := h.box
  have c0 := hb.c0
  have c1 := hb.c1
  clear h hb
  go_enter Try.func40, Try.ntmps40
  go_wp2_with fail
  go_quiet (fail)
  go_wp2
  go_ret
  exact ⟨rfl, _, rfl⟩
theorem racked_any (h : RSt w g s L M) : Calls Try.prog 41 #[.pointer (some ⟨g, 0, none⟩)] w fun e w' => e = .returned (.int .i64 s.gone) ∧ w = w' := by
  obtain ⟨a, c, hb⟩ := h.box
  have c1 := hb.c1
  clear h hb
  go_enter Try.func41, Try.ntmps41
  go_wp2
  go_ret
  exact ⟨rfl, rfl⟩
def rnextV (n : Nat) (s : RQ) : Value := if s.at_ = true ∨ (n : Int) - s.gone = 0 then .tuple #[.int .i64 0, .bool false] else .tuple #[.int .i64 (if s.timed = true then s.when_ else once), .bool true]
set_option maxHeartbeats 400000 in
set_option maxRecDepth 100000 in
theorem rnext_any (h : RSt w g s L M) (hg : 0 ≤ s.gone ∧ s.gone ≤ L.length) (hl : L.length ≤ 1000000) : Calls Try.prog 39 #[.pointer (some ⟨g, 0, none⟩)] w fun e w' => e = .returned (rnextV L.length s) ∧ ∃ n, w' = w.drewN n := by
  obtain ⟨a, c, hb⟩ := h.box
  have HW := Lib.hid (rwaiting_any h hg hl)
  have c6 := hb.c6
  have c7 := hb.c7
  have c8 := hb.c8
  clear h hb
  obtain ⟨gone, most, base, longest, drop, at_, timed, when_, tries⟩ := s
  simp only [] at c6 c7 c8 hg
  cases at_ with
  | true =>
    have HV := Lib.hid (show rnextV L.length ⟨gone, most, base, longest, drop, true, timed, when_, tries⟩ = .tuple #[.int .i64 0, .bool false] by simp [rnextV])
    go_enter Try.func39, Try.ntmps39
    go_wp2
    go_ret2
    exact ⟨by rw [HV.out]; rfl, 0, rfl⟩
  | false =>
    by_cases h0 : (L.length : Int) - gone = 0
    · have HV := Lib.hid (show rnextV L.length ⟨gone, most, base, longest, drop, false, timed, when_, tries⟩ = .tuple #[.int .i64 0, .bool false] by simp [rnextV, h0])
      have hz : (((L.length : Int) - gone) == 0) = true := by rw [beq_iff_eq]; exact h0
      clear h0
      go_enter Try.func39, Try.ntmps39
      go_wp2_with fail
      refine HW.out.mono ?_
      rintro e w1 ⟨rfl, n, rfl⟩
      go_wp2
      go_ret2
      exact ⟨by rw [HV.out]; rfl, _, rfl⟩
    · have hz : (((L.length : Int) - gone) == 0) = false := by rw [beq_eq_false_iff_ne]; exact h0
      cases timed with
      | true =>
        have HV := Lib.hid (show rnextV L.length ⟨gone, most, base, longest, drop, false, true, when_, tries⟩ = .tuple #[.int .i64 when_, .bool true] by simp [rnextV, h0])
        clear h0
        go_enter Try.func39, Try.ntmps39
        go_wp2_with fail
        refine HW.out.mono ?_
        rintro e w1 ⟨rfl, n, rfl⟩
        go_wp2
        go_ret2
        exact ⟨by rw [HV.out]; rfl, _, rfl⟩
      | false =>
        have HV := Lib.hid (show rnextV L.length ⟨gone, most, base, longest, drop, false, false, when_, tries⟩ = .tuple #[.int .i64 once, .bool true] by simp [rnextV, h0])
        clear h0
        go_enter Try.func39, Try.ntmps39
        go_wp2_with fail
        refine HW.out.mono ?_
        rintro e w1 ⟨rfl, n, rfl⟩
        go_wp2
        go_ret2
        exact ⟨by rw [HV.out]; rfl, _, rfl⟩
end
set_option maxHeartbeats 1000000 in
set_option maxRecDepth 100000 in
theorem rwait_any (w : World) (base longest : Int) (t : Nat) (ht2 : t ≤ 1000000) (hb1 : 1 ≤ base) (hb2 : base ≤ longest) (hl : longest ≤ 9223372036854775807) :
    Calls Try.prog 44 #[.int .i64 base, .int .i64 longest, .int .i64 t] w fun e w' => e = .returned (.int .i64 (dbl longest t base)) ∧ w = w' := by
  go_enter Try.func44, Try.ntmps44
  go_wp2
  go_loop [7, 8] (fun x i => ∃ (k : Nat) (m : Int), k ≤ t ∧ i = .int .i64 k ∧ x = .int .i64 m ∧ 1 ≤ m ∧ m ≤ longest ∧ dbl longest (t - k) m = dbl longest t base) (fun _ i => t - (intOf i).toNat)
  case atStart => exact ⟨0, base, by omega, rfl, rfl, hb1, hb2, rfl⟩
  case round =>
    obtain ⟨k, m, hk, rfl, rfl, hm1, hm2, hd⟩ := hrel
    have hfin : ∀ j, m = longest → dbl longest j m = min m longest := fun j e => by rw [e, dbl_top longest (by omega)]; omega
    have HFIN := Lib.hid hfin
    clear hfin
    by_cases hlt : k < t ∧ m < longest
    · obtain ⟨hk1, hml⟩ := hlt
      have hs : t - k = (t - (k + 1)) + 1 := by omega
      rw [hs] at hd
      rw [dbl_succ] at hd
      by_cases hc : longest - m < m
      · rw [if_pos (by omega)] at hd
        have HD := Lib.hid (show dbl longest (t - (k + 1)) longest = dbl longest t base by rw [dbl_top longest (by omega)]; exact hd)
        clear hd hs
        go_wp2
        go_round
        case rel => exact ⟨k + 1, longest, by omega, by go_num, rfl, by omega, by omega, HD.out⟩
        case measure => simp [intOf]; omega
      · rw [if_neg (by omega)] at hd
        have HD := Lib.hid (show dbl longest (t - (k + 1)) (m + m) = dbl longest t base by rw [← hd]; congr 1; omega)
        clear hd hs
        go_wp2
        go_round
        case rel => exact ⟨k + 1, m + m, by omega, by go_num, rfl, by omega, by omega, HD.out⟩
        case measure => simp [intOf]; omega
    · have HD := Lib.hid (show min m longest = dbl longest t base by
        rw [← hd]
        by_cases hk1 : k = t
        · rw [hk1, Nat.sub_self, dbl_zero]
        · exact (HFIN.out _ (by omega)).symm)
      clear hd
      have hmn : ¬ (longest < m) := by omega
      by_cases hk1 : k < t
      · have hml : ¬ m < longest := by omega
        have HM := Lib.hid (show m = dbl longest t base by rw [← HD.out]; omega)
        go_wp2
        all_goals
          go_ret
          refine ⟨?_, rfl⟩
          rw [← HD.out]
          congr 2
          show _ = _
          first | omega | simp; omega
      · have HM := Lib.hid (show m = dbl longest t base by rw [← HD.out]; omega)
        go_wp2
        all_goals
          go_ret
          refine ⟨?_, rfl⟩
          rw [← HM.out]
          try rfl
end Go.Proofs.Ytdomnjakhecbaaa
