/- QueueWaits: the walk. -/
import Derived.Test.YtdomnjakhecbaaaQuS
namespace Go.Proofs.Ytdomnjakhecbaaa
open Go.RowKit K
/-- Both queues, made behind w0, apart. -/
def Two (w0 : World) (g gr : Nat) (s : QR) (fs : List Frm) (t : RQ) (L : List Frm) (w : World) : Prop :=
  ∃ M Mr, QSt w g s fs M ∧ RSt w gr t L Mr ∧ (∀ k, M k → ¬ Mr k) ∧ (∀ k, M k → w0.heap.size ≤ k) ∧ (∀ k, Mr k → w0.heap.size ≤ k) ∧ Below w0.heap.size w0 w
section
variable {w0 w w' : World} {g gr : Nat} {s s' : QR} {fs fs' : List Frm} {t t' : RQ} {L L' : List Frm}
theorem Two.bel (h : Two w0 g gr s fs t L w) : Below w0.heap.size w0 w := by
  obtain ⟨_, _, _, _, _, _, _, hb⟩ := h
  exact hb
theorem Two.new (h : Two w0 g gr s fs t L w) (hb : Below w.heap.size w w') : Two w0 g gr s fs t L w' := by
  obtain ⟨M, Mr, h1, h2, h3, h4, h5, h6⟩ := h
  exact ⟨M, Mr, h1.new hb, h2.new hb, h3, h4, h5, h6.trans (hb.mono h6.size)⟩
theorem Two.q {M Mr : Nat → Prop} (h2 : RSt w gr t L Mr) (h3 : ∀ k, M k → ¬ Mr k) (h4 : ∀ k, M k → w0.heap.size ≤ k) (h5 : ∀ k, Mr k → w0.heap.size ≤ k) (h6 : Below w0.heap.size w0 w) (ht : QTo w M g s' fs' w') : Two w0 g gr s' fs' t L w' := by
  obtain ⟨M', k1, k2, k3⟩ := ht
  refine ⟨M', Mr, k1, h2.only k2 (fun k hk hm => h3 k hm hk), fun k hk hm => ?_, fun k hk => ?_, h5, h6.trans (k2.below h6.size h4)⟩
  · rcases k3 k hk with h | h
    · exact h3 k h hm
    · have := h2.lt k hm; omega
  · rcases k3 k hk with h | h
    · exact h4 k h
    · have := h6.size; omega
theorem Two.r {M Mr : Nat → Prop} (h1 : QSt w g s fs M) (h3 : ∀ k, M k → ¬ Mr k) (h4 : ∀ k, M k → w0.heap.size ≤ k) (h5 : ∀ k, Mr k → w0.heap.size ≤ k) (h6 : Below w0.heap.size w0 w) (ht : RTo w Mr gr t' L' w') : Two w0 g gr s fs t' L' w' := by
  obtain ⟨M', k1, k2, k3⟩ := ht
  refine ⟨M, M', h1.only k2 (fun k hk hm => h3 k hk hm), k1, fun k hk hm => ?_, h4, fun k hk => ?_, h6.trans (k2.below h6.size h5)⟩
  · rcases k3 k hm with h | h
    · exact h3 k hk h
    · have := h1.lt k hk; omega
  · rcases k3 k hk with h | h
    · exact h5 k h
    · have := h6.size; omega
end
def FA : Frm := ⟨1, 0, [recA 0]⟩
theorem FA_ok : FOk FA := frmA_ok 1 0 (by omega) (by omega) (by omega)
def sI (B G T i : Int) (k : Bool) : QR := ⟨1, B, G, 1, 0, 0, k, T, i⟩
def tI (B G : Int) (k tm : Bool) (wh i : Int) : RQ := ⟨0, 1, B, G, 0, k, tm, wh, i⟩
theorem relI (B G T i : Int) (k tm : Bool) (wh : Int) (hT : T = if tm = true then wh else once) : QRel (sI B G T i k) [FA] (tI B G k tm wh i) [FA] 0 :=
  ⟨rfl, Nat.zero_le _, rfl, rfl, rfl, rfl, rfl, hT, rfl, rfl, rfl, rfl⟩
theorem wnew (w : World) (base longest : Int) : Calls Try.prog 8 #[.int .i64 1, .int .i64 base, .int .i64 longest] w fun e w' => e = .returned (.pointer (some ⟨w.heap.size, 0, none⟩)) ∧ QSt w' w.heap.size (newQ 1 base longest) [] (· = w.heap.size) ∧ Below w.heap.size w w' := by
  refine (new_any w 1 base longest).mono ?_
  rintro e w' ⟨rfl, hb, hbl⟩
  refine ⟨rfl, ⟨_, [], fun _ => False, hb, .inl ⟨World.ownsRow_nil _ _ _ _, fun b e => by cases e⟩, rfl, rfl, fun h => h, fun _ h => h.elim, fun k h => by have h : k = w.heap.size := h; rw [h]; exact (Array.getElem?_eq_some_iff.1 hb).1⟩, hbl⟩
section
variable {w0 w : World} {g gr : Nat} {B G T i wh : Int} {tm : Bool}
theorem whand (h : Two w0 g gr (sI B G T i false) [FA] (tI B G false tm wh i) [FA] w) (hT : T ≤ 9223372036854775807) :
    Calls Try.prog 12 #[.pointer (some ⟨g, 0, none⟩), .int .i64 9223372036854775807] w fun e w' => (∃ a c n, e = .returned (.tuple #[.slice a n c, .bool true])) ∧ Two w0 g gr (sI B G T i true) [FA] (tI B G false tm wh i) [FA] w' := by
  obtain ⟨M, Mr, h1, h2, h3, h4, h5, h6⟩ := h
  refine (qhand h1 9223372036854775807 (fun f hf => by simp at hf; subst hf; exact FA_ok) (by simp)).mono ?_
  intro e w' hp
  change (if _ then _ else _) at hp
  rw [if_neg (by rintro (h | h); (cases h); (have h : (9223372036854775807 : Int) < T := h; omega))] at hp
  obtain ⟨v, rfl, ho, hq, hon⟩ := hp
  obtain ⟨a, c, rfl, _⟩ := own_slice ho
  exact ⟨⟨a, c, _, rfl⟩, Two.q h2 h3 h4 h5 h6 ⟨M, hq, hon, fun _ h => .inl h⟩⟩
theorem wrhand (h : Two w0 g gr (sI B G T i true) [FA] (tI B G false tm wh i) [FA] w) (hT : (if tm = true then wh else once) ≤ 9223372036854775807) :
    Calls Try.prog 24 #[.pointer (some ⟨gr, 0, none⟩), .int .i64 9223372036854775807] w fun e w' => (∃ a c n, e = .returned (.tuple #[.slice a n c, .bool true])) ∧ Two w0 g gr (sI B G T i true) [FA] (tI B G true tm wh i) [FA] w' := by
  obtain ⟨M, Mr, h1, h2, h3, h4, h5, h6⟩ := h
  refine (rhand h2 9223372036854775807 (fun f hf => by simp at hf; subst hf; exact FA_ok) (by simp) (by simp [tI])).mono ?_
  intro e w' hp
  change (if _ then _ else _) at hp
  rw [if_neg (by rintro (h | h); (cases h); (have h : (9223372036854775807 : Int) < (if tm = true then wh else once) := h; omega))] at hp
  obtain ⟨v, rfl, ho, hq, hon⟩ := hp
  obtain ⟨a, c, rfl, _⟩ := own_slice ho
  exact ⟨⟨a, c, _, rfl⟩, Two.r h1 h3 h4 h5 h6 ⟨Mr, hq, hon, fun _ h => .inl h⟩⟩
/-- When the time comes behind a refusal. -/
def whenT (B G now : Int) (j : Nat) : Int := if now ≤ 9223372036854775807 - dbl G j B then now + dbl G j B else 9223372036854775807
theorem wansw {j : Nat} (h : Two w0 g gr (sI B G T j true) [FA] (tI B G true tm wh j) [FA] w) (hB : 1 ≤ B) (hBG : B ≤ G) (hG : G ≤ 9223372036854775807) (now : Int) (hn : 0 ≤ now ∧ now ≤ 9223372036854775807) (hj : j ≤ 1000000) :
    Calls Try.prog 14 #[.pointer (some ⟨g, 0, none⟩), .bool false, .int .i64 now] w fun e w' => e = .returned (.int .i64 0) ∧ Two w0 g gr (sI B G (whenT B G now j) ((j : Int) + 1) false) [FA] (tI B G true tm wh j) [FA] w' := by
  obtain ⟨M, Mr, h1, h2, h3, h4, h5, h6⟩ := h
  refine (qanswer_off h1 now rfl hB hBG hG (by omega) j rfl hj).mono ?_
  rintro e w' ⟨rfl, hq, hon⟩
  exact ⟨rfl, Two.q h2 h3 h4 h5 h6 ⟨M, hq, hon, fun _ h => .inl h⟩⟩
theorem wransw {j : Nat} (h : Two w0 g gr (sI B G T i false) [FA] (tI B G true tm wh j) [FA] w) (hB : 1 ≤ B) (hBG : B ≤ G) (hG : G ≤ 9223372036854775807) (now : Int) (hn : 0 ≤ now ∧ now ≤ 9223372036854775807) (hj : j ≤ 1000000) :
    Calls Try.prog 25 #[.pointer (some ⟨gr, 0, none⟩), .bool false, .int .i64 now] w fun e w' => e = .returned (.int .i64 0) ∧ Two w0 g gr (sI B G T i false) [FA] (tI B G false true (whenT B G now j) ((j : Int) + 1)) [FA] w' := by
  obtain ⟨M, Mr, h1, h2, h3, h4, h5, h6⟩ := h
  refine (ranswer_off h2 now rfl hB hBG hG (by omega) j rfl hj).mono ?_
  rintro e w' ⟨rfl, hq, hon⟩
  exact ⟨rfl, Two.r h1 h3 h4 h5 h6 ⟨Mr, hq, hon, fun _ h => .inl h⟩⟩
theorem wsame (h : Two w0 g gr (sI B G T i false) [FA] (tI B G false tm wh i) [FA] w) (hT : T = if tm = true then wh else once) :
    Calls Try.prog 21 #[.pointer (some ⟨g, 0, none⟩), .pointer (some ⟨gr, 0, none⟩), .int .i64 0] w fun e w' => e = .returned (.bool true) ∧ Two w0 g gr (sI B G T i false) [FA] (tI B G false tm wh i) [FA] w' := by
  have H := h
  obtain ⟨M, Mr, h1, h2, h3, h4, h5, h6⟩ := h
  refine (same_any h1 h2 (relI B G T i false tm wh hT) (fun f hf => by simp at hf; subst hf; exact FA_ok) (by simp) (fun f hf => by simp at hf; subst hf; decide) 0 (by omega)).mono ?_
  rintro e w' ⟨rfl, hb⟩
  exact ⟨rfl, H.new hb⟩
theorem wtries (h : Two w0 g gr (sI B G T i false) [FA] (tI B G false tm wh i) [FA] w) : Calls Try.prog 26 #[.pointer (some ⟨g, 0, none⟩)] w fun e w' => e = .returned (.int .i64 i) ∧ w = w' := by
  obtain ⟨M, Mr, h1, _⟩ := h
  exact qtries h1
end
end Go.Proofs.Ytdomnjakhecbaaa
namespace Go.Proofs.Ytdomnjakhecbaaa
open Go.RowKit K
theorem put_waits (base longest : Int) : putR (newQ 1 base longest) [] 0 [recA 0] = ((1, 0), sI (max base 1) (max longest (max base 1)) once 0 false, [FA]) := by
  unfold putR
  rw [if_neg (by rw [show (newQ 1 base longest).put + 1 = 1 from rfl, recA_may 1 0 (by omega)]; simp), if_neg (by show ¬ (max 1 0 : Int) ≤ (([] : List Frm).length : Int); decide)]
  rfl
theorem rput_waits (B G : Int) : rputR ⟨0, 1, B, G, 0, false, false, 0, 0⟩ [] 0 [recA 0] = ((1, 0), tI B G false false 0 0, [FA]) := by
  unfold rputR
  rw [if_neg (by rw [show (([] : List Frm).length : Int) + 1 = 1 from rfl, recA_may 1 0 (by omega)]; simp), if_neg (by show ¬ (1 : Int) ≤ (([] : List Frm).length : Int) - 0; simp)]
  rfl
theorem wput {w0 w : World} {g gr : Nat} {t : RQ} {base longest : Int} {b : Nat} (h : Two w0 g gr (newQ 1 base longest) [] t [] w) (hr : Rd w (some ⟨b, 0, none⟩) (rcf [recA 0])) :
    Calls Try.prog 9 #[.pointer (some ⟨g, 0, none⟩), .int .i64 0, .slice (some ⟨b, 0, none⟩) 1 1] w fun e w' => e = .returned (.tuple #[.int .u64 1, .int .i64 0]) ∧ Two w0 g gr (sI (max base 1) (max longest (max base 1)) once 0 false) [FA] t [] w' := by
  obtain ⟨M, Mr, h1, h2, h3, h4, h5, h6⟩ := h
  have hp := qput_any h1 0 (some ⟨b, 0, none⟩) 1 [recA 0] (by simp) (by omega) (by simp) (by simp) hr (fun x hx => by simp at hx; subst hx; exact (recA_fit 0 (by omega)).1) ⟨Int.le_refl 0, by show (0 : Int) ≤ 1000000; omega⟩ ⟨Int.le_refl 0, by show (0 : Int) ≤ 1000000; omega⟩ (by simp)
  rw [put_waits] at hp
  refine hp.mono ?_
  rintro e w' ⟨rfl, ht⟩
  exact ⟨rfl, Two.q h2 h3 h4 h5 h6 ht⟩
theorem wrput {w0 w : World} {g gr : Nat} {s : QR} {fs : List Frm} {B G : Int} {b : Nat} (h : Two w0 g gr s fs ⟨0, 1, B, G, 0, false, false, 0, 0⟩ [] w) (hr : Rd w (some ⟨b, 0, none⟩) (rcf [recA 0])) :
    Calls Try.prog 23 #[.pointer (some ⟨gr, 0, none⟩), .int .i64 0, .slice (some ⟨b, 0, none⟩) 1 1] w fun e w' => e = .returned (.tuple #[.int .u64 1, .int .i64 0]) ∧ Two w0 g gr s fs (tI B G false false 0 0) [FA] w' := by
  obtain ⟨M, Mr, h1, h2, h3, h4, h5, h6⟩ := h
  have hp := rput h2 0 (some ⟨b, 0, none⟩) 1 [recA 0] (by simp) (by omega) (by simp) (by simp) hr (fun x hx => by simp at hx; subst hx; exact (recA_fit 0 (by omega)).1) ⟨Int.le_refl 0, Int.le_refl 0⟩ ⟨Int.le_refl 0, by show (0 : Int) ≤ 1000000; omega⟩ (by simp)
  rw [rput_waits] at hp
  refine hp.mono ?_
  rintro e w' ⟨rfl, ht⟩
  exact ⟨rfl, Two.r h1 h3 h4 h5 h6 ht⟩
theorem whenT_le (B G now : Int) (j : Nat) : whenT B G now j ≤ 9223372036854775807 := by
  unfold whenT
  split <;> omega
set_option maxHeartbeats 2000000 in
set_option maxRecDepth 100000 in
theorem queueWaits_any (w : World) (base longest many now : Int) (hb0 : base ≤ 9223372036854775807) (hl0 : longest ≤ 9223372036854775807) :
    Calls Try.prog 5 #[.int .i64 base, .int .i64 longest, .int .i64 many, .int .i64 now] w fun e w' => e = .returned (.bool true) ∧ Below w.heap.size w w' := by
  by_cases hin : 0 ≤ many ∧ many ≤ 80 ∧ 0 ≤ now ∧ now ≤ 1125899906842624
  · obtain ⟨h1, h2, h3, h4⟩ := hin
    obtain ⟨mn, rfl⟩ : ∃ mn : Nat, many = mn := ⟨many.toNat, by omega⟩
    go_enter Try.func5, Try.ntmps5
    go_wp2_with fail
    refine (wnew w base longest).mono ?_
    rintro e w1 ⟨rfl, hq1, hb1⟩
    have HQ1 := Lib.hid hq1
    have HB1 := Lib.hid hb1
    clear hq1 hb1
    go_wp2_with fail
    refine (rnew_any w1 1 base longest).mono ?_
    rintro e w2 ⟨rfl, hr2, hb2⟩
    have hs1 := (HQ1.out.lt w.heap.size rfl)
    have ht2 : Two w w.heap.size w1.heap.size (newQ 1 base longest) [] ⟨0, 1, max base 1, max longest (max base 1), 0, false, false, 0, 0⟩ [] w2 :=
      ⟨_, _, HQ1.out.new hb2, hr2, fun k hk hm => by have hk : k = w.heap.size := hk; have hm : k = w1.heap.size := hm; omega, fun k hk => by have hk : k = w.heap.size := hk; omega, fun k hk => by have hk : k = w1.heap.size := hk; omega, HB1.out.trans (hb2.mono HB1.out.size)⟩
    have HT2 := Lib.hid ht2
    clear ht2 hr2 hb2 HQ1 HB1 hs1
    obtain ⟨B, hB⟩ : ∃ B, B = max base 1 := ⟨_, rfl⟩
    obtain ⟨G, hG⟩ : ∃ G, G = max longest (max base 1) := ⟨_, rfl⟩
    rw [← hB] at hG
    have HBG := Lib.hid (show 1 ≤ B ∧ B ≤ G ∧ G ≤ 9223372036854775807 by omega)
    go_wp2_with fail
    refine (record_any _ 0).mono ?_
    rintro e w3 ⟨b3, rfl, -, hr3, hb3⟩
    have HP := Lib.hid (wput (HT2.out.new hb3) hr3)
    rw [← hB, ← hG] at HP
    clear HT2 hr3 hb3
    go_wp2_with fail
    refine HP.out.mono ?_
    rintro e w4 ⟨rfl, ht4⟩
    have HT4 := Lib.hid ht4
    clear ht4 HP
    go_wp2_with fail
    refine (record_any _ 0).mono ?_
    rintro e w5 ⟨b5, rfl, -, hr5, hb5⟩
    have HP := Lib.hid (wrput (HT4.out.new hb5) hr5)
    clear HT4 hr5 hb5
    go_wp2_with fail
    refine HP.out.mono ?_
    rintro e w6 ⟨rfl, ht6⟩
    have HT6 := Lib.hid ht6
    clear ht6 HP hB hG
    obtain ⟨gr, hgr⟩ : ∃ gr, gr = w1.heap.size := ⟨_, rfl⟩
    rw [← hgr] at HT6 ⊢
    clear hgr
    go_wp2_with fail
    go_loopw [11] (fun iv wr => ∃ (j : Nat) (T wh : Int) (tm : Bool), iv = .int .i64 j ∧ j ≤ mn ∧ (T = if tm = true then wh else once) ∧ T ≤ 9223372036854775807 ∧ Two w w.heap.size gr (sI B G T j false) [FA] (tI B G false tm wh j) [FA] wr) (fun iv _ => mn - (intOf iv).toNat)
    case atStart => exact ⟨0, once, 0, false, rfl, Nat.zero_le _, rfl, by unfold once; omega, HT6.out⟩
    case round =>
      obtain ⟨j, T, wh, tm, rfl, hj, hT, hTm, ht⟩ := hrel
      have HT := Lib.hid ht
      have HTE := Lib.hid hT
      have HTM := Lib.hid hTm
      clear ht hT hTm HT6
      by_cases hjm : j < mn
      · go_wp2_with fail
        refine (whand HT.out HTM.out).mono ?_
        rintro e x1 ⟨⟨ya, yc, yn, rfl⟩, t1⟩
        have T1 := Lib.hid t1
        clear t1
        go_wp2_with fail
        refine (wrhand T1.out (by rw [← HTE.out]; exact HTM.out)).mono ?_
        rintro e x2 ⟨⟨za, zc, zn, rfl⟩, t2⟩
        have HA := Lib.hid (wansw t2 HBG.out.1 HBG.out.2.1 HBG.out.2.2 now (by omega) (by omega))
        clear t2
        go_wp2_with fail
        refine HA.out.mono ?_
        rintro e x3 ⟨rfl, t3⟩
        have HA3 := Lib.hid (wransw t3 HBG.out.1 HBG.out.2.1 HBG.out.2.2 now (by omega) (by omega))
        clear t3 HA
        go_wp2_with fail
        refine HA3.out.mono ?_
        rintro e x4 ⟨rfl, t4⟩
        have HS4 := Lib.hid (wsame (tm := true) t4 rfl)
        clear t4 HA3
        go_wp2_with fail
        refine HS4.out.mono ?_
        rintro e x5 ⟨rfl, t5⟩
        go_wp2
        go_roundw
        case rel => exact ⟨j + 1, whenT B G now j, whenT B G now j, true, by go_num, by omega, rfl, whenT_le _ _ _ _, t5⟩
        case measure => simp [intOf]; omega
      · obtain rfl : j = mn := by omega
        have HTR := Lib.hid (wtries HT.out)
        go_wp2_with fail
        refine HTR.out.mono ?_
        rintro e x1 ⟨rfl, rfl⟩
        go_wp2_with fail
        refine (known_any _).mono ?_
        rintro e x2 ⟨rfl, hb⟩
        go_wp2
        go_ret
        exact ⟨rfl, HT.out.bel.trans (hb.mono HT.out.bel.size)⟩
  · by_cases c1 : many < 0
    · clear hin
      go_enter Try.func5, Try.ntmps5
      go_wp2_with fail
      refine (known_any w).mono ?_
      rintro e w2 ⟨rfl, hb⟩
      go_wp2
      go_ret
      exact ⟨rfl, hb⟩
    · by_cases c2 : 80 < many
      · clear hin
        go_enter Try.func5, Try.ntmps5
        go_wp2_with fail
        refine (known_any w).mono ?_
        rintro e w2 ⟨rfl, hb⟩
        go_wp2
        go_ret
        exact ⟨rfl, hb⟩
      · by_cases c3 : now < 0
        · clear hin
          go_enter Try.func5, Try.ntmps5
          go_wp2_with fail
          refine (known_any w).mono ?_
          rintro e w2 ⟨rfl, hb⟩
          go_wp2
          go_ret
          exact ⟨rfl, hb⟩
        · have c4 : 1125899906842624 < now := by omega
          clear hin
          go_enter Try.func5, Try.ntmps5
          go_wp2_with fail
          refine (known_any w).mono ?_
          rintro e w2 ⟨rfl, hb⟩
          go_wp2
          go_ret
          exact ⟨rfl, hb⟩
end Go.Proofs.Ytdomnjakhecbaaa
