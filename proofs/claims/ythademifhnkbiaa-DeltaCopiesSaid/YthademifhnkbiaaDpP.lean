/- The walks over maps.EqualFunc at the series, and the program's (*Store).Same. -/
import Derived.Test.YthademifhnkbiaaDpO
import Derived.Test.YthademifhnkbiaaDpK
namespace Go.Proofs.Ythademifhnkbiaa
open Go.RowKit K
set_option maxHeartbeats 2000000 in
theorem same1_any (w : World) (a b : Nat) (u v : SV) (ha : w.heap[a]? = some (.cells u.cells 88 (0, 0))) (hb : w.heap[b]? = some (.cells v.cells 88 (0, 0))) :
    Calls Try.prog 38 #[.pointer (some ⟨a, 0, none⟩), .pointer (some ⟨b, 0, none⟩)] w fun e w' => e = .returned (.bool (svB u v)) ∧ ∃ n, w' = w.drewN n := by
  obtain ⟨⟨n, z, t, c⟩, l, o⟩ := u
  obtain ⟨⟨n', z', t', c'⟩, l', o'⟩ := v
  have a0 : w.cell? ⟨a, 0, none⟩ = some (.string n) := by rw [cell_of_row _ _ _ _ _ _ ha]; rfl
  have a1 : w.cell? ⟨a, 1, none⟩ = some (.int .i64 z) := by rw [cell_of_row _ _ _ _ _ _ ha]; rfl
  have a2 : w.cell? ⟨a, 2, none⟩ = some (.int .i64 t) := by rw [cell_of_row _ _ _ _ _ _ ha]; rfl
  have a3 : w.cell? ⟨a, 3, none⟩ = some (.bool c) := by rw [cell_of_row _ _ _ _ _ _ ha]; rfl
  have a4 : w.cell? ⟨a, 4, none⟩ = some (.bool l) := by rw [cell_of_row _ _ _ _ _ _ ha]; rfl
  have a5 : w.cell? ⟨a, 5, none⟩ = some (.int .i64 o) := by rw [cell_of_row _ _ _ _ _ _ ha]; rfl
  have b0 : w.cell? ⟨b, 0, none⟩ = some (.string n') := by rw [cell_of_row _ _ _ _ _ _ hb]; rfl
  have b1 : w.cell? ⟨b, 1, none⟩ = some (.int .i64 z') := by rw [cell_of_row _ _ _ _ _ _ hb]; rfl
  have b2 : w.cell? ⟨b, 2, none⟩ = some (.int .i64 t') := by rw [cell_of_row _ _ _ _ _ _ hb]; rfl
  have b3 : w.cell? ⟨b, 3, none⟩ = some (.bool c') := by rw [cell_of_row _ _ _ _ _ _ hb]; rfl
  have b4 : w.cell? ⟨b, 4, none⟩ = some (.bool l') := by rw [cell_of_row _ _ _ _ _ _ hb]; rfl
  have b5 : w.cell? ⟨b, 5, none⟩ = some (.int .i64 o') := by rw [cell_of_row _ _ _ _ _ _ hb]; rfl
  clear ha hb
  by_cases h0 : n = n'
  rotate_left 1
  · have HS := Lib.hid (show svB (⟨⟨n, z, t, c⟩, l, o⟩ : SV) (⟨⟨n', z', t', c'⟩, l', o'⟩ : SV) = false from Bool.eq_false_iff.2 fun h => h0 (by have e := svB_iff.1 h; simp only [SV.mk.injEq, Smp.mk.injEq] at e; simp only [e]))
    have g0 := tl_ne h0
    clear h0
    go_enter Try.func38, Try.ntmps38
    go_wp2_with fail
    go_quiet (fail)
    go_wp2
    go_ret
    exact ⟨by rw [HS.out]; rfl, _, rfl⟩
  subst h0
  by_cases h1 : z = z'
  rotate_left 1
  · have HS := Lib.hid (show svB (⟨⟨n, z, t, c⟩, l, o⟩ : SV) (⟨⟨n, z', t', c'⟩, l', o'⟩ : SV) = false from Bool.eq_false_iff.2 fun h => h1 (by have e := svB_iff.1 h; simp only [SV.mk.injEq, Smp.mk.injEq] at e; simp only [e]))
    have g1 : (z == z') = false := by rw [beq_eq_false_iff_ne]; exact h1
    clear h1
    go_enter Try.func38, Try.ntmps38
    go_wp2_with fail
    go_quiet (fail)
    go_wp2
    go_ret
    exact ⟨by rw [HS.out]; rfl, _, rfl⟩
  subst h1
  by_cases h2 : t = t'
  rotate_left 1
  · have HS := Lib.hid (show svB (⟨⟨n, z, t, c⟩, l, o⟩ : SV) (⟨⟨n, z, t', c'⟩, l', o'⟩ : SV) = false from Bool.eq_false_iff.2 fun h => h2 (by have e := svB_iff.1 h; simp only [SV.mk.injEq, Smp.mk.injEq] at e; simp only [e]))
    have g2 : (t == t') = false := by rw [beq_eq_false_iff_ne]; exact h2
    clear h2
    go_enter Try.func38, Try.ntmps38
    go_wp2_with fail
    go_quiet (fail)
    go_wp2
    go_ret
    exact ⟨by rw [HS.out]; rfl, _, rfl⟩
  subst h2
  by_cases h3 : c = c'
  rotate_left 1
  · have HS := Lib.hid (show svB (⟨⟨n, z, t, c⟩, l, o⟩ : SV) (⟨⟨n, z, t, c'⟩, l', o'⟩ : SV) = false from Bool.eq_false_iff.2 fun h => h3 (by have e := svB_iff.1 h; simp only [SV.mk.injEq, Smp.mk.injEq] at e; simp only [e]))
    cases c <;> cases c'
    all_goals first | exact absurd rfl h3 | skip
    all_goals clear h3
    ·
      go_enter Try.func38, Try.ntmps38
      go_wp2_with fail
      go_quiet (fail)
      go_wp2
      go_ret
      exact ⟨by rw [HS.out]; rfl, _, rfl⟩
    ·
      go_enter Try.func38, Try.ntmps38
      go_wp2_with fail
      go_quiet (fail)
      go_wp2
      go_ret
      exact ⟨by rw [HS.out]; rfl, _, rfl⟩
  subst h3
  by_cases h4 : l = l'
  rotate_left 1
  · have HS := Lib.hid (show svB (⟨⟨n, z, t, c⟩, l, o⟩ : SV) (⟨⟨n, z, t, c⟩, l', o'⟩ : SV) = false from Bool.eq_false_iff.2 fun h => h4 (by have e := svB_iff.1 h; simp only [SV.mk.injEq] at e; simp only [e]))
    cases l <;> cases l'
    all_goals first | exact absurd rfl h4 | skip
    all_goals clear h4
    ·
      go_enter Try.func38, Try.ntmps38
      go_wp2_with fail
      go_quiet (fail)
      go_wp2
      go_ret
      exact ⟨by rw [HS.out]; rfl, _, rfl⟩
    ·
      go_enter Try.func38, Try.ntmps38
      go_wp2_with fail
      go_quiet (fail)
      go_wp2
      go_ret
      exact ⟨by rw [HS.out]; rfl, _, rfl⟩
  subst h4
  by_cases h5 : o = o'
  rotate_left 1
  · have HS := Lib.hid (show svB (⟨⟨n, z, t, c⟩, l, o⟩ : SV) (⟨⟨n, z, t, c⟩, l, o'⟩ : SV) = false from Bool.eq_false_iff.2 fun h => h5 (by have e := svB_iff.1 h; simp only [SV.mk.injEq] at e; simp only [e]))
    have g5 : (o == o') = false := by rw [beq_eq_false_iff_ne]; exact h5
    clear h5
    go_enter Try.func38, Try.ntmps38
    go_wp2_with fail
    go_quiet (fail)
    go_wp2
    go_ret
    exact ⟨by rw [HS.out]; rfl, _, rfl⟩
  subst h5
  have HS := Lib.hid (show svB (⟨⟨n, z, t, c⟩, l, o⟩ : SV) (⟨⟨n, z, t, c⟩, l, o⟩ : SV) = true from svB_iff.2 rfl)
  go_enter Try.func38, Try.ntmps38
  go_wp2_with fail
  go_quiet (fail)
  go_wp2
  go_ret
  exact ⟨by rw [HS.out]; rfl, _, rfl⟩
/-- The loop of EqualFunc. -/
def EqL (w : World) (M1 : Nat) (es1 : List SE) (l2 : List SV) (r g : Nat) (wr : World) : Prop :=
  ∃ remE, g = remE.length ∧ IterAt sEnc wr r M1 (sents es1) (sents remE) ∧ Below w.heap.size w wr ∧ w.heap.size ≤ r ∧ (∀ e ∈ remE, e ∈ es1) ∧ ∀ v ∈ es1.map (·.1), hasB l2 v = true ∨ ∃ e ∈ remE, e.1 = v
section
variable {w : World} {B1 s1 M1 : Nat} {most1 : Int} {es1 : List SE} {B2 s2 M2 : Nat} {most2 : Int} {es2 : List SE}
set_option maxHeartbeats 4000000 in
set_option maxRecDepth 100000 in
theorem eqf_any (h1 : StAt w B1 s1 M1 most1 es1) (h2 : StAt w B2 s2 M2 most2 es2) (_hl1 : es1.length ≤ 1000000) (_hl2 : es2.length ≤ 1000000) :
    Calls Try.prog 37 #[.map (some M1), .map (some M2), .func (Fn.func 38) #[] #[]] w fun e w' => e = .returned (.bool (eqM (es1.map (·.1)) (es2.map (·.1)))) ∧ Below w.heap.size w w' := by
  have hn1 := K.run_len_map (P := Try.prog) h1.2.1 Try.underlying78 3
  have hn2 := K.run_len_map (P := Try.prog) h2.2.1 Try.underlying78 3
  rw [sents_length] at hn1 hn2
  have H1 := Lib.hid h1
  have H2 := Lib.hid h2
  by_cases hl : es1.length = es2.length
  · rw [hl] at hn1
    have HL := Lib.hid (show (es1.map (·.1)).length = (es2.map (·.1)).length by simpa using hl)
    have HMA := Lib.hid h1.2.1
    generalize es2.length = n2 at hn1 hn2
    clear h1 h2 hl
    go_enter Try.func37, Try.ntmps37
    go_wp2_with (first
      | (with_reducible refine step_range rfl _ _ rfl Try.underlying78 rfl HMA.out ?_)
      | fail)
    intro wx hit hbx hsx
    have HJ := Lib.hid (show EqL w M1 es1 (es2.map (·.1)) w.heap.size (sents es1).length wx from ⟨es1, by rw [sents_length], hit, hbx, Nat.le_refl _, fun _ h => h, fun v hv => .inr (by obtain ⟨e, he, hv⟩ := List.mem_map.1 hv; exact ⟨e, he, hv⟩)⟩)
    clear hit hbx hsx HMA
    obtain ⟨r, hr⟩ : ∃ r, r = w.heap.size := ⟨_, rfl⟩
    rw [← hr] at HJ
    go_wp2
    rw [← hr]
    clear hr
    go_loopg [18] (sents es1).length (fun g _ wy => EqL w M1 es1 (es2.map (·.1)) r g wy)
    case atStart => exact HJ.out
    case round =>
      obtain ⟨remE, hgk, hit, hbl, hDr, hsub, hall⟩ := hrel
      have HGK := Lib.hid hgk
      have HIT := Lib.hid hit
      have HBL := Lib.hid hbl
      have HDR := Lib.hid hDr
      have HSUB := Lib.hid hsub
      have HALL := Lib.hid hall
      clear hgk hit hbl hDr hsub hall HJ
      go_wp2_with (first
        | (with_reducible refine step_next sKey rfl _ rfl rfl HIT.out ?hdone ?hK)
        | fail)
      case hdone =>
        intro hrem
        have hre : remE = [] := by cases remE with | nil => rfl | cons a b => cases hrem
        subst hre
        have HE := Lib.hid (show eqM (es1.map (·.1)) (es2.map (·.1)) = true from by
          unfold eqM
          rw [Bool.and_eq_true, List.all_eq_true]
          refine ⟨decide_eq_true HL.out, fun v hv => ?_⟩
          rcases HALL.out v hv with h | ⟨e, he, _⟩
          · exact h
          · cases he)
        clear hrem
        go_wp2
        go_ret
        exact ⟨by rw [HE.out]; rfl, HBL.out⟩
      case hK =>
        intro w2 pre x v post hrem hmem hit2 ho2 hs2 hent
        obtain ⟨pr, ⟨sv, cb⟩, po, rfl, rfl, rfl, hn, rfl⟩ := sents_split hrem
        simp only at hn
        subst hn
        have he : ((sv, cb) : SE) ∈ es1 := HSUB.out _ (by simp)
        have hbl2 : Below w.heap.size w w2 := HBL.out.trans (ho2.below HBL.out.size (fun k e => by have e : k = r := e; rw [e]; exact HDR.out))
        have hst1 := H1.out.below hbl2 (Nat.le_refl _)
        have hst2 := H2.out.below hbl2 (Nat.le_refl _)
        have hc1 := hst1.2.2.1 (sv, cb) he
        have hlk := run_lookup sKey hst2.2.1 Try.underlying78 (.pointer none) (by kernel_rfl) sv.x.name true
        rw [mget_sents] at hlk
        have hent2 : Sem.run Try.prog (Instr.entry (Value.pointer (some ⟨r, 0, none⟩))) w2 = .ok (.tuple #[.string sv.x.name, .pointer (some ⟨cb, 0, none⟩)]) w2 := hent
        have HLT := Lib.hid (show (pr ++ po).length < gk from by rw [HGK.out]; simp)
        have HIT2 := Lib.hid hit2
        have HBL2 := Lib.hid hbl2
        have hsvm : sv ∈ es1.map (·.1) := List.mem_map.2 ⟨_, he, rfl⟩
        have HNO := Lib.hid (fun (hf : hasB (es2.map (·.1)) sv = false) => (show eqM (es1.map (·.1)) (es2.map (·.1)) = false from by
          cases hq : eqM (es1.map (·.1)) (es2.map (·.1)) with
          | false => rfl
          | true =>
            unfold eqM at hq
            rw [Bool.and_eq_true, List.all_eq_true] at hq
            rw [hq.2 sv hsvm] at hf
            cases hf))
        have HHB := Lib.hid (show hasB (es2.map (·.1)) sv = match efind sv.x.name es2 with | none => false | some u => svB sv u.1 from by
          unfold hasB
          rw [sfind_map]
          cases efind sv.x.name es2 <;> rfl)
        cases hef : efind sv.x.name es2 with
        | none =>
          rw [hef] at hlk
          have hlk2 : Sem.run Try.prog (Instr.lookup 78 (.map (some M2)) (.string sv.x.name) true) w2 = .ok (.tuple #[.pointer none, .bool false]) w2 := hlk
          have HN2 := Lib.hid (HNO.out (by rw [HHB.out, hef]))
          generalize sv.x.name = nm at hent2 hlk2
          clear hrem hmem hit2 ho2 hs2 hent he hbl2 hst1 hst2 hc1 hlk hsvm hef
          go_wp2
          go_ret
          exact ⟨by rw [HN2.out]; rfl, HBL2.out⟩
        | some u2 =>
          obtain ⟨u, cb2⟩ := u2
          rw [hef] at hlk
          have hlk2 : Sem.run Try.prog (Instr.lookup 78 (.map (some M2)) (.string sv.x.name) true) w2 = .ok (.tuple #[.pointer (some ⟨cb2, 0, none⟩), .bool true]) w2 := hlk
          have hc2 := hst2.2.2.1 (u, cb2) (by unfold efind at hef; exact List.mem_of_find?_eq_some hef)
          have HS1 := Lib.hid (same1_any w2 cb cb2 sv u hc1 hc2)
          have HHV := Lib.hid (show hasB (es2.map (·.1)) sv = svB sv u by rw [HHB.out, hef])
          generalize sv.x.name = nm at hent2 hlk2
          clear hrem hmem hit2 ho2 hs2 hent he hbl2 hst1 hst2 hc1 hc2 hlk hsvm hef HHB
          go_wp2_with fail
          refine HS1.out.mono ?_
          rintro e w3 ⟨rfl, kk, rfl⟩
          cases hsv : svB sv u with
          | false =>
            have HN2 := Lib.hid (HNO.out (HHV.out.trans hsv))
            clear hsv
            go_wp2
            go_ret
            exact ⟨by rw [HN2.out]; rfl, below_drewN HBL2.out _⟩
          | true =>
            have HHT := Lib.hid (HHV.out.trans hsv)
            have HR := Lib.hid (show EqL w M1 es1 (es2.map (·.1)) r (pr ++ po).length (w2.drewN kk) from ⟨pr ++ po, rfl, by
              have : sents (pr ++ po) = sents pr ++ sents po := by simp [sents]
              rw [this]
              exact HIT2.out, below_drewN HBL2.out _, HDR.out, fun e he => HSUB.out e (by simp only [List.mem_append, List.mem_cons] at he ⊢; rcases he with h | h; exact .inl h; exact .inr (.inr h)), fun v hv => by
              rcases HALL.out v hv with h | ⟨e, he, rfl⟩
              · exact .inl h
              · simp only [List.mem_append, List.mem_cons] at he
                rcases he with h | rfl | h
                · exact .inr ⟨e, by simp [h], rfl⟩
                · exact .inl HHT.out
                · exact .inr ⟨e, by simp [h], rfl⟩⟩)
            clear hsv
            go_wp2
            go_roundg (pr ++ po).length
            case measure => exact HLT.out
            case rel => exact HR.out
  · have HE := Lib.hid (show eqM (es1.map (·.1)) (es2.map (·.1)) = false by unfold eqM; rw [decide_eq_false (by simpa using hl)]; rfl)
    have hne : ((es1.length : Int) != (es2.length : Int)) = true := by rw [bne_iff_ne]; omega
    generalize es1.length = n1 at hn1 hne
    generalize es2.length = n2 at hn2 hne
    clear h1 h2 hl
    go_enter Try.func37, Try.ntmps37
    go_wp2
    go_ret
    exact ⟨by rw [HE.out]; rfl, Below.refl _ _⟩
end

section
variable {w : World} {B s : Nat} {most : Int} {l : List SV} {F : List Nat} {B2 s2 : Nat} {most2 : Int} {l2 : List SV} {F2 : List Nat}
set_option maxHeartbeats 4000000 in
set_option maxRecDepth 100000 in
theorem ssame_any (h1 : StIs w B s most l F) (h2 : StIs w B2 s2 most l2 F2) (hl1 : l.length ≤ 1000000) (hl2 : l2.length ≤ 1000000) :
    Calls Try.prog 33 #[.pointer (some ⟨s, 0, none⟩), .pointer (some ⟨s2, 0, none⟩)] w fun e w' => e = .returned (.bool (eqM l l2)) ∧ Below w.heap.size w w' := by
  obtain ⟨M1, es1, k1, rfl, rfl⟩ := h1
  obtain ⟨M2, es2, k2, rfl, rfl⟩ := h2
  rw [List.length_map] at hl1 hl2
  have HE := Lib.hid (fun W (hb : Below w.heap.size w W) => eqf_any (k1.below hb (Nat.le_refl _)) (k2.below hb (Nat.le_refl _)) hl1 hl2)
  have C0 := Lib.hid k1.c0
  have C1 := Lib.hid k1.c1
  have D0 := Lib.hid k2.c0
  have D1 := Lib.hid k2.c1
  generalize eqM (es1.map (·.1)) (es2.map (·.1)) = bz at HE
  clear k1 k2 hl1 hl2
  go_enter Try.func33, Try.ntmps33
  go_wp2_with fail
  refine wp_region_noPanic ?_
  refine wp_region_held_drew (S := (fun w' => Below w.heap.size w w')) (by kernel_rfl) ?_ (fun hHeld => ?_)
  · exact drew_below _
  refine wpAnyH_take (i := 0) (oi := _) (v := ?_) rfl (by kernel_rfl) (by kernel_rfl) (by kernel_rfl) (fun _ _ _ h => h) (Or.inl ⟨by rfl, ?_⟩) (by assumption) ?_
  rotate_left 1
  · (intro w hSw; (try dsimp only at hSw); go_simp; (try with_reducible rfl))
  try simp only [Act.put, List.getElem_toArray, List.getElem_cons_zero, List.setIfInBounds_toArray, List.set_cons_zero, List.set_cons_succ]
  refine wpAnyH_take (i := 1) (oi := _) (v := ?_) rfl (by kernel_rfl) (by kernel_rfl) (by kernel_rfl) (fun _ _ _ h => h) (Or.inl ⟨by rfl, ?_⟩) (by assumption) ?_
  rotate_left 1
  · (intro w hSw; (try dsimp only at hSw); go_simp; (try with_reducible rfl))
  try simp only [Act.put, List.getElem_toArray, List.getElem_cons_succ, List.getElem_cons_zero, List.setIfInBounds_toArray, List.set_cons_zero, List.set_cons_succ]
  refine wpAnyH_take (i := 2) (oi := _) (v := ?_) rfl (by kernel_rfl) (by kernel_rfl) (by kernel_rfl) (fun _ _ _ h => h) (Or.inl ⟨by rfl, ?_⟩) (by assumption) ?_
  rotate_left 1
  · (intro w hSw; (try dsimp only at hSw); go_simp; (try with_reducible rfl))
  try simp only [Act.put, List.getElem_toArray, List.getElem_cons_succ, List.getElem_cons_zero, List.setIfInBounds_toArray, List.set_cons_zero, List.set_cons_succ]
  refine wpAnyH_take (i := 3) (oi := _) (v := ?_) rfl (by kernel_rfl) (by kernel_rfl) (by kernel_rfl) (fun _ _ _ h => h) (Or.inl ⟨by rfl, ?_⟩) (by assumption) ?_
  rotate_left 1
  · (intro w hSw; (try dsimp only at hSw); (have q := keepc hSw C0.out; go_simp); (try with_reducible rfl))
  try simp only [Act.put, List.getElem_toArray, List.getElem_cons_succ, List.getElem_cons_zero, List.setIfInBounds_toArray, List.set_cons_zero, List.set_cons_succ]
  refine wpAnyH_take (i := 4) (oi := _) (v := ?_) rfl (by kernel_rfl) (by kernel_rfl) (by kernel_rfl) (fun _ _ _ h => h) (Or.inl ⟨by rfl, ?_⟩) (by assumption) ?_
  rotate_left 1
  · (intro w hSw; (try dsimp only at hSw); go_simp; (try with_reducible rfl))
  try simp only [Act.put, List.getElem_toArray, List.getElem_cons_succ, List.getElem_cons_zero, List.setIfInBounds_toArray, List.set_cons_zero, List.set_cons_succ]
  refine wpAnyH_take (i := 5) (oi := _) (v := ?_) rfl (by kernel_rfl) (by kernel_rfl) (by kernel_rfl) (fun _ _ _ h => h) (Or.inl ⟨by rfl, ?_⟩) (by assumption) ?_
  rotate_left 1
  · (intro w hSw; (try dsimp only at hSw); go_simp; (try with_reducible rfl))
  try simp only [Act.put, List.getElem_toArray, List.getElem_cons_succ, List.getElem_cons_zero, List.setIfInBounds_toArray, List.set_cons_zero, List.set_cons_succ]
  refine wpAnyH_take (i := 6) (oi := _) (v := ?_) rfl (by kernel_rfl) (by kernel_rfl) (by kernel_rfl) (fun _ _ _ h => h) (Or.inl ⟨by rfl, ?_⟩) (by assumption) ?_
  rotate_left 1
  · (intro w hSw; (try dsimp only at hSw); go_simp; (try with_reducible rfl))
  try simp only [Act.put, List.getElem_toArray, List.getElem_cons_succ, List.getElem_cons_zero, List.setIfInBounds_toArray, List.set_cons_zero, List.set_cons_succ]
  refine wpAnyH_take (i := 7) (oi := _) (v := ?_) rfl (by kernel_rfl) (by kernel_rfl) (by kernel_rfl) (fun _ _ _ h => h) (Or.inl ⟨by rfl, ?_⟩) (by assumption) ?_
  rotate_left 1
  · (intro w hSw; (try dsimp only at hSw); (have q := keepc hSw D0.out; go_simp); (try with_reducible rfl))
  try simp only [Act.put, List.getElem_toArray, List.getElem_cons_succ, List.getElem_cons_zero, List.setIfInBounds_toArray, List.set_cons_zero, List.set_cons_succ]
  refine wpAnyH_take (i := 8) (oi := _) (v := ?_) rfl (by kernel_rfl) (by kernel_rfl) (by kernel_rfl) (fun _ _ _ h => h) (Or.inl ⟨by rfl, ?_⟩) (by assumption) ?_
  rotate_left 1
  · (intro w hSw; (try dsimp only at hSw); go_simp; (try with_reducible rfl))
  try simp only [Act.put, List.getElem_toArray, List.getElem_cons_succ, List.getElem_cons_zero, List.setIfInBounds_toArray, List.set_cons_zero, List.set_cons_succ]
  refine wpAnyH_take (i := 9) (oi := _) (v := ?_) rfl (by kernel_rfl) (by kernel_rfl) (by kernel_rfl) (fun _ _ _ h => h) (Or.inl ⟨by rfl, ?_⟩) (by assumption) ?_
  rotate_left 1
  · (intro w hSw; (try dsimp only at hSw); go_simp; (try with_reducible rfl))
  try simp only [Act.put, List.getElem_toArray, List.getElem_cons_succ, List.getElem_cons_zero, List.setIfInBounds_toArray, List.set_cons_zero, List.set_cons_succ]
  refine wpAnyH_take (i := 10) (oi := _) (v := ?_) rfl (by kernel_rfl) (by kernel_rfl) (by kernel_rfl) (fun _ _ _ h => h) (Or.inl ⟨by rfl, ?_⟩) (by assumption) ?_
  rotate_left 1
  · (intro w hSw; (try dsimp only at hSw); go_simp; (try with_reducible rfl))
  try simp only [Act.put, List.getElem_toArray, List.getElem_cons_succ, List.getElem_cons_zero, List.setIfInBounds_toArray, List.set_cons_zero, List.set_cons_succ]
  refine wpAnyH_take (i := 11) (oi := _) (v := ?_) rfl (by kernel_rfl) (by kernel_rfl) (by kernel_rfl) (fun _ _ _ h => h) (Or.inl ⟨by rfl, ?_⟩) (by assumption) ?_
  rotate_left 1
  · (intro w hSw; (try dsimp only at hSw); go_simp; (try with_reducible rfl))
  try simp only [Act.put, List.getElem_toArray, List.getElem_cons_succ, List.getElem_cons_zero, List.setIfInBounds_toArray, List.set_cons_zero, List.set_cons_succ]
  refine wpAnyH_take (i := 12) (oi := _) (v := ?_) rfl (by kernel_rfl) (by kernel_rfl) (by kernel_rfl) (fun _ _ _ h => h) (Or.inl ⟨by rfl, ?_⟩) (by assumption) ?_
  rotate_left 1
  · (intro w hSw; (try dsimp only at hSw); go_simp; (try with_reducible rfl))
  try simp only [Act.put, List.getElem_toArray, List.getElem_cons_succ, List.getElem_cons_zero, List.setIfInBounds_toArray, List.set_cons_zero, List.set_cons_succ]
  refine wpAnyH_take (i := 13) (oi := _) (v := ?_) rfl (by kernel_rfl) (by kernel_rfl) (by kernel_rfl) (fun _ _ _ h => h) (Or.inl ⟨by rfl, ?_⟩) (by assumption) ?_
  rotate_left 1
  · (intro w hSw; (try dsimp only at hSw); (have q := keepc hSw C1.out; go_simp); (try with_reducible rfl))
  try simp only [Act.put, List.getElem_toArray, List.getElem_cons_succ, List.getElem_cons_zero, List.setIfInBounds_toArray, List.set_cons_zero, List.set_cons_succ]
  refine wpAnyH_take (i := 14) (oi := _) (v := ?_) rfl (by kernel_rfl) (by kernel_rfl) (by kernel_rfl) (fun _ _ _ h => h) (Or.inl ⟨by rfl, ?_⟩) (by assumption) ?_
  rotate_left 1
  · (intro w hSw; (try dsimp only at hSw); go_simp; (try with_reducible rfl))
  try simp only [Act.put, List.getElem_toArray, List.getElem_cons_succ, List.getElem_cons_zero, List.setIfInBounds_toArray, List.set_cons_zero, List.set_cons_succ]
  refine wpAnyH_take (i := 15) (oi := _) (v := ?_) rfl (by kernel_rfl) (by kernel_rfl) (by kernel_rfl) (fun _ _ _ h => h) (Or.inl ⟨by rfl, ?_⟩) (by assumption) ?_
  rotate_left 1
  · (intro w hSw; (try dsimp only at hSw); go_simp; (try with_reducible rfl))
  try simp only [Act.put, List.getElem_toArray, List.getElem_cons_succ, List.getElem_cons_zero, List.setIfInBounds_toArray, List.set_cons_zero, List.set_cons_succ]
  refine wpAnyH_take (i := 16) (oi := _) (v := ?_) rfl (by kernel_rfl) (by kernel_rfl) (by kernel_rfl) (fun _ _ _ h => h) (Or.inl ⟨by rfl, ?_⟩) (by assumption) ?_
  rotate_left 1
  · (intro w hSw; (try dsimp only at hSw); go_simp; (try with_reducible rfl))
  try simp only [Act.put, List.getElem_toArray, List.getElem_cons_succ, List.getElem_cons_zero, List.setIfInBounds_toArray, List.set_cons_zero, List.set_cons_succ]
  refine wpAnyH_take (i := 17) (oi := _) (v := ?_) rfl (by kernel_rfl) (by kernel_rfl) (by kernel_rfl) (fun _ _ _ h => h) (Or.inl ⟨by rfl, ?_⟩) (by assumption) ?_
  rotate_left 1
  · (intro w hSw; (try dsimp only at hSw); (have q := keepc hSw D1.out; go_simp); (try with_reducible rfl))
  try simp only [Act.put, List.getElem_toArray, List.getElem_cons_succ, List.getElem_cons_zero, List.setIfInBounds_toArray, List.set_cons_zero, List.set_cons_succ]
  refine wpAnyH_ready (rs := [18]) (by kernel_rfl) (by simp) ?_
  refine AllReadyH.cons (o := _) rfl (fun K hK => ?_) AllReadyH.nil
  go_simp
  refine (HE.out _ hHeld).mono ?_
  rintro e w2 ⟨rfl, hb2⟩
  go_wp2_with fail
  refine hK.out _ _ ?_ (fun hHeld18 => ?_)
  · exact hHeld.trans (hb2.mono hHeld.size)
  clear hK K
  try simp only [Act.put, List.getElem_toArray, List.getElem_cons_succ, List.getElem_cons_zero, List.setIfInBounds_toArray, List.set_cons_zero, List.set_cons_succ]
  refine wpAnyH_take (i := 19) (oi := _) (v := ?_) rfl (by kernel_rfl) (by kernel_rfl) (by kernel_rfl) (fun _ _ _ h => h) (Or.inl ⟨by rfl, ?_⟩) (by assumption) ?_
  rotate_left 1
  · (intro w hSw; (try dsimp only at hSw); go_simp; (try with_reducible rfl))
  try simp only [Act.put, List.getElem_toArray, List.getElem_cons_succ, List.getElem_cons_zero, List.setIfInBounds_toArray, List.set_cons_zero, List.set_cons_succ]
  refine wpAnyH_take (i := 20) (oi := _) (v := ?_) rfl (by kernel_rfl) (by kernel_rfl) (by kernel_rfl) (fun _ _ _ h => h) (Or.inl ⟨by rfl, ?_⟩) (by assumption) ?_
  rotate_left 1
  · (intro w hSw; (try dsimp only at hSw); go_simp; (try with_reducible rfl))
  try simp only [Act.put, List.getElem_toArray, List.getElem_cons_succ, List.getElem_cons_zero, List.setIfInBounds_toArray, List.set_cons_zero, List.set_cons_succ]
  refine wpAnyH_done (by kernel_rfl) ?_ _
  refine NoPanic.normal ?_
  go_wp2
  go_ret
  exact ⟨rfl, hHeld18⟩
end
end Go.Proofs.Ythademifhnkbiaa
