/- When two nets are the same: the walks. -/
import Derived.Test.YtepdnmpcccgcaaaNtR
namespace Go.Proofs.Ytepdnmpcccgcaaa
open Go.RowKit K
theorem tl_ne {y x : ByteArray} (h : y ≠ x) : (y.toList == x.toList) = false := by
  rw [beq_eq_false_iff_ne, ByteArray.toList_eq, ByteArray.toList_eq]
  intro e
  exact h (ByteArray.ext (Array.toList_inj.1 e))
theorem quiet_of' {P : Program} {f : FuncId} {args : Array Value} {w : World} {a n : Nat} {v : Value} (h : Calls P f args (w.drewN (a + n)) fun e w' => e = .returned v ∧ ∃ m, w' = (w.drewN (a + n)).drewN m) :
    Calls P f args (w.drewN (a + n)) fun e w'' => e = .returned v ∧ ∃ m, w'' = w.drewN (a + m) :=
  h.mono fun _ _ ⟨he, m, hm⟩ => ⟨he, n + m, by rw [hm, World.drewN_drewN, Nat.add_assoc]⟩
set_option maxHeartbeats 1000000 in
theorem seq_any (w : World) (a a' : Option Addr) (c c' : Nat) (l l' : List UInt8) (hr : Rd w a (bv l)) (hr' : Rd w a' (bv l')) (hl1 : l.length ≤ 1000000) (hl2 : l'.length ≤ 1000000) :
    Calls Try.prog 55 #[.slice a l.length c, .slice a' l'.length c'] w fun e w' => e = .returned (.bool (decide (l = l'))) ∧ ∃ n, w' = w.drewN n := by
  have HR := Lib.hid hr
  have HR' := Lib.hid hr'
  clear hr hr'
  by_cases hl : l.length = l'.length
  · have HL := Lib.hid hl
    have hne : ((l.length : Int) != (l'.length : Int)) = false := by rw [bne_eq_false_iff_eq]; omega
    clear hl
    go_enter Try.func55, Try.ntmps55
    go_wp2
    go_loopw [13] (fun i wr => ∃ k m : Nat, i = .int .i64 k ∧ k ≤ l.length ∧ wr = w.drewN m ∧ decide (l = l') = decide (l.drop k = l'.drop k)) (fun i _ => l.length - (intOf i).toNat)
    case atStart => exact ⟨0, 0, rfl, Nat.zero_le _, rfl, rfl⟩
    case round =>
      obtain ⟨k, m, rfl, hk, rfl, hal⟩ := hrel
      by_cases hlt : k < l.length
      · have hlt2 : k < l'.length := by have := HL.out; omega
        obtain ⟨b, off, rfl, -, c1⟩ := HR.out.at (k := k) (v := .int .u8 l[k].toNat) (by simp [bv, hlt])
        obtain ⟨b', off', rfl, -, c2⟩ := HR'.out.at (k := k) (v := .int .u8 (l'[k]'hlt2).toNat) (by simp [bv, hlt2])
        have hcut : (l.drop k = l'.drop k) ↔ (l[k] = l'[k]'hlt2 ∧ l.drop (k + 1) = l'.drop (k + 1)) := by
          rw [← List.getElem_cons_drop hlt, ← List.getElem_cons_drop hlt2, List.cons_eq_cons]
        by_cases he : l[k] = l'[k]'hlt2
        · have HAL := Lib.hid (show decide (l = l') = decide (l.drop (k + 1) = l'.drop (k + 1)) by rw [hal, decide_eq_decide, hcut]; exact ⟨fun h => h.2, fun h => ⟨he, h⟩⟩)
          rw [he] at c1
          generalize ((l'[k]'hlt2).toNat : Int) = x at c1 c2
          have hx : (x != x) = false := by simp
          clear hal hcut he
          go_wp2_with fail
          go_quiet (fail)
          go_wp2
          go_roundw
          case rel => exact ⟨k + 1, _, by go_num, by omega, rfl, HAL.out⟩
          case measure => simp [intOf]; omega
        · have HAL := Lib.hid (show decide (l = l') = false by rw [hal]; exact decide_eq_false (fun h => he (hcut.1 h).1))
          have hne2 : ((l[k].toNat : Int) != ((l'[k]'hlt2).toNat : Int)) = true := by
            rw [bne_iff_ne]
            intro e
            exact he (UInt8.toNat_inj.1 (by omega))
          generalize ((l'[k]'hlt2).toNat : Int) = y at c2 hne2
          generalize (l[k].toNat : Int) = x at c1 hne2
          clear hal hcut he
          go_wp2_with fail
          go_quiet (fail)
          go_wp2
          go_ret
          exact ⟨by rw [HAL.out]; rfl, _, World.drewN_drewN _ _ _⟩
      · obtain rfl : k = l.length := by omega
        have HE := Lib.hid (show decide (l = l') = true by rw [hal, List.drop_length, show l.length = l'.length from HL.out, List.drop_length]; exact decide_eq_true rfl)
        clear hal
        go_wp2
        go_ret
        exact ⟨by rw [HE.out]; rfl, _, rfl⟩
  · have HE := Lib.hid (show decide (l = l') = false from decide_eq_false fun h => hl (by rw [h]))
    have hne : ((l.length : Int) != (l'.length : Int)) = true := by rw [bne_iff_ne]; omega
    clear hl
    go_enter Try.func55, Try.ntmps55
    go_wp2
    go_ret
    exact ⟨by rw [HE.out]; rfl, 0, rfl⟩
/-- Do two connections look the same (but for their numbers)? -/
def cvB (u v : CV) : Bool := decide (u.host = v.host) && (decide (u.st = v.st) && (decide (u.inn = v.inn) && decide (u.out = v.out)))
theorem conn_cells {w : World} {B : Nat} {e : CE} (h : ConnAt w B e) : ∃ a c a' c', w.cell? ⟨e.c, 0, none⟩ = some (.string e.host) ∧ w.cell? ⟨e.c, 1, none⟩ = some (.int .i64 e.st) ∧ w.cell? ⟨e.c, 2, none⟩ = some (.slice a e.inn.length c) ∧ w.cell? ⟨e.c, 3, none⟩ = some (.slice a' e.out.length c') ∧ Rd w a (bv e.inn) ∧ Rd w a' (bv e.out) := by
  obtain ⟨a, c, hi, -, hr, -⟩ := h.2.1.rd
  obtain ⟨a', c', ho, -, hr', -⟩ := h.2.2.rd
  have h0 := h.1
  rw [hi, ho] at h0
  exact ⟨a, c, a', c', by rw [cell_of_row _ _ _ _ _ _ h0]; rfl, by rw [cell_of_row _ _ _ _ _ _ h0]; rfl, by rw [cell_of_row _ _ _ _ _ _ h0]; rfl, by rw [cell_of_row _ _ _ _ _ _ h0]; rfl, hr, hr'⟩
set_option maxHeartbeats 2000000 in
set_option maxRecDepth 100000 in
theorem alike_any {w : World} {B B' : Nat} {u v : CE} (h1 : ConnAt w B u) (h2 : ConnAt w B' v) (hs1 : u.inn.length ≤ 1000000 ∧ u.out.length ≤ 1000000) (hs2 : v.inn.length ≤ 1000000 ∧ v.out.length ≤ 1000000) :
    Calls Try.prog 44 #[.pointer (some ⟨u.c, 0, none⟩), .pointer (some ⟨v.c, 0, none⟩)] w fun e w' => e = .returned (.bool (cvB u.vw v.vw)) ∧ ∃ n, w' = w.drewN n := by
  obtain ⟨a1, k1, b1, m1, c0, c1, c2, c3, hr1, hq1⟩ := conn_cells h1
  obtain ⟨a2, k2, b2, m2, d0, d1, d2, d3, hr2, hq2⟩ := conn_cells h2
  have HI := Lib.hid (fun n => seq_any (w.drewN n) a1 a2 k1 k2 u.inn v.inn (hr1.below (below_drewN (Below.refl _ w) n) (Nat.le_refl _)) (hr2.below (below_drewN (Below.refl _ w) n) (Nat.le_refl _)) hs1.1 hs2.1)
  have HO := Lib.hid (fun n => seq_any (w.drewN n) b1 b2 m1 m2 u.out v.out (hq1.below (below_drewN (Below.refl _ w) n) (Nat.le_refl _)) (hq2.below (below_drewN (Below.refl _ w) n) (Nat.le_refl _)) hs1.2 hs2.2)
  have HV := Lib.hid (show cvB u.vw v.vw = (decide (u.host = v.host) && (decide (u.st = v.st) && (decide (u.inn = v.inn) && decide (u.out = v.out)))) from rfl)
  rw [HV.out]
  clear h1 h2 hr1 hq1 hr2 hq2 hs1 hs2 HV
  generalize decide (u.inn = v.inn) = bi at HI
  generalize decide (u.out = v.out) = bo at HO
  generalize u.host = hu at c0
  generalize v.host = hv at d0
  generalize u.st = su at c1
  generalize v.st = sv at d1
  generalize u.inn.length = n1 at c2 HI
  generalize v.inn.length = n2 at d2 HI
  generalize u.out.length = n3 at c3 HO
  generalize v.out.length = n4 at d3 HO
  by_cases e0 : hu = hv
  rotate_left 1
  · have g0 := tl_ne e0
    have HF := Lib.hid (show decide (hu = hv) = false from decide_eq_false e0)
    clear e0
    go_enter Try.func44, Try.ntmps44
    go_wp2_with fail
    go_quiet ((go_at_call 55; first | (with_reducible exact Calls.quiet_of (HI.out _)) | (with_reducible exact Calls.quiet_of (HO.out _)) | (with_reducible exact quiet_of' (HO.out _))))
    go_wp2
    go_ret
    exact ⟨by rw [HF.out]; rfl, _, rfl⟩
  subst e0
  by_cases e1 : su = sv
  rotate_left 1
  · have g1 : (su == sv) = false := by rw [beq_eq_false_iff_ne]; exact e1
    have HF := Lib.hid (show decide (su = sv) = false from decide_eq_false e1)
    clear e1
    go_enter Try.func44, Try.ntmps44
    go_wp2_with fail
    go_quiet ((go_at_call 55; first | (with_reducible exact Calls.quiet_of (HI.out _)) | (with_reducible exact Calls.quiet_of (HO.out _)) | (with_reducible exact quiet_of' (HO.out _))))
    go_wp2
    go_ret
    exact ⟨by rw [HF.out]; simp, _, rfl⟩
  subst e1
  have HF := Lib.hid (show (decide (hu = hu) && (decide (su = su) && (bi && bo))) = (bi && bo) by simp)
  cases bi with
  | false =>
    go_enter Try.func44, Try.ntmps44
    go_wp2_with fail
    go_quiet ((go_at_call 55; first | (with_reducible exact Calls.quiet_of (HI.out _)) | (with_reducible exact Calls.quiet_of (HO.out _)) | (with_reducible exact quiet_of' (HO.out _))))
    go_wp2
    go_ret
    exact ⟨by rw [HF.out]; rfl, _, rfl⟩
  | true =>
    cases bo with
    | false =>
      go_enter Try.func44, Try.ntmps44
      go_wp2_with fail
      go_quiet ((go_at_call 55; first | (with_reducible exact Calls.quiet_of (HI.out _)) | (with_reducible exact Calls.quiet_of (HO.out _)) | (with_reducible exact quiet_of' (HO.out _))))
      go_wp2
      go_ret
      exact ⟨by rw [HF.out]; rfl, _, rfl⟩
    | true =>
      go_enter Try.func44, Try.ntmps44
      go_wp2_with fail
      go_quiet ((go_at_call 55; first | (with_reducible exact Calls.quiet_of (HI.out _)) | (with_reducible exact Calls.quiet_of (HO.out _)) | (with_reducible exact quiet_of' (HO.out _))))
      go_wp2
      go_ret
      exact ⟨by rw [HF.out]; rfl, _, rfl⟩
/-- Does one net's list have a connection? -/
def hasV (l : List CV) (v : CV) : Bool := match vfind v.id l with
  | none => false
  | some u => cvB v u
def eqV (l l' : List CV) : Bool := decide (l.length = l'.length) && l.all (hasV l')
def EqL (w : World) (M1 : Nat) (es1 : List CE) (l2 : List CV) (r g : Nat) (wr : World) : Prop :=
  ∃ remE, g = remE.length ∧ IterAt iEnc wr r M1 (ents es1) (ents remE) ∧ Below w.heap.size w wr ∧ w.heap.size ≤ r ∧ (∀ e ∈ remE, e ∈ es1) ∧ ∀ v ∈ es1.map CE.vw, hasV l2 v = true ∨ ∃ e ∈ remE, e.vw = v
theorem ents_length (es : List CE) : (ents es).length = es.length := by simp [ents]
theorem vfind_ents (x : Int) : ∀ es : List CE, vfind x (es.map CE.vw) = (cfind x es).map CE.vw
  | [] => rfl
  | y :: t => by
    have ih := vfind_ents x t
    by_cases h : x = y.id
    · have h' : x = y.vw.id := h
      simp only [vfind, cfind, List.map_cons, List.find?_cons, decide_eq_true h, decide_eq_true h', Option.map_some]
    · have h' : ¬ x = y.vw.id := h
      simp only [vfind, cfind, List.map_cons, List.find?_cons, decide_eq_false h, decide_eq_false h'] at ih ⊢
      exact ih
section
variable {w : World} {B1 n1 M1 : Nat} {mo1 d1 : Int} {es1 : List CE} {B2 n2 M2 : Nat} {mo2 d2 : Int} {es2 : List CE}
set_option maxHeartbeats 4000000 in
set_option maxRecDepth 100000 in
theorem eqf_any (h1 : NetAt w B1 n1 M1 mo1 d1 es1) (h2 : NetAt w B2 n2 M2 mo2 d2 es2) (hs1 : ∀ e ∈ es1, e.inn.length ≤ 1000000 ∧ e.out.length ≤ 1000000) (hs2 : ∀ e ∈ es2, e.inn.length ≤ 1000000 ∧ e.out.length ≤ 1000000) :
    Calls Try.prog 43 #[.map (some M1), .map (some M2), .func (Fn.func 44) #[] #[]] w fun e w' => e = .returned (.bool (eqV (es1.map CE.vw) (es2.map CE.vw))) ∧ Below w.heap.size w w' := by
  have hn1 := K.run_len_map (P := Try.prog) h1.2.1 Try.underlying48 3
  have hn2 := K.run_len_map (P := Try.prog) h2.2.1 Try.underlying48 3
  rw [ents_length] at hn1 hn2
  have H1 := Lib.hid h1
  have H2 := Lib.hid h2
  have HS1 := Lib.hid hs1
  have HS2 := Lib.hid hs2
  by_cases hl : es1.length = es2.length
  · rw [hl] at hn1
    have HL := Lib.hid (show (es1.map CE.vw).length = (es2.map CE.vw).length by simpa using hl)
    have HMA := Lib.hid h1.2.1
    generalize es2.length = n2 at hn1 hn2
    clear h1 h2 hl hs1 hs2
    go_enter Try.func43, Try.ntmps43
    go_wp2_with (first
      | (with_reducible refine step_range rfl _ _ rfl Try.underlying48 rfl HMA.out ?_)
      | fail)
    intro wx hit hbx hsx
    have HJ := Lib.hid (show EqL w M1 es1 (es2.map CE.vw) w.heap.size (ents es1).length wx from ⟨es1, by rw [ents_length], hit, hbx, Nat.le_refl _, fun _ h => h, fun v hv => .inr (by obtain ⟨e, he, hv⟩ := List.mem_map.1 hv; exact ⟨e, he, hv⟩)⟩)
    clear hit hbx hsx HMA
    obtain ⟨r, hr⟩ : ∃ r, r = w.heap.size := ⟨_, rfl⟩
    rw [← hr] at HJ
    go_wp2
    rw [← hr]
    clear hr
    go_loopg [18] (ents es1).length (fun g _ wy => EqL w M1 es1 (es2.map CE.vw) r g wy)
    case atStart => exact HJ.out
    case round =>
      obtain ⟨remE, hgk, hit, hbl, hDr, hsub, hall⟩ := hrel
      have HGK := Lib.hid hgk
      have HIT := Lib.hid hit
      have HBL := Lib.hid hbl
      have HDR := Lib.hid hDr
      have HSUB := Lib.hid hsub
      have HALL := Lib.hid hall
      clear hgk hit hbl hDr hsub hall HJ
      go_wp2_with (first
        | (with_reducible refine step_next iKey rfl _ rfl rfl HIT.out ?hdone ?hK)
        | fail)
      case hdone =>
        intro hrem
        have hre : remE = [] := by cases remE with | nil => rfl | cons a b => cases hrem
        subst hre
        have HE := Lib.hid (show eqV (es1.map CE.vw) (es2.map CE.vw) = true from by
          unfold eqV
          rw [Bool.and_eq_true, List.all_eq_true]
          refine ⟨decide_eq_true HL.out, fun v hv => ?_⟩
          rcases HALL.out v hv with h | ⟨e, he, _⟩
          · exact h
          · cases he)
        clear hrem
        go_wp2
        go_ret
        exact ⟨by rw [HE.out]; rfl, HBL.out⟩
      case hK =>
        intro w2 pre x v post hrem hmem hit2 ho2 hs2 hent
        obtain ⟨pp, ce, po, rfl, rfl, rfl, rfl, rfl⟩ := ents_split hrem
        have he : ce ∈ es1 := HSUB.out _ (by simp)
        have hbl2 : Below w.heap.size w w2 := HBL.out.trans (ho2.below HBL.out.size (fun k e => by have e : k = r := e; rw [e]; exact HDR.out))
        have hst1 := H1.out.below hbl2 (Nat.le_refl _)
        have hst2 := H2.out.below hbl2 (Nat.le_refl _)
        have hc1 := hst1.2.2.1 ce he
        have hlk := run_lookup iKey hst2.2.1 Try.underlying48 (.pointer none) (by kernel_rfl) ce.id true
        rw [mget_ents] at hlk
        have hent2 : Sem.run Try.prog (Instr.entry (Value.pointer (some ⟨r, 0, none⟩))) w2 = .ok (.tuple #[.int .i64 ce.id, .pointer (some ⟨ce.c, 0, none⟩)]) w2 := hent
        have HLT := Lib.hid (show (pp ++ po).length < gk from by rw [HGK.out]; simp)
        have HIT2 := Lib.hid hit2
        have HBL2 := Lib.hid hbl2
        have hsvm : ce.vw ∈ es1.map CE.vw := List.mem_map.2 ⟨_, he, rfl⟩
        have HNO := Lib.hid (fun (hf : hasV (es2.map CE.vw) ce.vw = false) => (show eqV (es1.map CE.vw) (es2.map CE.vw) = false from by
          cases hq : eqV (es1.map CE.vw) (es2.map CE.vw) with
          | false => rfl
          | true =>
            unfold eqV at hq
            rw [Bool.and_eq_true, List.all_eq_true] at hq
            rw [hq.2 ce.vw hsvm] at hf
            cases hf))
        have HHB := Lib.hid (show hasV (es2.map CE.vw) ce.vw = match cfind ce.id es2 with | none => false | some u => cvB ce.vw u.vw from by
          unfold hasV
          rw [vfind_ents]
          show (match (cfind ce.id es2).map CE.vw with | none => false | some u => cvB ce.vw u) = _
          cases cfind ce.id es2 <;> rfl)
        have HID := Lib.hid (show ∃ i, i = ce.id from ⟨_, rfl⟩)
        cases hef : cfind ce.id es2 with
        | none =>
          rw [hef] at hlk
          have hlk2 : Sem.run Try.prog (Instr.lookup 48 (.map (some M2)) (.int .i64 ce.id) true) w2 = .ok (.tuple #[.pointer none, .bool false]) w2 := hlk
          have HN2 := Lib.hid (HNO.out (by rw [HHB.out, hef]))
          generalize ce.id = nm at hent2 hlk2
          clear hrem hmem hit2 ho2 hs2 hent he hbl2 hst1 hst2 hc1 hlk hsvm hef
          go_wp2
          go_ret
          exact ⟨by rw [HN2.out]; rfl, HBL2.out⟩
        | some u =>
          rw [hef] at hlk
          have hlk2 : Sem.run Try.prog (Instr.lookup 48 (.map (some M2)) (.int .i64 ce.id) true) w2 = .ok (.tuple #[.pointer (some ⟨u.c, 0, none⟩), .bool true]) w2 := hlk
          have hue : u ∈ es2 := by unfold cfind at hef; exact List.mem_of_find?_eq_some hef
          have hc2 := hst2.2.2.1 u hue
          have HA1 := Lib.hid (alike_any hc1 hc2 (HS1.out _ he) (HS2.out _ hue))
          have HHV := Lib.hid (show hasV (es2.map CE.vw) ce.vw = cvB ce.vw u.vw by rw [HHB.out, hef])
          generalize ce.id = nm at hent2 hlk2
          clear hrem hmem hit2 ho2 hs2 hent he hbl2 hst1 hst2 hc1 hc2 hlk hsvm hef HHB hue
          go_wp2_with fail
          refine HA1.out.mono ?_
          rintro e w3 ⟨rfl, kk, rfl⟩
          cases hsv : cvB ce.vw u.vw with
          | false =>
            have HN2 := Lib.hid (HNO.out (HHV.out.trans hsv))
            clear hsv
            go_wp2
            go_ret
            exact ⟨by rw [HN2.out]; rfl, below_drewN HBL2.out _⟩
          | true =>
            have HHT := Lib.hid (HHV.out.trans hsv)
            have HR := Lib.hid (show EqL w M1 es1 (es2.map CE.vw) r (pp ++ po).length (w2.drewN kk) from ⟨pp ++ po, rfl, by
              have : ents (pp ++ po) = ents pp ++ ents po := by simp [ents]
              rw [this]
              exact HIT2.out, below_drewN HBL2.out _, HDR.out, fun e he => HSUB.out e (by simp only [List.mem_append, List.mem_cons] at he ⊢; rcases he with h | h; exact .inl h; exact .inr (.inr h)), fun v hv => by
              rcases HALL.out v hv with h | ⟨e, he, rfl⟩
              · exact .inl h
              · simp only [List.mem_append, List.mem_cons] at he
                rcases he with h | rfl | h
                · exact .inr ⟨e, by simp [h], rfl⟩
                · exact .inl HHT.out
                · exact .inr ⟨e, by simp [h], rfl⟩⟩)
            clear hsv
            go_wp2
            go_roundg (pp ++ po).length
            case measure => exact HLT.out
            case rel => exact HR.out
  · have HE := Lib.hid (show eqV (es1.map CE.vw) (es2.map CE.vw) = false by unfold eqV; rw [decide_eq_false (by simpa using hl)]; rfl)
    have hne : ((es1.length : Int) != (es2.length : Int)) = true := by rw [bne_iff_ne]; omega
    generalize es1.length = n1 at hn1 hne
    generalize es2.length = n2 at hn2 hne
    clear h1 h2 hl
    go_enter Try.func43, Try.ntmps43
    go_wp2
    go_ret
    exact ⟨by rw [HE.out]; rfl, Below.refl _ _⟩
end
section
variable {w : World} {B n : Nat} {most d : Int} {l : List CV} {F : List Nat} {B2 n2 : Nat} {d2 : Int} {l2 : List CV} {F2 : List Nat}
set_option maxHeartbeats 4000000 in
set_option maxRecDepth 100000 in
theorem nsame_any (h1 : NetIs w B n most d l F) (h2 : NetIs w B2 n2 most d2 l2 F2) (hs1 : ∀ v ∈ l, v.inn.length ≤ 1000000 ∧ v.out.length ≤ 1000000) (hs2 : ∀ v ∈ l2, v.inn.length ≤ 1000000 ∧ v.out.length ≤ 1000000) :
    Calls Try.prog 20 #[.pointer (some ⟨n, 0, none⟩), .pointer (some ⟨n2, 0, none⟩)] w fun e w' => e = .returned (.bool (decide (d = d2) && eqV l l2)) ∧ Below w.heap.size w w' := by
  obtain ⟨M1, es1, k1, rfl, rfl⟩ := h1
  obtain ⟨M2, es2, k2, rfl, rfl⟩ := h2
  have HE := Lib.hid (fun W (hb : Below w.heap.size w W) => eqf_any (k1.below hb (Nat.le_refl _)) (k2.below hb (Nat.le_refl _)) (fun e he => hs1 e.vw (List.mem_map.2 ⟨e, he, rfl⟩)) (fun e he => hs2 e.vw (List.mem_map.2 ⟨e, he, rfl⟩)))
  have C0 := Lib.hid k1.c0
  have C1 := Lib.hid k1.c1
  have C2 := Lib.hid k1.c2
  have D0 := Lib.hid k2.c0
  have D1 := Lib.hid k2.c1
  have D2 := Lib.hid k2.c2
  generalize eqV (es1.map CE.vw) (es2.map CE.vw) = bz at HE
  clear k1 k2 hs1 hs2
  by_cases hd : d = d2
  · have HD := Lib.hid (show (decide (d = d2) && bz) = bz by rw [decide_eq_true hd]; rfl)
    subst hd
    go_enter Try.func20, Try.ntmps20
    go_wp2_with fail
    refine wp_region_noPanic ?_
    refine wp_region_held_drew (S := (fun w' => Below w.heap.size w w')) (by kernel_rfl) ?_ (fun hHeld => ?_)
    · exact drew_below _
    refine wpAnyH_take (i := 0) (oi := _) (v := ?_) rfl (by kernel_rfl) (by kernel_rfl) (by kernel_rfl) (fun _ _ _ h => h) (Or.inl ⟨by rfl, ?_⟩) (by assumption) ?_
    rotate_left 1
    · (intro w hSw; (try dsimp only at hSw); go_simp; (try with_reducible rfl))
    try simp only [Act.put, List.getElem_toArray, List.getElem_cons_zero, List.setIfInBounds_toArray, List.set_cons_zero, List.set_cons_succ]
    refine wpAnyH_take (i := 1) (oi := _) (v := ?_) rfl (by kernel_rfl) (by kernel_rfl) (by kernel_rfl) (fun _ _ _ h => h) (Or.inl ⟨by rfl, ?_⟩) (by assumption) ?_
    rotate_left 1
    · (intro w hSw; (try dsimp only at hSw); go_simp; (try with_reducible rfl))
    try simp only [Act.put, List.getElem_toArray, List.getElem_cons_succ, List.getElem_cons_zero, List.setIfInBounds_toArray, List.set_cons_zero, List.set_cons_succ]
    refine wpAnyH_take (i := 2) (oi := _) (v := ?_) rfl (by kernel_rfl) (by kernel_rfl) (by kernel_rfl) (fun _ _ _ h => h) (Or.inl ⟨by rfl, ?_⟩) (by assumption) ?_
    rotate_left 1
    · (intro w hSw; (try dsimp only at hSw); go_simp; (try with_reducible rfl))
    try simp only [Act.put, List.getElem_toArray, List.getElem_cons_succ, List.getElem_cons_zero, List.setIfInBounds_toArray, List.set_cons_zero, List.set_cons_succ]
    refine wpAnyH_take (i := 3) (oi := _) (v := ?_) rfl (by kernel_rfl) (by kernel_rfl) (by kernel_rfl) (fun _ _ _ h => h) (Or.inl ⟨by rfl, ?_⟩) (by assumption) ?_
    rotate_left 1
    · (intro w hSw; (try dsimp only at hSw); (have q := keepc hSw C1.out; go_simp); (try with_reducible rfl))
    try simp only [Act.put, List.getElem_toArray, List.getElem_cons_succ, List.getElem_cons_zero, List.setIfInBounds_toArray, List.set_cons_zero, List.set_cons_succ]
    refine wpAnyH_take (i := 4) (oi := _) (v := ?_) rfl (by kernel_rfl) (by kernel_rfl) (by kernel_rfl) (fun _ _ _ h => h) (Or.inl ⟨by rfl, ?_⟩) (by assumption) ?_
    rotate_left 1
    · (intro w hSw; (try dsimp only at hSw); go_simp; (try with_reducible rfl))
    try simp only [Act.put, List.getElem_toArray, List.getElem_cons_succ, List.getElem_cons_zero, List.setIfInBounds_toArray, List.set_cons_zero, List.set_cons_succ]
    refine wpAnyH_take (i := 5) (oi := _) (v := ?_) rfl (by kernel_rfl) (by kernel_rfl) (by kernel_rfl) (fun _ _ _ h => h) (Or.inl ⟨by rfl, ?_⟩) (by assumption) ?_
    rotate_left 1
    · (intro w hSw; (try dsimp only at hSw); go_simp; (try with_reducible rfl))
    try simp only [Act.put, List.getElem_toArray, List.getElem_cons_succ, List.getElem_cons_zero, List.setIfInBounds_toArray, List.set_cons_zero, List.set_cons_succ]
    refine wpAnyH_take (i := 6) (oi := _) (v := ?_) rfl (by kernel_rfl) (by kernel_rfl) (by kernel_rfl) (fun _ _ _ h => h) (Or.inl ⟨by rfl, ?_⟩) (by assumption) ?_
    rotate_left 1
    · (intro w hSw; (try dsimp only at hSw); go_simp; (try with_reducible rfl))
    try simp only [Act.put, List.getElem_toArray, List.getElem_cons_succ, List.getElem_cons_zero, List.setIfInBounds_toArray, List.set_cons_zero, List.set_cons_succ]
    refine wpAnyH_take (i := 7) (oi := _) (v := ?_) rfl (by kernel_rfl) (by kernel_rfl) (by kernel_rfl) (fun _ _ _ h => h) (Or.inl ⟨by rfl, ?_⟩) (by assumption) ?_
    rotate_left 1
    · (intro w hSw; (try dsimp only at hSw); (have q := keepc hSw D1.out; go_simp); (try with_reducible rfl))
    try simp only [Act.put, List.getElem_toArray, List.getElem_cons_succ, List.getElem_cons_zero, List.setIfInBounds_toArray, List.set_cons_zero, List.set_cons_succ]
    refine wpAnyH_take (i := 8) (oi := _) (v := ?_) rfl (by kernel_rfl) (by kernel_rfl) (by kernel_rfl) (fun _ _ _ h => h) (Or.inl ⟨by rfl, ?_⟩) (by assumption) ?_
    rotate_left 1
    · (intro w hSw; (try dsimp only at hSw); go_simp; (try with_reducible rfl))
    try simp only [Act.put, List.getElem_toArray, List.getElem_cons_succ, List.getElem_cons_zero, List.setIfInBounds_toArray, List.set_cons_zero, List.set_cons_succ]
    refine wpAnyH_take (i := 9) (oi := _) (v := ?_) rfl (by kernel_rfl) (by kernel_rfl) (by kernel_rfl) (fun _ _ _ h => h) (Or.inl ⟨by rfl, ?_⟩) (by assumption) ?_
    rotate_left 1
    · (intro w hSw; (try dsimp only at hSw); go_simp; (try with_reducible rfl))
    try simp only [Act.put, List.getElem_toArray, List.getElem_cons_succ, List.getElem_cons_zero, List.setIfInBounds_toArray, List.set_cons_zero, List.set_cons_succ]
    refine wpAnyH_take (i := 10) (oi := _) (v := ?_) rfl (by kernel_rfl) (by kernel_rfl) (by kernel_rfl) (fun _ _ _ h => h) (Or.inl ⟨by rfl, ?_⟩) (by assumption) ?_
    rotate_left 1
    · (intro w hSw; (try dsimp only at hSw); go_simp; (try with_reducible rfl))
    try simp only [Act.put, List.getElem_toArray, List.getElem_cons_succ, List.getElem_cons_zero, List.setIfInBounds_toArray, List.set_cons_zero, List.set_cons_succ]
    refine wpAnyH_take (i := 11) (oi := _) (v := ?_) rfl (by kernel_rfl) (by kernel_rfl) (by kernel_rfl) (fun _ _ _ h => h) (Or.inl ⟨by rfl, ?_⟩) (by assumption) ?_
    rotate_left 1
    · (intro w hSw; (try dsimp only at hSw); go_simp; (try with_reducible rfl))
    try simp only [Act.put, List.getElem_toArray, List.getElem_cons_succ, List.getElem_cons_zero, List.setIfInBounds_toArray, List.set_cons_zero, List.set_cons_succ]
    refine wpAnyH_take (i := 12) (oi := _) (v := ?_) rfl (by kernel_rfl) (by kernel_rfl) (by kernel_rfl) (fun _ _ _ h => h) (Or.inl ⟨by rfl, ?_⟩) (by assumption) ?_
    rotate_left 1
    · (intro w hSw; (try dsimp only at hSw); go_simp; (try with_reducible rfl))
    try simp only [Act.put, List.getElem_toArray, List.getElem_cons_succ, List.getElem_cons_zero, List.setIfInBounds_toArray, List.set_cons_zero, List.set_cons_succ]
    refine wpAnyH_take (i := 13) (oi := _) (v := ?_) rfl (by kernel_rfl) (by kernel_rfl) (by kernel_rfl) (fun _ _ _ h => h) (Or.inl ⟨by rfl, ?_⟩) (by assumption) ?_
    rotate_left 1
    · (intro w hSw; (try dsimp only at hSw); (have q := keepc hSw C2.out; go_simp); (try with_reducible rfl))
    try simp only [Act.put, List.getElem_toArray, List.getElem_cons_succ, List.getElem_cons_zero, List.setIfInBounds_toArray, List.set_cons_zero, List.set_cons_succ]
    refine wpAnyH_take (i := 14) (oi := _) (v := ?_) rfl (by kernel_rfl) (by kernel_rfl) (by kernel_rfl) (fun _ _ _ h => h) (Or.inl ⟨by rfl, ?_⟩) (by assumption) ?_
    rotate_left 1
    · (intro w hSw; (try dsimp only at hSw); go_simp; (try with_reducible rfl))
    try simp only [Act.put, List.getElem_toArray, List.getElem_cons_succ, List.getElem_cons_zero, List.setIfInBounds_toArray, List.set_cons_zero, List.set_cons_succ]
    refine wpAnyH_take (i := 15) (oi := _) (v := ?_) rfl (by kernel_rfl) (by kernel_rfl) (by kernel_rfl) (fun _ _ _ h => h) (Or.inl ⟨by rfl, ?_⟩) (by assumption) ?_
    rotate_left 1
    · (intro w hSw; (try dsimp only at hSw); go_simp; (try with_reducible rfl))
    try simp only [Act.put, List.getElem_toArray, List.getElem_cons_succ, List.getElem_cons_zero, List.setIfInBounds_toArray, List.set_cons_zero, List.set_cons_succ]
    refine wpAnyH_take (i := 16) (oi := _) (v := ?_) rfl (by kernel_rfl) (by kernel_rfl) (by kernel_rfl) (fun _ _ _ h => h) (Or.inl ⟨by rfl, ?_⟩) (by assumption) ?_
    rotate_left 1
    · (intro w hSw; (try dsimp only at hSw); go_simp; (try with_reducible rfl))
    try simp only [Act.put, List.getElem_toArray, List.getElem_cons_succ, List.getElem_cons_zero, List.setIfInBounds_toArray, List.set_cons_zero, List.set_cons_succ]
    refine wpAnyH_take (i := 17) (oi := _) (v := ?_) rfl (by kernel_rfl) (by kernel_rfl) (by kernel_rfl) (fun _ _ _ h => h) (Or.inl ⟨by rfl, ?_⟩) (by assumption) ?_
    rotate_left 1
    · (intro w hSw; (try dsimp only at hSw); (have q := keepc hSw D2.out; go_simp); (try with_reducible rfl))
    try simp only [Act.put, List.getElem_toArray, List.getElem_cons_succ, List.getElem_cons_zero, List.setIfInBounds_toArray, List.set_cons_zero, List.set_cons_succ]
    refine wpAnyH_take (i := 18) (oi := _) (v := ?_) rfl (by kernel_rfl) (by kernel_rfl) (by kernel_rfl) (fun _ _ _ h => h) (Or.inl ⟨by rfl, ?_⟩) (by assumption) ?_
    rotate_left 1
    · (intro w hSw; (try dsimp only at hSw); go_simp; (try with_reducible rfl))
    try simp only [Act.put, List.getElem_toArray, List.getElem_cons_succ, List.getElem_cons_zero, List.setIfInBounds_toArray, List.set_cons_zero, List.set_cons_succ]
    refine wpAnyH_take (i := 19) (oi := _) (v := ?_) rfl (by kernel_rfl) (by kernel_rfl) (by kernel_rfl) (fun _ _ _ h => h) (Or.inl ⟨by rfl, ?_⟩) (by assumption) ?_
    rotate_left 1
    · (intro w hSw; (try dsimp only at hSw); go_simp; (try with_reducible rfl))
    try simp only [Act.put, List.getElem_toArray, List.getElem_cons_succ, List.getElem_cons_zero, List.setIfInBounds_toArray, List.set_cons_zero, List.set_cons_succ]
    refine wpAnyH_take (i := 20) (oi := _) (v := ?_) rfl (by kernel_rfl) (by kernel_rfl) (by kernel_rfl) (fun _ _ _ h => h) (Or.inl ⟨by rfl, ?_⟩) (by assumption) ?_
    rotate_left 1
    · (intro w hSw; (try dsimp only at hSw); go_simp; (try with_reducible rfl))
    try simp only [Act.put, List.getElem_toArray, List.getElem_cons_succ, List.getElem_cons_zero, List.setIfInBounds_toArray, List.set_cons_zero, List.set_cons_succ]
    refine wpAnyH_take (i := 21) (oi := _) (v := ?_) rfl (by kernel_rfl) (by kernel_rfl) (by kernel_rfl) (fun _ _ _ h => h) (Or.inl ⟨by rfl, ?_⟩) (by assumption) ?_
    rotate_left 1
    · (intro w hSw; (try dsimp only at hSw); go_simp; (try with_reducible rfl))
    try simp only [Act.put, List.getElem_toArray, List.getElem_cons_succ, List.getElem_cons_zero, List.setIfInBounds_toArray, List.set_cons_zero, List.set_cons_succ]
    refine wpAnyH_take (i := 22) (oi := _) (v := ?_) rfl (by kernel_rfl) (by kernel_rfl) (by kernel_rfl) (fun _ _ _ h => h) (Or.inl ⟨by rfl, ?_⟩) (by assumption) ?_
    rotate_left 1
    · (intro w hSw; (try dsimp only at hSw); go_simp; (try with_reducible rfl))
    try simp only [Act.put, List.getElem_toArray, List.getElem_cons_succ, List.getElem_cons_zero, List.setIfInBounds_toArray, List.set_cons_zero, List.set_cons_succ]
    refine wpAnyH_take (i := 23) (oi := _) (v := ?_) rfl (by kernel_rfl) (by kernel_rfl) (by kernel_rfl) (fun _ _ _ h => h) (Or.inl ⟨by rfl, ?_⟩) (by assumption) ?_
    rotate_left 1
    · (intro w hSw; (try dsimp only at hSw); go_simp; (try with_reducible rfl))
    try simp only [Act.put, List.getElem_toArray, List.getElem_cons_succ, List.getElem_cons_zero, List.setIfInBounds_toArray, List.set_cons_zero, List.set_cons_succ]
    refine wpAnyH_take (i := 24) (oi := _) (v := ?_) rfl (by kernel_rfl) (by kernel_rfl) (by kernel_rfl) (fun _ _ _ h => h) (Or.inl ⟨by rfl, ?_⟩) (by assumption) ?_
    rotate_left 1
    · (intro w hSw; (try dsimp only at hSw); (have q := keepc hSw C0.out; go_simp); (try with_reducible rfl))
    try simp only [Act.put, List.getElem_toArray, List.getElem_cons_succ, List.getElem_cons_zero, List.setIfInBounds_toArray, List.set_cons_zero, List.set_cons_succ]
    refine wpAnyH_take (i := 25) (oi := _) (v := ?_) rfl (by kernel_rfl) (by kernel_rfl) (by kernel_rfl) (fun _ _ _ h => h) (Or.inl ⟨by rfl, ?_⟩) (by assumption) ?_
    rotate_left 1
    · (intro w hSw; (try dsimp only at hSw); go_simp; (try with_reducible rfl))
    try simp only [Act.put, List.getElem_toArray, List.getElem_cons_succ, List.getElem_cons_zero, List.setIfInBounds_toArray, List.set_cons_zero, List.set_cons_succ]
    refine wpAnyH_take (i := 26) (oi := _) (v := ?_) rfl (by kernel_rfl) (by kernel_rfl) (by kernel_rfl) (fun _ _ _ h => h) (Or.inl ⟨by rfl, ?_⟩) (by assumption) ?_
    rotate_left 1
    · (intro w hSw; (try dsimp only at hSw); go_simp; (try with_reducible rfl))
    try simp only [Act.put, List.getElem_toArray, List.getElem_cons_succ, List.getElem_cons_zero, List.setIfInBounds_toArray, List.set_cons_zero, List.set_cons_succ]
    refine wpAnyH_take (i := 27) (oi := _) (v := ?_) rfl (by kernel_rfl) (by kernel_rfl) (by kernel_rfl) (fun _ _ _ h => h) (Or.inl ⟨by rfl, ?_⟩) (by assumption) ?_
    rotate_left 1
    · (intro w hSw; (try dsimp only at hSw); go_simp; (try with_reducible rfl))
    try simp only [Act.put, List.getElem_toArray, List.getElem_cons_succ, List.getElem_cons_zero, List.setIfInBounds_toArray, List.set_cons_zero, List.set_cons_succ]
    refine wpAnyH_take (i := 28) (oi := _) (v := ?_) rfl (by kernel_rfl) (by kernel_rfl) (by kernel_rfl) (fun _ _ _ h => h) (Or.inl ⟨by rfl, ?_⟩) (by assumption) ?_
    rotate_left 1
    · (intro w hSw; (try dsimp only at hSw); (have q := keepc hSw D0.out; go_simp); (try with_reducible rfl))
    try simp only [Act.put, List.getElem_toArray, List.getElem_cons_succ, List.getElem_cons_zero, List.setIfInBounds_toArray, List.set_cons_zero, List.set_cons_succ]
    refine wpAnyH_ready (rs := [29]) (by kernel_rfl) (by simp) ?_
    refine AllReadyH.cons (o := _) rfl (fun K hK => ?_) AllReadyH.nil
    go_simp
    refine (HE.out _ hHeld).mono ?_
    rintro e w2 ⟨rfl, hb2⟩
    go_wp2_with fail
    refine hK.out _ _ ?_ (fun hHeld29 => ?_)
    · exact hHeld.trans (hb2.mono hHeld.size)
    clear hK K
    try simp only [Act.put, List.getElem_toArray, List.getElem_cons_succ, List.getElem_cons_zero, List.setIfInBounds_toArray, List.set_cons_zero, List.set_cons_succ]
    refine wpAnyH_take (i := 30) (oi := _) (v := ?_) rfl (by kernel_rfl) (by kernel_rfl) (by kernel_rfl) (fun _ _ _ h => h) (Or.inl ⟨by rfl, ?_⟩) (by assumption) ?_
    rotate_left 1
    · (intro w hSw; (try dsimp only at hSw); go_simp; (try with_reducible rfl))
    try simp only [Act.put, List.getElem_toArray, List.getElem_cons_succ, List.getElem_cons_zero, List.setIfInBounds_toArray, List.set_cons_zero, List.set_cons_succ]
    refine wpAnyH_take (i := 31) (oi := _) (v := ?_) rfl (by kernel_rfl) (by kernel_rfl) (by kernel_rfl) (fun _ _ _ h => h) (Or.inl ⟨by rfl, ?_⟩) (by assumption) ?_
    rotate_left 1
    · (intro w hSw; (try dsimp only at hSw); go_simp; (try with_reducible rfl))
    try simp only [Act.put, List.getElem_toArray, List.getElem_cons_succ, List.getElem_cons_zero, List.setIfInBounds_toArray, List.set_cons_zero, List.set_cons_succ]
    refine wpAnyH_done (by kernel_rfl) ?_ _
    refine NoPanic.normal ?_
    go_wp2
    go_ret
    exact ⟨by rw [HD.out]; rfl, hHeld29⟩
  · have HD := Lib.hid (show (decide (d = d2) && bz) = false by rw [decide_eq_false hd]; rfl)
    have hd' : (d == d2) = false := by rw [beq_eq_false_iff_ne]; exact hd
    clear hd
    go_enter Try.func20, Try.ntmps20
    go_wp2_with fail
    refine wp_region_noPanic ?_
    refine wp_region_held_drew (S := (fun w' => Below w.heap.size w w')) (by kernel_rfl) ?_ (fun hHeld => ?_)
    · exact drew_below _
    refine wpAnyH_take (i := 0) (oi := _) (v := ?_) rfl (by kernel_rfl) (by kernel_rfl) (by kernel_rfl) (fun _ _ _ h => h) (Or.inl ⟨by rfl, ?_⟩) (by assumption) ?_
    rotate_left 1
    · (intro w hSw; (try dsimp only at hSw); go_simp; (try with_reducible rfl))
    try simp only [Act.put, List.getElem_toArray, List.getElem_cons_zero, List.setIfInBounds_toArray, List.set_cons_zero, List.set_cons_succ]
    refine wpAnyH_take (i := 1) (oi := _) (v := ?_) rfl (by kernel_rfl) (by kernel_rfl) (by kernel_rfl) (fun _ _ _ h => h) (Or.inl ⟨by rfl, ?_⟩) (by assumption) ?_
    rotate_left 1
    · (intro w hSw; (try dsimp only at hSw); go_simp; (try with_reducible rfl))
    try simp only [Act.put, List.getElem_toArray, List.getElem_cons_succ, List.getElem_cons_zero, List.setIfInBounds_toArray, List.set_cons_zero, List.set_cons_succ]
    refine wpAnyH_take (i := 2) (oi := _) (v := ?_) rfl (by kernel_rfl) (by kernel_rfl) (by kernel_rfl) (fun _ _ _ h => h) (Or.inl ⟨by rfl, ?_⟩) (by assumption) ?_
    rotate_left 1
    · (intro w hSw; (try dsimp only at hSw); go_simp; (try with_reducible rfl))
    try simp only [Act.put, List.getElem_toArray, List.getElem_cons_succ, List.getElem_cons_zero, List.setIfInBounds_toArray, List.set_cons_zero, List.set_cons_succ]
    refine wpAnyH_take (i := 3) (oi := _) (v := ?_) rfl (by kernel_rfl) (by kernel_rfl) (by kernel_rfl) (fun _ _ _ h => h) (Or.inl ⟨by rfl, ?_⟩) (by assumption) ?_
    rotate_left 1
    · (intro w hSw; (try dsimp only at hSw); (have q := keepc hSw C1.out; go_simp); (try with_reducible rfl))
    try simp only [Act.put, List.getElem_toArray, List.getElem_cons_succ, List.getElem_cons_zero, List.setIfInBounds_toArray, List.set_cons_zero, List.set_cons_succ]
    refine wpAnyH_take (i := 4) (oi := _) (v := ?_) rfl (by kernel_rfl) (by kernel_rfl) (by kernel_rfl) (fun _ _ _ h => h) (Or.inl ⟨by rfl, ?_⟩) (by assumption) ?_
    rotate_left 1
    · (intro w hSw; (try dsimp only at hSw); go_simp; (try with_reducible rfl))
    try simp only [Act.put, List.getElem_toArray, List.getElem_cons_succ, List.getElem_cons_zero, List.setIfInBounds_toArray, List.set_cons_zero, List.set_cons_succ]
    refine wpAnyH_take (i := 5) (oi := _) (v := ?_) rfl (by kernel_rfl) (by kernel_rfl) (by kernel_rfl) (fun _ _ _ h => h) (Or.inl ⟨by rfl, ?_⟩) (by assumption) ?_
    rotate_left 1
    · (intro w hSw; (try dsimp only at hSw); go_simp; (try with_reducible rfl))
    try simp only [Act.put, List.getElem_toArray, List.getElem_cons_succ, List.getElem_cons_zero, List.setIfInBounds_toArray, List.set_cons_zero, List.set_cons_succ]
    refine wpAnyH_take (i := 6) (oi := _) (v := ?_) rfl (by kernel_rfl) (by kernel_rfl) (by kernel_rfl) (fun _ _ _ h => h) (Or.inl ⟨by rfl, ?_⟩) (by assumption) ?_
    rotate_left 1
    · (intro w hSw; (try dsimp only at hSw); go_simp; (try with_reducible rfl))
    try simp only [Act.put, List.getElem_toArray, List.getElem_cons_succ, List.getElem_cons_zero, List.setIfInBounds_toArray, List.set_cons_zero, List.set_cons_succ]
    refine wpAnyH_take (i := 7) (oi := _) (v := ?_) rfl (by kernel_rfl) (by kernel_rfl) (by kernel_rfl) (fun _ _ _ h => h) (Or.inl ⟨by rfl, ?_⟩) (by assumption) ?_
    rotate_left 1
    · (intro w hSw; (try dsimp only at hSw); (have q := keepc hSw D1.out; go_simp); (try with_reducible rfl))
    try simp only [Act.put, List.getElem_toArray, List.getElem_cons_succ, List.getElem_cons_zero, List.setIfInBounds_toArray, List.set_cons_zero, List.set_cons_succ]
    refine wpAnyH_take (i := 8) (oi := _) (v := ?_) rfl (by kernel_rfl) (by kernel_rfl) (by kernel_rfl) (fun _ _ _ h => h) (Or.inl ⟨by rfl, ?_⟩) (by assumption) ?_
    rotate_left 1
    · (intro w hSw; (try dsimp only at hSw); go_simp; (try with_reducible rfl))
    try simp only [Act.put, List.getElem_toArray, List.getElem_cons_succ, List.getElem_cons_zero, List.setIfInBounds_toArray, List.set_cons_zero, List.set_cons_succ]
    refine wpAnyH_take (i := 9) (oi := _) (v := ?_) rfl (by kernel_rfl) (by kernel_rfl) (by kernel_rfl) (fun _ _ _ h => h) (Or.inl ⟨by rfl, ?_⟩) (by assumption) ?_
    rotate_left 1
    · (intro w hSw; (try dsimp only at hSw); go_simp; (try with_reducible rfl))
    try simp only [Act.put, List.getElem_toArray, List.getElem_cons_succ, List.getElem_cons_zero, List.setIfInBounds_toArray, List.set_cons_zero, List.set_cons_succ]
    refine wpAnyH_take (i := 10) (oi := _) (v := ?_) rfl (by kernel_rfl) (by kernel_rfl) (by kernel_rfl) (fun _ _ _ h => h) (Or.inl ⟨by rfl, ?_⟩) (by assumption) ?_
    rotate_left 1
    · (intro w hSw; (try dsimp only at hSw); go_simp; (try with_reducible rfl))
    try simp only [Act.put, List.getElem_toArray, List.getElem_cons_succ, List.getElem_cons_zero, List.setIfInBounds_toArray, List.set_cons_zero, List.set_cons_succ]
    refine wpAnyH_take (i := 11) (oi := _) (v := ?_) rfl (by kernel_rfl) (by kernel_rfl) (by kernel_rfl) (fun _ _ _ h => h) (Or.inl ⟨by rfl, ?_⟩) (by assumption) ?_
    rotate_left 1
    · (intro w hSw; (try dsimp only at hSw); go_simp; (try with_reducible rfl))
    try simp only [Act.put, List.getElem_toArray, List.getElem_cons_succ, List.getElem_cons_zero, List.setIfInBounds_toArray, List.set_cons_zero, List.set_cons_succ]
    refine wpAnyH_take (i := 12) (oi := _) (v := ?_) rfl (by kernel_rfl) (by kernel_rfl) (by kernel_rfl) (fun _ _ _ h => h) (Or.inl ⟨by rfl, ?_⟩) (by assumption) ?_
    rotate_left 1
    · (intro w hSw; (try dsimp only at hSw); go_simp; (try with_reducible rfl))
    try simp only [Act.put, List.getElem_toArray, List.getElem_cons_succ, List.getElem_cons_zero, List.setIfInBounds_toArray, List.set_cons_zero, List.set_cons_succ]
    refine wpAnyH_take (i := 13) (oi := _) (v := ?_) rfl (by kernel_rfl) (by kernel_rfl) (by kernel_rfl) (fun _ _ _ h => h) (Or.inl ⟨by rfl, ?_⟩) (by assumption) ?_
    rotate_left 1
    · (intro w hSw; (try dsimp only at hSw); (have q := keepc hSw C2.out; go_simp); (try with_reducible rfl))
    try simp only [Act.put, List.getElem_toArray, List.getElem_cons_succ, List.getElem_cons_zero, List.setIfInBounds_toArray, List.set_cons_zero, List.set_cons_succ]
    refine wpAnyH_take (i := 14) (oi := _) (v := ?_) rfl (by kernel_rfl) (by kernel_rfl) (by kernel_rfl) (fun _ _ _ h => h) (Or.inl ⟨by rfl, ?_⟩) (by assumption) ?_
    rotate_left 1
    · (intro w hSw; (try dsimp only at hSw); go_simp; (try with_reducible rfl))
    try simp only [Act.put, List.getElem_toArray, List.getElem_cons_succ, List.getElem_cons_zero, List.setIfInBounds_toArray, List.set_cons_zero, List.set_cons_succ]
    refine wpAnyH_take (i := 15) (oi := _) (v := ?_) rfl (by kernel_rfl) (by kernel_rfl) (by kernel_rfl) (fun _ _ _ h => h) (Or.inl ⟨by rfl, ?_⟩) (by assumption) ?_
    rotate_left 1
    · (intro w hSw; (try dsimp only at hSw); go_simp; (try with_reducible rfl))
    try simp only [Act.put, List.getElem_toArray, List.getElem_cons_succ, List.getElem_cons_zero, List.setIfInBounds_toArray, List.set_cons_zero, List.set_cons_succ]
    refine wpAnyH_take (i := 16) (oi := _) (v := ?_) rfl (by kernel_rfl) (by kernel_rfl) (by kernel_rfl) (fun _ _ _ h => h) (Or.inl ⟨by rfl, ?_⟩) (by assumption) ?_
    rotate_left 1
    · (intro w hSw; (try dsimp only at hSw); go_simp; (try with_reducible rfl))
    try simp only [Act.put, List.getElem_toArray, List.getElem_cons_succ, List.getElem_cons_zero, List.setIfInBounds_toArray, List.set_cons_zero, List.set_cons_succ]
    refine wpAnyH_take (i := 17) (oi := _) (v := ?_) rfl (by kernel_rfl) (by kernel_rfl) (by kernel_rfl) (fun _ _ _ h => h) (Or.inl ⟨by rfl, ?_⟩) (by assumption) ?_
    rotate_left 1
    · (intro w hSw; (try dsimp only at hSw); (have q := keepc hSw D2.out; go_simp); (try with_reducible rfl))
    try simp only [Act.put, List.getElem_toArray, List.getElem_cons_succ, List.getElem_cons_zero, List.setIfInBounds_toArray, List.set_cons_zero, List.set_cons_succ]
    refine wpAnyH_take (i := 18) (oi := _) (v := ?_) rfl (by kernel_rfl) (by kernel_rfl) (by kernel_rfl) (fun _ _ _ h => h) (Or.inl ⟨by rfl, ?_⟩) (by assumption) ?_
    rotate_left 1
    · (intro w hSw; (try dsimp only at hSw); go_simp; (try with_reducible rfl))
    try simp only [Act.put, List.getElem_toArray, List.getElem_cons_succ, List.getElem_cons_zero, List.setIfInBounds_toArray, List.set_cons_zero, List.set_cons_succ]
    refine wpAnyH_take (i := 19) (oi := _) (v := ?_) rfl (by kernel_rfl) (by kernel_rfl) (by kernel_rfl) (fun _ _ _ h => h) (Or.inl ⟨by rfl, ?_⟩) (by assumption) ?_
    rotate_left 1
    · (intro w hSw; (try dsimp only at hSw); go_simp; (try with_reducible rfl))
    try simp only [Act.put, List.getElem_toArray, List.getElem_cons_succ, List.getElem_cons_zero, List.setIfInBounds_toArray, List.set_cons_zero, List.set_cons_succ]
    refine wpAnyH_take (i := 20) (oi := _) (v := ?_) rfl (by kernel_rfl) (by kernel_rfl) (by kernel_rfl) (fun _ _ _ h => h) (Or.inl ⟨by rfl, ?_⟩) (by assumption) ?_
    rotate_left 1
    · (intro w hSw; (try dsimp only at hSw); go_simp; (try with_reducible rfl))
    try simp only [Act.put, List.getElem_toArray, List.getElem_cons_succ, List.getElem_cons_zero, List.setIfInBounds_toArray, List.set_cons_zero, List.set_cons_succ]
    refine wpAnyH_take (i := 21) (oi := _) (v := undef) rfl (by kernel_rfl) (by kernel_rfl) (by kernel_rfl) (fun _ _ _ h => h) (Or.inr ⟨by rfl, rfl⟩) (by assumption) ?_
    try simp only [Act.put, List.getElem_toArray, List.getElem_cons_succ, List.getElem_cons_zero, List.setIfInBounds_toArray, List.set_cons_zero, List.set_cons_succ]
    refine wpAnyH_take (i := 22) (oi := _) (v := undef) rfl (by kernel_rfl) (by kernel_rfl) (by kernel_rfl) (fun _ _ _ h => h) (Or.inr ⟨by rfl, rfl⟩) (by assumption) ?_
    try simp only [Act.put, List.getElem_toArray, List.getElem_cons_succ, List.getElem_cons_zero, List.setIfInBounds_toArray, List.set_cons_zero, List.set_cons_succ]
    refine wpAnyH_take (i := 23) (oi := _) (v := undef) rfl (by kernel_rfl) (by kernel_rfl) (by kernel_rfl) (fun _ _ _ h => h) (Or.inr ⟨by rfl, rfl⟩) (by assumption) ?_
    try simp only [Act.put, List.getElem_toArray, List.getElem_cons_succ, List.getElem_cons_zero, List.setIfInBounds_toArray, List.set_cons_zero, List.set_cons_succ]
    refine wpAnyH_take (i := 24) (oi := _) (v := undef) rfl (by kernel_rfl) (by kernel_rfl) (by kernel_rfl) (fun _ _ _ h => h) (Or.inr ⟨by rfl, rfl⟩) (by assumption) ?_
    try simp only [Act.put, List.getElem_toArray, List.getElem_cons_succ, List.getElem_cons_zero, List.setIfInBounds_toArray, List.set_cons_zero, List.set_cons_succ]
    refine wpAnyH_take (i := 25) (oi := _) (v := undef) rfl (by kernel_rfl) (by kernel_rfl) (by kernel_rfl) (fun _ _ _ h => h) (Or.inr ⟨by rfl, rfl⟩) (by assumption) ?_
    try simp only [Act.put, List.getElem_toArray, List.getElem_cons_succ, List.getElem_cons_zero, List.setIfInBounds_toArray, List.set_cons_zero, List.set_cons_succ]
    refine wpAnyH_take (i := 26) (oi := _) (v := undef) rfl (by kernel_rfl) (by kernel_rfl) (by kernel_rfl) (fun _ _ _ h => h) (Or.inr ⟨by rfl, rfl⟩) (by assumption) ?_
    try simp only [Act.put, List.getElem_toArray, List.getElem_cons_succ, List.getElem_cons_zero, List.setIfInBounds_toArray, List.set_cons_zero, List.set_cons_succ]
    refine wpAnyH_take (i := 27) (oi := _) (v := undef) rfl (by kernel_rfl) (by kernel_rfl) (by kernel_rfl) (fun _ _ _ h => h) (Or.inr ⟨by rfl, rfl⟩) (by assumption) ?_
    try simp only [Act.put, List.getElem_toArray, List.getElem_cons_succ, List.getElem_cons_zero, List.setIfInBounds_toArray, List.set_cons_zero, List.set_cons_succ]
    refine wpAnyH_take (i := 28) (oi := _) (v := undef) rfl (by kernel_rfl) (by kernel_rfl) (by kernel_rfl) (fun _ _ _ h => h) (Or.inr ⟨by rfl, rfl⟩) (by assumption) ?_
    try simp only [Act.put, List.getElem_toArray, List.getElem_cons_succ, List.getElem_cons_zero, List.setIfInBounds_toArray, List.set_cons_zero, List.set_cons_succ]
    refine wpAnyH_take (i := 29) (oi := _) (v := undef) rfl (by kernel_rfl) (by kernel_rfl) (by kernel_rfl) (fun _ _ _ h => h) (Or.inr ⟨by rfl, rfl⟩) (by assumption) ?_
    try simp only [Act.put, List.getElem_toArray, List.getElem_cons_succ, List.getElem_cons_zero, List.setIfInBounds_toArray, List.set_cons_zero, List.set_cons_succ]
    refine wpAnyH_take (i := 30) (oi := _) (v := ?_) rfl (by kernel_rfl) (by kernel_rfl) (by kernel_rfl) (fun _ _ _ h => h) (Or.inl ⟨by rfl, ?_⟩) (by assumption) ?_
    rotate_left 1
    · (intro w hSw; (try dsimp only at hSw); go_simp; (try with_reducible rfl))
    try simp only [Act.put, List.getElem_toArray, List.getElem_cons_succ, List.getElem_cons_zero, List.setIfInBounds_toArray, List.set_cons_zero, List.set_cons_succ]
    refine wpAnyH_take (i := 31) (oi := _) (v := ?_) rfl (by kernel_rfl) (by kernel_rfl) (by kernel_rfl) (fun _ _ _ h => h) (Or.inl ⟨by rfl, ?_⟩) (by assumption) ?_
    rotate_left 1
    · (intro w hSw; (try dsimp only at hSw); go_simp; (try with_reducible rfl))
    try simp only [Act.put, List.getElem_toArray, List.getElem_cons_succ, List.getElem_cons_zero, List.setIfInBounds_toArray, List.set_cons_zero, List.set_cons_succ]
    refine wpAnyH_done (by kernel_rfl) ?_ _
    refine NoPanic.normal ?_
    go_wp2
    go_ret
    exact ⟨by rw [HD.out]; rfl, drew_below _⟩
end
end Go.Proofs.Ytepdnmpcccgcaaa
