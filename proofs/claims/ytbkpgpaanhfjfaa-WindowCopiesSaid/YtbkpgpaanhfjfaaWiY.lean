/- Chapter 18: when two have the same: SameWindows, maps.Equal, maps.EqualFunc: the walks. -/
import Derived.Test.YtbkpgpaanhfjfaaWiX
namespace Go.Proofs.Ytbkpgpaanhfjfaa
open Go.RowKit Go.Sort K
/-- Are two lists the same? -/
noncomputable def eqA {α : Type} (a b : α) : Bool := @decide (a = b) (Classical.propDecidable _)
theorem eqA_t {α : Type} {a b : α} (h : a = b) : eqA a b = true := by
  unfold eqA
  exact @decide_eq_true _ (Classical.propDecidable _) h
theorem eqA_f {α : Type} {a b : α} (h : ¬ a = b) : eqA a b = false := by
  unfold eqA
  exact @decide_eq_false _ (Classical.propDecidable _) h
section
variable {α κ : Type} {key : α → κ} {lt : κ → κ → Prop}
theorem sorted_sub (H : Ord3 lt) : ∀ {B A : List α}, (A.map key).Pairwise lt → (B.map key).Pairwise lt → (∀ a ∈ A, a ∈ B) → A.Sublist B
  | [], [], _, _, _ => List.Sublist.refl _
  | [], a :: A, _, _, h => by have := h a (by simp); simp at this
  | b :: B, [], _, _, _ => List.nil_sublist _
  | b :: B, a :: A, hA, hB, h => by
    have hA2 := hA
    rw [List.map_cons, List.pairwise_cons] at hA2
    have hB2 := hB
    rw [List.map_cons, List.pairwise_cons] at hB2
    by_cases e : a = b
    · subst e
      refine (sorted_sub H hA2.2 hB2.2 (fun x hx => ?_)).cons_cons a
      rcases List.mem_cons.1 (h x (by simp [hx])) with e | hx2
      · exact absurd (hA2.1 _ (List.mem_map.2 ⟨x, hx, rfl⟩)) (by rw [e]; exact H.irr _)
      · exact hx2
    · have hab : a ∈ B := (List.mem_cons.1 (h a (by simp))).resolve_left e
      have hlt := hB2.1 _ (List.mem_map.2 ⟨a, hab, rfl⟩)
      refine (sorted_sub H hA hB2.2 (fun x hx => ?_)).cons b
      rcases List.mem_cons.1 (h x hx) with e2 | hx2
      · subst e2
        rcases List.mem_cons.1 hx with e3 | hx3
        · exact absurd e3.symm e
        · exact absurd (H.tr _ _ _ hlt (hA2.1 _ (List.mem_map.2 ⟨x, hx3, rfl⟩))) (H.irr _)
      · exact hx2
theorem sorted_eq (H : Ord3 lt) {A B : List α} (hA : (A.map key).Pairwise lt) (hB : (B.map key).Pairwise lt) (h : ∀ a ∈ A, a ∈ B) (hl : A.length = B.length) : A = B := (sorted_sub H hA hB h).eq_of_length hl
theorem key_inj (H : Ord3 lt) : ∀ {A : List α}, (A.map key).Pairwise lt → ∀ {a b : α}, a ∈ A → b ∈ A → key a = key b → a = b
  | [], _, a, b, ha, _, _ => by simp at ha
  | x :: A, hA, a, b, ha, hb, e => by
    rw [List.map_cons, List.pairwise_cons] at hA
    rcases List.mem_cons.1 ha with ha2 | ha2 <;> rcases List.mem_cons.1 hb with hb2 | hb2
    · rw [ha2, hb2]
    · exact absurd (hA.1 _ (List.mem_map.2 ⟨b, hb2, rfl⟩)) (by rw [← e, ha2]; exact H.irr _)
    · exact absurd (hA.1 _ (List.mem_map.2 ⟨a, ha2, rfl⟩)) (by rw [e, hb2]; exact H.irr _)
    · exact key_inj H hA.2 ha2 hb2 e
end
theorem cr_ne {x y : Cr} (h : ¬ x = y) (hn : x.nm = y.nm) : ¬ x.inc = y.inc ∨ x.over ≠ y.over := by
  obtain ⟨a, b, c⟩ := x
  obtain ⟨a', b', c'⟩ := y
  simp only [Cr.mk.injEq] at h hn ⊢
  by_cases h1 : b = b'
  · by_cases h2 : c = c'
    · exact absurd ⟨hn, h1, h2⟩ h
    · exact .inr h2
  · exact .inl h1
theorem neq_t {a b : Int} (h : ¬ a = b) : (a != b) = true ∧ (a == b) = false ∧ (a = b) = False := ⟨by rw [bne_iff_ne]; exact h, by rw [beq_eq_false_iff_ne]; exact h, by rw [eq_iff_iff, iff_false]; exact h⟩
theorem take_ne {α : Type} {A B : List α} {k : Nat} (h1 : k < A.length) (h2 : k < B.length) (h : ¬ A[k] = B[k]) : ¬ A = B := fun e => by
  subst e
  exact h rfl
theorem take_more {α : Type} {A B : List α} {k : Nat} (h1 : k < A.length) (h2 : k < B.length) (ht : A.take k = B.take k) (h : A[k] = B[k]) : A.take (k + 1) = B.take (k + 1) := by
  rw [List.take_add_one, List.take_add_one, ht, List.getElem?_eq_getElem h1, List.getElem?_eq_getElem h2, h]
theorem take_end {α : Type} {A B : List α} (hl : A.length = B.length) (ht : A.take A.length = B.take A.length) : A = B := by
  rw [List.take_length, hl, List.take_length] at ht
  exact ht
set_option maxHeartbeats 4000000 in
set_option maxRecDepth 100000 in
theorem samewin_any {w : World} {l l' : List WV} {a1 a2 : Option Addr} {c1 c2 : Nat} {P Q : Nat → Prop} (h1 : WinsM P w l a1) (h2 : WinsM Q w l' a2) (hl : l.length ≤ 1000) (hl' : l'.length ≤ 1000) (hcr : ∀ v ∈ l, v.cr.length ≤ 1000) (hcr' : ∀ v ∈ l', v.cr.length ≤ 1000) :
    Calls Try.prog 35 #[.slice a1 l.length c1, .slice a2 l'.length c2] w fun e w' => e = .returned (.bool (eqA l l')) ∧ Below w.heap.size w w' := by
  by_cases hll : l.length = l'.length
  rotate_left 1
  · have HE := Lib.hid (eqA_f (fun e : l = l' => hll (by rw [e])))
    obtain ⟨hq1, hq2, hq3⟩ := neq_t (a := (l.length : Int)) (b := (l'.length : Int)) (by omega)
    clear h1 h2 hll
    go_enter Try.func35, Try.ntmps35
    go_wp2
    go_ret
    exact ⟨by rw [HE.out]; rfl, Below.refl _ _⟩
  rw [← hll]
  have HLL := Lib.hid hll
  have H1 := Lib.hid h1
  have H2 := Lib.hid h2
  have HCR := Lib.hid hcr
  have HCR2 := Lib.hid hcr'
  clear h1 h2 hcr hcr' hll hl'
  go_enter Try.func35, Try.ntmps35
  go_wp2_with fail
  go_loopw [5] (fun iv wr => ∃ k : Nat, iv = .int .i64 k ∧ k ≤ l.length ∧ l.take k = l'.take k ∧ Below w.heap.size w wr) (fun iv _ => l.length - (intOf iv).toNat)
  case atStart => exact ⟨0, rfl, Nat.zero_le _, by simp, Below.refl _ _⟩
  case round =>
    obtain ⟨k, rfl, hk, htk, hbw⟩ := hrel
    have HTK := Lib.hid htk
    clear htk
    obtain ⟨wz, hwz⟩ : ∃ wz, wz = wr := ⟨_, rfl⟩
    subst hwz
    by_cases hc : k < l.length
    · have hc' : k < l'.length := by have := HLL.out; omega
      obtain ⟨b, off, ra, rc, rfl, hb, -, d0, d1, hr1, -⟩ := wins_at H1.out hc
      obtain ⟨b', off', ra', rc', rfl, hb', -, d0', d1', hr2, -⟩ := wins_at H2.out hc'
      have hvl := HCR.out _ (List.getElem_mem hc)
      have hvl' := HCR2.out _ (List.getElem_mem hc')
      have HNO := Lib.hid (fun (h : ¬ l[k] = l'[k]) => eqA_f (take_ne hc hc' h))
      have HYES := Lib.hid (fun (h : l[k] = l'[k]) => take_more hc hc' HTK.out h)
      generalize l[k] = v at d0 d1 hr1 hvl HNO HYES
      generalize l'[k] = v' at d0' d1' hr2 hvl' HNO HYES
      have e0 := keepc hbw d0
      have e1 := keepc hbw d1
      have e0' := keepc hbw d0'
      have e1' := keepc hbw d1'
      have hz := Nat.lt_of_lt_of_le hb hbw.size
      have hz' := Nat.lt_of_lt_of_le hb' hbw.size
      obtain ⟨vn, vc⟩ := v
      obtain ⟨vn', vc'⟩ := v'
      simp only at e0 e1 e0' e1' hr1 hr2 hvl hvl' d1 d1'
      have HD := Lib.hid (And.intro d1 d1')
      have HR := Lib.hid (And.intro hr1 hr2)
      have HBW := Lib.hid hbw
      have HBB := Lib.hid (And.intro hb hb')
      clear d0 d1 d0' d1' hr1 hr2 hbw hb hb' hc'
      by_cases hn : vn = vn'
      rotate_left 1
      · have HE := Lib.hid (HNO.out (fun e => hn (by simp only [WV.mk.injEq] at e; exact e.1)))
        obtain ⟨hq1, hq2, hq3⟩ := neq_t hn
        clear hn
        go_wp2_with fail
        go_quiet (fail)
        go_wp2
        go_ret
        exact ⟨by rw [HE.out]; rfl, below_drewN' HBW.out _⟩
      subst hn
      by_cases hcl : vc.length = vc'.length
      rotate_left 1
      · have HE := Lib.hid (HNO.out (fun e => hcl (by simp only [WV.mk.injEq] at e; rw [e.2])))
        obtain ⟨hq1, hq2, hq3⟩ := neq_t (a := (vc.length : Int)) (b := (vc'.length : Int)) (by omega)
        clear hcl
        go_wp2_with fail
        go_quiet (fail)
        go_wp2
        go_ret
        exact ⟨by rw [HE.out]; rfl, below_drewN' HBW.out _⟩
      rw [← hcl] at e1'
      have HCL := Lib.hid hcl
      clear hcl
      go_wp2_with fail
      go_quiet (fail)
      go_wp2_with fail
      obtain ⟨V, hV⟩ : ∃ V, V = wz.drewN nq := ⟨_, rfl⟩
      have HV := Lib.hid (show Below w.heap.size w V from by rw [hV]; exact below_drewN' HBW.out _)
      rw [← hV]
      clear hV e0 e1 e0' e1' hz hz'
      go_loopw [6] (fun jv wr => ∃ j : Nat, jv = .int .i64 j ∧ j ≤ vc.length ∧ vc.take j = vc'.take j ∧ Below w.heap.size w wr) (fun jv _ => vc.length - (intOf jv).toNat)
      case atStart => exact ⟨0, rfl, Nat.zero_le _, by simp, HV.out⟩
      case round =>
        obtain ⟨j, rfl, hj, htj, hby⟩ := hrel
        have HTJ := Lib.hid htj
        clear htj
        obtain ⟨wy, hwy⟩ : ∃ wy, wy = wr := ⟨_, rfl⟩
        subst hwy
        have e1 := keepc hby HD.out.1
        have e1' := keepc hby HD.out.2
        rw [← HCL.out] at e1'
        have hz := Nat.lt_of_lt_of_le HBB.out.1 hby.size
        have hz' := Nat.lt_of_lt_of_le HBB.out.2 hby.size
        by_cases hcj : j < vc.length
        · have hcj' : j < vc'.length := by have := HCL.out; omega
          obtain ⟨p, po, rfl, hp, f0, f1, f2⟩ := crs_all HR.out.1 hcj
          obtain ⟨p', po', rfl, hp', f0', f1', f2'⟩ := crs_all HR.out.2 hcj'
          have HNOJ := Lib.hid (fun (h : ¬ vc[j] = vc'[j]) => HNO.out (fun e => take_ne hcj hcj' h (by simp only [WV.mk.injEq] at e; exact e.2)))
          have HYESJ := Lib.hid (fun (h : vc[j] = vc'[j]) => take_more hcj hcj' HTJ.out h)
          generalize vc[j] = x at f0 f1 f2 HNOJ HYESJ
          generalize vc'[j] = x' at f0' f1' f2' HNOJ HYESJ
          obtain ⟨xn, xi, xo⟩ := x
          obtain ⟨xn', xi', xo'⟩ := x'
          have g0 := keepc hby f0
          have g1 := keepc hby f1
          have g2 := keepc hby f2
          have g0' := keepc hby f0'
          have g1' := keepc hby f1'
          have g2' := keepc hby f2'
          have hy := Nat.lt_of_lt_of_le hp hby.size
          have hy' := Nat.lt_of_lt_of_le hp' hby.size
          have HBY := Lib.hid hby
          clear f0 f1 f2 f0' f1' f2' hp hp' hby hcj'
          unfold encStr at g0 g0'
          simp only at g0 g1 g2 g0' g1' g2'
          by_cases hn : xn = xn'
          rotate_left 1
          · have HE := Lib.hid (HNOJ.out (fun e => hn (by simp only [Cr.mk.injEq] at e; exact e.1)))
            obtain ⟨hq1, hq2⟩ := not_eq_f hn
            clear hn
            go_wp2_with fail
            go_quiet (fail)
            go_wp2
            go_ret
            exact ⟨by rw [HE.out]; rfl, below_drewN' HBY.out _⟩
          subst hn
          by_cases hi : xi = xi'
          rotate_left 1
          · have HE := Lib.hid (HNOJ.out (fun e => hi (by simp only [Cr.mk.injEq] at e; exact e.2.1)))
            obtain ⟨hq1, hq2, hq3⟩ := neq_t hi
            clear hi
            go_wp2_with fail
            go_quiet (fail)
            go_wp2
            go_ret
            exact ⟨by rw [HE.out]; rfl, below_drewN' HBY.out _⟩
          subst hi
          by_cases ho : xo = xo'
          rotate_left 1
          · have HE := Lib.hid (HNOJ.out (fun e => ho (by simp only [Cr.mk.injEq] at e; exact e.2.2)))
            have hq1 : (xo == xo') = false := by rw [beq_eq_false_iff_ne]; exact ho
            have hq2 : (xo = xo') = False := by rw [eq_iff_iff, iff_false]; exact ho
            clear ho
            go_wp2_with fail
            go_quiet (fail)
            go_wp2
            go_ret
            exact ⟨by rw [HE.out]; rfl, below_drewN' HBY.out _⟩
          subst ho
          go_wp2_with fail
          go_quiet (fail)
          go_wp2_with fail
          have HF := Lib.hid (And.intro (HYESJ.out (by trivial)) (show Below w.heap.size w (wy.drewN nq) from below_drewN' HBY.out _))
          go_wp2
          go_roundw
          case rel => exact ⟨j + 1, by go_num, by omega, HF.out.1, HF.out.2⟩
          case measure => simp [intOf]; omega
        · obtain rfl : j = vc.length := by omega
          have HBY := Lib.hid (And.intro (HYES.out (by rw [take_end HCL.out HTJ.out])) hby)
          clear hby
          go_wp2
          go_roundw
          case rel => exact ⟨k + 1, by go_num, by omega, HBY.out.1, HBY.out.2⟩
          case measure => simp [intOf]; omega
    · obtain rfl : k = l.length := by omega
      have HF := Lib.hid (And.intro (eqA_t (take_end HLL.out HTK.out)) hbw)
      clear hbw
      go_wp2
      go_ret
      exact ⟨by rw [HF.out.1]; rfl, HF.out.2⟩
theorem ckv_split {remE : List Cr} {pre post : List (List UInt8 × Value)} {x : List UInt8} {v : Value} (h : ckv remE = pre ++ (x, v) :: post) : ∃ pr e po, remE = pr ++ e :: po ∧ pre = ckv pr ∧ post = ckv po ∧ e.nm = x ∧ v = e.val := by
  unfold ckv at h
  obtain ⟨pr, q, h1, h2, h3⟩ := List.map_eq_append_iff.1 h
  obtain ⟨e, po, h4, h5, h6⟩ := List.map_eq_cons_iff.1 h3
  cases h5
  exact ⟨pr, e, po, by rw [h1, h4], h2.symm, h6.symm, rfl, rfl⟩
theorem ckv_app (a b : List Cr) : ckv (a ++ b) = ckv a ++ ckv b := by simp [ckv]
theorem ckv_length (es : List Cr) : (ckv es).length = es.length := by simp [ckv]
/-- The loop of maps.Equal. -/
def EqC (w : World) (m1 : Nat) (ks1 cr2 : List Cr) (r g : Nat) (wr : World) : Prop :=
  ∃ remE, g = remE.length ∧ IterAt encStr wr r m1 (ckv ks1) (ckv remE) ∧ Below w.heap.size w wr ∧ w.heap.size ≤ r ∧ (∀ c ∈ remE, c ∈ ks1) ∧ ∀ c ∈ ks1, c ∈ cr2 ∨ c ∈ remE
set_option maxHeartbeats 4000000 in
set_option maxRecDepth 100000 in
theorem meq_any {w : World} {m1 m2 : Nat} {ks1 cr1 ks2 cr2 : List Cr} (h1 : MapAt encStr w m1 (ckv ks1)) (p1 : ks1.Perm cr1) (s1 : CS cr1) (h2 : MapAt encStr w m2 (ckv ks2)) (p2 : ks2.Perm cr2) (s2 : CS cr2) :
    Calls Try.prog 40 #[.map (some m1), .map (some m2)] w fun e w' => e = .returned (.bool (eqA cr1 cr2)) ∧ Below w.heap.size w w' := by
  have hn1 := K.run_len_map (P := Try.prog) h1 Try.underlying66 3
  have hn2 := K.run_len_map (P := Try.prog) h2 Try.underlying66 3
  rw [ckv_length, p1.length_eq] at hn1
  rw [ckv_length, p2.length_eq] at hn2
  by_cases hl : cr1.length = cr2.length
  rotate_left 1
  · have HE := Lib.hid (eqA_f (fun e : cr1 = cr2 => hl (by rw [e])))
    obtain ⟨hq1, hq2, hq3⟩ := neq_t (a := (cr1.length : Int)) (b := (cr2.length : Int)) (by omega)
    generalize cr1.length = n1 at hn1 hq1 hq2 hq3
    generalize cr2.length = n2 at hn2 hq1 hq2 hq3
    clear h1 h2 hl
    go_enter Try.func40, Try.ntmps40
    go_wp2
    go_ret
    exact ⟨by rw [HE.out]; rfl, Below.refl _ _⟩
  rw [hl] at hn1
  have HL := Lib.hid hl
  have H2 := Lib.hid h2
  have P1 := Lib.hid p1
  have P2 := Lib.hid p2
  have S1 := Lib.hid s1
  have S2 := Lib.hid s2
  have HMA := Lib.hid h1
  generalize cr2.length = n2 at hn1 hn2
  clear h1 h2 hl p1 p2 s1 s2
  go_enter Try.func40, Try.ntmps40
  go_wp2_with (first
    | (with_reducible refine step_range rfl _ _ rfl Try.underlying66 rfl HMA.out ?_)
    | fail)
  intro wx hit hbx hsx
  have HJ := Lib.hid (show EqC w m1 ks1 cr2 w.heap.size ks1.length wx from ⟨ks1, rfl, hit, hbx, Nat.le_refl _, fun _ h => h, fun c hc => .inr hc⟩)
  clear hit hbx hsx HMA hn1 hn2
  obtain ⟨r, hr⟩ : ∃ r, r = w.heap.size := ⟨_, rfl⟩
  rw [← hr] at HJ
  go_wp2
  rw [← hr]
  clear hr
  go_loopg [16] ks1.length (fun g _ wy => EqC w m1 ks1 cr2 r g wy)
  case atStart => exact HJ.out
  case round =>
    obtain ⟨remE, hgk, hit, hbl, hDr, hsub, hall⟩ := hrel
    have HGK := Lib.hid hgk
    have HIT := Lib.hid hit
    have HBL := Lib.hid hbl
    have HDR := Lib.hid hDr
    have HSUB := Lib.hid hsub
    have HALL := Lib.hid hall
    clear hgk hit hbl hDr hsub hall HJ
    go_wp2_with (first
      | (with_reducible refine step_next sKey rfl _ rfl rfl HIT.out ?hdone ?hK)
      | fail)
    case hdone =>
      intro hrem
      have hre : remE = [] := by cases remE with | nil => rfl | cons a b => cases hrem
      subst hre
      have HE := Lib.hid (show eqA cr1 cr2 = true from eqA_t (sorted_eq (key := Cr.nm) ordN S1.out S2.out (fun c hc => (HALL.out c (P1.out.mem_iff.2 hc)).elim (fun h => h) (fun h => by simp at h)) HL.out))
      clear hrem
      go_wp2
      go_ret
      exact ⟨by rw [HE.out]; rfl, HBL.out⟩
    case hK =>
      intro w2 pre x v post hrem hmem hit2 ho2 hs2 hent
      obtain ⟨pr, c, po, rfl, rfl, rfl, rfl, rfl⟩ := ckv_split hrem
      have hck : c ∈ ks1 := HSUB.out _ (by simp)
      have hc1 : c ∈ cr1 := P1.out.mem_iff.1 hck
      have hbl2 : Below w.heap.size w w2 := HBL.out.trans (ho2.below HBL.out.size (fun k e => by have e : k = r := e; rw [e]; exact HDR.out))
      have HLT := Lib.hid (show (pr ++ po).length < gk from by rw [HGK.out]; simp)
      have HIT2 := Lib.hid hit2
      have HBL2 := Lib.hid hbl2
      have HNO := Lib.hid (fun (hf : ¬ c ∈ cr2) => (show eqA cr1 cr2 = false from eqA_f (fun e => hf (by rw [← e]; exact hc1))))
      have HNX := Lib.hid (fun (hy : c ∈ cr2) (V : World) (hV : Below w2.heap.size w2 V) => (show EqC w m1 ks1 cr2 r (pr ++ po).length V from ⟨pr ++ po, rfl, by
          rw [ckv_app]
          exact HIT2.out.only (F := fun _ => False) (Only.of_new hV) (fun h => h) (fun h => h), HBL2.out.trans (hV.mono HBL2.out.size), HDR.out, fun e he => HSUB.out e (by simp only [List.mem_append, List.mem_cons] at he ⊢; rcases he with h | h; exact .inl h; exact .inr (.inr h)), fun u hu => by
          rcases HALL.out u hu with h | h
          · exact .inl h
          · simp only [List.mem_append, List.mem_cons] at h
            rcases h with h | rfl | h
            · exact .inr (by simp [h])
            · exact .inl hy
            · exact .inr (by simp [h])⟩))
      have HM2 := Lib.hid (fun V (hV : Below w2.heap.size w2 V) => H2.out.only (F := fun _ => False) (Only.of_new (hbl2.trans (hV.mono hbl2.size))) (fun h => h))
      by_cases hex : ∃ u ∈ cr2, u.nm = c.nm
      · obtain ⟨u, hu, hun⟩ := hex
        have HUC := Lib.hid (fun (h : c ∈ cr2) => key_inj (key := Cr.nm) ordN S2.out h hu hun.symm)
        have hget := cr_get P2.out S2.out hu
        rw [hun] at hget
        have HUM := Lib.hid hu
        obtain ⟨cn, ci, co⟩ := c
        obtain ⟨un, ui, uo⟩ := u
        simp only at hun hget
        have hun2 := hun.symm
        clear hun
        subst hun2
        have hent2 : Sem.run Try.prog (Instr.entry (Value.pointer (some ⟨r, 0, none⟩))) w2 = .ok (.tuple #[.string ⟨cn.toArray⟩, .agg #[.string ⟨cn.toArray⟩, .int .i64 ci, .bool co]]) w2 := hent
        have HGET := Lib.hid (show ∀ V, Below w2.heap.size w2 V → Sem.run Try.prog (Instr.lookup 66 (.map (some m2)) (.string ⟨cn.toArray⟩) true) V = .ok (.tuple #[.agg #[.string ⟨cn.toArray⟩, .int .i64 ui, .bool uo], .bool true]) V from fun V hV => by
          have := run_lookup sKey (HM2.out V hV) Try.underlying66 (.agg #[.string ⟨#[]⟩, .int .i64 0, .bool false]) (zCred V) cn true
          rw [hget] at this
          exact this)
        have hlk := HGET.out (w2.alloc (.cells #[.string ⟨cn.toArray⟩, .int .i64 ci, .bool co] 34)) ((Below.refl _ _).alloc (Nat.le_refl _) _)
        have HB2 := Lib.hid (show Below w2.heap.size w2 ((w2.alloc (.cells #[.string ⟨cn.toArray⟩, .int .i64 ci, .bool co] 34)).alloc (.cells #[.string ⟨cn.toArray⟩, .int .i64 ui, .bool uo] 34)) from ((Below.refl _ _).alloc (Nat.le_refl _) _).alloc (by simp) _)
        clear hrem hmem hit2 ho2 hs2 hent hck hc1 hbl2 hu hget
        by_cases hi : ci = ui
        rotate_left 1
        · have HE := Lib.hid (HNO.out (fun h => hi (by have e := HUC.out h; simp only [Cr.mk.injEq] at e; exact e.2.1)))
          obtain ⟨hq1, hq2, hq3⟩ := neq_t hi
          clear hi
          go_wp2
          go_ret
          exact ⟨by rw [HE.out]; rfl, HBL2.out.trans (HB2.out.mono HBL2.out.size)⟩
        subst hi
        by_cases ho : co = uo
        rotate_left 1
        · have HE := Lib.hid (HNO.out (fun h => ho (by have e := HUC.out h; simp only [Cr.mk.injEq] at e; exact e.2.2)))
          have hq1 : (co == uo) = false := by rw [beq_eq_false_iff_ne]; exact ho
          have hq2 : (co = uo) = False := by rw [eq_iff_iff, iff_false]; exact ho
          clear ho
          go_wp2
          go_ret
          exact ⟨by rw [HE.out]; rfl, HBL2.out.trans (HB2.out.mono HBL2.out.size)⟩
        subst ho
        have HR := Lib.hid (HNX.out HUM.out _ HB2.out)
        go_wp2
        go_roundg (pr ++ po).length
        case measure => exact HLT.out
        case rel => exact HR.out
      · have hno : ¬ c ∈ cr2 := fun h => hex ⟨c, h, rfl⟩
        have HE := Lib.hid (HNO.out hno)
        have hget : mget c.nm (ckv ks2) = none := mget_not_mem (by
          rw [ckv_fst]
          intro h
          obtain ⟨u, hu, hun⟩ := List.mem_map.1 h
          exact hex ⟨u, P2.out.mem_iff.1 hu, hun⟩)
        obtain ⟨cn, ci, co⟩ := c
        simp only at hget
        have hent2 : Sem.run Try.prog (Instr.entry (Value.pointer (some ⟨r, 0, none⟩))) w2 = .ok (.tuple #[.string ⟨cn.toArray⟩, .agg #[.string ⟨cn.toArray⟩, .int .i64 ci, .bool co]]) w2 := hent
        have HGET := Lib.hid (show ∀ V, Below w2.heap.size w2 V → Sem.run Try.prog (Instr.lookup 66 (.map (some m2)) (.string ⟨cn.toArray⟩) true) V = .ok (.tuple #[.agg #[.string ⟨#[]⟩, .int .i64 0, .bool false], .bool false]) V from fun V hV => by
          have := run_lookup sKey (HM2.out V hV) Try.underlying66 (.agg #[.string ⟨#[]⟩, .int .i64 0, .bool false]) (zCred V) cn true
          rw [hget] at this
          exact this)
        have hlk := HGET.out (w2.alloc (.cells #[.string ⟨cn.toArray⟩, .int .i64 ci, .bool co] 34)) ((Below.refl _ _).alloc (Nat.le_refl _) _)
        have HB2 := Lib.hid (show Below w2.heap.size w2 ((w2.alloc (.cells #[.string ⟨cn.toArray⟩, .int .i64 ci, .bool co] 34)).alloc (.cells #[.string ⟨#[]⟩, .int .i64 0, .bool false] 34)) from ((Below.refl _ _).alloc (Nat.le_refl _) _).alloc (by simp) _)
        clear hrem hmem hit2 ho2 hs2 hent hck hc1 hbl2 hget hex hno
        go_wp2
        go_ret
        exact ⟨by rw [HE.out]; rfl, HBL2.out.trans (HB2.out.mono HBL2.out.size)⟩
theorem meq1_any {w : World} {m1 m2 : Nat} {ks1 cr1 ks2 cr2 : List Cr} (h1 : MapAt encStr w m1 (ckv ks1)) (p1 : ks1.Perm cr1) (s1 : CS cr1) (h2 : MapAt encStr w m2 (ckv ks2)) (p2 : ks2.Perm cr2) (s2 : CS cr2) :
    Calls Try.prog 39 #[.map (some m1), .map (some m2)] w fun e w' => e = .returned (.bool (eqA cr1 cr2)) ∧ Below w.heap.size w w' := by
  have HM := Lib.hid (meq_any h1 p1 s1 h2 p2 s2)
  clear h1 p1 s1 h2 p2 s2
  go_enter Try.func39, Try.ntmps39
  go_wp2_with fail
  refine HM.out.mono ?_
  rintro e w2 ⟨rfl, hb⟩
  have HB := Lib.hid hb
  clear hb
  go_wp2
  go_ret
  exact ⟨rfl, HB.out⟩
/-- The loop of maps.EqualFunc. -/
def EqO (w : World) (M1 : Nat) (es1 : List WE) (L2 : List WV) (r g : Nat) (wr : World) : Prop :=
  ∃ remE, g = remE.length ∧ IterAt iEnc wr r M1 (wents es1) (wents remE) ∧ Below w.heap.size w wr ∧ w.heap.size ≤ r ∧ (∀ e ∈ remE, e ∈ es1) ∧ ∀ e ∈ es1, e.vw ∈ L2 ∨ e ∈ remE
set_option maxHeartbeats 4000000 in
set_option maxRecDepth 100000 in
theorem eqf18_any {w : World} {B1 g1 M1 B2 g2 M2 : Nat} {s1 s2 : Cfg} {es1 es2 : List WE} {L1 L2 : List WV} (h1 : WinAt w B1 g1 M1 s1 es1) (p1 : (es1.map WE.vw).Perm L1) (o1 : WS L1) (h2 : WinAt w B2 g2 M2 s2 es2) (p2 : (es2.map WE.vw).Perm L2) (o2 : WS L2) :
    Calls Try.prog 38 #[.map (some M1), .map (some M2), .func (Fn.func 39) #[] #[]] w fun e w' => e = .returned (.bool (eqA L1 L2)) ∧ Below w.heap.size w w' := by
  have hn1 := K.run_len_map (P := Try.prog) h1.2.1 Try.underlying60 3
  have hn2 := K.run_len_map (P := Try.prog) h2.2.1 Try.underlying60 3
  have hq1 : (wents es1).length = L1.length := by rw [wents_length, ← p1.length_eq, List.length_map]
  have hq2 : (wents es2).length = L2.length := by rw [wents_length, ← p2.length_eq, List.length_map]
  rw [hq1] at hn1
  rw [hq2] at hn2
  clear hq1 hq2
  by_cases hl : L1.length = L2.length
  rotate_left 1
  · have HE := Lib.hid (eqA_f (fun e : L1 = L2 => hl (by rw [e])))
    obtain ⟨hq1, hq2, hq3⟩ := neq_t (a := (L1.length : Int)) (b := (L2.length : Int)) (by omega)
    generalize L1.length = n1 at hn1 hq1 hq2 hq3
    generalize L2.length = n2 at hn2 hq1 hq2 hq3
    clear h1 h2 hl
    go_enter Try.func38, Try.ntmps38
    go_wp2
    go_ret
    exact ⟨by rw [HE.out]; rfl, Below.refl _ _⟩
  rw [hl] at hn1
  have HL := Lib.hid hl
  have H1 := Lib.hid h1
  have H2 := Lib.hid h2
  have P1 := Lib.hid p1
  have P2 := Lib.hid p2
  have S1 := Lib.hid o1
  have S2 := Lib.hid o2
  have HMA := Lib.hid h1.2.1
  generalize L2.length = n2 at hn1 hn2
  clear h1 h2 hl p1 p2 o1 o2
  go_enter Try.func38, Try.ntmps38
  go_wp2_with (first
    | (with_reducible refine step_range rfl _ _ rfl Try.underlying60 rfl HMA.out ?_)
    | fail)
  intro wx hit hbx hsx
  have HJ := Lib.hid (show EqO w M1 es1 L2 w.heap.size es1.length wx from ⟨es1, rfl, hit, hbx, Nat.le_refl _, fun _ h => h, fun c hc => .inr hc⟩)
  clear hit hbx hsx HMA hn1 hn2
  obtain ⟨r, hr⟩ : ∃ r, r = w.heap.size := ⟨_, rfl⟩
  rw [← hr] at HJ
  go_wp2
  rw [← hr]
  clear hr
  go_loopg [18] es1.length (fun g _ wy => EqO w M1 es1 L2 r g wy)
  case atStart => exact HJ.out
  case round =>
    obtain ⟨remE, hgk, hit, hbl, hDr, hsub, hall⟩ := hrel
    have HGK := Lib.hid hgk
    have HIT := Lib.hid hit
    have HBL := Lib.hid hbl
    have HDR := Lib.hid hDr
    have HSUB := Lib.hid hsub
    have HALL := Lib.hid hall
    clear hgk hit hbl hDr hsub hall HJ
    go_wp2_with (first
      | (with_reducible refine step_next iKey rfl _ rfl rfl HIT.out ?hdone ?hK)
      | fail)
    case hdone =>
      intro hrem
      have hre : remE = [] := by cases remE with | nil => rfl | cons a b => cases hrem
      subst hre
      have HE := Lib.hid (show eqA L1 L2 = true from eqA_t (sorted_eq (key := WV.num) ordI S1.out S2.out (fun v hv => by
        obtain ⟨e, he, rfl⟩ := List.mem_map.1 (P1.out.mem_iff.2 hv)
        exact (HALL.out e he).elim (fun h => h) (fun h => by simp at h)) HL.out))
      clear hrem
      go_wp2
      go_ret
      exact ⟨by rw [HE.out]; rfl, HBL.out⟩
    case hK =>
      intro w2 pre x v post hrem hmem hit2 ho2 hs2 hent
      obtain ⟨pr, c, po, rfl, rfl, rfl, rfl, rfl⟩ := wents_split hrem
      have hck : c ∈ es1 := HSUB.out _ (by simp)
      have hc1 : c.vw ∈ L1 := P1.out.mem_iff.1 (List.mem_map.2 ⟨c, hck, rfl⟩)
      have hbl2 : Below w.heap.size w w2 := HBL.out.trans (ho2.below HBL.out.size (fun k e => by have e : k = r := e; rw [e]; exact HDR.out))
      have HLT := Lib.hid (show (pr ++ po).length < gk from by rw [HGK.out]; simp)
      have HIT2 := Lib.hid hit2
      have HBL2 := Lib.hid hbl2
      have HNO := Lib.hid (fun (hf : ¬ c.vw ∈ L2) => (show eqA L1 L2 = false from eqA_f (fun e => hf (by rw [← e]; exact hc1))))
      have HNX := Lib.hid (fun (hy : c.vw ∈ L2) (V : World) (hV : Below w2.heap.size w2 V) => (show EqO w M1 es1 L2 r (pr ++ po).length V from ⟨pr ++ po, rfl, by
          rw [wents_app]
          exact HIT2.out.only (F := fun _ => False) (Only.of_new hV) (fun h => h) (fun h => h), HBL2.out.trans (hV.mono HBL2.out.size), HDR.out, fun e he => HSUB.out e (by simp only [List.mem_append, List.mem_cons] at he ⊢; rcases he with h | h; exact .inl h; exact .inr (.inr h)), fun u hu => by
          rcases HALL.out u hu with h | h
          · exact .inl h
          · simp only [List.mem_append, List.mem_cons] at h
            rcases h with h | rfl | h
            · exact .inr (by simp [h])
            · exact .inl hy
            · exact .inr (by simp [h])⟩))
      have hA1 := H1.out.below hbl2
      have hA2 := H2.out.below hbl2
      have hk1 := hA1.2.2.1 c hck
      have hent2 : Sem.run Try.prog (Instr.entry (Value.pointer (some ⟨r, 0, none⟩))) w2 = .ok (.tuple #[.int .i64 c.num, .map (some c.m)]) w2 := hent
      by_cases hex : ∃ u ∈ es2, u.num = c.num
      · obtain ⟨u, hu, hun⟩ := hex
        have hu2 : u.vw ∈ L2 := P2.out.mem_iff.1 (List.mem_map.2 ⟨u, hu, rfl⟩)
        have HUC := Lib.hid (fun (h : c.vw ∈ L2) => (show c.cr = u.cr from by
          have e := key_inj (key := WV.num) ordI S2.out h hu2 hun.symm
          unfold WE.vw at e
          simp only [WV.mk.injEq] at e
          exact e.2))
        have HUY := Lib.hid (fun (h : c.cr = u.cr) => (show c.vw ∈ L2 from by
          have e : c.vw = u.vw := by unfold WE.vw; rw [h, hun]
          rw [e]
          exact hu2))
        have hget := hA2.get hu P2.out S2.out
        rw [hun] at hget
        have hlk := run_lookup iKey hA2.2.1 Try.underlying60 (.map none) (zMapC w2) c.num true
        rw [hget] at hlk
        have hlk2 : Sem.run Try.prog (Instr.lookup 60 (.map (some M2)) (.int .i64 c.num) true) w2 = .ok (.tuple #[.map (some u.m), .bool true]) w2 := hlk
        have hk2 := hA2.2.2.1 u hu
        have HCA := Lib.hid (meq1_any hk1.1 hk1.2.1 hk1.2.2 hk2.1 hk2.2.1 hk2.2.2)
        generalize c.num = cn at hent2 hlk2
        generalize c.m = cm at hent2 HCA
        generalize u.m = um at hlk2 HCA
        clear hrem hmem hit2 ho2 hs2 hent hck hc1 hbl2 hu hget hlk hA1 hA2 hk1 hk2 hu2 hun
        by_cases hcr : c.cr = u.cr
        · have HT := Lib.hid (eqA_t hcr)
          have HY := Lib.hid (HUY.out hcr)
          clear hcr
          go_wp2_with fail
          refine HCA.out.mono ?_
          rintro e w3 ⟨rfl, hb3⟩
          rw [HT.out]
          have HR := Lib.hid (HNX.out HY.out _ hb3)
          clear hb3
          go_wp2
          go_roundg (pr ++ po).length
          case measure => exact HLT.out
          case rel => exact HR.out
        · have HT := Lib.hid (eqA_f hcr)
          have HE := Lib.hid (HNO.out (fun h => hcr (HUC.out h)))
          clear hcr
          go_wp2_with fail
          refine HCA.out.mono ?_
          rintro e w3 ⟨rfl, hb3⟩
          rw [HT.out]
          have HB3 := Lib.hid hb3
          clear hb3
          go_wp2
          go_ret
          exact ⟨by rw [HE.out]; rfl, HBL2.out.trans (HB3.out.mono HBL2.out.size)⟩
      · have HE := Lib.hid (HNO.out (fun h => by
          obtain ⟨u, hu, e⟩ := List.mem_map.1 (P2.out.mem_iff.2 h)
          exact hex ⟨u, hu, by have := congrArg WV.num e; exact this⟩))
        have hget : mget c.num (wents es2) = none := mget_not_mem (by
          rw [wents_fst]
          intro h
          obtain ⟨u, hu, hun⟩ := List.mem_map.1 h
          exact hex ⟨u, hu, hun⟩)
        have hlk := run_lookup iKey hA2.2.1 Try.underlying60 (.map none) (zMapC w2) c.num true
        rw [hget] at hlk
        have hlk2 : Sem.run Try.prog (Instr.lookup 60 (.map (some M2)) (.int .i64 c.num) true) w2 = .ok (.tuple #[.map none, .bool false]) w2 := hlk
        generalize c.num = cn at hent2 hlk2
        clear hrem hmem hit2 ho2 hs2 hent hck hc1 hbl2 hget hlk hA1 hA2 hk1 hex
        go_wp2
        go_ret
        exact ⟨by rw [HE.out]; rfl, HBL2.out⟩
end Go.Proofs.Ytbkpgpaanhfjfaa
