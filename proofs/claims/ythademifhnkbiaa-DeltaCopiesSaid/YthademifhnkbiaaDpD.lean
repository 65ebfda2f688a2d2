/- The walk over the reference's (*Store).one where a series is new. -/
import Derived.Test.YthademifhnkbiaaDpC
import Derived.Test.YthademifhnkbiaaApp6
import Derived.Test.YthademifhnkbiaaSm
import Derived.Deep.CutRange
namespace Go.Proofs.Ythademifhnkbiaa
open Go.RowKit K
theorem onf_take : ∀ (L : List SV) (k : Nat), (onf L).take (k * 7) = onf (L.take k)
  | [], k => by simp [onf]
  | v :: r, 0 => by simp [onf]
  | v :: r, k + 1 => by
    have ih := onf_take r k
    have e : onf (v :: r) = onc v ++ onf r := rfl
    have e2 : onf ((v :: r).take (k + 1)) = onc v ++ onf (r.take k) := rfl
    rw [e, e2, ← ih, List.take_append]
    have h1 : (onc v).take ((k + 1) * 7) = onc v := List.take_of_length_le (by simp [onc]; omega)
    rw [h1]
    congr 2
    simp [onc]
    omega
theorem onf_drop : ∀ (L : List SV) (k : Nat), (onf L).drop (k * 7) = onf (L.drop k)
  | [], k => by simp [onf]
  | v :: r, 0 => by simp [onf]
  | v :: r, k + 1 => by
    have ih := onf_drop r k
    have e : onf (v :: r) = onc v ++ onf r := rfl
    rw [e, List.drop_succ_cons, ← ih, List.drop_append]
    have h1 : (onc v).drop ((k + 1) * 7) = [] := List.drop_eq_nil_of_le (by simp [onc]; omega)
    rw [h1, List.nil_append]
    congr 1
    simp [onc]
    omega
theorem insAt_lt {x : ByteArray} : ∀ {L : List SV} {k : Nat}, k ≤ insAt x L → (k < insAt x L ↔ ∃ h : k < L.length, lessN L[k].x.name x = true)
  | [], k, h => by simp [insAt]
  | v :: r, 0, _ => by
    unfold insAt
    by_cases hv : lessN v.x.name x = true
    · rw [if_pos hv]; simp [hv]
    · rw [if_neg hv]; simp [hv]
  | v :: r, k + 1, h => by
    unfold insAt at h ⊢
    by_cases hv : lessN v.x.name x = true
    · rw [if_pos hv] at h ⊢
      have := insAt_lt (x := x) (L := r) (k := k) (by omega)
      simp only [Nat.add_lt_add_iff_right, List.length_cons, List.getElem_cons_succ]
      exact this
    · rw [if_neg hv] at h
      omega
def CutOn (wb : World) (r : Nat) (L : List SV) (wc : World) : Prop := ∃ v W, Below wb.heap.size wb W ∧ W.ownsRow wb.heap.size 95 7 v L.length (onf L) ∧ wc = W.setCell ⟨r, 0, none⟩ v
theorem onf_rins (v : SV) (L : List SV) : onf (rins v L) = ([] ++ ((onf L).take (insAt v.x.name L * 7)).drop (0 * 7)) ++ onc v ++ ((onf L).take (L.length * 7)).drop (insAt v.x.name L * 7) := by
  rw [onf_take, onf_take, List.take_length, onf_drop, onf_drop, List.drop_zero, List.nil_append, rins, onf_app]
  show onf _ ++ (onc v ++ onf _) = _
  rw [List.append_assoc]
section
variable {w : World} {B r : Nat} {most : Int} {L : List SV} {G : Nat → Prop}
theorem rone_cut {wb W : World} {L : List SV} {r k : Nat} {v : SV} {v3 : Value} (hb : Below wb.heap.size wb W) (ho : W.ownsRow wb.heap.size 95 7 v3 (0 + (k - 0) + 1 + (L.length - k)) ((([] ++ ((onf L).take (k * 7)).drop (0 * 7)) ++ onc v) ++ ((onf L).take (L.length * 7)).drop (k * 7))) (hk : insAt v.x.name L = k) (hl : k ≤ L.length) : CutOn wb r (rins v L) (W.setCell ⟨r, 0, none⟩ v3) := by
  refine ⟨v3, W, hb, ?_, rfl⟩
  rw [show 0 + (k - 0) + 1 + (L.length - k) = (rins v L).length by rw [rins_length]; omega] at ho
  rw [onf_rins, hk]
  exact ho
/-- Behind the store of the row. -/
theorem rone_fin {wa wc : World} {L' : List SV} (h : RsIs w B r most L G) (hB : B ≤ w.heap.size) (hba : Below w.heap.size w wa) (hc : CutOn wa r L' wc) : (∃ G', RsIs wc B r most L' G' ∧ Only G w wc ∧ ∀ k, G' k → k = r ∨ wa.heap.size ≤ k) ∧ (∀ k o, w.heap.size ≤ k → wa.heap[k]? = some o → wc.heap[k]? = some o) := by
  obtain ⟨v, W, hb, ho, rfl⟩ := hc
  have hr := h.lt r h.mem
  have hs := hba.size
  obtain ⟨a, c, hbx, -⟩ := h.shape
  have hbW : W.heap[r]? = some (.cells #[.slice a L.length c, .int .i64 most] 54 (0, 0)) := keeph (B := W) (by exact hb) (keeph hba hbx)
  have hov : ∀ b, v.ownBlock = some b → wa.heap.size ≤ b ∧ b < W.heap.size := ho.lt
  refine ⟨⟨fun k => k = r ∨ v.ownBlock = some k, ⟨v, ?_, own_base (D := wa.heap.size) ?_ (Nat.le_trans hB hs), fun b e => ⟨.inr e, fun e2 => by have := (hov b e).1; omega⟩, .inl rfl, fun k hk => ?_⟩, ?_, fun k hk => ?_⟩, fun k o hk ho => ?_⟩
  · rw [heap_setCell_same _ _ _ _ _ _ hbW]
    rfl
  · exact ((Only.refl (fun k => k = r) W).setCell ⟨r, 0, none⟩ v (fun _ => rfl)).own ho (fun b e e2 => by have := (hov b e).1; have e2 : b = r := e2; omega)
  · rcases hk with rfl | hk
    · exact ⟨h.ge k h.mem, by simp; exact Nat.lt_of_lt_of_le hr (Nat.le_trans hs hb.size)⟩
    · exact ⟨by have := (hov k hk).1; omega, by simp; exact (hov k hk).2⟩
  · exact (Only.of_new (hba.trans (hb.mono hs))).setCell ⟨r, 0, none⟩ v (fun _ => h.mem)
  · rcases hk with rfl | hk
    · exact .inl rfl
    · exact .inr (hov k hk).1
  · rw [Below.heap_setCell _ _ _ k (by show k ≠ r; omega)]
    exact keeph hb ho
theorem rone_end {W w' wa : World} {L' : List SV} {b : Nat} (h : RsIs w B r most L G) (hf : ∃ G', RsIs W B r most L' G' ∧ Only G w W ∧ ∀ k, G' k → k = r ∨ wa.heap.size ≤ k) (ho : Only (· = b) W w') (hb : w.heap.size ≤ b) (hb2 : b < wa.heap.size) (_hs : w.heap.size ≤ wa.heap.size) : RsTo w B r most L' G w' := by
  obtain ⟨G', h1, h2, h3⟩ := hf
  have hr := h.lt r h.mem
  refine ⟨G', h1.only ho (fun k hk e => ?_), h2.trans ho (fun k hk e => by have e : k = b := e; omega), fun k hk => ?_⟩
  · have e : k = b := e
    rcases h3 k hk with h | h <;> omega
  · rcases h3 k hk with h' | h'
    · rw [h']; exact .inl h.mem
    · exact .inr (by omega)
set_option maxHeartbeats 4000000 in
set_option maxRecDepth 100000 in
theorem rone_new (h : RsIs w B r most L G) (hB : B ≤ w.heap.size) (owner : Int) (x : Smp) (hf : sfind x.name L = none) (hl : L.length ≤ 100000) (hroom : ¬ most ≤ (L.length : Int)) :
    Calls Try.prog 39 #[.pointer (some ⟨r, 0, none⟩), .int .i64 owner, .agg x.cells] w (ROne w B r most G ⟨x, 1, false, 0⟩ (rins ⟨x, true, owner⟩ L)) := by
  have hw : RsIs (oneW w x) B r most L G := h.new (((Below.refl _ _).alloc (Nat.le_refl _) _).alloc (by simp) _)
  have hof := rof_any hw x.name (by omega)
  obtain ⟨a, c, hb, hcl, hr, hap⟩ := h.shape
  have c0 : w.cell? ⟨r, 0, none⟩ = some (.slice a L.length c) := by rw [cell_of_row _ _ _ _ _ _ hb]; rfl
  have c1 : w.cell? ⟨r, 1, none⟩ = some (.int .i64 most) := by rw [cell_of_row _ _ _ _ _ _ hb]; rfl
  have hr1 : r < w.heap.size := h.lt r h.mem
  have hr2 : r < w.heap.size + 1 := by omega
  have hr3 : r < w.heap.size + 1 + 1 := by omega
  have hr4 : r < w.heap.size + 1 + 1 + 1 := by omega
  obtain ⟨n, v, t, cc⟩ := x
  unfold oneW at hof
  simp only [Smp.cells] at hof hf ⊢
  have HOF := Lib.hid hof
  have HFN := Lib.hid hf
  have HR := Lib.hid hr
  have HB := Lib.hid hb
  have H := Lib.hid h
  have HBB := Lib.hid hB
  clear h hw hof hb hf hr hap hB
  go_enter Try.func39, Try.ntmps39
  go_wp2_with fail
  refine HOF.out.mono ?_
  rintro e w1 ⟨i, rfl, hi, rfl⟩
  obtain rfl := ofP_none hi HFN.out
  clear hi
  go_wp2
  go_quiet (fail)
  go_wp2
  obtain ⟨wa, hwa⟩ : ∃ wa, wa = (((w.alloc (.cells #[.string n, .int .i64 v, .int .i64 t, .bool cc] 31)).alloc (.cells #[.string ⟨#[]⟩, .int .i64 0, .int .i64 0, .bool false, .int .i64 0, .bool false, .int .i64 0] 68)).alloc (.cells #[.string n, .int .i64 v, .int .i64 t, .bool cc, .bool true, .int .i64 owner] 88)).drewN nq := ⟨_, rfl⟩
  rw [← hwa]
  have hba : Below w.heap.size w wa := by rw [hwa]; exact below_drewN ((((Below.refl _ _).alloc (Nat.le_refl _) _).alloc (by simp) _).alloc (by simp; omega) _) _
  have x0 : wa.heap[w.heap.size]? = some (.cells #[.string n, .int .i64 v, .int .i64 t, .bool cc] 31 (0, 0)) := by
    rw [hwa, World.heap_drewN, Below.heap_alloc _ _ _ (by simp; omega), Below.heap_alloc _ _ _ (by simp)]
    exact heap_alloc_new w _
  have x1 : wa.heap[w.heap.size + 1]? = some (.cells #[.string ⟨#[]⟩, .int .i64 0, .int .i64 0, .bool false, .int .i64 0, .bool false, .int .i64 0] 68 (0, 0)) := by
    rw [hwa, World.heap_drewN, Below.heap_alloc _ _ _ (by simp)]
    have := heap_alloc_new (w.alloc (.cells #[.string n, .int .i64 v, .int .i64 t, .bool cc] 31)) (.cells #[.string ⟨#[]⟩, .int .i64 0, .int .i64 0, .bool false, .int .i64 0, .bool false, .int .i64 0] 68)
    rw [World.size_alloc] at this
    exact this
  have x2 : wa.heap[w.heap.size + 1 + 1]? = some (.cells #[.string n, .int .i64 v, .int .i64 t, .bool cc, .bool true, .int .i64 owner] 88 (0, 0)) := by
    rw [hwa, World.heap_drewN]
    have := heap_alloc_new ((w.alloc (.cells #[.string n, .int .i64 v, .int .i64 t, .bool cc] 31)).alloc (.cells #[.string ⟨#[]⟩, .int .i64 0, .int .i64 0, .bool false, .int .i64 0, .bool false, .int .i64 0] 68)) (.cells #[.string n, .int .i64 v, .int .i64 t, .bool cc, .bool true, .int .i64 owner] 88)
    rw [World.size_alloc, World.size_alloc] at this
    exact this
  have hra := HR.out.below hba (Nat.le_refl _)
  have ca := keepc hba c0
  have ha : r < wa.heap.size := by have := hba.size; omega
  have n0 : wa.cell? ⟨w.heap.size, 0, none⟩ = some (.string n) := by rw [cell_of_row _ _ _ _ _ _ x0]; rfl
  have HBA := Lib.hid hba
  have X0 := Lib.hid x0
  have X1 := Lib.hid x1
  have X2 := Lib.hid x2
  have HRA := Lib.hid hra
  have HIL := Lib.hid (insAt_le n L)
  clear hwa hba x0 x1 x2 hra c0 c1 HR
  go_loopw [9] (fun i wr => ∃ k m : Nat, i = .int .i64 k ∧ k ≤ insAt n L ∧ wr = wa.drewN m) (fun i _ => L.length - (intOf i).toNat)
  case atStart => exact ⟨0, 0, rfl, Nat.zero_le _, rfl⟩
  case round =>
    obtain ⟨k, m, rfl, hk, rfl⟩ := hrel
    have HIN := Lib.hid (insAt_lt hk)
    have hil := HIL.out
    have hkl : k ≤ L.length := by omega
    obtain ⟨pb, hpb⟩ : ∃ pb, pb = decide (k < insAt n L) := ⟨_, rfl⟩
    have HPB := Lib.hid hpb
    have HK := Lib.hid hk
    clear hpb hk hil
    go_upto_region 7 with fail
    go_cut [51] from 32 to 53 (fun v wx => v = .bool pb ∧ ∃ m, wx = wa.drewN m)
    case first =>
      by_cases hlt : k < L.length
      · obtain ⟨b, off, rfl, hbl, hq⟩ := on_cells HRA.out hlt
        have q0 := hq 0 _ (by omega) rfl
        simp only [Nat.add_zero] at q0
        have hp : lessN L[k].x.name n = pb := by
          rw [HPB.out]
          by_cases hin : k < insAt n L
          · obtain ⟨_, h2⟩ := HIN.out.1 hin
            rw [decide_eq_true hin]; exact h2
          · rw [decide_eq_false hin]
            cases hc : lessN L[k].x.name n with
            | false => rfl
            | true => exact absurd (HIN.out.2 ⟨hlt, hc⟩) hin
        generalize L[k].x.name = y at q0 hp
        unfold lessN at hp
        clear hq HPB HIN
        go_quiet (fail)
        go_wp2_with fail
        go_meet
        case rel => exact ⟨rfl, _, World.drewN_drewN _ _ _⟩
      · obtain rfl : k = L.length := by omega
        have hp : pb = false := by
          rw [HPB.out]
          refine decide_eq_false fun hin => ?_
          have := HIL.out
          omega
        have HP := Lib.hid hp
        have hd : decide ((L.length : Int) < (L.length : Int)) = false := by simp
        clear hp HPB HIN hlt
        go_quiet (fail)
        go_wp2_with fail
        go_meet
        case rel => exact ⟨by rw [HP.out], _, World.drewN_drewN _ _ _⟩
    case rest =>
      obtain ⟨rfl, m', rfl⟩ := hcut
      cases pb with
      | true =>
        have HIN2 := Lib.hid (of_decide_eq_true HPB.out.symm)
        have hkl2 : k < L.length := by have := HIN2.out; have := HIL.out; omega
        go_wp2
        go_roundw
        case rel => exact ⟨k + 1, m', by go_num, by have := HIN2.out; omega, rfl⟩
        case measure => simp [intOf]; omega
      | false =>
        have hke : k = insAt n L := by
          have h1 := of_decide_eq_false HPB.out.symm
          have h2 := HK.out
          omega
        have HKE := Lib.hid hke
        clear hke HPB HIN HK
        obtain ⟨wb, hwb⟩ : ∃ wb, wb = wa.drewN m' := ⟨_, rfl⟩
        have d0 : wb.cell? ⟨r, 0, none⟩ = some (.slice a L.length c) := by rw [hwb]; exact ca
        have d1 : wb.cell? ⟨w.heap.size, 0, none⟩ = some (.string n) := by rw [hwb]; exact n0
        have e2 : ∀ i, wb.cell? ⟨w.heap.size + 1 + 1, i, none⟩ = (#[.string n, .int .i64 v, .int .i64 t, .bool cc, .bool true, .int .i64 owner] : Array Value)[i]? := fun i => cell_of_row wb _ _ _ _ _ (by rw [hwb]; exact X2.out)
        have D0 := Lib.hid d0
        have D1 := Lib.hid d1
        have D2 := Lib.hid (e2 0)
        have D3 := Lib.hid (e2 1)
        have D4 := Lib.hid (e2 2)
        have D5 := Lib.hid (e2 3)
        have D6 := Lib.hid (e2 4)
        have D7 := Lib.hid (e2 5)
        have hfz : wb.frozen? ⟨r, 0, none⟩ = false := frozen_of_row wb r 0 _ _ (show wb.heap[r]? = some (.cells #[.slice a L.length c, .int .i64 most] 54 (0, 0)) by rw [hwb, World.heap_drewN]; exact keeph HBA.out HB.out)
        have DF := Lib.hid hfz
        have HBW := Lib.hid (show Below w.heap.size w wb by rw [hwb]; exact below_drewN HBA.out _)
        have HRB := Lib.hid (show Rd wb a (onf L) by rw [hwb]; exact HRA.out)
        have X0b := Lib.hid (show wb.heap[w.heap.size]? = some (.cells #[.string n, .int .i64 v, .int .i64 t, .bool cc] 31 (0, 0)) by rw [hwb, World.heap_drewN]; exact X0.out)
        have X1b := Lib.hid (show wb.heap[w.heap.size + 1]? = some (.cells #[.string ⟨#[]⟩, .int .i64 0, .int .i64 0, .bool false, .int .i64 0, .bool false, .int .i64 0] 68 (0, 0)) by rw [hwb, World.heap_drewN]; exact X1.out)
        have hrb : r < wb.heap.size := by rw [hwb]; exact ha
        have hwb2 : w.heap.size < wb.heap.size := (Array.getElem?_eq_some_iff.1 X0b.out).1
        have hwb3 : w.heap.size + 1 + 1 < wb.heap.size := by rw [hwb]; exact (Array.getElem?_eq_some_iff.1 X2.out).1
        rw [← hwb]
        obtain ⟨i0, hi, hz0, hz1, hz2⟩ := info_parts info_on
        have HY1 := Lib.hid (show (((onf L).take (k * 7)).drop (0 * 7)).length = (k - 0) * 7 by rw [onf_take]; simp [onf_length]; omega)
        have HY2 := Lib.hid (show (((onf L).take (L.length * 7)).drop (k * 7)).length = (L.length - k) * 7 by rw [onf_take, onf_drop]; simp [onf_length]; omega)
        have HO1 := Lib.hid (show ∀ u ∈ ((onf L).take (k * 7)).drop (0 * 7), u.oneCell' = true from fun u hu => onf_one L u (List.mem_of_mem_take (List.mem_of_mem_drop hu)))
        have HO2 := Lib.hid (show ∀ u ∈ ((onf L).take (L.length * 7)).drop (k * 7), u.oneCell' = true from fun u hu => onf_one L u (List.mem_of_mem_take (List.mem_of_mem_drop hu)))
        have NE0 := Lib.hid (show ¬ w.heap.size = r by omega)
        have NE2 := Lib.hid (show ¬ w.heap.size + 1 + 1 = r by omega)
        clear hwb d0 d1 e2 hfz ca n0 ha HBA X0 X1 X2 HRA
        go_upto_region 9 with fail
        go_cut [9] from 54 to 76 (fun _ wx => CutOn wb r (rins ⟨⟨n, v, t, cc⟩, true, owner⟩ L) wx)
        case first =>
          refine wp_region_noPanic ?_
          refine wp_region_held_drew (S := (fun w' => Only (· = r) wb w')) (by kernel_rfl) ?_ (fun hHeld => ?_)
          · exact (Only.refl _ _).drew
          refine wpAnyH_take (i := 0) (oi := _) (v := ?_) rfl (by kernel_rfl) (by kernel_rfl) (by kernel_rfl) (fun _ _ _ h => h) (Or.inl ⟨by rfl, ?_⟩) (by assumption) ?_
          rotate_left 1
          · (intro w hSw; (try dsimp only at hSw); go_simp; (try with_reducible rfl))
          try simp only [Act.put, List.getElem_toArray, List.getElem_cons_zero, List.setIfInBounds_toArray, List.set_cons_zero, List.set_cons_succ]
          refine wpAnyH_take (i := 1) (oi := _) (v := ?_) rfl (by kernel_rfl) (by kernel_rfl) (by kernel_rfl) (fun _ _ _ h => h) (Or.inl ⟨by rfl, ?_⟩) (by assumption) ?_
          rotate_left 1
          · (intro w hSw; (try dsimp only at hSw); go_simp; (try with_reducible rfl))
          try simp only [Act.put, List.getElem_toArray, List.getElem_cons_succ, List.getElem_cons_zero, List.setIfInBounds_toArray, List.set_cons_zero, List.set_cons_succ]
          refine wpAnyH_take (i := 2) (oi := _) (v := ?_) rfl (by kernel_rfl) (by kernel_rfl) (by kernel_rfl) (fun _ _ _ h => h) (Or.inl ⟨by rfl, ?_⟩) (by assumption) ?_
          rotate_left 1
          · (intro w hSw; (try dsimp only at hSw); go_simp; (try with_reducible rfl))
          try simp only [Act.put, List.getElem_toArray, List.getElem_cons_succ, List.getElem_cons_zero, List.setIfInBounds_toArray, List.set_cons_zero, List.set_cons_succ]
          refine wpAnyH_take (i := 3) (oi := _) (v := ?_) rfl (by kernel_rfl) (by kernel_rfl) (by kernel_rfl) (fun _ _ _ h => h) (Or.inl ⟨by rfl, ?_⟩) (by assumption) ?_
          rotate_left 1
          · (intro w hSw; (try dsimp only at hSw); go_simp; (try with_reducible rfl))
          try simp only [Act.put, List.getElem_toArray, List.getElem_cons_succ, List.getElem_cons_zero, List.setIfInBounds_toArray, List.set_cons_zero, List.set_cons_succ]
          refine wpAnyH_take (i := 5) (oi := _) (v := ?_) rfl (by kernel_rfl) (by kernel_rfl) (by kernel_rfl) (fun _ _ _ h => h) (Or.inl ⟨by rfl, ?_⟩) (by assumption) ?_
          rotate_left 1
          · (intro w hSw; (try dsimp only at hSw); go_simp; (try with_reducible rfl))
          try simp only [Act.put, List.getElem_toArray, List.getElem_cons_succ, List.getElem_cons_zero, List.setIfInBounds_toArray, List.set_cons_zero, List.set_cons_succ]
          refine wpAnyH_take (i := 8) (oi := _) (v := ?_) rfl (by kernel_rfl) (by kernel_rfl) (by kernel_rfl) (fun _ _ _ h => h) (Or.inl ⟨by rfl, ?_⟩) (by assumption) ?_
          rotate_left 1
          · (intro w hSw; (try dsimp only at hSw); go_simp; (try with_reducible rfl))
          try simp only [Act.put, List.getElem_toArray, List.getElem_cons_succ, List.getElem_cons_zero, List.setIfInBounds_toArray, List.set_cons_zero, List.set_cons_succ]
          refine wpAnyH_take (i := 9) (oi := _) (v := ?_) rfl (by kernel_rfl) (by kernel_rfl) (by kernel_rfl) (fun _ _ _ h => h) (Or.inl ⟨by rfl, ?_⟩) (by assumption) ?_
          rotate_left 1
          · (intro w hSw; (try dsimp only at hSw); (have q0 := hSw.cell D1.out NE0.out; go_simp); (try with_reducible rfl))
          try simp only [Act.put, List.getElem_toArray, List.getElem_cons_succ, List.getElem_cons_zero, List.setIfInBounds_toArray, List.set_cons_zero, List.set_cons_succ]
          refine wpAnyH_take (i := 10) (oi := _) (v := ?_) rfl (by kernel_rfl) (by kernel_rfl) (by kernel_rfl) (fun _ _ _ h => h) (Or.inl ⟨by rfl, ?_⟩) (by assumption) ?_
          rotate_left 1
          · (intro w hSw; (try dsimp only at hSw); (have q2 := hSw.cell D2.out NE2.out; have q3 := hSw.cell D3.out NE2.out; have q4 := hSw.cell D4.out NE2.out; have q5 := hSw.cell D5.out NE2.out; have q6 := hSw.cell D6.out NE2.out; have q7 := hSw.cell D7.out NE2.out; go_simp); (try with_reducible rfl))
          try simp only [Act.put, List.getElem_toArray, List.getElem_cons_succ, List.getElem_cons_zero, List.setIfInBounds_toArray, List.set_cons_zero, List.set_cons_succ]
          refine wpAnyH_take (i := 11) (oi := _) (v := ?_) rfl (by kernel_rfl) (by kernel_rfl) (by kernel_rfl) (fun _ _ _ h => h) (Or.inl ⟨by rfl, ?_⟩) (by assumption) ?_
          rotate_left 1
          · (intro w hSw; (try dsimp only at hSw); go_simp; (try with_reducible rfl))
          try simp only [Act.put, List.getElem_toArray, List.getElem_cons_succ, List.getElem_cons_zero, List.setIfInBounds_toArray, List.set_cons_zero, List.set_cons_succ]
          refine wpAnyH_take (i := 14) (oi := _) (v := ?_) rfl (by kernel_rfl) (by kernel_rfl) (by kernel_rfl) (fun _ _ _ h => h) (Or.inl ⟨by rfl, ?_⟩) (by assumption) ?_
          rotate_left 1
          · (intro w hSw; (try dsimp only at hSw); go_simp; (try with_reducible rfl))
          try simp only [Act.put, List.getElem_toArray, List.getElem_cons_succ, List.getElem_cons_zero, List.setIfInBounds_toArray, List.set_cons_zero, List.set_cons_succ]
          refine wpAnyH_take (i := 15) (oi := _) (v := ?_) rfl (by kernel_rfl) (by kernel_rfl) (by kernel_rfl) (fun _ _ _ h => h) (Or.inl ⟨by rfl, ?_⟩) (by assumption) ?_
          rotate_left 1
          · (intro w hSw; (try dsimp only at hSw); go_simp; (try with_reducible rfl))
          try simp only [Act.put, List.getElem_toArray, List.getElem_cons_succ, List.getElem_cons_zero, List.setIfInBounds_toArray, List.set_cons_zero, List.set_cons_succ]
          refine wpAnyH_take (i := 16) (oi := _) (v := ?_) rfl (by kernel_rfl) (by kernel_rfl) (by kernel_rfl) (fun _ _ _ h => h) (Or.inl ⟨by rfl, ?_⟩) (by assumption) ?_
          rotate_left 1
          · (intro w hSw; (try dsimp only at hSw); go_simp; (try with_reducible rfl))
          try simp only [Act.put, List.getElem_toArray, List.getElem_cons_succ, List.getElem_cons_zero, List.setIfInBounds_toArray, List.set_cons_zero, List.set_cons_succ]
          refine wpAnyH_take (i := 18) (oi := _) (v := ?_) rfl (by kernel_rfl) (by kernel_rfl) (by kernel_rfl) (fun _ _ _ h => h) (Or.inl ⟨by rfl, ?_⟩) (by assumption) ?_
          rotate_left 1
          · (intro w hSw; (try dsimp only at hSw); go_simp; (try with_reducible rfl))
          try simp only [Act.put, List.getElem_toArray, List.getElem_cons_succ, List.getElem_cons_zero, List.setIfInBounds_toArray, List.set_cons_zero, List.set_cons_succ]
          have hb0 := drew_below wb
          obtain ⟨ww0, hww0⟩ : ∃ u, u = wb.drew := ⟨_, rfl⟩
          rw [← hww0] at hb0 hHeld
          rw [← hww0]
          clear hww0 hHeld
          refine wpAnyH_ready (rs := [4, 12, 17]) (by kernel_rfl) (by simp) ?_
          refine AllReadyH.cons (o := _) rfl (fun K hK => ?_) (AllReadyH.cons (o := _) rfl (fun K hK => ?_) (AllReadyH.cons (o := _) rfl (fun K hK => ?_) AllReadyH.nil))
          · have q0 := keepc hb0 D0.out
            go_simp
            refine hK.out _ _ ?_ (fun _ => ?_)
            · exact Only.of_new hb0
            clear hK K q0
            try simp only [Act.put, List.getElem_toArray, List.getElem_cons_succ, List.getElem_cons_zero, List.setIfInBounds_toArray, List.set_cons_zero, List.set_cons_succ]
            refine wpAnyH_take (i := 6) (oi := _) (v := ?_) rfl (by kernel_rfl) (by kernel_rfl) (by kernel_rfl) (fun _ _ _ h => h) (Or.inl ⟨by rfl, ?_⟩) (by assumption) ?_
            rotate_left 1
            · (intro w hSw; (try dsimp only at hSw); refine Eq.trans (exec_cut 52 95 _ _ _ (by rfl) Try.underlying52 7 (by kernel_rfl) a L.length c (by rfl) 0 k (.inl (by exact ⟨rfl, rfl⟩)) (.inr (by exact ⟨_, rfl, rfl⟩)) (by omega) (by omega)) ?_; (try with_reducible rfl))
            try simp only [Act.put, List.getElem_toArray, List.getElem_cons_succ, List.getElem_cons_zero, List.setIfInBounds_toArray, List.set_cons_zero, List.set_cons_succ]
            refine wpAnyH_ready (rs := [7, 12, 17]) (by kernel_rfl) (by simp) ?_
            refine AllReadyH.cons (o := _) rfl (fun K hK => ?_) (AllReadyH.cons (o := _) rfl (fun K hK => ?_) (AllReadyH.cons (o := _) rfl (fun K hK => ?_) AllReadyH.nil))
            · refine rstep_append_any (by kernel_rfl) _ _ 52 rfl wb.heap.size 95 i0 _ 7 72 Try.underlying52 hi hz0 hz1 hz2 rfl (by decide) (.slice none 0 0) 0 [] rfl (World.ownsRow_nil _ _ _ _) (cutB a c 0 7) (k - 0) (c - 0) _ rfl HY1.out ((HRB.out.below hb0 (Nat.le_refl _)).cutB c 0 (k * 7) 7 (by rw [onf_length]; omega)) HO1.out (by unfold maxLen; omega) (by omega) hb0.size ?_
              rintro v1 ww1 ⟨o1_1, g1, -⟩
              have hb1 := hb0.grown g1 hb0.size (fun b e => by cases e)
              refine hK.out _ _ ?_ (fun _ => ?_)
              · exact Only.of_new hb1
              clear hK K g1
              try simp only [Act.put, List.getElem_toArray, List.getElem_cons_succ, List.getElem_cons_zero, List.setIfInBounds_toArray, List.set_cons_zero, List.set_cons_succ]
              refine wpAnyH_ready (rs := [12, 17]) (by kernel_rfl) (by simp) ?_
              refine AllReadyH.cons (o := _) rfl (fun K hK => ?_) (AllReadyH.cons (o := _) rfl (fun K hK => ?_) AllReadyH.nil)
              · go_simp
                obtain ⟨X, hX⟩ : ∃ X, X = ww1.heap.size := ⟨_, rfl⟩
                obtain ⟨ww2, hww2⟩ : ∃ u, u = ww1.alloc (.cells #[.string n, .string n, .int .i64 v, .int .i64 t, .bool cc, .bool true, .int .i64 owner] 95) := ⟨_, rfl⟩
                have hb2 : Below wb.heap.size wb ww2 := by rw [hww2]; exact hb1.alloc hb1.size _
                have hx2 : Rd ww2 (some ⟨X, 0, none⟩) (onc ⟨⟨n, v, t, cc⟩, true, owner⟩) := by rw [hX, hww2]; exact Rd.new ww1 _ _ _ _ (fun k u hu => by simpa [onc] using hu)
                have o1_2 : ww2.ownsRow wb.heap.size 95 7 v1 (0 + (k - 0)) ([] ++ ((onf L).take (k * 7)).drop (0 * 7)) := by rw [hww2]; exact ((Only.refl (fun _ => False) ww1).alloc (.cells #[.string n, .string n, .int .i64 v, .int .i64 t, .bool cc, .bool true, .int .i64 owner] 95)).own o1_1 (fun _ _ h => h)
                rw [← hX, ← hww2]
                refine hK.out _ _ ?_ (fun _ => ?_)
                · exact Only.of_new hb2
                clear hK K hX hww2
                try simp only [Act.put, List.getElem_toArray, List.getElem_cons_succ, List.getElem_cons_zero, List.setIfInBounds_toArray, List.set_cons_zero, List.set_cons_succ]
                refine wpAnyH_ready (rs := [13, 17]) (by kernel_rfl) (by simp) ?_
                refine AllReadyH.cons (o := _) rfl (fun K hK => ?_) (AllReadyH.cons (o := _) rfl (fun K hK => ?_) AllReadyH.nil)
                · refine rstep_append_any (by kernel_rfl) _ _ 52 rfl wb.heap.size 95 i0 _ 7 72 Try.underlying52 hi hz0 hz1 hz2 rfl (by decide) v1 (0 + (k - 0)) _ rfl o1_2 (some ⟨X, 0, none⟩) 1 1 (onc ⟨⟨n, v, t, cc⟩, true, owner⟩) rfl rfl hx2 (by intro u hu; simp only [onc, List.mem_cons, List.not_mem_nil, or_false] at hu; rcases hu with rfl | rfl | rfl | rfl | rfl | rfl | rfl <;> rfl) (by unfold maxLen; omega) (by omega) hb2.size ?_
                  rintro v2 ww3 ⟨o2_3, g2, -⟩
                  have hb3 := hb2.grown g2 hb2.size (fun b e => (o1_2.lt b e).1)
                  refine hK.out _ _ ?_ (fun _ => ?_)
                  · exact Only.of_new hb3
                  clear hK K g2
                  try simp only [Act.put, List.getElem_toArray, List.getElem_cons_succ, List.getElem_cons_zero, List.setIfInBounds_toArray, List.set_cons_zero, List.set_cons_succ]
                  refine wpAnyH_ready (rs := [17]) (by kernel_rfl) (by simp) ?_
                  refine AllReadyH.cons (o := _) rfl (fun K hK => ?_) AllReadyH.nil
                  have q0 := keepc hb3 D0.out
                  go_simp
                  refine hK.out _ _ ?_ (fun _ => ?_)
                  · exact Only.of_new hb3
                  clear hK K q0
                  try simp only [Act.put, List.getElem_toArray, List.getElem_cons_succ, List.getElem_cons_zero, List.setIfInBounds_toArray, List.set_cons_zero, List.set_cons_succ]
                  refine wpAnyH_take (i := 19) (oi := _) (v := ?_) rfl (by kernel_rfl) (by kernel_rfl) (by kernel_rfl) (fun _ _ _ h => h) (Or.inl ⟨by rfl, ?_⟩) (by assumption) ?_
                  rotate_left 1
                  · (intro w hSw; (try dsimp only at hSw); refine Eq.trans (exec_cut 52 95 _ _ _ (by rfl) Try.underlying52 7 (by kernel_rfl) a L.length c (by rfl) k L.length (.inr (by exact ⟨_, rfl, rfl⟩)) (.inl (by exact ⟨rfl, rfl⟩)) (by omega) (by omega)) ?_; (try with_reducible rfl))
                  try simp only [Act.put, List.getElem_toArray, List.getElem_cons_succ, List.getElem_cons_zero, List.setIfInBounds_toArray, List.set_cons_zero, List.set_cons_succ]
                  refine wpAnyH_ready (rs := [20]) (by kernel_rfl) (by simp) ?_
                  refine AllReadyH.cons (o := _) rfl (fun K hK => ?_) AllReadyH.nil
                  refine rstep_append_any (by kernel_rfl) _ _ 52 rfl wb.heap.size 95 i0 _ 7 72 Try.underlying52 hi hz0 hz1 hz2 rfl (by decide) v2 (0 + (k - 0) + 1) _ rfl o2_3 (cutB a c k 7) (L.length - k) (c - k) _ rfl HY2.out ((HRB.out.below hb3 (Nat.le_refl _)).cutB c k (L.length * 7) 7 (by rw [onf_length]; omega)) HO2.out (by unfold maxLen; omega) (by omega) hb3.size ?_
                  rintro v3 ww4 ⟨o3, g3, -⟩
                  have hb4 := hb3.grown g3 hb3.size (fun b e => (o2_3.lt b e).1)
                  obtain ⟨a3, c3, rfl, -, -, -⟩ := own_cells o3
                  refine hK.out _ _ ?_ (fun _ => ?_)
                  · exact Only.of_new hb4
                  clear hK K g3
                  try simp only [Act.put, List.getElem_toArray, List.getElem_cons_succ, List.getElem_cons_zero, List.setIfInBounds_toArray, List.set_cons_zero, List.set_cons_succ]
                  refine wpAnyH_take (i := 21) (oi := _) (v := ?_) rfl (by kernel_rfl) (by kernel_rfl) (by kernel_rfl) (fun _ _ _ h => h) (Or.inl ⟨by rfl, ?_⟩) (by assumption) ?_
                  rotate_left 1
                  · (intro w hSw; (try dsimp only at hSw); go_simp; (try with_reducible rfl))
                  try simp only [Act.put, List.getElem_toArray, List.getElem_cons_succ, List.getElem_cons_zero, List.setIfInBounds_toArray, List.set_cons_zero, List.set_cons_succ]
                  refine wpAnyH_take (i := 22) (oi := _) (v := ?_) rfl (by kernel_rfl) (by kernel_rfl) (by kernel_rfl) (fun _ _ _ h => h) (Or.inl ⟨by rfl, ?_⟩) (by assumption) ?_
                  rotate_left 1
                  · (intro w hSw; (try dsimp only at hSw); go_simp; (try with_reducible rfl))
                  try simp only [Act.put, List.getElem_toArray, List.getElem_cons_succ, List.getElem_cons_zero, List.setIfInBounds_toArray, List.set_cons_zero, List.set_cons_succ]
                  refine wpAnyH_ready (rs := [23]) (by kernel_rfl) (by simp) ?_
                  refine AllReadyH.cons (o := _) rfl (fun K hK => ?_) AllReadyH.nil
                  have HW3 := Lib.hid (show CutOn wb r (rins ⟨⟨n, v, t, cc⟩, true, owner⟩ L) (ww4.setCell ⟨r, 0, none⟩ (.slice a3 (k + 1 + (L.length - k)) c3)) from by have h := rone_cut (r := r) hb4 o3 HKE.out.symm hkl; rwa [show 0 + (k - 0) + 1 + (L.length - k) = k + 1 + (L.length - k) by omega] at h)
                  have q0 := keepc hb4 D0.out
                  have f0 : ww4.frozen? ⟨r, 0, none⟩ = false := (World.frozen?_of_block (hb4.block r hrb)).trans DF.out
                  have HBE := Lib.hid hb4
                  clear o3 hb4
                  go_simp
                  refine hK.out _ _ ?_ (fun _ => ?_)
                  · exact (Only.of_new HBE.out).setCell _ _ (fun _ => rfl)
                  clear hK K q0 f0
                  try simp only [Act.put, List.getElem_toArray, List.getElem_cons_succ, List.getElem_cons_zero, List.setIfInBounds_toArray, List.set_cons_zero, List.set_cons_succ]
                  refine wpAnyH_done (by kernel_rfl) ?_ _
                  refine NoPanic.normal ?_
                  go_wp2_with fail
                  go_meet
                  case rel => exact HW3.out
                · have q0 := keepc hb2 D0.out
                  go_simp
                  refine hK.out _ _ ?_ (fun _ => ?_)
                  · exact Only.of_new hb2
                  clear hK K q0
                  try simp only [Act.put, List.getElem_toArray, List.getElem_cons_succ, List.getElem_cons_zero, List.setIfInBounds_toArray, List.set_cons_zero, List.set_cons_succ]
                  refine wpAnyH_take (i := 19) (oi := _) (v := ?_) rfl (by kernel_rfl) (by kernel_rfl) (by kernel_rfl) (fun _ _ _ h => h) (Or.inl ⟨by rfl, ?_⟩) (by assumption) ?_
                  rotate_left 1
                  · (intro w hSw; (try dsimp only at hSw); refine Eq.trans (exec_cut 52 95 _ _ _ (by rfl) Try.underlying52 7 (by kernel_rfl) a L.length c (by rfl) k L.length (.inr (by exact ⟨_, rfl, rfl⟩)) (.inl (by exact ⟨rfl, rfl⟩)) (by omega) (by omega)) ?_; (try with_reducible rfl))
                  try simp only [Act.put, List.getElem_toArray, List.getElem_cons_succ, List.getElem_cons_zero, List.setIfInBounds_toArray, List.set_cons_zero, List.set_cons_succ]
                  refine wpAnyH_ready (rs := [13]) (by kernel_rfl) (by simp) ?_
                  refine AllReadyH.cons (o := _) rfl (fun K hK => ?_) AllReadyH.nil
                  refine rstep_append_any (by kernel_rfl) _ _ 52 rfl wb.heap.size 95 i0 _ 7 72 Try.underlying52 hi hz0 hz1 hz2 rfl (by decide) v1 (0 + (k - 0)) _ rfl o1_2 (some ⟨X, 0, none⟩) 1 1 (onc ⟨⟨n, v, t, cc⟩, true, owner⟩) rfl rfl hx2 (by intro u hu; simp only [onc, List.mem_cons, List.not_mem_nil, or_false] at hu; rcases hu with rfl | rfl | rfl | rfl | rfl | rfl | rfl <;> rfl) (by unfold maxLen; omega) (by omega) hb2.size ?_
                  rintro v2 ww3 ⟨o2_3, g2, -⟩
                  have hb3 := hb2.grown g2 hb2.size (fun b e => (o1_2.lt b e).1)
                  refine hK.out _ _ ?_ (fun _ => ?_)
                  · exact Only.of_new hb3
                  clear hK K g2
                  try simp only [Act.put, List.getElem_toArray, List.getElem_cons_succ, List.getElem_cons_zero, List.setIfInBounds_toArray, List.set_cons_zero, List.set_cons_succ]
                  refine wpAnyH_ready (rs := [20]) (by kernel_rfl) (by simp) ?_
                  refine AllReadyH.cons (o := _) rfl (fun K hK => ?_) AllReadyH.nil
                  refine rstep_append_any (by kernel_rfl) _ _ 52 rfl wb.heap.size 95 i0 _ 7 72 Try.underlying52 hi hz0 hz1 hz2 rfl (by decide) v2 (0 + (k - 0) + 1) _ rfl o2_3 (cutB a c k 7) (L.length - k) (c - k) _ rfl HY2.out ((HRB.out.below hb3 (Nat.le_refl _)).cutB c k (L.length * 7) 7 (by rw [onf_length]; omega)) HO2.out (by unfold maxLen; omega) (by omega) hb3.size ?_
                  rintro v3 ww4 ⟨o3, g3, -⟩
                  have hb4 := hb3.grown g3 hb3.size (fun b e => (o2_3.lt b e).1)
                  obtain ⟨a3, c3, rfl, -, -, -⟩ := own_cells o3
                  refine hK.out _ _ ?_ (fun _ => ?_)
                  · exact Only.of_new hb4
                  clear hK K g3
                  try simp only [Act.put, List.getElem_toArray, List.getElem_cons_succ, List.getElem_cons_zero, List.setIfInBounds_toArray, List.set_cons_zero, List.set_cons_succ]
                  refine wpAnyH_take (i := 21) (oi := _) (v := ?_) rfl (by kernel_rfl) (by kernel_rfl) (by kernel_rfl) (fun _ _ _ h => h) (Or.inl ⟨by rfl, ?_⟩) (by assumption) ?_
                  rotate_left 1
                  · (intro w hSw; (try dsimp only at hSw); go_simp; (try with_reducible rfl))
                  try simp only [Act.put, List.getElem_toArray, List.getElem_cons_succ, List.getElem_cons_zero, List.setIfInBounds_toArray, List.set_cons_zero, List.set_cons_succ]
                  refine wpAnyH_take (i := 22) (oi := _) (v := ?_) rfl (by kernel_rfl) (by kernel_rfl) (by kernel_rfl) (fun _ _ _ h => h) (Or.inl ⟨by rfl, ?_⟩) (by assumption) ?_
                  rotate_left 1
                  · (intro w hSw; (try dsimp only at hSw); go_simp; (try with_reducible rfl))
                  try simp only [Act.put, List.getElem_toArray, List.getElem_cons_succ, List.getElem_cons_zero, List.setIfInBounds_toArray, List.set_cons_zero, List.set_cons_succ]
                  refine wpAnyH_ready (rs := [23]) (by kernel_rfl) (by simp) ?_
                  refine AllReadyH.cons (o := _) rfl (fun K hK => ?_) AllReadyH.nil
                  have HW3 := Lib.hid (show CutOn wb r (rins ⟨⟨n, v, t, cc⟩, true, owner⟩ L) (ww4.setCell ⟨r, 0, none⟩ (.slice a3 (k + 1 + (L.length - k)) c3)) from by have h := rone_cut (r := r) hb4 o3 HKE.out.symm hkl; rwa [show 0 + (k - 0) + 1 + (L.length - k) = k + 1 + (L.length - k) by omega] at h)
                  have q0 := keepc hb4 D0.out
                  have f0 : ww4.frozen? ⟨r, 0, none⟩ = false := (World.frozen?_of_block (hb4.block r hrb)).trans DF.out
                  have HBE := Lib.hid hb4
                  clear o3 hb4
                  go_simp
                  refine hK.out _ _ ?_ (fun _ => ?_)
                  · exact (Only.of_new HBE.out).setCell _ _ (fun _ => rfl)
                  clear hK K q0 f0
                  try simp only [Act.put, List.getElem_toArray, List.getElem_cons_succ, List.getElem_cons_zero, List.setIfInBounds_toArray, List.set_cons_zero, List.set_cons_succ]
                  refine wpAnyH_done (by kernel_rfl) ?_ _
                  refine NoPanic.normal ?_
                  go_wp2_with fail
                  go_meet
                  case rel => exact HW3.out
              · have q0 := keepc hb1 D0.out
                go_simp
                refine hK.out _ _ ?_ (fun _ => ?_)
                · exact Only.of_new hb1
                clear hK K q0
                try simp only [Act.put, List.getElem_toArray, List.getElem_cons_succ, List.getElem_cons_zero, List.setIfInBounds_toArray, List.set_cons_zero, List.set_cons_succ]
                refine wpAnyH_take (i := 19) (oi := _) (v := ?_) rfl (by kernel_rfl) (by kernel_rfl) (by kernel_rfl) (fun _ _ _ h => h) (Or.inl ⟨by rfl, ?_⟩) (by assumption) ?_
                rotate_left 1
                · (intro w hSw; (try dsimp only at hSw); refine Eq.trans (exec_cut 52 95 _ _ _ (by rfl) Try.underlying52 7 (by kernel_rfl) a L.length c (by rfl) k L.length (.inr (by exact ⟨_, rfl, rfl⟩)) (.inl (by exact ⟨rfl, rfl⟩)) (by omega) (by omega)) ?_; (try with_reducible rfl))
                try simp only [Act.put, List.getElem_toArray, List.getElem_cons_succ, List.getElem_cons_zero, List.setIfInBounds_toArray, List.set_cons_zero, List.set_cons_succ]
                refine wpAnyH_ready (rs := [12]) (by kernel_rfl) (by simp) ?_
                refine AllReadyH.cons (o := _) rfl (fun K hK => ?_) AllReadyH.nil
                go_simp
                obtain ⟨X, hX⟩ : ∃ X, X = ww1.heap.size := ⟨_, rfl⟩
                obtain ⟨ww2, hww2⟩ : ∃ u, u = ww1.alloc (.cells #[.string n, .string n, .int .i64 v, .int .i64 t, .bool cc, .bool true, .int .i64 owner] 95) := ⟨_, rfl⟩
                have hb2 : Below wb.heap.size wb ww2 := by rw [hww2]; exact hb1.alloc hb1.size _
                have hx2 : Rd ww2 (some ⟨X, 0, none⟩) (onc ⟨⟨n, v, t, cc⟩, true, owner⟩) := by rw [hX, hww2]; exact Rd.new ww1 _ _ _ _ (fun k u hu => by simpa [onc] using hu)
                have o1_2 : ww2.ownsRow wb.heap.size 95 7 v1 (0 + (k - 0)) ([] ++ ((onf L).take (k * 7)).drop (0 * 7)) := by rw [hww2]; exact ((Only.refl (fun _ => False) ww1).alloc (.cells #[.string n, .string n, .int .i64 v, .int .i64 t, .bool cc, .bool true, .int .i64 owner] 95)).own o1_1 (fun _ _ h => h)
                rw [← hX, ← hww2]
                refine hK.out _ _ ?_ (fun _ => ?_)
                · exact Only.of_new hb2
                clear hK K hX hww2
                try simp only [Act.put, List.getElem_toArray, List.getElem_cons_succ, List.getElem_cons_zero, List.setIfInBounds_toArray, List.set_cons_zero, List.set_cons_succ]
                refine wpAnyH_ready (rs := [13]) (by kernel_rfl) (by simp) ?_
                refine AllReadyH.cons (o := _) rfl (fun K hK => ?_) AllReadyH.nil
                refine rstep_append_any (by kernel_rfl) _ _ 52 rfl wb.heap.size 95 i0 _ 7 72 Try.underlying52 hi hz0 hz1 hz2 rfl (by decide) v1 (0 + (k - 0)) _ rfl o1_2 (some ⟨X, 0, none⟩) 1 1 (onc ⟨⟨n, v, t, cc⟩, true, owner⟩) rfl rfl hx2 (by intro u hu; simp only [onc, List.mem_cons, List.not_mem_nil, or_false] at hu; rcases hu with rfl | rfl | rfl | rfl | rfl | rfl | rfl <;> rfl) (by unfold maxLen; omega) (by omega) hb2.size ?_
                rintro v2 ww3 ⟨o2_3, g2, -⟩
                have hb3 := hb2.grown g2 hb2.size (fun b e => (o1_2.lt b e).1)
                refine hK.out _ _ ?_ (fun _ => ?_)
                · exact Only.of_new hb3
                clear hK K g2
                try simp only [Act.put, List.getElem_toArray, List.getElem_cons_succ, List.getElem_cons_zero, List.setIfInBounds_toArray, List.set_cons_zero, List.set_cons_succ]
                refine wpAnyH_ready (rs := [20]) (by kernel_rfl) (by simp) ?_
                refine AllReadyH.cons (o := _) rfl (fun K hK => ?_) AllReadyH.nil
                refine rstep_append_any (by kernel_rfl) _ _ 52 rfl wb.heap.size 95 i0 _ 7 72 Try.underlying52 hi hz0 hz1 hz2 rfl (by decide) v2 (0 + (k - 0) + 1) _ rfl o2_3 (cutB a c k 7) (L.length - k) (c - k) _ rfl HY2.out ((HRB.out.below hb3 (Nat.le_refl _)).cutB c k (L.length * 7) 7 (by rw [onf_length]; omega)) HO2.out (by unfold maxLen; omega) (by omega) hb3.size ?_
                rintro v3 ww4 ⟨o3, g3, -⟩
                have hb4 := hb3.grown g3 hb3.size (fun b e => (o2_3.lt b e).1)
                obtain ⟨a3, c3, rfl, -, -, -⟩ := own_cells o3
                refine hK.out _ _ ?_ (fun _ => ?_)
                · exact Only.of_new hb4
                clear hK K g3
                try simp only [Act.put, List.getElem_toArray, List.getElem_cons_succ, List.getElem_cons_zero, List.setIfInBounds_toArray, List.set_cons_zero, List.set_cons_succ]
                refine wpAnyH_take (i := 21) (oi := _) (v := ?_) rfl (by kernel_rfl) (by kernel_rfl) (by kernel_rfl) (fun _ _ _ h => h) (Or.inl ⟨by rfl, ?_⟩) (by assumption) ?_
                rotate_left 1
                · (intro w hSw; (try dsimp only at hSw); go_simp; (try with_reducible rfl))
                try simp only [Act.put, List.getElem_toArray, List.getElem_cons_succ, List.getElem_cons_zero, List.setIfInBounds_toArray, List.set_cons_zero, List.set_cons_succ]
                refine wpAnyH_take (i := 22) (oi := _) (v := ?_) rfl (by kernel_rfl) (by kernel_rfl) (by kernel_rfl) (fun _ _ _ h => h) (Or.inl ⟨by rfl, ?_⟩) (by assumption) ?_
                rotate_left 1
                · (intro w hSw; (try dsimp only at hSw); go_simp; (try with_reducible rfl))
                try simp only [Act.put, List.getElem_toArray, List.getElem_cons_succ, List.getElem_cons_zero, List.setIfInBounds_toArray, List.set_cons_zero, List.set_cons_succ]
                refine wpAnyH_ready (rs := [23]) (by kernel_rfl) (by simp) ?_
                refine AllReadyH.cons (o := _) rfl (fun K hK => ?_) AllReadyH.nil
                have HW3 := Lib.hid (show CutOn wb r (rins ⟨⟨n, v, t, cc⟩, true, owner⟩ L) (ww4.setCell ⟨r, 0, none⟩ (.slice a3 (k + 1 + (L.length - k)) c3)) from by have h := rone_cut (r := r) hb4 o3 HKE.out.symm hkl; rwa [show 0 + (k - 0) + 1 + (L.length - k) = k + 1 + (L.length - k) by omega] at h)
                have q0 := keepc hb4 D0.out
                have f0 : ww4.frozen? ⟨r, 0, none⟩ = false := (World.frozen?_of_block (hb4.block r hrb)).trans DF.out
                have HBE := Lib.hid hb4
                clear o3 hb4
                go_simp
                refine hK.out _ _ ?_ (fun _ => ?_)
                · exact (Only.of_new HBE.out).setCell _ _ (fun _ => rfl)
                clear hK K q0 f0
                try simp only [Act.put, List.getElem_toArray, List.getElem_cons_succ, List.getElem_cons_zero, List.setIfInBounds_toArray, List.set_cons_zero, List.set_cons_succ]
                refine wpAnyH_done (by kernel_rfl) ?_ _
                refine NoPanic.normal ?_
                go_wp2_with fail
                go_meet
                case rel => exact HW3.out
            · go_simp
              obtain ⟨X, hX⟩ : ∃ X, X = ww0.heap.size := ⟨_, rfl⟩
              obtain ⟨ww1, hww1⟩ : ∃ u, u = ww0.alloc (.cells #[.string n, .string n, .int .i64 v, .int .i64 t, .bool cc, .bool true, .int .i64 owner] 95) := ⟨_, rfl⟩
              have hb1 : Below wb.heap.size wb ww1 := by rw [hww1]; exact hb0.alloc hb0.size _
              have hx1 : Rd ww1 (some ⟨X, 0, none⟩) (onc ⟨⟨n, v, t, cc⟩, true, owner⟩) := by rw [hX, hww1]; exact Rd.new ww0 _ _ _ _ (fun k u hu => by simpa [onc] using hu)
              rw [← hX, ← hww1]
              refine hK.out _ _ ?_ (fun _ => ?_)
              · exact Only.of_new hb1
              clear hK K hX hww1
              try simp only [Act.put, List.getElem_toArray, List.getElem_cons_succ, List.getElem_cons_zero, List.setIfInBounds_toArray, List.set_cons_zero, List.set_cons_succ]
              refine wpAnyH_ready (rs := [7, 17]) (by kernel_rfl) (by simp) ?_
              refine AllReadyH.cons (o := _) rfl (fun K hK => ?_) (AllReadyH.cons (o := _) rfl (fun K hK => ?_) AllReadyH.nil)
              · refine rstep_append_any (by kernel_rfl) _ _ 52 rfl wb.heap.size 95 i0 _ 7 72 Try.underlying52 hi hz0 hz1 hz2 rfl (by decide) (.slice none 0 0) 0 [] rfl (World.ownsRow_nil _ _ _ _) (cutB a c 0 7) (k - 0) (c - 0) _ rfl HY1.out ((HRB.out.below hb1 (Nat.le_refl _)).cutB c 0 (k * 7) 7 (by rw [onf_length]; omega)) HO1.out (by unfold maxLen; omega) (by omega) hb1.size ?_
                rintro v1 ww2 ⟨o1_2, g1, -⟩
                have hb2 := hb1.grown g1 hb1.size (fun b e => by cases e)
                have hx2 := hx1.below ((Below.refl _ _).grown g1 (Nat.le_refl _) (fun b e => by cases e)) (Nat.le_refl _)
                refine hK.out _ _ ?_ (fun _ => ?_)
                · exact Only.of_new hb2
                clear hK K g1
                try simp only [Act.put, List.getElem_toArray, List.getElem_cons_succ, List.getElem_cons_zero, List.setIfInBounds_toArray, List.set_cons_zero, List.set_cons_succ]
                refine wpAnyH_ready (rs := [13, 17]) (by kernel_rfl) (by simp) ?_
                refine AllReadyH.cons (o := _) rfl (fun K hK => ?_) (AllReadyH.cons (o := _) rfl (fun K hK => ?_) AllReadyH.nil)
                · refine rstep_append_any (by kernel_rfl) _ _ 52 rfl wb.heap.size 95 i0 _ 7 72 Try.underlying52 hi hz0 hz1 hz2 rfl (by decide) v1 (0 + (k - 0)) _ rfl o1_2 (some ⟨X, 0, none⟩) 1 1 (onc ⟨⟨n, v, t, cc⟩, true, owner⟩) rfl rfl hx2 (by intro u hu; simp only [onc, List.mem_cons, List.not_mem_nil, or_false] at hu; rcases hu with rfl | rfl | rfl | rfl | rfl | rfl | rfl <;> rfl) (by unfold maxLen; omega) (by omega) hb2.size ?_
                  rintro v2 ww3 ⟨o2_3, g2, -⟩
                  have hb3 := hb2.grown g2 hb2.size (fun b e => (o1_2.lt b e).1)
                  refine hK.out _ _ ?_ (fun _ => ?_)
                  · exact Only.of_new hb3
                  clear hK K g2
                  try simp only [Act.put, List.getElem_toArray, List.getElem_cons_succ, List.getElem_cons_zero, List.setIfInBounds_toArray, List.set_cons_zero, List.set_cons_succ]
                  refine wpAnyH_ready (rs := [17]) (by kernel_rfl) (by simp) ?_
                  refine AllReadyH.cons (o := _) rfl (fun K hK => ?_) AllReadyH.nil
                  have q0 := keepc hb3 D0.out
                  go_simp
                  refine hK.out _ _ ?_ (fun _ => ?_)
                  · exact Only.of_new hb3
                  clear hK K q0
                  try simp only [Act.put, List.getElem_toArray, List.getElem_cons_succ, List.getElem_cons_zero, List.setIfInBounds_toArray, List.set_cons_zero, List.set_cons_succ]
                  refine wpAnyH_take (i := 19) (oi := _) (v := ?_) rfl (by kernel_rfl) (by kernel_rfl) (by kernel_rfl) (fun _ _ _ h => h) (Or.inl ⟨by rfl, ?_⟩) (by assumption) ?_
                  rotate_left 1
                  · (intro w hSw; (try dsimp only at hSw); refine Eq.trans (exec_cut 52 95 _ _ _ (by rfl) Try.underlying52 7 (by kernel_rfl) a L.length c (by rfl) k L.length (.inr (by exact ⟨_, rfl, rfl⟩)) (.inl (by exact ⟨rfl, rfl⟩)) (by omega) (by omega)) ?_; (try with_reducible rfl))
                  try simp only [Act.put, List.getElem_toArray, List.getElem_cons_succ, List.getElem_cons_zero, List.setIfInBounds_toArray, List.set_cons_zero, List.set_cons_succ]
                  refine wpAnyH_ready (rs := [20]) (by kernel_rfl) (by simp) ?_
                  refine AllReadyH.cons (o := _) rfl (fun K hK => ?_) AllReadyH.nil
                  refine rstep_append_any (by kernel_rfl) _ _ 52 rfl wb.heap.size 95 i0 _ 7 72 Try.underlying52 hi hz0 hz1 hz2 rfl (by decide) v2 (0 + (k - 0) + 1) _ rfl o2_3 (cutB a c k 7) (L.length - k) (c - k) _ rfl HY2.out ((HRB.out.below hb3 (Nat.le_refl _)).cutB c k (L.length * 7) 7 (by rw [onf_length]; omega)) HO2.out (by unfold maxLen; omega) (by omega) hb3.size ?_
                  rintro v3 ww4 ⟨o3, g3, -⟩
                  have hb4 := hb3.grown g3 hb3.size (fun b e => (o2_3.lt b e).1)
                  obtain ⟨a3, c3, rfl, -, -, -⟩ := own_cells o3
                  refine hK.out _ _ ?_ (fun _ => ?_)
                  · exact Only.of_new hb4
                  clear hK K g3
                  try simp only [Act.put, List.getElem_toArray, List.getElem_cons_succ, List.getElem_cons_zero, List.setIfInBounds_toArray, List.set_cons_zero, List.set_cons_succ]
                  refine wpAnyH_take (i := 21) (oi := _) (v := ?_) rfl (by kernel_rfl) (by kernel_rfl) (by kernel_rfl) (fun _ _ _ h => h) (Or.inl ⟨by rfl, ?_⟩) (by assumption) ?_
                  rotate_left 1
                  · (intro w hSw; (try dsimp only at hSw); go_simp; (try with_reducible rfl))
                  try simp only [Act.put, List.getElem_toArray, List.getElem_cons_succ, List.getElem_cons_zero, List.setIfInBounds_toArray, List.set_cons_zero, List.set_cons_succ]
                  refine wpAnyH_take (i := 22) (oi := _) (v := ?_) rfl (by kernel_rfl) (by kernel_rfl) (by kernel_rfl) (fun _ _ _ h => h) (Or.inl ⟨by rfl, ?_⟩) (by assumption) ?_
                  rotate_left 1
                  · (intro w hSw; (try dsimp only at hSw); go_simp; (try with_reducible rfl))
                  try simp only [Act.put, List.getElem_toArray, List.getElem_cons_succ, List.getElem_cons_zero, List.setIfInBounds_toArray, List.set_cons_zero, List.set_cons_succ]
                  refine wpAnyH_ready (rs := [23]) (by kernel_rfl) (by simp) ?_
                  refine AllReadyH.cons (o := _) rfl (fun K hK => ?_) AllReadyH.nil
                  have HW3 := Lib.hid (show CutOn wb r (rins ⟨⟨n, v, t, cc⟩, true, owner⟩ L) (ww4.setCell ⟨r, 0, none⟩ (.slice a3 (k + 1 + (L.length - k)) c3)) from by have h := rone_cut (r := r) hb4 o3 HKE.out.symm hkl; rwa [show 0 + (k - 0) + 1 + (L.length - k) = k + 1 + (L.length - k) by omega] at h)
                  have q0 := keepc hb4 D0.out
                  have f0 : ww4.frozen? ⟨r, 0, none⟩ = false := (World.frozen?_of_block (hb4.block r hrb)).trans DF.out
                  have HBE := Lib.hid hb4
                  clear o3 hb4
                  go_simp
                  refine hK.out _ _ ?_ (fun _ => ?_)
                  · exact (Only.of_new HBE.out).setCell _ _ (fun _ => rfl)
                  clear hK K q0 f0
                  try simp only [Act.put, List.getElem_toArray, List.getElem_cons_succ, List.getElem_cons_zero, List.setIfInBounds_toArray, List.set_cons_zero, List.set_cons_succ]
                  refine wpAnyH_done (by kernel_rfl) ?_ _
                  refine NoPanic.normal ?_
                  go_wp2_with fail
                  go_meet
                  case rel => exact HW3.out
                · have q0 := keepc hb2 D0.out
                  go_simp
                  refine hK.out _ _ ?_ (fun _ => ?_)
                  · exact Only.of_new hb2
                  clear hK K q0
                  try simp only [Act.put, List.getElem_toArray, List.getElem_cons_succ, List.getElem_cons_zero, List.setIfInBounds_toArray, List.set_cons_zero, List.set_cons_succ]
                  refine wpAnyH_take (i := 19) (oi := _) (v := ?_) rfl (by kernel_rfl) (by kernel_rfl) (by kernel_rfl) (fun _ _ _ h => h) (Or.inl ⟨by rfl, ?_⟩) (by assumption) ?_
                  rotate_left 1
                  · (intro w hSw; (try dsimp only at hSw); refine Eq.trans (exec_cut 52 95 _ _ _ (by rfl) Try.underlying52 7 (by kernel_rfl) a L.length c (by rfl) k L.length (.inr (by exact ⟨_, rfl, rfl⟩)) (.inl (by exact ⟨rfl, rfl⟩)) (by omega) (by omega)) ?_; (try with_reducible rfl))
                  try simp only [Act.put, List.getElem_toArray, List.getElem_cons_succ, List.getElem_cons_zero, List.setIfInBounds_toArray, List.set_cons_zero, List.set_cons_succ]
                  refine wpAnyH_ready (rs := [13]) (by kernel_rfl) (by simp) ?_
                  refine AllReadyH.cons (o := _) rfl (fun K hK => ?_) AllReadyH.nil
                  refine rstep_append_any (by kernel_rfl) _ _ 52 rfl wb.heap.size 95 i0 _ 7 72 Try.underlying52 hi hz0 hz1 hz2 rfl (by decide) v1 (0 + (k - 0)) _ rfl o1_2 (some ⟨X, 0, none⟩) 1 1 (onc ⟨⟨n, v, t, cc⟩, true, owner⟩) rfl rfl hx2 (by intro u hu; simp only [onc, List.mem_cons, List.not_mem_nil, or_false] at hu; rcases hu with rfl | rfl | rfl | rfl | rfl | rfl | rfl <;> rfl) (by unfold maxLen; omega) (by omega) hb2.size ?_
                  rintro v2 ww3 ⟨o2_3, g2, -⟩
                  have hb3 := hb2.grown g2 hb2.size (fun b e => (o1_2.lt b e).1)
                  refine hK.out _ _ ?_ (fun _ => ?_)
                  · exact Only.of_new hb3
                  clear hK K g2
                  try simp only [Act.put, List.getElem_toArray, List.getElem_cons_succ, List.getElem_cons_zero, List.setIfInBounds_toArray, List.set_cons_zero, List.set_cons_succ]
                  refine wpAnyH_ready (rs := [20]) (by kernel_rfl) (by simp) ?_
                  refine AllReadyH.cons (o := _) rfl (fun K hK => ?_) AllReadyH.nil
                  refine rstep_append_any (by kernel_rfl) _ _ 52 rfl wb.heap.size 95 i0 _ 7 72 Try.underlying52 hi hz0 hz1 hz2 rfl (by decide) v2 (0 + (k - 0) + 1) _ rfl o2_3 (cutB a c k 7) (L.length - k) (c - k) _ rfl HY2.out ((HRB.out.below hb3 (Nat.le_refl _)).cutB c k (L.length * 7) 7 (by rw [onf_length]; omega)) HO2.out (by unfold maxLen; omega) (by omega) hb3.size ?_
                  rintro v3 ww4 ⟨o3, g3, -⟩
                  have hb4 := hb3.grown g3 hb3.size (fun b e => (o2_3.lt b e).1)
                  obtain ⟨a3, c3, rfl, -, -, -⟩ := own_cells o3
                  refine hK.out _ _ ?_ (fun _ => ?_)
                  · exact Only.of_new hb4
                  clear hK K g3
                  try simp only [Act.put, List.getElem_toArray, List.getElem_cons_succ, List.getElem_cons_zero, List.setIfInBounds_toArray, List.set_cons_zero, List.set_cons_succ]
                  refine wpAnyH_take (i := 21) (oi := _) (v := ?_) rfl (by kernel_rfl) (by kernel_rfl) (by kernel_rfl) (fun _ _ _ h => h) (Or.inl ⟨by rfl, ?_⟩) (by assumption) ?_
                  rotate_left 1
                  · (intro w hSw; (try dsimp only at hSw); go_simp; (try with_reducible rfl))
                  try simp only [Act.put, List.getElem_toArray, List.getElem_cons_succ, List.getElem_cons_zero, List.setIfInBounds_toArray, List.set_cons_zero, List.set_cons_succ]
                  refine wpAnyH_take (i := 22) (oi := _) (v := ?_) rfl (by kernel_rfl) (by kernel_rfl) (by kernel_rfl) (fun _ _ _ h => h) (Or.inl ⟨by rfl, ?_⟩) (by assumption) ?_
                  rotate_left 1
                  · (intro w hSw; (try dsimp only at hSw); go_simp; (try with_reducible rfl))
                  try simp only [Act.put, List.getElem_toArray, List.getElem_cons_succ, List.getElem_cons_zero, List.setIfInBounds_toArray, List.set_cons_zero, List.set_cons_succ]
                  refine wpAnyH_ready (rs := [23]) (by kernel_rfl) (by simp) ?_
                  refine AllReadyH.cons (o := _) rfl (fun K hK => ?_) AllReadyH.nil
                  have HW3 := Lib.hid (show CutOn wb r (rins ⟨⟨n, v, t, cc⟩, true, owner⟩ L) (ww4.setCell ⟨r, 0, none⟩ (.slice a3 (k + 1 + (L.length - k)) c3)) from by have h := rone_cut (r := r) hb4 o3 HKE.out.symm hkl; rwa [show 0 + (k - 0) + 1 + (L.length - k) = k + 1 + (L.length - k) by omega] at h)
                  have q0 := keepc hb4 D0.out
                  have f0 : ww4.frozen? ⟨r, 0, none⟩ = false := (World.frozen?_of_block (hb4.block r hrb)).trans DF.out
                  have HBE := Lib.hid hb4
                  clear o3 hb4
                  go_simp
                  refine hK.out _ _ ?_ (fun _ => ?_)
                  · exact (Only.of_new HBE.out).setCell _ _ (fun _ => rfl)
                  clear hK K q0 f0
                  try simp only [Act.put, List.getElem_toArray, List.getElem_cons_succ, List.getElem_cons_zero, List.setIfInBounds_toArray, List.set_cons_zero, List.set_cons_succ]
                  refine wpAnyH_done (by kernel_rfl) ?_ _
                  refine NoPanic.normal ?_
                  go_wp2_with fail
                  go_meet
                  case rel => exact HW3.out
              · have q0 := keepc hb1 D0.out
                go_simp
                refine hK.out _ _ ?_ (fun _ => ?_)
                · exact Only.of_new hb1
                clear hK K q0
                try simp only [Act.put, List.getElem_toArray, List.getElem_cons_succ, List.getElem_cons_zero, List.setIfInBounds_toArray, List.set_cons_zero, List.set_cons_succ]
                refine wpAnyH_take (i := 19) (oi := _) (v := ?_) rfl (by kernel_rfl) (by kernel_rfl) (by kernel_rfl) (fun _ _ _ h => h) (Or.inl ⟨by rfl, ?_⟩) (by assumption) ?_
                rotate_left 1
                · (intro w hSw; (try dsimp only at hSw); refine Eq.trans (exec_cut 52 95 _ _ _ (by rfl) Try.underlying52 7 (by kernel_rfl) a L.length c (by rfl) k L.length (.inr (by exact ⟨_, rfl, rfl⟩)) (.inl (by exact ⟨rfl, rfl⟩)) (by omega) (by omega)) ?_; (try with_reducible rfl))
                try simp only [Act.put, List.getElem_toArray, List.getElem_cons_succ, List.getElem_cons_zero, List.setIfInBounds_toArray, List.set_cons_zero, List.set_cons_succ]
                refine wpAnyH_ready (rs := [7]) (by kernel_rfl) (by simp) ?_
                refine AllReadyH.cons (o := _) rfl (fun K hK => ?_) AllReadyH.nil
                refine rstep_append_any (by kernel_rfl) _ _ 52 rfl wb.heap.size 95 i0 _ 7 72 Try.underlying52 hi hz0 hz1 hz2 rfl (by decide) (.slice none 0 0) 0 [] rfl (World.ownsRow_nil _ _ _ _) (cutB a c 0 7) (k - 0) (c - 0) _ rfl HY1.out ((HRB.out.below hb1 (Nat.le_refl _)).cutB c 0 (k * 7) 7 (by rw [onf_length]; omega)) HO1.out (by unfold maxLen; omega) (by omega) hb1.size ?_
                rintro v1 ww2 ⟨o1_2, g1, -⟩
                have hb2 := hb1.grown g1 hb1.size (fun b e => by cases e)
                have hx2 := hx1.below ((Below.refl _ _).grown g1 (Nat.le_refl _) (fun b e => by cases e)) (Nat.le_refl _)
                refine hK.out _ _ ?_ (fun _ => ?_)
                · exact Only.of_new hb2
                clear hK K g1
                try simp only [Act.put, List.getElem_toArray, List.getElem_cons_succ, List.getElem_cons_zero, List.setIfInBounds_toArray, List.set_cons_zero, List.set_cons_succ]
                refine wpAnyH_ready (rs := [13]) (by kernel_rfl) (by simp) ?_
                refine AllReadyH.cons (o := _) rfl (fun K hK => ?_) AllReadyH.nil
                refine rstep_append_any (by kernel_rfl) _ _ 52 rfl wb.heap.size 95 i0 _ 7 72 Try.underlying52 hi hz0 hz1 hz2 rfl (by decide) v1 (0 + (k - 0)) _ rfl o1_2 (some ⟨X, 0, none⟩) 1 1 (onc ⟨⟨n, v, t, cc⟩, true, owner⟩) rfl rfl hx2 (by intro u hu; simp only [onc, List.mem_cons, List.not_mem_nil, or_false] at hu; rcases hu with rfl | rfl | rfl | rfl | rfl | rfl | rfl <;> rfl) (by unfold maxLen; omega) (by omega) hb2.size ?_
                rintro v2 ww3 ⟨o2_3, g2, -⟩
                have hb3 := hb2.grown g2 hb2.size (fun b e => (o1_2.lt b e).1)
                refine hK.out _ _ ?_ (fun _ => ?_)
                · exact Only.of_new hb3
                clear hK K g2
                try simp only [Act.put, List.getElem_toArray, List.getElem_cons_succ, List.getElem_cons_zero, List.setIfInBounds_toArray, List.set_cons_zero, List.set_cons_succ]
                refine wpAnyH_ready (rs := [20]) (by kernel_rfl) (by simp) ?_
                refine AllReadyH.cons (o := _) rfl (fun K hK => ?_) AllReadyH.nil
                refine rstep_append_any (by kernel_rfl) _ _ 52 rfl wb.heap.size 95 i0 _ 7 72 Try.underlying52 hi hz0 hz1 hz2 rfl (by decide) v2 (0 + (k - 0) + 1) _ rfl o2_3 (cutB a c k 7) (L.length - k) (c - k) _ rfl HY2.out ((HRB.out.below hb3 (Nat.le_refl _)).cutB c k (L.length * 7) 7 (by rw [onf_length]; omega)) HO2.out (by unfold maxLen; omega) (by omega) hb3.size ?_
                rintro v3 ww4 ⟨o3, g3, -⟩
                have hb4 := hb3.grown g3 hb3.size (fun b e => (o2_3.lt b e).1)
                obtain ⟨a3, c3, rfl, -, -, -⟩ := own_cells o3
                refine hK.out _ _ ?_ (fun _ => ?_)
                · exact Only.of_new hb4
                clear hK K g3
                try simp only [Act.put, List.getElem_toArray, List.getElem_cons_succ, List.getElem_cons_zero, List.setIfInBounds_toArray, List.set_cons_zero, List.set_cons_succ]
                refine wpAnyH_take (i := 21) (oi := _) (v := ?_) rfl (by kernel_rfl) (by kernel_rfl) (by kernel_rfl) (fun _ _ _ h => h) (Or.inl ⟨by rfl, ?_⟩) (by assumption) ?_
                rotate_left 1
                · (intro w hSw; (try dsimp only at hSw); go_simp; (try with_reducible rfl))
                try simp only [Act.put, List.getElem_toArray, List.getElem_cons_succ, List.getElem_cons_zero, List.setIfInBounds_toArray, List.set_cons_zero, List.set_cons_succ]
                refine wpAnyH_take (i := 22) (oi := _) (v := ?_) rfl (by kernel_rfl) (by kernel_rfl) (by kernel_rfl) (fun _ _ _ h => h) (Or.inl ⟨by rfl, ?_⟩) (by assumption) ?_
                rotate_left 1
                · (intro w hSw; (try dsimp only at hSw); go_simp; (try with_reducible rfl))
                try simp only [Act.put, List.getElem_toArray, List.getElem_cons_succ, List.getElem_cons_zero, List.setIfInBounds_toArray, List.set_cons_zero, List.set_cons_succ]
                refine wpAnyH_ready (rs := [23]) (by kernel_rfl) (by simp) ?_
                refine AllReadyH.cons (o := _) rfl (fun K hK => ?_) AllReadyH.nil
                have HW3 := Lib.hid (show CutOn wb r (rins ⟨⟨n, v, t, cc⟩, true, owner⟩ L) (ww4.setCell ⟨r, 0, none⟩ (.slice a3 (k + 1 + (L.length - k)) c3)) from by have h := rone_cut (r := r) hb4 o3 HKE.out.symm hkl; rwa [show 0 + (k - 0) + 1 + (L.length - k) = k + 1 + (L.length - k) by omega] at h)
                have q0 := keepc hb4 D0.out
                have f0 : ww4.frozen? ⟨r, 0, none⟩ = false := (World.frozen?_of_block (hb4.block r hrb)).trans DF.out
                have HBE := Lib.hid hb4
                clear o3 hb4
                go_simp
                refine hK.out _ _ ?_ (fun _ => ?_)
                · exact (Only.of_new HBE.out).setCell _ _ (fun _ => rfl)
                clear hK K q0 f0
                try simp only [Act.put, List.getElem_toArray, List.getElem_cons_succ, List.getElem_cons_zero, List.setIfInBounds_toArray, List.set_cons_zero, List.set_cons_succ]
                refine wpAnyH_done (by kernel_rfl) ?_ _
                refine NoPanic.normal ?_
                go_wp2_with fail
                go_meet
                case rel => exact HW3.out
            · have q0 := keepc hb0 D0.out
              go_simp
              refine hK.out _ _ ?_ (fun _ => ?_)
              · exact Only.of_new hb0
              clear hK K q0
              try simp only [Act.put, List.getElem_toArray, List.getElem_cons_succ, List.getElem_cons_zero, List.setIfInBounds_toArray, List.set_cons_zero, List.set_cons_succ]
              refine wpAnyH_take (i := 19) (oi := _) (v := ?_) rfl (by kernel_rfl) (by kernel_rfl) (by kernel_rfl) (fun _ _ _ h => h) (Or.inl ⟨by rfl, ?_⟩) (by assumption) ?_
              rotate_left 1
              · (intro w hSw; (try dsimp only at hSw); refine Eq.trans (exec_cut 52 95 _ _ _ (by rfl) Try.underlying52 7 (by kernel_rfl) a L.length c (by rfl) k L.length (.inr (by exact ⟨_, rfl, rfl⟩)) (.inl (by exact ⟨rfl, rfl⟩)) (by omega) (by omega)) ?_; (try with_reducible rfl))
              try simp only [Act.put, List.getElem_toArray, List.getElem_cons_succ, List.getElem_cons_zero, List.setIfInBounds_toArray, List.set_cons_zero, List.set_cons_succ]
              refine wpAnyH_ready (rs := [7, 12]) (by kernel_rfl) (by simp) ?_
              refine AllReadyH.cons (o := _) rfl (fun K hK => ?_) (AllReadyH.cons (o := _) rfl (fun K hK => ?_) AllReadyH.nil)
              · refine rstep_append_any (by kernel_rfl) _ _ 52 rfl wb.heap.size 95 i0 _ 7 72 Try.underlying52 hi hz0 hz1 hz2 rfl (by decide) (.slice none 0 0) 0 [] rfl (World.ownsRow_nil _ _ _ _) (cutB a c 0 7) (k - 0) (c - 0) _ rfl HY1.out ((HRB.out.below hb0 (Nat.le_refl _)).cutB c 0 (k * 7) 7 (by rw [onf_length]; omega)) HO1.out (by unfold maxLen; omega) (by omega) hb0.size ?_
                rintro v1 ww1 ⟨o1_1, g1, -⟩
                have hb1 := hb0.grown g1 hb0.size (fun b e => by cases e)
                refine hK.out _ _ ?_ (fun _ => ?_)
                · exact Only.of_new hb1
                clear hK K g1
                try simp only [Act.put, List.getElem_toArray, List.getElem_cons_succ, List.getElem_cons_zero, List.setIfInBounds_toArray, List.set_cons_zero, List.set_cons_succ]
                refine wpAnyH_ready (rs := [12]) (by kernel_rfl) (by simp) ?_
                refine AllReadyH.cons (o := _) rfl (fun K hK => ?_) AllReadyH.nil
                go_simp
                obtain ⟨X, hX⟩ : ∃ X, X = ww1.heap.size := ⟨_, rfl⟩
                obtain ⟨ww2, hww2⟩ : ∃ u, u = ww1.alloc (.cells #[.string n, .string n, .int .i64 v, .int .i64 t, .bool cc, .bool true, .int .i64 owner] 95) := ⟨_, rfl⟩
                have hb2 : Below wb.heap.size wb ww2 := by rw [hww2]; exact hb1.alloc hb1.size _
                have hx2 : Rd ww2 (some ⟨X, 0, none⟩) (onc ⟨⟨n, v, t, cc⟩, true, owner⟩) := by rw [hX, hww2]; exact Rd.new ww1 _ _ _ _ (fun k u hu => by simpa [onc] using hu)
                have o1_2 : ww2.ownsRow wb.heap.size 95 7 v1 (0 + (k - 0)) ([] ++ ((onf L).take (k * 7)).drop (0 * 7)) := by rw [hww2]; exact ((Only.refl (fun _ => False) ww1).alloc (.cells #[.string n, .string n, .int .i64 v, .int .i64 t, .bool cc, .bool true, .int .i64 owner] 95)).own o1_1 (fun _ _ h => h)
                rw [← hX, ← hww2]
                refine hK.out _ _ ?_ (fun _ => ?_)
                · exact Only.of_new hb2
                clear hK K hX hww2
                try simp only [Act.put, List.getElem_toArray, List.getElem_cons_succ, List.getElem_cons_zero, List.setIfInBounds_toArray, List.set_cons_zero, List.set_cons_succ]
                refine wpAnyH_ready (rs := [13]) (by kernel_rfl) (by simp) ?_
                refine AllReadyH.cons (o := _) rfl (fun K hK => ?_) AllReadyH.nil
                refine rstep_append_any (by kernel_rfl) _ _ 52 rfl wb.heap.size 95 i0 _ 7 72 Try.underlying52 hi hz0 hz1 hz2 rfl (by decide) v1 (0 + (k - 0)) _ rfl o1_2 (some ⟨X, 0, none⟩) 1 1 (onc ⟨⟨n, v, t, cc⟩, true, owner⟩) rfl rfl hx2 (by intro u hu; simp only [onc, List.mem_cons, List.not_mem_nil, or_false] at hu; rcases hu with rfl | rfl | rfl | rfl | rfl | rfl | rfl <;> rfl) (by unfold maxLen; omega) (by omega) hb2.size ?_
                rintro v2 ww3 ⟨o2_3, g2, -⟩
                have hb3 := hb2.grown g2 hb2.size (fun b e => (o1_2.lt b e).1)
                refine hK.out _ _ ?_ (fun _ => ?_)
                · exact Only.of_new hb3
                clear hK K g2
                try simp only [Act.put, List.getElem_toArray, List.getElem_cons_succ, List.getElem_cons_zero, List.setIfInBounds_toArray, List.set_cons_zero, List.set_cons_succ]
                refine wpAnyH_ready (rs := [20]) (by kernel_rfl) (by simp) ?_
                refine AllReadyH.cons (o := _) rfl (fun K hK => ?_) AllReadyH.nil
                refine rstep_append_any (by kernel_rfl) _ _ 52 rfl wb.heap.size 95 i0 _ 7 72 Try.underlying52 hi hz0 hz1 hz2 rfl (by decide) v2 (0 + (k - 0) + 1) _ rfl o2_3 (cutB a c k 7) (L.length - k) (c - k) _ rfl HY2.out ((HRB.out.below hb3 (Nat.le_refl _)).cutB c k (L.length * 7) 7 (by rw [onf_length]; omega)) HO2.out (by unfold maxLen; omega) (by omega) hb3.size ?_
                rintro v3 ww4 ⟨o3, g3, -⟩
                have hb4 := hb3.grown g3 hb3.size (fun b e => (o2_3.lt b e).1)
                obtain ⟨a3, c3, rfl, -, -, -⟩ := own_cells o3
                refine hK.out _ _ ?_ (fun _ => ?_)
                · exact Only.of_new hb4
                clear hK K g3
                try simp only [Act.put, List.getElem_toArray, List.getElem_cons_succ, List.getElem_cons_zero, List.setIfInBounds_toArray, List.set_cons_zero, List.set_cons_succ]
                refine wpAnyH_take (i := 21) (oi := _) (v := ?_) rfl (by kernel_rfl) (by kernel_rfl) (by kernel_rfl) (fun _ _ _ h => h) (Or.inl ⟨by rfl, ?_⟩) (by assumption) ?_
                rotate_left 1
                · (intro w hSw; (try dsimp only at hSw); go_simp; (try with_reducible rfl))
                try simp only [Act.put, List.getElem_toArray, List.getElem_cons_succ, List.getElem_cons_zero, List.setIfInBounds_toArray, List.set_cons_zero, List.set_cons_succ]
                refine wpAnyH_take (i := 22) (oi := _) (v := ?_) rfl (by kernel_rfl) (by kernel_rfl) (by kernel_rfl) (fun _ _ _ h => h) (Or.inl ⟨by rfl, ?_⟩) (by assumption) ?_
                rotate_left 1
                · (intro w hSw; (try dsimp only at hSw); go_simp; (try with_reducible rfl))
                try simp only [Act.put, List.getElem_toArray, List.getElem_cons_succ, List.getElem_cons_zero, List.setIfInBounds_toArray, List.set_cons_zero, List.set_cons_succ]
                refine wpAnyH_ready (rs := [23]) (by kernel_rfl) (by simp) ?_
                refine AllReadyH.cons (o := _) rfl (fun K hK => ?_) AllReadyH.nil
                have HW3 := Lib.hid (show CutOn wb r (rins ⟨⟨n, v, t, cc⟩, true, owner⟩ L) (ww4.setCell ⟨r, 0, none⟩ (.slice a3 (k + 1 + (L.length - k)) c3)) from by have h := rone_cut (r := r) hb4 o3 HKE.out.symm hkl; rwa [show 0 + (k - 0) + 1 + (L.length - k) = k + 1 + (L.length - k) by omega] at h)
                have q0 := keepc hb4 D0.out
                have f0 : ww4.frozen? ⟨r, 0, none⟩ = false := (World.frozen?_of_block (hb4.block r hrb)).trans DF.out
                have HBE := Lib.hid hb4
                clear o3 hb4
                go_simp
                refine hK.out _ _ ?_ (fun _ => ?_)
                · exact (Only.of_new HBE.out).setCell _ _ (fun _ => rfl)
                clear hK K q0 f0
                try simp only [Act.put, List.getElem_toArray, List.getElem_cons_succ, List.getElem_cons_zero, List.setIfInBounds_toArray, List.set_cons_zero, List.set_cons_succ]
                refine wpAnyH_done (by kernel_rfl) ?_ _
                refine NoPanic.normal ?_
                go_wp2_with fail
                go_meet
                case rel => exact HW3.out
              · go_simp
                obtain ⟨X, hX⟩ : ∃ X, X = ww0.heap.size := ⟨_, rfl⟩
                obtain ⟨ww1, hww1⟩ : ∃ u, u = ww0.alloc (.cells #[.string n, .string n, .int .i64 v, .int .i64 t, .bool cc, .bool true, .int .i64 owner] 95) := ⟨_, rfl⟩
                have hb1 : Below wb.heap.size wb ww1 := by rw [hww1]; exact hb0.alloc hb0.size _
                have hx1 : Rd ww1 (some ⟨X, 0, none⟩) (onc ⟨⟨n, v, t, cc⟩, true, owner⟩) := by rw [hX, hww1]; exact Rd.new ww0 _ _ _ _ (fun k u hu => by simpa [onc] using hu)
                rw [← hX, ← hww1]
                refine hK.out _ _ ?_ (fun _ => ?_)
                · exact Only.of_new hb1
                clear hK K hX hww1
                try simp only [Act.put, List.getElem_toArray, List.getElem_cons_succ, List.getElem_cons_zero, List.setIfInBounds_toArray, List.set_cons_zero, List.set_cons_succ]
                refine wpAnyH_ready (rs := [7]) (by kernel_rfl) (by simp) ?_
                refine AllReadyH.cons (o := _) rfl (fun K hK => ?_) AllReadyH.nil
                refine rstep_append_any (by kernel_rfl) _ _ 52 rfl wb.heap.size 95 i0 _ 7 72 Try.underlying52 hi hz0 hz1 hz2 rfl (by decide) (.slice none 0 0) 0 [] rfl (World.ownsRow_nil _ _ _ _) (cutB a c 0 7) (k - 0) (c - 0) _ rfl HY1.out ((HRB.out.below hb1 (Nat.le_refl _)).cutB c 0 (k * 7) 7 (by rw [onf_length]; omega)) HO1.out (by unfold maxLen; omega) (by omega) hb1.size ?_
                rintro v1 ww2 ⟨o1_2, g1, -⟩
                have hb2 := hb1.grown g1 hb1.size (fun b e => by cases e)
                have hx2 := hx1.below ((Below.refl _ _).grown g1 (Nat.le_refl _) (fun b e => by cases e)) (Nat.le_refl _)
                refine hK.out _ _ ?_ (fun _ => ?_)
                · exact Only.of_new hb2
                clear hK K g1
                try simp only [Act.put, List.getElem_toArray, List.getElem_cons_succ, List.getElem_cons_zero, List.setIfInBounds_toArray, List.set_cons_zero, List.set_cons_succ]
                refine wpAnyH_ready (rs := [13]) (by kernel_rfl) (by simp) ?_
                refine AllReadyH.cons (o := _) rfl (fun K hK => ?_) AllReadyH.nil
                refine rstep_append_any (by kernel_rfl) _ _ 52 rfl wb.heap.size 95 i0 _ 7 72 Try.underlying52 hi hz0 hz1 hz2 rfl (by decide) v1 (0 + (k - 0)) _ rfl o1_2 (some ⟨X, 0, none⟩) 1 1 (onc ⟨⟨n, v, t, cc⟩, true, owner⟩) rfl rfl hx2 (by intro u hu; simp only [onc, List.mem_cons, List.not_mem_nil, or_false] at hu; rcases hu with rfl | rfl | rfl | rfl | rfl | rfl | rfl <;> rfl) (by unfold maxLen; omega) (by omega) hb2.size ?_
                rintro v2 ww3 ⟨o2_3, g2, -⟩
                have hb3 := hb2.grown g2 hb2.size (fun b e => (o1_2.lt b e).1)
                refine hK.out _ _ ?_ (fun _ => ?_)
                · exact Only.of_new hb3
                clear hK K g2
                try simp only [Act.put, List.getElem_toArray, List.getElem_cons_succ, List.getElem_cons_zero, List.setIfInBounds_toArray, List.set_cons_zero, List.set_cons_succ]
                refine wpAnyH_ready (rs := [20]) (by kernel_rfl) (by simp) ?_
                refine AllReadyH.cons (o := _) rfl (fun K hK => ?_) AllReadyH.nil
                refine rstep_append_any (by kernel_rfl) _ _ 52 rfl wb.heap.size 95 i0 _ 7 72 Try.underlying52 hi hz0 hz1 hz2 rfl (by decide) v2 (0 + (k - 0) + 1) _ rfl o2_3 (cutB a c k 7) (L.length - k) (c - k) _ rfl HY2.out ((HRB.out.below hb3 (Nat.le_refl _)).cutB c k (L.length * 7) 7 (by rw [onf_length]; omega)) HO2.out (by unfold maxLen; omega) (by omega) hb3.size ?_
                rintro v3 ww4 ⟨o3, g3, -⟩
                have hb4 := hb3.grown g3 hb3.size (fun b e => (o2_3.lt b e).1)
                obtain ⟨a3, c3, rfl, -, -, -⟩ := own_cells o3
                refine hK.out _ _ ?_ (fun _ => ?_)
                · exact Only.of_new hb4
                clear hK K g3
                try simp only [Act.put, List.getElem_toArray, List.getElem_cons_succ, List.getElem_cons_zero, List.setIfInBounds_toArray, List.set_cons_zero, List.set_cons_succ]
                refine wpAnyH_take (i := 21) (oi := _) (v := ?_) rfl (by kernel_rfl) (by kernel_rfl) (by kernel_rfl) (fun _ _ _ h => h) (Or.inl ⟨by rfl, ?_⟩) (by assumption) ?_
                rotate_left 1
                · (intro w hSw; (try dsimp only at hSw); go_simp; (try with_reducible rfl))
                try simp only [Act.put, List.getElem_toArray, List.getElem_cons_succ, List.getElem_cons_zero, List.setIfInBounds_toArray, List.set_cons_zero, List.set_cons_succ]
                refine wpAnyH_take (i := 22) (oi := _) (v := ?_) rfl (by kernel_rfl) (by kernel_rfl) (by kernel_rfl) (fun _ _ _ h => h) (Or.inl ⟨by rfl, ?_⟩) (by assumption) ?_
                rotate_left 1
                · (intro w hSw; (try dsimp only at hSw); go_simp; (try with_reducible rfl))
                try simp only [Act.put, List.getElem_toArray, List.getElem_cons_succ, List.getElem_cons_zero, List.setIfInBounds_toArray, List.set_cons_zero, List.set_cons_succ]
                refine wpAnyH_ready (rs := [23]) (by kernel_rfl) (by simp) ?_
                refine AllReadyH.cons (o := _) rfl (fun K hK => ?_) AllReadyH.nil
                have HW3 := Lib.hid (show CutOn wb r (rins ⟨⟨n, v, t, cc⟩, true, owner⟩ L) (ww4.setCell ⟨r, 0, none⟩ (.slice a3 (k + 1 + (L.length - k)) c3)) from by have h := rone_cut (r := r) hb4 o3 HKE.out.symm hkl; rwa [show 0 + (k - 0) + 1 + (L.length - k) = k + 1 + (L.length - k) by omega] at h)
                have q0 := keepc hb4 D0.out
                have f0 : ww4.frozen? ⟨r, 0, none⟩ = false := (World.frozen?_of_block (hb4.block r hrb)).trans DF.out
                have HBE := Lib.hid hb4
                clear o3 hb4
                go_simp
                refine hK.out _ _ ?_ (fun _ => ?_)
                · exact (Only.of_new HBE.out).setCell _ _ (fun _ => rfl)
                clear hK K q0 f0
                try simp only [Act.put, List.getElem_toArray, List.getElem_cons_succ, List.getElem_cons_zero, List.setIfInBounds_toArray, List.set_cons_zero, List.set_cons_succ]
                refine wpAnyH_done (by kernel_rfl) ?_ _
                refine NoPanic.normal ?_
                go_wp2_with fail
                go_meet
                case rel => exact HW3.out
          · go_simp
            obtain ⟨X, hX⟩ : ∃ X, X = ww0.heap.size := ⟨_, rfl⟩
            obtain ⟨ww1, hww1⟩ : ∃ u, u = ww0.alloc (.cells #[.string n, .string n, .int .i64 v, .int .i64 t, .bool cc, .bool true, .int .i64 owner] 95) := ⟨_, rfl⟩
            have hb1 : Below wb.heap.size wb ww1 := by rw [hww1]; exact hb0.alloc hb0.size _
            have hx1 : Rd ww1 (some ⟨X, 0, none⟩) (onc ⟨⟨n, v, t, cc⟩, true, owner⟩) := by rw [hX, hww1]; exact Rd.new ww0 _ _ _ _ (fun k u hu => by simpa [onc] using hu)
            rw [← hX, ← hww1]
            refine hK.out _ _ ?_ (fun _ => ?_)
            · exact Only.of_new hb1
            clear hK K hX hww1
            try simp only [Act.put, List.getElem_toArray, List.getElem_cons_succ, List.getElem_cons_zero, List.setIfInBounds_toArray, List.set_cons_zero, List.set_cons_succ]
            refine wpAnyH_ready (rs := [4, 17]) (by kernel_rfl) (by simp) ?_
            refine AllReadyH.cons (o := _) rfl (fun K hK => ?_) (AllReadyH.cons (o := _) rfl (fun K hK => ?_) AllReadyH.nil)
            · have q0 := keepc hb1 D0.out
              go_simp
              refine hK.out _ _ ?_ (fun _ => ?_)
              · exact Only.of_new hb1
              clear hK K q0
              try simp only [Act.put, List.getElem_toArray, List.getElem_cons_succ, List.getElem_cons_zero, List.setIfInBounds_toArray, List.set_cons_zero, List.set_cons_succ]
              refine wpAnyH_take (i := 6) (oi := _) (v := ?_) rfl (by kernel_rfl) (by kernel_rfl) (by kernel_rfl) (fun _ _ _ h => h) (Or.inl ⟨by rfl, ?_⟩) (by assumption) ?_
              rotate_left 1
              · (intro w hSw; (try dsimp only at hSw); refine Eq.trans (exec_cut 52 95 _ _ _ (by rfl) Try.underlying52 7 (by kernel_rfl) a L.length c (by rfl) 0 k (.inl (by exact ⟨rfl, rfl⟩)) (.inr (by exact ⟨_, rfl, rfl⟩)) (by omega) (by omega)) ?_; (try with_reducible rfl))
              try simp only [Act.put, List.getElem_toArray, List.getElem_cons_succ, List.getElem_cons_zero, List.setIfInBounds_toArray, List.set_cons_zero, List.set_cons_succ]
              refine wpAnyH_ready (rs := [7, 17]) (by kernel_rfl) (by simp) ?_
              refine AllReadyH.cons (o := _) rfl (fun K hK => ?_) (AllReadyH.cons (o := _) rfl (fun K hK => ?_) AllReadyH.nil)
              · refine rstep_append_any (by kernel_rfl) _ _ 52 rfl wb.heap.size 95 i0 _ 7 72 Try.underlying52 hi hz0 hz1 hz2 rfl (by decide) (.slice none 0 0) 0 [] rfl (World.ownsRow_nil _ _ _ _) (cutB a c 0 7) (k - 0) (c - 0) _ rfl HY1.out ((HRB.out.below hb1 (Nat.le_refl _)).cutB c 0 (k * 7) 7 (by rw [onf_length]; omega)) HO1.out (by unfold maxLen; omega) (by omega) hb1.size ?_
                rintro v1 ww2 ⟨o1_2, g1, -⟩
                have hb2 := hb1.grown g1 hb1.size (fun b e => by cases e)
                have hx2 := hx1.below ((Below.refl _ _).grown g1 (Nat.le_refl _) (fun b e => by cases e)) (Nat.le_refl _)
                refine hK.out _ _ ?_ (fun _ => ?_)
                · exact Only.of_new hb2
                clear hK K g1
                try simp only [Act.put, List.getElem_toArray, List.getElem_cons_succ, List.getElem_cons_zero, List.setIfInBounds_toArray, List.set_cons_zero, List.set_cons_succ]
                refine wpAnyH_ready (rs := [13, 17]) (by kernel_rfl) (by simp) ?_
                refine AllReadyH.cons (o := _) rfl (fun K hK => ?_) (AllReadyH.cons (o := _) rfl (fun K hK => ?_) AllReadyH.nil)
                · refine rstep_append_any (by kernel_rfl) _ _ 52 rfl wb.heap.size 95 i0 _ 7 72 Try.underlying52 hi hz0 hz1 hz2 rfl (by decide) v1 (0 + (k - 0)) _ rfl o1_2 (some ⟨X, 0, none⟩) 1 1 (onc ⟨⟨n, v, t, cc⟩, true, owner⟩) rfl rfl hx2 (by intro u hu; simp only [onc, List.mem_cons, List.not_mem_nil, or_false] at hu; rcases hu with rfl | rfl | rfl | rfl | rfl | rfl | rfl <;> rfl) (by unfold maxLen; omega) (by omega) hb2.size ?_
                  rintro v2 ww3 ⟨o2_3, g2, -⟩
                  have hb3 := hb2.grown g2 hb2.size (fun b e => (o1_2.lt b e).1)
                  refine hK.out _ _ ?_ (fun _ => ?_)
                  · exact Only.of_new hb3
                  clear hK K g2
                  try simp only [Act.put, List.getElem_toArray, List.getElem_cons_succ, List.getElem_cons_zero, List.setIfInBounds_toArray, List.set_cons_zero, List.set_cons_succ]
                  refine wpAnyH_ready (rs := [17]) (by kernel_rfl) (by simp) ?_
                  refine AllReadyH.cons (o := _) rfl (fun K hK => ?_) AllReadyH.nil
                  have q0 := keepc hb3 D0.out
                  go_simp
                  refine hK.out _ _ ?_ (fun _ => ?_)
                  · exact Only.of_new hb3
                  clear hK K q0
                  try simp only [Act.put, List.getElem_toArray, List.getElem_cons_succ, List.getElem_cons_zero, List.setIfInBounds_toArray, List.set_cons_zero, List.set_cons_succ]
                  refine wpAnyH_take (i := 19) (oi := _) (v := ?_) rfl (by kernel_rfl) (by kernel_rfl) (by kernel_rfl) (fun _ _ _ h => h) (Or.inl ⟨by rfl, ?_⟩) (by assumption) ?_
                  rotate_left 1
                  · (intro w hSw; (try dsimp only at hSw); refine Eq.trans (exec_cut 52 95 _ _ _ (by rfl) Try.underlying52 7 (by kernel_rfl) a L.length c (by rfl) k L.length (.inr (by exact ⟨_, rfl, rfl⟩)) (.inl (by exact ⟨rfl, rfl⟩)) (by omega) (by omega)) ?_; (try with_reducible rfl))
                  try simp only [Act.put, List.getElem_toArray, List.getElem_cons_succ, List.getElem_cons_zero, List.setIfInBounds_toArray, List.set_cons_zero, List.set_cons_succ]
                  refine wpAnyH_ready (rs := [20]) (by kernel_rfl) (by simp) ?_
                  refine AllReadyH.cons (o := _) rfl (fun K hK => ?_) AllReadyH.nil
                  refine rstep_append_any (by kernel_rfl) _ _ 52 rfl wb.heap.size 95 i0 _ 7 72 Try.underlying52 hi hz0 hz1 hz2 rfl (by decide) v2 (0 + (k - 0) + 1) _ rfl o2_3 (cutB a c k 7) (L.length - k) (c - k) _ rfl HY2.out ((HRB.out.below hb3 (Nat.le_refl _)).cutB c k (L.length * 7) 7 (by rw [onf_length]; omega)) HO2.out (by unfold maxLen; omega) (by omega) hb3.size ?_
                  rintro v3 ww4 ⟨o3, g3, -⟩
                  have hb4 := hb3.grown g3 hb3.size (fun b e => (o2_3.lt b e).1)
                  obtain ⟨a3, c3, rfl, -, -, -⟩ := own_cells o3
                  refine hK.out _ _ ?_ (fun _ => ?_)
                  · exact Only.of_new hb4
                  clear hK K g3
                  try simp only [Act.put, List.getElem_toArray, List.getElem_cons_succ, List.getElem_cons_zero, List.setIfInBounds_toArray, List.set_cons_zero, List.set_cons_succ]
                  refine wpAnyH_take (i := 21) (oi := _) (v := ?_) rfl (by kernel_rfl) (by kernel_rfl) (by kernel_rfl) (fun _ _ _ h => h) (Or.inl ⟨by rfl, ?_⟩) (by assumption) ?_
                  rotate_left 1
                  · (intro w hSw; (try dsimp only at hSw); go_simp; (try with_reducible rfl))
                  try simp only [Act.put, List.getElem_toArray, List.getElem_cons_succ, List.getElem_cons_zero, List.setIfInBounds_toArray, List.set_cons_zero, List.set_cons_succ]
                  refine wpAnyH_take (i := 22) (oi := _) (v := ?_) rfl (by kernel_rfl) (by kernel_rfl) (by kernel_rfl) (fun _ _ _ h => h) (Or.inl ⟨by rfl, ?_⟩) (by assumption) ?_
                  rotate_left 1
                  · (intro w hSw; (try dsimp only at hSw); go_simp; (try with_reducible rfl))
                  try simp only [Act.put, List.getElem_toArray, List.getElem_cons_succ, List.getElem_cons_zero, List.setIfInBounds_toArray, List.set_cons_zero, List.set_cons_succ]
                  refine wpAnyH_ready (rs := [23]) (by kernel_rfl) (by simp) ?_
                  refine AllReadyH.cons (o := _) rfl (fun K hK => ?_) AllReadyH.nil
                  have HW3 := Lib.hid (show CutOn wb r (rins ⟨⟨n, v, t, cc⟩, true, owner⟩ L) (ww4.setCell ⟨r, 0, none⟩ (.slice a3 (k + 1 + (L.length - k)) c3)) from by have h := rone_cut (r := r) hb4 o3 HKE.out.symm hkl; rwa [show 0 + (k - 0) + 1 + (L.length - k) = k + 1 + (L.length - k) by omega] at h)
                  have q0 := keepc hb4 D0.out
                  have f0 : ww4.frozen? ⟨r, 0, none⟩ = false := (World.frozen?_of_block (hb4.block r hrb)).trans DF.out
                  have HBE := Lib.hid hb4
                  clear o3 hb4
                  go_simp
                  refine hK.out _ _ ?_ (fun _ => ?_)
                  · exact (Only.of_new HBE.out).setCell _ _ (fun _ => rfl)
                  clear hK K q0 f0
                  try simp only [Act.put, List.getElem_toArray, List.getElem_cons_succ, List.getElem_cons_zero, List.setIfInBounds_toArray, List.set_cons_zero, List.set_cons_succ]
                  refine wpAnyH_done (by kernel_rfl) ?_ _
                  refine NoPanic.normal ?_
                  go_wp2_with fail
                  go_meet
                  case rel => exact HW3.out
                · have q0 := keepc hb2 D0.out
                  go_simp
                  refine hK.out _ _ ?_ (fun _ => ?_)
                  · exact Only.of_new hb2
                  clear hK K q0
                  try simp only [Act.put, List.getElem_toArray, List.getElem_cons_succ, List.getElem_cons_zero, List.setIfInBounds_toArray, List.set_cons_zero, List.set_cons_succ]
                  refine wpAnyH_take (i := 19) (oi := _) (v := ?_) rfl (by kernel_rfl) (by kernel_rfl) (by kernel_rfl) (fun _ _ _ h => h) (Or.inl ⟨by rfl, ?_⟩) (by assumption) ?_
                  rotate_left 1
                  · (intro w hSw; (try dsimp only at hSw); refine Eq.trans (exec_cut 52 95 _ _ _ (by rfl) Try.underlying52 7 (by kernel_rfl) a L.length c (by rfl) k L.length (.inr (by exact ⟨_, rfl, rfl⟩)) (.inl (by exact ⟨rfl, rfl⟩)) (by omega) (by omega)) ?_; (try with_reducible rfl))
                  try simp only [Act.put, List.getElem_toArray, List.getElem_cons_succ, List.getElem_cons_zero, List.setIfInBounds_toArray, List.set_cons_zero, List.set_cons_succ]
                  refine wpAnyH_ready (rs := [13]) (by kernel_rfl) (by simp) ?_
                  refine AllReadyH.cons (o := _) rfl (fun K hK => ?_) AllReadyH.nil
                  refine rstep_append_any (by kernel_rfl) _ _ 52 rfl wb.heap.size 95 i0 _ 7 72 Try.underlying52 hi hz0 hz1 hz2 rfl (by decide) v1 (0 + (k - 0)) _ rfl o1_2 (some ⟨X, 0, none⟩) 1 1 (onc ⟨⟨n, v, t, cc⟩, true, owner⟩) rfl rfl hx2 (by intro u hu; simp only [onc, List.mem_cons, List.not_mem_nil, or_false] at hu; rcases hu with rfl | rfl | rfl | rfl | rfl | rfl | rfl <;> rfl) (by unfold maxLen; omega) (by omega) hb2.size ?_
                  rintro v2 ww3 ⟨o2_3, g2, -⟩
                  have hb3 := hb2.grown g2 hb2.size (fun b e => (o1_2.lt b e).1)
                  refine hK.out _ _ ?_ (fun _ => ?_)
                  · exact Only.of_new hb3
                  clear hK K g2
                  try simp only [Act.put, List.getElem_toArray, List.getElem_cons_succ, List.getElem_cons_zero, List.setIfInBounds_toArray, List.set_cons_zero, List.set_cons_succ]
                  refine wpAnyH_ready (rs := [20]) (by kernel_rfl) (by simp) ?_
                  refine AllReadyH.cons (o := _) rfl (fun K hK => ?_) AllReadyH.nil
                  refine rstep_append_any (by kernel_rfl) _ _ 52 rfl wb.heap.size 95 i0 _ 7 72 Try.underlying52 hi hz0 hz1 hz2 rfl (by decide) v2 (0 + (k - 0) + 1) _ rfl o2_3 (cutB a c k 7) (L.length - k) (c - k) _ rfl HY2.out ((HRB.out.below hb3 (Nat.le_refl _)).cutB c k (L.length * 7) 7 (by rw [onf_length]; omega)) HO2.out (by unfold maxLen; omega) (by omega) hb3.size ?_
                  rintro v3 ww4 ⟨o3, g3, -⟩
                  have hb4 := hb3.grown g3 hb3.size (fun b e => (o2_3.lt b e).1)
                  obtain ⟨a3, c3, rfl, -, -, -⟩ := own_cells o3
                  refine hK.out _ _ ?_ (fun _ => ?_)
                  · exact Only.of_new hb4
                  clear hK K g3
                  try simp only [Act.put, List.getElem_toArray, List.getElem_cons_succ, List.getElem_cons_zero, List.setIfInBounds_toArray, List.set_cons_zero, List.set_cons_succ]
                  refine wpAnyH_take (i := 21) (oi := _) (v := ?_) rfl (by kernel_rfl) (by kernel_rfl) (by kernel_rfl) (fun _ _ _ h => h) (Or.inl ⟨by rfl, ?_⟩) (by assumption) ?_
                  rotate_left 1
                  · (intro w hSw; (try dsimp only at hSw); go_simp; (try with_reducible rfl))
                  try simp only [Act.put, List.getElem_toArray, List.getElem_cons_succ, List.getElem_cons_zero, List.setIfInBounds_toArray, List.set_cons_zero, List.set_cons_succ]
                  refine wpAnyH_take (i := 22) (oi := _) (v := ?_) rfl (by kernel_rfl) (by kernel_rfl) (by kernel_rfl) (fun _ _ _ h => h) (Or.inl ⟨by rfl, ?_⟩) (by assumption) ?_
                  rotate_left 1
                  · (intro w hSw; (try dsimp only at hSw); go_simp; (try with_reducible rfl))
                  try simp only [Act.put, List.getElem_toArray, List.getElem_cons_succ, List.getElem_cons_zero, List.setIfInBounds_toArray, List.set_cons_zero, List.set_cons_succ]
                  refine wpAnyH_ready (rs := [23]) (by kernel_rfl) (by simp) ?_
                  refine AllReadyH.cons (o := _) rfl (fun K hK => ?_) AllReadyH.nil
                  have HW3 := Lib.hid (show CutOn wb r (rins ⟨⟨n, v, t, cc⟩, true, owner⟩ L) (ww4.setCell ⟨r, 0, none⟩ (.slice a3 (k + 1 + (L.length - k)) c3)) from by have h := rone_cut (r := r) hb4 o3 HKE.out.symm hkl; rwa [show 0 + (k - 0) + 1 + (L.length - k) = k + 1 + (L.length - k) by omega] at h)
                  have q0 := keepc hb4 D0.out
                  have f0 : ww4.frozen? ⟨r, 0, none⟩ = false := (World.frozen?_of_block (hb4.block r hrb)).trans DF.out
                  have HBE := Lib.hid hb4
                  clear o3 hb4
                  go_simp
                  refine hK.out _ _ ?_ (fun _ => ?_)
                  · exact (Only.of_new HBE.out).setCell _ _ (fun _ => rfl)
                  clear hK K q0 f0
                  try simp only [Act.put, List.getElem_toArray, List.getElem_cons_succ, List.getElem_cons_zero, List.setIfInBounds_toArray, List.set_cons_zero, List.set_cons_succ]
                  refine wpAnyH_done (by kernel_rfl) ?_ _
                  refine NoPanic.normal ?_
                  go_wp2_with fail
                  go_meet
                  case rel => exact HW3.out
              · have q0 := keepc hb1 D0.out
                go_simp
                refine hK.out _ _ ?_ (fun _ => ?_)
                · exact Only.of_new hb1
                clear hK K q0
                try simp only [Act.put, List.getElem_toArray, List.getElem_cons_succ, List.getElem_cons_zero, List.setIfInBounds_toArray, List.set_cons_zero, List.set_cons_succ]
                refine wpAnyH_take (i := 19) (oi := _) (v := ?_) rfl (by kernel_rfl) (by kernel_rfl) (by kernel_rfl) (fun _ _ _ h => h) (Or.inl ⟨by rfl, ?_⟩) (by assumption) ?_
                rotate_left 1
                · (intro w hSw; (try dsimp only at hSw); refine Eq.trans (exec_cut 52 95 _ _ _ (by rfl) Try.underlying52 7 (by kernel_rfl) a L.length c (by rfl) k L.length (.inr (by exact ⟨_, rfl, rfl⟩)) (.inl (by exact ⟨rfl, rfl⟩)) (by omega) (by omega)) ?_; (try with_reducible rfl))
                try simp only [Act.put, List.getElem_toArray, List.getElem_cons_succ, List.getElem_cons_zero, List.setIfInBounds_toArray, List.set_cons_zero, List.set_cons_succ]
                refine wpAnyH_ready (rs := [7]) (by kernel_rfl) (by simp) ?_
                refine AllReadyH.cons (o := _) rfl (fun K hK => ?_) AllReadyH.nil
                refine rstep_append_any (by kernel_rfl) _ _ 52 rfl wb.heap.size 95 i0 _ 7 72 Try.underlying52 hi hz0 hz1 hz2 rfl (by decide) (.slice none 0 0) 0 [] rfl (World.ownsRow_nil _ _ _ _) (cutB a c 0 7) (k - 0) (c - 0) _ rfl HY1.out ((HRB.out.below hb1 (Nat.le_refl _)).cutB c 0 (k * 7) 7 (by rw [onf_length]; omega)) HO1.out (by unfold maxLen; omega) (by omega) hb1.size ?_
                rintro v1 ww2 ⟨o1_2, g1, -⟩
                have hb2 := hb1.grown g1 hb1.size (fun b e => by cases e)
                have hx2 := hx1.below ((Below.refl _ _).grown g1 (Nat.le_refl _) (fun b e => by cases e)) (Nat.le_refl _)
                refine hK.out _ _ ?_ (fun _ => ?_)
                · exact Only.of_new hb2
                clear hK K g1
                try simp only [Act.put, List.getElem_toArray, List.getElem_cons_succ, List.getElem_cons_zero, List.setIfInBounds_toArray, List.set_cons_zero, List.set_cons_succ]
                refine wpAnyH_ready (rs := [13]) (by kernel_rfl) (by simp) ?_
                refine AllReadyH.cons (o := _) rfl (fun K hK => ?_) AllReadyH.nil
                refine rstep_append_any (by kernel_rfl) _ _ 52 rfl wb.heap.size 95 i0 _ 7 72 Try.underlying52 hi hz0 hz1 hz2 rfl (by decide) v1 (0 + (k - 0)) _ rfl o1_2 (some ⟨X, 0, none⟩) 1 1 (onc ⟨⟨n, v, t, cc⟩, true, owner⟩) rfl rfl hx2 (by intro u hu; simp only [onc, List.mem_cons, List.not_mem_nil, or_false] at hu; rcases hu with rfl | rfl | rfl | rfl | rfl | rfl | rfl <;> rfl) (by unfold maxLen; omega) (by omega) hb2.size ?_
                rintro v2 ww3 ⟨o2_3, g2, -⟩
                have hb3 := hb2.grown g2 hb2.size (fun b e => (o1_2.lt b e).1)
                refine hK.out _ _ ?_ (fun _ => ?_)
                · exact Only.of_new hb3
                clear hK K g2
                try simp only [Act.put, List.getElem_toArray, List.getElem_cons_succ, List.getElem_cons_zero, List.setIfInBounds_toArray, List.set_cons_zero, List.set_cons_succ]
                refine wpAnyH_ready (rs := [20]) (by kernel_rfl) (by simp) ?_
                refine AllReadyH.cons (o := _) rfl (fun K hK => ?_) AllReadyH.nil
                refine rstep_append_any (by kernel_rfl) _ _ 52 rfl wb.heap.size 95 i0 _ 7 72 Try.underlying52 hi hz0 hz1 hz2 rfl (by decide) v2 (0 + (k - 0) + 1) _ rfl o2_3 (cutB a c k 7) (L.length - k) (c - k) _ rfl HY2.out ((HRB.out.below hb3 (Nat.le_refl _)).cutB c k (L.length * 7) 7 (by rw [onf_length]; omega)) HO2.out (by unfold maxLen; omega) (by omega) hb3.size ?_
                rintro v3 ww4 ⟨o3, g3, -⟩
                have hb4 := hb3.grown g3 hb3.size (fun b e => (o2_3.lt b e).1)
                obtain ⟨a3, c3, rfl, -, -, -⟩ := own_cells o3
                refine hK.out _ _ ?_ (fun _ => ?_)
                · exact Only.of_new hb4
                clear hK K g3
                try simp only [Act.put, List.getElem_toArray, List.getElem_cons_succ, List.getElem_cons_zero, List.setIfInBounds_toArray, List.set_cons_zero, List.set_cons_succ]
                refine wpAnyH_take (i := 21) (oi := _) (v := ?_) rfl (by kernel_rfl) (by kernel_rfl) (by kernel_rfl) (fun _ _ _ h => h) (Or.inl ⟨by rfl, ?_⟩) (by assumption) ?_
                rotate_left 1
                · (intro w hSw; (try dsimp only at hSw); go_simp; (try with_reducible rfl))
                try simp only [Act.put, List.getElem_toArray, List.getElem_cons_succ, List.getElem_cons_zero, List.setIfInBounds_toArray, List.set_cons_zero, List.set_cons_succ]
                refine wpAnyH_take (i := 22) (oi := _) (v := ?_) rfl (by kernel_rfl) (by kernel_rfl) (by kernel_rfl) (fun _ _ _ h => h) (Or.inl ⟨by rfl, ?_⟩) (by assumption) ?_
                rotate_left 1
                · (intro w hSw; (try dsimp only at hSw); go_simp; (try with_reducible rfl))
                try simp only [Act.put, List.getElem_toArray, List.getElem_cons_succ, List.getElem_cons_zero, List.setIfInBounds_toArray, List.set_cons_zero, List.set_cons_succ]
                refine wpAnyH_ready (rs := [23]) (by kernel_rfl) (by simp) ?_
                refine AllReadyH.cons (o := _) rfl (fun K hK => ?_) AllReadyH.nil
                have HW3 := Lib.hid (show CutOn wb r (rins ⟨⟨n, v, t, cc⟩, true, owner⟩ L) (ww4.setCell ⟨r, 0, none⟩ (.slice a3 (k + 1 + (L.length - k)) c3)) from by have h := rone_cut (r := r) hb4 o3 HKE.out.symm hkl; rwa [show 0 + (k - 0) + 1 + (L.length - k) = k + 1 + (L.length - k) by omega] at h)
                have q0 := keepc hb4 D0.out
                have f0 : ww4.frozen? ⟨r, 0, none⟩ = false := (World.frozen?_of_block (hb4.block r hrb)).trans DF.out
                have HBE := Lib.hid hb4
                clear o3 hb4
                go_simp
                refine hK.out _ _ ?_ (fun _ => ?_)
                · exact (Only.of_new HBE.out).setCell _ _ (fun _ => rfl)
                clear hK K q0 f0
                try simp only [Act.put, List.getElem_toArray, List.getElem_cons_succ, List.getElem_cons_zero, List.setIfInBounds_toArray, List.set_cons_zero, List.set_cons_succ]
                refine wpAnyH_done (by kernel_rfl) ?_ _
                refine NoPanic.normal ?_
                go_wp2_with fail
                go_meet
                case rel => exact HW3.out
            · have q0 := keepc hb1 D0.out
              go_simp
              refine hK.out _ _ ?_ (fun _ => ?_)
              · exact Only.of_new hb1
              clear hK K q0
              try simp only [Act.put, List.getElem_toArray, List.getElem_cons_succ, List.getElem_cons_zero, List.setIfInBounds_toArray, List.set_cons_zero, List.set_cons_succ]
              refine wpAnyH_take (i := 19) (oi := _) (v := ?_) rfl (by kernel_rfl) (by kernel_rfl) (by kernel_rfl) (fun _ _ _ h => h) (Or.inl ⟨by rfl, ?_⟩) (by assumption) ?_
              rotate_left 1
              · (intro w hSw; (try dsimp only at hSw); refine Eq.trans (exec_cut 52 95 _ _ _ (by rfl) Try.underlying52 7 (by kernel_rfl) a L.length c (by rfl) k L.length (.inr (by exact ⟨_, rfl, rfl⟩)) (.inl (by exact ⟨rfl, rfl⟩)) (by omega) (by omega)) ?_; (try with_reducible rfl))
              try simp only [Act.put, List.getElem_toArray, List.getElem_cons_succ, List.getElem_cons_zero, List.setIfInBounds_toArray, List.set_cons_zero, List.set_cons_succ]
              refine wpAnyH_ready (rs := [4]) (by kernel_rfl) (by simp) ?_
              refine AllReadyH.cons (o := _) rfl (fun K hK => ?_) AllReadyH.nil
              have q0 := keepc hb1 D0.out
              go_simp
              refine hK.out _ _ ?_ (fun _ => ?_)
              · exact Only.of_new hb1
              clear hK K q0
              try simp only [Act.put, List.getElem_toArray, List.getElem_cons_succ, List.getElem_cons_zero, List.setIfInBounds_toArray, List.set_cons_zero, List.set_cons_succ]
              refine wpAnyH_take (i := 6) (oi := _) (v := ?_) rfl (by kernel_rfl) (by kernel_rfl) (by kernel_rfl) (fun _ _ _ h => h) (Or.inl ⟨by rfl, ?_⟩) (by assumption) ?_
              rotate_left 1
              · (intro w hSw; (try dsimp only at hSw); refine Eq.trans (exec_cut 52 95 _ _ _ (by rfl) Try.underlying52 7 (by kernel_rfl) a L.length c (by rfl) 0 k (.inl (by exact ⟨rfl, rfl⟩)) (.inr (by exact ⟨_, rfl, rfl⟩)) (by omega) (by omega)) ?_; (try with_reducible rfl))
              try simp only [Act.put, List.getElem_toArray, List.getElem_cons_succ, List.getElem_cons_zero, List.setIfInBounds_toArray, List.set_cons_zero, List.set_cons_succ]
              refine wpAnyH_ready (rs := [7]) (by kernel_rfl) (by simp) ?_
              refine AllReadyH.cons (o := _) rfl (fun K hK => ?_) AllReadyH.nil
              refine rstep_append_any (by kernel_rfl) _ _ 52 rfl wb.heap.size 95 i0 _ 7 72 Try.underlying52 hi hz0 hz1 hz2 rfl (by decide) (.slice none 0 0) 0 [] rfl (World.ownsRow_nil _ _ _ _) (cutB a c 0 7) (k - 0) (c - 0) _ rfl HY1.out ((HRB.out.below hb1 (Nat.le_refl _)).cutB c 0 (k * 7) 7 (by rw [onf_length]; omega)) HO1.out (by unfold maxLen; omega) (by omega) hb1.size ?_
              rintro v1 ww2 ⟨o1_2, g1, -⟩
              have hb2 := hb1.grown g1 hb1.size (fun b e => by cases e)
              have hx2 := hx1.below ((Below.refl _ _).grown g1 (Nat.le_refl _) (fun b e => by cases e)) (Nat.le_refl _)
              refine hK.out _ _ ?_ (fun _ => ?_)
              · exact Only.of_new hb2
              clear hK K g1
              try simp only [Act.put, List.getElem_toArray, List.getElem_cons_succ, List.getElem_cons_zero, List.setIfInBounds_toArray, List.set_cons_zero, List.set_cons_succ]
              refine wpAnyH_ready (rs := [13]) (by kernel_rfl) (by simp) ?_
              refine AllReadyH.cons (o := _) rfl (fun K hK => ?_) AllReadyH.nil
              refine rstep_append_any (by kernel_rfl) _ _ 52 rfl wb.heap.size 95 i0 _ 7 72 Try.underlying52 hi hz0 hz1 hz2 rfl (by decide) v1 (0 + (k - 0)) _ rfl o1_2 (some ⟨X, 0, none⟩) 1 1 (onc ⟨⟨n, v, t, cc⟩, true, owner⟩) rfl rfl hx2 (by intro u hu; simp only [onc, List.mem_cons, List.not_mem_nil, or_false] at hu; rcases hu with rfl | rfl | rfl | rfl | rfl | rfl | rfl <;> rfl) (by unfold maxLen; omega) (by omega) hb2.size ?_
              rintro v2 ww3 ⟨o2_3, g2, -⟩
              have hb3 := hb2.grown g2 hb2.size (fun b e => (o1_2.lt b e).1)
              refine hK.out _ _ ?_ (fun _ => ?_)
              · exact Only.of_new hb3
              clear hK K g2
              try simp only [Act.put, List.getElem_toArray, List.getElem_cons_succ, List.getElem_cons_zero, List.setIfInBounds_toArray, List.set_cons_zero, List.set_cons_succ]
              refine wpAnyH_ready (rs := [20]) (by kernel_rfl) (by simp) ?_
              refine AllReadyH.cons (o := _) rfl (fun K hK => ?_) AllReadyH.nil
              refine rstep_append_any (by kernel_rfl) _ _ 52 rfl wb.heap.size 95 i0 _ 7 72 Try.underlying52 hi hz0 hz1 hz2 rfl (by decide) v2 (0 + (k - 0) + 1) _ rfl o2_3 (cutB a c k 7) (L.length - k) (c - k) _ rfl HY2.out ((HRB.out.below hb3 (Nat.le_refl _)).cutB c k (L.length * 7) 7 (by rw [onf_length]; omega)) HO2.out (by unfold maxLen; omega) (by omega) hb3.size ?_
              rintro v3 ww4 ⟨o3, g3, -⟩
              have hb4 := hb3.grown g3 hb3.size (fun b e => (o2_3.lt b e).1)
              obtain ⟨a3, c3, rfl, -, -, -⟩ := own_cells o3
              refine hK.out _ _ ?_ (fun _ => ?_)
              · exact Only.of_new hb4
              clear hK K g3
              try simp only [Act.put, List.getElem_toArray, List.getElem_cons_succ, List.getElem_cons_zero, List.setIfInBounds_toArray, List.set_cons_zero, List.set_cons_succ]
              refine wpAnyH_take (i := 21) (oi := _) (v := ?_) rfl (by kernel_rfl) (by kernel_rfl) (by kernel_rfl) (fun _ _ _ h => h) (Or.inl ⟨by rfl, ?_⟩) (by assumption) ?_
              rotate_left 1
              · (intro w hSw; (try dsimp only at hSw); go_simp; (try with_reducible rfl))
              try simp only [Act.put, List.getElem_toArray, List.getElem_cons_succ, List.getElem_cons_zero, List.setIfInBounds_toArray, List.set_cons_zero, List.set_cons_succ]
              refine wpAnyH_take (i := 22) (oi := _) (v := ?_) rfl (by kernel_rfl) (by kernel_rfl) (by kernel_rfl) (fun _ _ _ h => h) (Or.inl ⟨by rfl, ?_⟩) (by assumption) ?_
              rotate_left 1
              · (intro w hSw; (try dsimp only at hSw); go_simp; (try with_reducible rfl))
              try simp only [Act.put, List.getElem_toArray, List.getElem_cons_succ, List.getElem_cons_zero, List.setIfInBounds_toArray, List.set_cons_zero, List.set_cons_succ]
              refine wpAnyH_ready (rs := [23]) (by kernel_rfl) (by simp) ?_
              refine AllReadyH.cons (o := _) rfl (fun K hK => ?_) AllReadyH.nil
              have HW3 := Lib.hid (show CutOn wb r (rins ⟨⟨n, v, t, cc⟩, true, owner⟩ L) (ww4.setCell ⟨r, 0, none⟩ (.slice a3 (k + 1 + (L.length - k)) c3)) from by have h := rone_cut (r := r) hb4 o3 HKE.out.symm hkl; rwa [show 0 + (k - 0) + 1 + (L.length - k) = k + 1 + (L.length - k) by omega] at h)
              have q0 := keepc hb4 D0.out
              have f0 : ww4.frozen? ⟨r, 0, none⟩ = false := (World.frozen?_of_block (hb4.block r hrb)).trans DF.out
              have HBE := Lib.hid hb4
              clear o3 hb4
              go_simp
              refine hK.out _ _ ?_ (fun _ => ?_)
              · exact (Only.of_new HBE.out).setCell _ _ (fun _ => rfl)
              clear hK K q0 f0
              try simp only [Act.put, List.getElem_toArray, List.getElem_cons_succ, List.getElem_cons_zero, List.setIfInBounds_toArray, List.set_cons_zero, List.set_cons_succ]
              refine wpAnyH_done (by kernel_rfl) ?_ _
              refine NoPanic.normal ?_
              go_wp2_with fail
              go_meet
              case rel => exact HW3.out
          · have q0 := keepc hb0 D0.out
            go_simp
            refine hK.out _ _ ?_ (fun _ => ?_)
            · exact Only.of_new hb0
            clear hK K q0
            try simp only [Act.put, List.getElem_toArray, List.getElem_cons_succ, List.getElem_cons_zero, List.setIfInBounds_toArray, List.set_cons_zero, List.set_cons_succ]
            refine wpAnyH_take (i := 19) (oi := _) (v := ?_) rfl (by kernel_rfl) (by kernel_rfl) (by kernel_rfl) (fun _ _ _ h => h) (Or.inl ⟨by rfl, ?_⟩) (by assumption) ?_
            rotate_left 1
            · (intro w hSw; (try dsimp only at hSw); refine Eq.trans (exec_cut 52 95 _ _ _ (by rfl) Try.underlying52 7 (by kernel_rfl) a L.length c (by rfl) k L.length (.inr (by exact ⟨_, rfl, rfl⟩)) (.inl (by exact ⟨rfl, rfl⟩)) (by omega) (by omega)) ?_; (try with_reducible rfl))
            try simp only [Act.put, List.getElem_toArray, List.getElem_cons_succ, List.getElem_cons_zero, List.setIfInBounds_toArray, List.set_cons_zero, List.set_cons_succ]
            refine wpAnyH_ready (rs := [4, 12]) (by kernel_rfl) (by simp) ?_
            refine AllReadyH.cons (o := _) rfl (fun K hK => ?_) (AllReadyH.cons (o := _) rfl (fun K hK => ?_) AllReadyH.nil)
            · have q0 := keepc hb0 D0.out
              go_simp
              refine hK.out _ _ ?_ (fun _ => ?_)
              · exact Only.of_new hb0
              clear hK K q0
              try simp only [Act.put, List.getElem_toArray, List.getElem_cons_succ, List.getElem_cons_zero, List.setIfInBounds_toArray, List.set_cons_zero, List.set_cons_succ]
              refine wpAnyH_take (i := 6) (oi := _) (v := ?_) rfl (by kernel_rfl) (by kernel_rfl) (by kernel_rfl) (fun _ _ _ h => h) (Or.inl ⟨by rfl, ?_⟩) (by assumption) ?_
              rotate_left 1
              · (intro w hSw; (try dsimp only at hSw); refine Eq.trans (exec_cut 52 95 _ _ _ (by rfl) Try.underlying52 7 (by kernel_rfl) a L.length c (by rfl) 0 k (.inl (by exact ⟨rfl, rfl⟩)) (.inr (by exact ⟨_, rfl, rfl⟩)) (by omega) (by omega)) ?_; (try with_reducible rfl))
              try simp only [Act.put, List.getElem_toArray, List.getElem_cons_succ, List.getElem_cons_zero, List.setIfInBounds_toArray, List.set_cons_zero, List.set_cons_succ]
              refine wpAnyH_ready (rs := [7, 12]) (by kernel_rfl) (by simp) ?_
              refine AllReadyH.cons (o := _) rfl (fun K hK => ?_) (AllReadyH.cons (o := _) rfl (fun K hK => ?_) AllReadyH.nil)
              · refine rstep_append_any (by kernel_rfl) _ _ 52 rfl wb.heap.size 95 i0 _ 7 72 Try.underlying52 hi hz0 hz1 hz2 rfl (by decide) (.slice none 0 0) 0 [] rfl (World.ownsRow_nil _ _ _ _) (cutB a c 0 7) (k - 0) (c - 0) _ rfl HY1.out ((HRB.out.below hb0 (Nat.le_refl _)).cutB c 0 (k * 7) 7 (by rw [onf_length]; omega)) HO1.out (by unfold maxLen; omega) (by omega) hb0.size ?_
                rintro v1 ww1 ⟨o1_1, g1, -⟩
                have hb1 := hb0.grown g1 hb0.size (fun b e => by cases e)
                refine hK.out _ _ ?_ (fun _ => ?_)
                · exact Only.of_new hb1
                clear hK K g1
                try simp only [Act.put, List.getElem_toArray, List.getElem_cons_succ, List.getElem_cons_zero, List.setIfInBounds_toArray, List.set_cons_zero, List.set_cons_succ]
                refine wpAnyH_ready (rs := [12]) (by kernel_rfl) (by simp) ?_
                refine AllReadyH.cons (o := _) rfl (fun K hK => ?_) AllReadyH.nil
                go_simp
                obtain ⟨X, hX⟩ : ∃ X, X = ww1.heap.size := ⟨_, rfl⟩
                obtain ⟨ww2, hww2⟩ : ∃ u, u = ww1.alloc (.cells #[.string n, .string n, .int .i64 v, .int .i64 t, .bool cc, .bool true, .int .i64 owner] 95) := ⟨_, rfl⟩
                have hb2 : Below wb.heap.size wb ww2 := by rw [hww2]; exact hb1.alloc hb1.size _
                have hx2 : Rd ww2 (some ⟨X, 0, none⟩) (onc ⟨⟨n, v, t, cc⟩, true, owner⟩) := by rw [hX, hww2]; exact Rd.new ww1 _ _ _ _ (fun k u hu => by simpa [onc] using hu)
                have o1_2 : ww2.ownsRow wb.heap.size 95 7 v1 (0 + (k - 0)) ([] ++ ((onf L).take (k * 7)).drop (0 * 7)) := by rw [hww2]; exact ((Only.refl (fun _ => False) ww1).alloc (.cells #[.string n, .string n, .int .i64 v, .int .i64 t, .bool cc, .bool true, .int .i64 owner] 95)).own o1_1 (fun _ _ h => h)
                rw [← hX, ← hww2]
                refine hK.out _ _ ?_ (fun _ => ?_)
                · exact Only.of_new hb2
                clear hK K hX hww2
                try simp only [Act.put, List.getElem_toArray, List.getElem_cons_succ, List.getElem_cons_zero, List.setIfInBounds_toArray, List.set_cons_zero, List.set_cons_succ]
                refine wpAnyH_ready (rs := [13]) (by kernel_rfl) (by simp) ?_
                refine AllReadyH.cons (o := _) rfl (fun K hK => ?_) AllReadyH.nil
                refine rstep_append_any (by kernel_rfl) _ _ 52 rfl wb.heap.size 95 i0 _ 7 72 Try.underlying52 hi hz0 hz1 hz2 rfl (by decide) v1 (0 + (k - 0)) _ rfl o1_2 (some ⟨X, 0, none⟩) 1 1 (onc ⟨⟨n, v, t, cc⟩, true, owner⟩) rfl rfl hx2 (by intro u hu; simp only [onc, List.mem_cons, List.not_mem_nil, or_false] at hu; rcases hu with rfl | rfl | rfl | rfl | rfl | rfl | rfl <;> rfl) (by unfold maxLen; omega) (by omega) hb2.size ?_
                rintro v2 ww3 ⟨o2_3, g2, -⟩
                have hb3 := hb2.grown g2 hb2.size (fun b e => (o1_2.lt b e).1)
                refine hK.out _ _ ?_ (fun _ => ?_)
                · exact Only.of_new hb3
                clear hK K g2
                try simp only [Act.put, List.getElem_toArray, List.getElem_cons_succ, List.getElem_cons_zero, List.setIfInBounds_toArray, List.set_cons_zero, List.set_cons_succ]
                refine wpAnyH_ready (rs := [20]) (by kernel_rfl) (by simp) ?_
                refine AllReadyH.cons (o := _) rfl (fun K hK => ?_) AllReadyH.nil
                refine rstep_append_any (by kernel_rfl) _ _ 52 rfl wb.heap.size 95 i0 _ 7 72 Try.underlying52 hi hz0 hz1 hz2 rfl (by decide) v2 (0 + (k - 0) + 1) _ rfl o2_3 (cutB a c k 7) (L.length - k) (c - k) _ rfl HY2.out ((HRB.out.below hb3 (Nat.le_refl _)).cutB c k (L.length * 7) 7 (by rw [onf_length]; omega)) HO2.out (by unfold maxLen; omega) (by omega) hb3.size ?_
                rintro v3 ww4 ⟨o3, g3, -⟩
                have hb4 := hb3.grown g3 hb3.size (fun b e => (o2_3.lt b e).1)
                obtain ⟨a3, c3, rfl, -, -, -⟩ := own_cells o3
                refine hK.out _ _ ?_ (fun _ => ?_)
                · exact Only.of_new hb4
                clear hK K g3
                try simp only [Act.put, List.getElem_toArray, List.getElem_cons_succ, List.getElem_cons_zero, List.setIfInBounds_toArray, List.set_cons_zero, List.set_cons_succ]
                refine wpAnyH_take (i := 21) (oi := _) (v := ?_) rfl (by kernel_rfl) (by kernel_rfl) (by kernel_rfl) (fun _ _ _ h => h) (Or.inl ⟨by rfl, ?_⟩) (by assumption) ?_
                rotate_left 1
                · (intro w hSw; (try dsimp only at hSw); go_simp; (try with_reducible rfl))
                try simp only [Act.put, List.getElem_toArray, List.getElem_cons_succ, List.getElem_cons_zero, List.setIfInBounds_toArray, List.set_cons_zero, List.set_cons_succ]
                refine wpAnyH_take (i := 22) (oi := _) (v := ?_) rfl (by kernel_rfl) (by kernel_rfl) (by kernel_rfl) (fun _ _ _ h => h) (Or.inl ⟨by rfl, ?_⟩) (by assumption) ?_
                rotate_left 1
                · (intro w hSw; (try dsimp only at hSw); go_simp; (try with_reducible rfl))
                try simp only [Act.put, List.getElem_toArray, List.getElem_cons_succ, List.getElem_cons_zero, List.setIfInBounds_toArray, List.set_cons_zero, List.set_cons_succ]
                refine wpAnyH_ready (rs := [23]) (by kernel_rfl) (by simp) ?_
                refine AllReadyH.cons (o := _) rfl (fun K hK => ?_) AllReadyH.nil
                have HW3 := Lib.hid (show CutOn wb r (rins ⟨⟨n, v, t, cc⟩, true, owner⟩ L) (ww4.setCell ⟨r, 0, none⟩ (.slice a3 (k + 1 + (L.length - k)) c3)) from by have h := rone_cut (r := r) hb4 o3 HKE.out.symm hkl; rwa [show 0 + (k - 0) + 1 + (L.length - k) = k + 1 + (L.length - k) by omega] at h)
                have q0 := keepc hb4 D0.out
                have f0 : ww4.frozen? ⟨r, 0, none⟩ = false := (World.frozen?_of_block (hb4.block r hrb)).trans DF.out
                have HBE := Lib.hid hb4
                clear o3 hb4
                go_simp
                refine hK.out _ _ ?_ (fun _ => ?_)
                · exact (Only.of_new HBE.out).setCell _ _ (fun _ => rfl)
                clear hK K q0 f0
                try simp only [Act.put, List.getElem_toArray, List.getElem_cons_succ, List.getElem_cons_zero, List.setIfInBounds_toArray, List.set_cons_zero, List.set_cons_succ]
                refine wpAnyH_done (by kernel_rfl) ?_ _
                refine NoPanic.normal ?_
                go_wp2_with fail
                go_meet
                case rel => exact HW3.out
              · go_simp
                obtain ⟨X, hX⟩ : ∃ X, X = ww0.heap.size := ⟨_, rfl⟩
                obtain ⟨ww1, hww1⟩ : ∃ u, u = ww0.alloc (.cells #[.string n, .string n, .int .i64 v, .int .i64 t, .bool cc, .bool true, .int .i64 owner] 95) := ⟨_, rfl⟩
                have hb1 : Below wb.heap.size wb ww1 := by rw [hww1]; exact hb0.alloc hb0.size _
                have hx1 : Rd ww1 (some ⟨X, 0, none⟩) (onc ⟨⟨n, v, t, cc⟩, true, owner⟩) := by rw [hX, hww1]; exact Rd.new ww0 _ _ _ _ (fun k u hu => by simpa [onc] using hu)
                rw [← hX, ← hww1]
                refine hK.out _ _ ?_ (fun _ => ?_)
                · exact Only.of_new hb1
                clear hK K hX hww1
                try simp only [Act.put, List.getElem_toArray, List.getElem_cons_succ, List.getElem_cons_zero, List.setIfInBounds_toArray, List.set_cons_zero, List.set_cons_succ]
                refine wpAnyH_ready (rs := [7]) (by kernel_rfl) (by simp) ?_
                refine AllReadyH.cons (o := _) rfl (fun K hK => ?_) AllReadyH.nil
                refine rstep_append_any (by kernel_rfl) _ _ 52 rfl wb.heap.size 95 i0 _ 7 72 Try.underlying52 hi hz0 hz1 hz2 rfl (by decide) (.slice none 0 0) 0 [] rfl (World.ownsRow_nil _ _ _ _) (cutB a c 0 7) (k - 0) (c - 0) _ rfl HY1.out ((HRB.out.below hb1 (Nat.le_refl _)).cutB c 0 (k * 7) 7 (by rw [onf_length]; omega)) HO1.out (by unfold maxLen; omega) (by omega) hb1.size ?_
                rintro v1 ww2 ⟨o1_2, g1, -⟩
                have hb2 := hb1.grown g1 hb1.size (fun b e => by cases e)
                have hx2 := hx1.below ((Below.refl _ _).grown g1 (Nat.le_refl _) (fun b e => by cases e)) (Nat.le_refl _)
                refine hK.out _ _ ?_ (fun _ => ?_)
                · exact Only.of_new hb2
                clear hK K g1
                try simp only [Act.put, List.getElem_toArray, List.getElem_cons_succ, List.getElem_cons_zero, List.setIfInBounds_toArray, List.set_cons_zero, List.set_cons_succ]
                refine wpAnyH_ready (rs := [13]) (by kernel_rfl) (by simp) ?_
                refine AllReadyH.cons (o := _) rfl (fun K hK => ?_) AllReadyH.nil
                refine rstep_append_any (by kernel_rfl) _ _ 52 rfl wb.heap.size 95 i0 _ 7 72 Try.underlying52 hi hz0 hz1 hz2 rfl (by decide) v1 (0 + (k - 0)) _ rfl o1_2 (some ⟨X, 0, none⟩) 1 1 (onc ⟨⟨n, v, t, cc⟩, true, owner⟩) rfl rfl hx2 (by intro u hu; simp only [onc, List.mem_cons, List.not_mem_nil, or_false] at hu; rcases hu with rfl | rfl | rfl | rfl | rfl | rfl | rfl <;> rfl) (by unfold maxLen; omega) (by omega) hb2.size ?_
                rintro v2 ww3 ⟨o2_3, g2, -⟩
                have hb3 := hb2.grown g2 hb2.size (fun b e => (o1_2.lt b e).1)
                refine hK.out _ _ ?_ (fun _ => ?_)
                · exact Only.of_new hb3
                clear hK K g2
                try simp only [Act.put, List.getElem_toArray, List.getElem_cons_succ, List.getElem_cons_zero, List.setIfInBounds_toArray, List.set_cons_zero, List.set_cons_succ]
                refine wpAnyH_ready (rs := [20]) (by kernel_rfl) (by simp) ?_
                refine AllReadyH.cons (o := _) rfl (fun K hK => ?_) AllReadyH.nil
                refine rstep_append_any (by kernel_rfl) _ _ 52 rfl wb.heap.size 95 i0 _ 7 72 Try.underlying52 hi hz0 hz1 hz2 rfl (by decide) v2 (0 + (k - 0) + 1) _ rfl o2_3 (cutB a c k 7) (L.length - k) (c - k) _ rfl HY2.out ((HRB.out.below hb3 (Nat.le_refl _)).cutB c k (L.length * 7) 7 (by rw [onf_length]; omega)) HO2.out (by unfold maxLen; omega) (by omega) hb3.size ?_
                rintro v3 ww4 ⟨o3, g3, -⟩
                have hb4 := hb3.grown g3 hb3.size (fun b e => (o2_3.lt b e).1)
                obtain ⟨a3, c3, rfl, -, -, -⟩ := own_cells o3
                refine hK.out _ _ ?_ (fun _ => ?_)
                · exact Only.of_new hb4
                clear hK K g3
                try simp only [Act.put, List.getElem_toArray, List.getElem_cons_succ, List.getElem_cons_zero, List.setIfInBounds_toArray, List.set_cons_zero, List.set_cons_succ]
                refine wpAnyH_take (i := 21) (oi := _) (v := ?_) rfl (by kernel_rfl) (by kernel_rfl) (by kernel_rfl) (fun _ _ _ h => h) (Or.inl ⟨by rfl, ?_⟩) (by assumption) ?_
                rotate_left 1
                · (intro w hSw; (try dsimp only at hSw); go_simp; (try with_reducible rfl))
                try simp only [Act.put, List.getElem_toArray, List.getElem_cons_succ, List.getElem_cons_zero, List.setIfInBounds_toArray, List.set_cons_zero, List.set_cons_succ]
                refine wpAnyH_take (i := 22) (oi := _) (v := ?_) rfl (by kernel_rfl) (by kernel_rfl) (by kernel_rfl) (fun _ _ _ h => h) (Or.inl ⟨by rfl, ?_⟩) (by assumption) ?_
                rotate_left 1
                · (intro w hSw; (try dsimp only at hSw); go_simp; (try with_reducible rfl))
                try simp only [Act.put, List.getElem_toArray, List.getElem_cons_succ, List.getElem_cons_zero, List.setIfInBounds_toArray, List.set_cons_zero, List.set_cons_succ]
                refine wpAnyH_ready (rs := [23]) (by kernel_rfl) (by simp) ?_
                refine AllReadyH.cons (o := _) rfl (fun K hK => ?_) AllReadyH.nil
                have HW3 := Lib.hid (show CutOn wb r (rins ⟨⟨n, v, t, cc⟩, true, owner⟩ L) (ww4.setCell ⟨r, 0, none⟩ (.slice a3 (k + 1 + (L.length - k)) c3)) from by have h := rone_cut (r := r) hb4 o3 HKE.out.symm hkl; rwa [show 0 + (k - 0) + 1 + (L.length - k) = k + 1 + (L.length - k) by omega] at h)
                have q0 := keepc hb4 D0.out
                have f0 : ww4.frozen? ⟨r, 0, none⟩ = false := (World.frozen?_of_block (hb4.block r hrb)).trans DF.out
                have HBE := Lib.hid hb4
                clear o3 hb4
                go_simp
                refine hK.out _ _ ?_ (fun _ => ?_)
                · exact (Only.of_new HBE.out).setCell _ _ (fun _ => rfl)
                clear hK K q0 f0
                try simp only [Act.put, List.getElem_toArray, List.getElem_cons_succ, List.getElem_cons_zero, List.setIfInBounds_toArray, List.set_cons_zero, List.set_cons_succ]
                refine wpAnyH_done (by kernel_rfl) ?_ _
                refine NoPanic.normal ?_
                go_wp2_with fail
                go_meet
                case rel => exact HW3.out
            · go_simp
              obtain ⟨X, hX⟩ : ∃ X, X = ww0.heap.size := ⟨_, rfl⟩
              obtain ⟨ww1, hww1⟩ : ∃ u, u = ww0.alloc (.cells #[.string n, .string n, .int .i64 v, .int .i64 t, .bool cc, .bool true, .int .i64 owner] 95) := ⟨_, rfl⟩
              have hb1 : Below wb.heap.size wb ww1 := by rw [hww1]; exact hb0.alloc hb0.size _
              have hx1 : Rd ww1 (some ⟨X, 0, none⟩) (onc ⟨⟨n, v, t, cc⟩, true, owner⟩) := by rw [hX, hww1]; exact Rd.new ww0 _ _ _ _ (fun k u hu => by simpa [onc] using hu)
              rw [← hX, ← hww1]
              refine hK.out _ _ ?_ (fun _ => ?_)
              · exact Only.of_new hb1
              clear hK K hX hww1
              try simp only [Act.put, List.getElem_toArray, List.getElem_cons_succ, List.getElem_cons_zero, List.setIfInBounds_toArray, List.set_cons_zero, List.set_cons_succ]
              refine wpAnyH_ready (rs := [4]) (by kernel_rfl) (by simp) ?_
              refine AllReadyH.cons (o := _) rfl (fun K hK => ?_) AllReadyH.nil
              have q0 := keepc hb1 D0.out
              go_simp
              refine hK.out _ _ ?_ (fun _ => ?_)
              · exact Only.of_new hb1
              clear hK K q0
              try simp only [Act.put, List.getElem_toArray, List.getElem_cons_succ, List.getElem_cons_zero, List.setIfInBounds_toArray, List.set_cons_zero, List.set_cons_succ]
              refine wpAnyH_take (i := 6) (oi := _) (v := ?_) rfl (by kernel_rfl) (by kernel_rfl) (by kernel_rfl) (fun _ _ _ h => h) (Or.inl ⟨by rfl, ?_⟩) (by assumption) ?_
              rotate_left 1
              · (intro w hSw; (try dsimp only at hSw); refine Eq.trans (exec_cut 52 95 _ _ _ (by rfl) Try.underlying52 7 (by kernel_rfl) a L.length c (by rfl) 0 k (.inl (by exact ⟨rfl, rfl⟩)) (.inr (by exact ⟨_, rfl, rfl⟩)) (by omega) (by omega)) ?_; (try with_reducible rfl))
              try simp only [Act.put, List.getElem_toArray, List.getElem_cons_succ, List.getElem_cons_zero, List.setIfInBounds_toArray, List.set_cons_zero, List.set_cons_succ]
              refine wpAnyH_ready (rs := [7]) (by kernel_rfl) (by simp) ?_
              refine AllReadyH.cons (o := _) rfl (fun K hK => ?_) AllReadyH.nil
              refine rstep_append_any (by kernel_rfl) _ _ 52 rfl wb.heap.size 95 i0 _ 7 72 Try.underlying52 hi hz0 hz1 hz2 rfl (by decide) (.slice none 0 0) 0 [] rfl (World.ownsRow_nil _ _ _ _) (cutB a c 0 7) (k - 0) (c - 0) _ rfl HY1.out ((HRB.out.below hb1 (Nat.le_refl _)).cutB c 0 (k * 7) 7 (by rw [onf_length]; omega)) HO1.out (by unfold maxLen; omega) (by omega) hb1.size ?_
              rintro v1 ww2 ⟨o1_2, g1, -⟩
              have hb2 := hb1.grown g1 hb1.size (fun b e => by cases e)
              have hx2 := hx1.below ((Below.refl _ _).grown g1 (Nat.le_refl _) (fun b e => by cases e)) (Nat.le_refl _)
              refine hK.out _ _ ?_ (fun _ => ?_)
              · exact Only.of_new hb2
              clear hK K g1
              try simp only [Act.put, List.getElem_toArray, List.getElem_cons_succ, List.getElem_cons_zero, List.setIfInBounds_toArray, List.set_cons_zero, List.set_cons_succ]
              refine wpAnyH_ready (rs := [13]) (by kernel_rfl) (by simp) ?_
              refine AllReadyH.cons (o := _) rfl (fun K hK => ?_) AllReadyH.nil
              refine rstep_append_any (by kernel_rfl) _ _ 52 rfl wb.heap.size 95 i0 _ 7 72 Try.underlying52 hi hz0 hz1 hz2 rfl (by decide) v1 (0 + (k - 0)) _ rfl o1_2 (some ⟨X, 0, none⟩) 1 1 (onc ⟨⟨n, v, t, cc⟩, true, owner⟩) rfl rfl hx2 (by intro u hu; simp only [onc, List.mem_cons, List.not_mem_nil, or_false] at hu; rcases hu with rfl | rfl | rfl | rfl | rfl | rfl | rfl <;> rfl) (by unfold maxLen; omega) (by omega) hb2.size ?_
              rintro v2 ww3 ⟨o2_3, g2, -⟩
              have hb3 := hb2.grown g2 hb2.size (fun b e => (o1_2.lt b e).1)
              refine hK.out _ _ ?_ (fun _ => ?_)
              · exact Only.of_new hb3
              clear hK K g2
              try simp only [Act.put, List.getElem_toArray, List.getElem_cons_succ, List.getElem_cons_zero, List.setIfInBounds_toArray, List.set_cons_zero, List.set_cons_succ]
              refine wpAnyH_ready (rs := [20]) (by kernel_rfl) (by simp) ?_
              refine AllReadyH.cons (o := _) rfl (fun K hK => ?_) AllReadyH.nil
              refine rstep_append_any (by kernel_rfl) _ _ 52 rfl wb.heap.size 95 i0 _ 7 72 Try.underlying52 hi hz0 hz1 hz2 rfl (by decide) v2 (0 + (k - 0) + 1) _ rfl o2_3 (cutB a c k 7) (L.length - k) (c - k) _ rfl HY2.out ((HRB.out.below hb3 (Nat.le_refl _)).cutB c k (L.length * 7) 7 (by rw [onf_length]; omega)) HO2.out (by unfold maxLen; omega) (by omega) hb3.size ?_
              rintro v3 ww4 ⟨o3, g3, -⟩
              have hb4 := hb3.grown g3 hb3.size (fun b e => (o2_3.lt b e).1)
              obtain ⟨a3, c3, rfl, -, -, -⟩ := own_cells o3
              refine hK.out _ _ ?_ (fun _ => ?_)
              · exact Only.of_new hb4
              clear hK K g3
              try simp only [Act.put, List.getElem_toArray, List.getElem_cons_succ, List.getElem_cons_zero, List.setIfInBounds_toArray, List.set_cons_zero, List.set_cons_succ]
              refine wpAnyH_take (i := 21) (oi := _) (v := ?_) rfl (by kernel_rfl) (by kernel_rfl) (by kernel_rfl) (fun _ _ _ h => h) (Or.inl ⟨by rfl, ?_⟩) (by assumption) ?_
              rotate_left 1
              · (intro w hSw; (try dsimp only at hSw); go_simp; (try with_reducible rfl))
              try simp only [Act.put, List.getElem_toArray, List.getElem_cons_succ, List.getElem_cons_zero, List.setIfInBounds_toArray, List.set_cons_zero, List.set_cons_succ]
              refine wpAnyH_take (i := 22) (oi := _) (v := ?_) rfl (by kernel_rfl) (by kernel_rfl) (by kernel_rfl) (fun _ _ _ h => h) (Or.inl ⟨by rfl, ?_⟩) (by assumption) ?_
              rotate_left 1
              · (intro w hSw; (try dsimp only at hSw); go_simp; (try with_reducible rfl))
              try simp only [Act.put, List.getElem_toArray, List.getElem_cons_succ, List.getElem_cons_zero, List.setIfInBounds_toArray, List.set_cons_zero, List.set_cons_succ]
              refine wpAnyH_ready (rs := [23]) (by kernel_rfl) (by simp) ?_
              refine AllReadyH.cons (o := _) rfl (fun K hK => ?_) AllReadyH.nil
              have HW3 := Lib.hid (show CutOn wb r (rins ⟨⟨n, v, t, cc⟩, true, owner⟩ L) (ww4.setCell ⟨r, 0, none⟩ (.slice a3 (k + 1 + (L.length - k)) c3)) from by have h := rone_cut (r := r) hb4 o3 HKE.out.symm hkl; rwa [show 0 + (k - 0) + 1 + (L.length - k) = k + 1 + (L.length - k) by omega] at h)
              have q0 := keepc hb4 D0.out
              have f0 : ww4.frozen? ⟨r, 0, none⟩ = false := (World.frozen?_of_block (hb4.block r hrb)).trans DF.out
              have HBE := Lib.hid hb4
              clear o3 hb4
              go_simp
              refine hK.out _ _ ?_ (fun _ => ?_)
              · exact (Only.of_new HBE.out).setCell _ _ (fun _ => rfl)
              clear hK K q0 f0
              try simp only [Act.put, List.getElem_toArray, List.getElem_cons_succ, List.getElem_cons_zero, List.setIfInBounds_toArray, List.set_cons_zero, List.set_cons_succ]
              refine wpAnyH_done (by kernel_rfl) ?_ _
              refine NoPanic.normal ?_
              go_wp2_with fail
              go_meet
              case rel => exact HW3.out
        case rest =>
          have HFIN := Lib.hid (rone_fin H.out HBB.out HBW.out hcut)
          have y0 := HFIN.out.2 _ _ (Nat.le_refl _) X0b.out
          have y1 := HFIN.out.2 _ _ (by omega) X1b.out
          have cx : ∀ i, wc.cell? ⟨w.heap.size, i, none⟩ = _ := fun i => cell_of_row _ _ _ _ _ _ y0
          have co : ∀ i, wc.cell? ⟨w.heap.size + 1, i, none⟩ = _ := fun i => cell_of_row _ _ _ _ _ _ y1
          have fo : ∀ i, wc.frozen? ⟨w.heap.size + 1, i, none⟩ = false := fun i => frozen_of_row _ _ _ _ _ y1
          have Y1 := Lib.hid y1
          clear y0 y1 hcut
          have HS2 := Lib.hid (show w.heap.size + 1 < wb.heap.size by omega)
          go_wp2
          have h7 := Y1.out
          refine bodyPost_ret (results_cell1 rfl _ _ _ (w.heap.size + 1) _ rfl (load_seen _ _ _ _ _ _ _ _ _ (set7 _ _ _ _ _ _ _ _ _ _ _ _ _ _ _ _ _ h7))) rfl ?_
          refine ⟨rfl, rone_end H.out HFIN.out.1 ?_ (by omega) HS2.out HBW.out.size⟩
          with_reducible exact set7_only _ _ _ _ _ _ _ _ _
end
end Go.Proofs.Ythademifhnkbiaa
