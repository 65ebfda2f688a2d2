/- Chapter 18, the reference: its windows in memory; New, Note, SameWindows of one list: the walks. -/
import Derived.Test.YtbkpgpaanhfjfaaWiN
namespace Go.Proofs.Ytbkpgpaanhfjfaa
open Go.RowKit Go.Sort K
/-- The reference's windows: a box at r, lists that are only read in the blocks of G. -/
def RwIs (W : World) (B r : Nat) (s : Cfg) (L : List WV) (G : Nat → Prop) : Prop :=
  ∃ a c, W.heap[r]? = some (.cells (s.row (.slice a L.length c)) 73 (0, 0)) ∧ (L.length ≤ c ∧ c ≤ 9223372036854775807 ∧ (a = none → c = 0)) ∧ WinsM G W L a ∧ B ≤ r ∧ ∀ k, G k → B ≤ k ∧ k < W.heap.size ∧ k ≠ r
def RwTo (w : World) (B r : Nat) (G : Nat → Prop) (s' : Cfg) (L' : List WV) (w' : World) : Prop := ∃ G', RwIs w' B r s' L' G' ∧ Only (· = r) w w' ∧ ∀ k, G' k → G k ∨ w.heap.size ≤ k
section
variable {w w' : World} {B r : Nat} {s s' : Cfg} {L : List WV} {G : Nat → Prop}
theorem RwIs.only {P : Nat → Prop} (h : RwIs w B r s L G) (ho : Only P w w') (hr : ¬ P r) (hg : ∀ k, G k → ¬ P k) : RwIs w' B r s L G := by
  obtain ⟨a, c, h1, h2, h3, h4, h5⟩ := h
  exact ⟨a, c, ho.heap h1 hr, h2, h3.only ho hg, h4, fun k hk => ⟨(h5 k hk).1, Nat.lt_of_lt_of_le (h5 k hk).2.1 ho.size, (h5 k hk).2.2⟩⟩
theorem RwIs.new (h : RwIs w B r s L G) (hb : Below w.heap.size w w') : RwIs w' B r s L G := h.only (P := fun _ => False) (Only.of_new hb) (fun h => h) (fun _ _ h => h)
theorem RwIs.set (h : RwIs w B r s L G) (j : Nat) (v : Value) (hr : ∀ p, (s.row p).setIfInBounds j v = s'.row p) : RwTo w B r G s' L (w.setCell ⟨r, j, none⟩ v) := by
  obtain ⟨a, c, h1, h2, h3, h4, h5⟩ := h
  have ho : Only (· = r) w (w.setCell ⟨r, j, none⟩ v) := (Only.refl _ _).setCell _ _ (fun _ => rfl)
  refine ⟨G, ⟨a, c, ?_, h2, h3.only ho (fun k hk e => (h5 k hk).2.2 e), h4, fun k hk => ⟨(h5 k hk).1, Nat.lt_of_lt_of_le (h5 k hk).2.1 ho.size, (h5 k hk).2.2⟩⟩, ho, fun _ h => .inl h⟩
  rw [heap_setCell_same _ _ _ _ _ _ h1, hr]
theorem RwTo.same (h : RwIs w B r s L G) (hb : Below w.heap.size w w') : RwTo w B r G s L w' := ⟨G, h.new hb, Only.of_new hb, fun _ h => .inl h⟩
set_option maxHeartbeats 1000000 in
theorem rwnew_any (w : World) (len lat most : Int) : Calls Try.prog 26 #[.int .i64 len, .int .i64 lat, .int .i64 most] w fun e w' => ∃ r, e = .returned (.pointer (some ⟨r, 0, none⟩)) ∧ RwIs w' w.heap.size r (cfg0 len lat most) [] (fun _ => False) ∧ Below w.heap.size w w' := by
  go_enter Try.func26, Try.ntmps26
  go_wp2
  go_ret
  exact ⟨w.heap.size, rfl, ⟨none, 0, heap_alloc_new w _, ⟨by simp, by omega, fun _ => rfl⟩, WinsM.nil _ _, Nat.le_refl _, fun _ h => h.elim⟩, (Below.refl _ _).alloc (Nat.le_refl _) _⟩
set_option maxHeartbeats 1000000 in
theorem rwnote_any (h : RwIs w B r s L G) (hm : -1 ≤ s.mark) (t : Int) : Calls Try.prog 33 #[.pointer (some ⟨r, 0, none⟩), .int .i64 t] w fun e w' => (∃ v, e = .returned v) ∧ RwTo w B r G (noteS s t) L w' := by
  obtain ⟨a, c, h1, -⟩ := id h
  have c5 : w.cell? ⟨r, 5, none⟩ = some (.int .i64 s.mark) := by rw [cell_of_row _ _ _ _ _ _ h1]; rfl
  have z5 : w.frozen? ⟨r, 5, none⟩ = false := frozen_of_row w _ _ _ _ h1
  by_cases ht : s.mark < t
  · by_cases ht2 : t ≤ 1125899906842624
    · have HF := Lib.hid (show RwTo w B r G (noteS s t) L (w.setCell ⟨r, 5, none⟩ (.int .i64 t)) from by
        refine h.set (s' := noteS s t) 5 (.int .i64 t) (fun p => ?_)
        unfold noteS
        rw [if_pos ⟨by omega, ht2⟩, show max s.mark t = t by omega]
        rfl)
      clear h h1
      go_enter Try.func33, Try.ntmps33
      go_wp2
      go_end0
      exact ⟨⟨_, rfl⟩, HF.out⟩
    · have HF := Lib.hid (show RwTo w B r G (noteS s t) L w from by
        have e : noteS s t = s := by unfold noteS; rw [if_neg (by omega)]
        rw [e]
        exact RwTo.same h (Below.refl _ _))
      clear h h1
      go_enter Try.func33, Try.ntmps33
      go_wp2
      go_end0
      exact ⟨⟨_, rfl⟩, HF.out⟩
  · have HF := Lib.hid (show RwTo w B r G (noteS s t) L w from by
      have e : noteS s t = s := by
        unfold noteS
        split
        · rw [show max s.mark t = s.mark by omega]
        · rfl
      rw [e]
      exact RwTo.same h (Below.refl _ _))
    clear h h1
    go_enter Try.func33, Try.ntmps33
    go_wp2
    go_end0
    exact ⟨⟨_, rfl⟩, HF.out⟩
end
theorem crs_all {w : World} {cr : List Cr} {a : Option Addr} (h : Rd w a (crf cr)) {k : Nat} (hk : k < cr.length) :
    ∃ b off, a = some ⟨b, off, none⟩ ∧ b < w.heap.size ∧ w.cell? ⟨b, off + k * 3, none⟩ = some (encStr cr[k].nm) ∧ w.cell? ⟨b, off + k * 3 + 1, none⟩ = some (.int .i64 cr[k].inc) ∧ w.cell? ⟨b, off + k * 3 + 2, none⟩ = some (.bool cr[k].over) := by
  have hy : cr[k]? = some cr[k] := List.getElem?_eq_getElem hk
  have hg : ∀ j v, j < 3 → cr[k].cells[j]? = some v → (crf cr)[3 * k + j]? = some v := fun j v hj hv => (flat_get _ 3 (fun _ => rfl) cr k j _ hy hj).trans hv
  obtain ⟨b, off, rfl, hb, h0⟩ := h.at (hg 0 _ (by omega) rfl)
  have ha : ∀ j v, j < 3 → cr[k].cells[j]? = some v → w.cell? ⟨b, off + k * 3 + j, none⟩ = some v := fun j v hj hv => by
    obtain ⟨b', off', e, -, h1⟩ := h.at (hg j v hj hv)
    cases e
    rw [← h1]; congr 2; omega
  exact ⟨b, off, rfl, hb, by simpa using ha 0 _ (by omega) rfl, ha 1 _ (by omega) rfl, ha 2 _ (by omega) rfl⟩
set_option maxHeartbeats 4000000 in
set_option maxRecDepth 100000 in
theorem samewin_eq {w : World} {l : List WV} {a1 a2 : Option Addr} {c1 c2 : Nat} {P Q : Nat → Prop} (h1 : WinsM P w l a1) (h2 : WinsM Q w l a2) (hl : l.length ≤ 1000) (hcr : ∀ v ∈ l, v.cr.length ≤ 1000) :
    Calls Try.prog 35 #[.slice a1 l.length c1, .slice a2 l.length c2] w fun e w' => e = .returned (.bool true) ∧ Below w.heap.size w w' := by
  have H1 := Lib.hid h1
  have H2 := Lib.hid h2
  have HCR := Lib.hid hcr
  clear h1 h2 hcr
  go_enter Try.func35, Try.ntmps35
  go_wp2_with fail
  go_loopw [5] (fun iv wr => ∃ k : Nat, iv = .int .i64 k ∧ k ≤ l.length ∧ Below w.heap.size w wr) (fun iv _ => l.length - (intOf iv).toNat)
  case atStart => exact ⟨0, rfl, Nat.zero_le _, Below.refl _ _⟩
  case round =>
    obtain ⟨k, rfl, hk, hbw⟩ := hrel
    obtain ⟨wz, hwz⟩ : ∃ wz, wz = wr := ⟨_, rfl⟩
    subst hwz
    by_cases hc : k < l.length
    · obtain ⟨b, off, ra, rc, rfl, hb, -, d0, d1, hr1, -⟩ := wins_at H1.out hc
      obtain ⟨b', off', ra', rc', rfl, hb', -, d0', d1', hr2, -⟩ := wins_at H2.out hc
      have hvl := HCR.out _ (List.getElem_mem hc)
      obtain ⟨v, hv⟩ : ∃ v, v = l[k] := ⟨_, rfl⟩
      rw [← hv] at d0 d1 hr1 d0' d1' hr2 hvl
      clear hv
      have e0 := keepc hbw d0
      have e1 := keepc hbw d1
      have e0' := keepc hbw d0'
      have e1' := keepc hbw d1'
      have hz := Nat.lt_of_lt_of_le hb hbw.size
      have hz' := Nat.lt_of_lt_of_le hb' hbw.size
      have HD := Lib.hid (And.intro d1 d1')
      have HR := Lib.hid (And.intro hr1 hr2)
      have HBW := Lib.hid hbw
      have HBB := Lib.hid (And.intro hb hb')
      clear d0 d1 d0' d1' hr1 hr2 hbw hb hb'
      go_wp2_with fail
      go_quiet (fail)
      go_wp2_with fail
      obtain ⟨V, hV⟩ : ∃ V, V = wz.drewN nq := ⟨_, rfl⟩
      have HV := Lib.hid (show Below w.heap.size w V from by rw [hV]; exact below_drewN HBW.out _)
      rw [← hV]
      clear hV e0 e1 e0' e1' hz hz'
      go_loopw [6] (fun jv wr => ∃ j : Nat, jv = .int .i64 j ∧ j ≤ v.cr.length ∧ Below w.heap.size w wr) (fun jv _ => v.cr.length - (intOf jv).toNat)
      case atStart => exact ⟨0, rfl, Nat.zero_le _, HV.out⟩
      case round =>
        obtain ⟨j, rfl, hj, hby⟩ := hrel
        obtain ⟨wy, hwy⟩ : ∃ wy, wy = wr := ⟨_, rfl⟩
        subst hwy
        have e1 := keepc hby HD.out.1
        have e1' := keepc hby HD.out.2
        have hz := Nat.lt_of_lt_of_le HBB.out.1 hby.size
        have hz' := Nat.lt_of_lt_of_le HBB.out.2 hby.size
        by_cases hcj : j < v.cr.length
        · obtain ⟨p, po, rfl, hp, f0, f1, f2⟩ := crs_all HR.out.1 hcj
          obtain ⟨p', po', rfl, hp', f0', f1', f2'⟩ := crs_all HR.out.2 hcj
          obtain ⟨x, hx⟩ : ∃ x, x = v.cr[j] := ⟨_, rfl⟩
          rw [← hx] at f0 f1 f2 f0' f1' f2'
          clear hx
          have g0 := keepc hby f0
          have g1 := keepc hby f1
          have g2 := keepc hby f2
          have g0' := keepc hby f0'
          have g1' := keepc hby f1'
          have g2' := keepc hby f2'
          have hy := Nat.lt_of_lt_of_le hp hby.size
          have hy' := Nat.lt_of_lt_of_le hp' hby.size
          have HBY := Lib.hid hby
          clear f0 f1 f2 f0' f1' f2' hp hp' hby
          unfold encStr at g0 g0'
          go_wp2_with fail
          go_quiet (fail)
          go_wp2_with fail
          have HF := Lib.hid (show Below w.heap.size w (wy.drewN nq) from below_drewN HBY.out _)
          go_wp2
          go_roundw
          case rel => exact ⟨j + 1, by go_num, by omega, HF.out⟩
          case measure => simp [intOf]; omega
        · obtain rfl : j = v.cr.length := by omega
          have HBY := Lib.hid hby
          clear hby
          go_wp2
          go_roundw
          case rel => exact ⟨k + 1, by go_num, by omega, HBY.out⟩
          case measure => simp [intOf]; omega
    · obtain rfl : k = l.length := by omega
      have HF := Lib.hid hbw
      clear hbw
      go_wp2
      go_ret
      exact ⟨rfl, HF.out⟩
end Go.Proofs.Ytbkpgpaanhfjfaa
