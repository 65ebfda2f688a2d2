/- WindowOnce: the walk. -/
import Derived.Test.YtbkpgpaanhfjfaaWiN
namespace Go.Proofs.Ytbkpgpaanhfjfaa
open Go.RowKit Go.Sort K
theorem addW_most (s : Cfg) (L : List WV) (nm : List UInt8) (time inc : Int) : (addW s L nm time inc).2.2.1.most = s.most := by
  unfold addW
  split
  · rfl
  · split
    · rfl
    · split
      · rfl
      · split <;> rfl
theorem clockW_most (s : Cfg) (L : List WV) (now : Int) : (clockW s L now).2.1.most = s.most := by
  unfold clockW
  split <;> rfl
theorem clockW_late (s : Cfg) (L : List WV) (now : Int) : (clockW s L now).2.1.late = s.late := by
  unfold clockW
  split <;> rfl
/-- The windows and the two variables in memory. -/
structure OnM (w : World) (g pl ps : Nat) (s : Cfg) (L : List WV) (sum last : Int) (F : List Nat) (W : World) : Prop where
  win : WinIs W w.heap.size g s L F
  cl : W.heap[pl]? = some (icell last)
  cs : W.heap[ps]? = some (icell sum)
  nl : ¬ pl ∈ F
  ns : ¬ ps ∈ F
  ne : pl ≠ ps
  gl : w.heap.size ≤ pl
  gs : w.heap.size ≤ ps
  bel : Below w.heap.size w W
section
variable {w W W' : World} {g pl ps : Nat} {s s' : Cfg} {L L' : List WV} {su last su' last' : Int} {F : List Nat}
theorem OnM.lt (h : OnM w g pl ps s L su last F W) : pl < W.heap.size ∧ ps < W.heap.size := ⟨(Array.getElem?_eq_some_iff.1 h.cl).1, (Array.getElem?_eq_some_iff.1 h.cs).1⟩
theorem OnM.new (h : OnM w g pl ps s L su last F W) (hb : Below W.heap.size W W') : OnM w g pl ps s L su last F W' :=
  { h with win := h.win.new hb, cl := keeph' hb h.cl, cs := keeph' hb h.cs, bel := h.bel.trans (hb.mono h.bel.size) }
theorem OnM.to (h : OnM w g pl ps s L su last F W) (ht : WinTo W w.heap.size g F s' L' W') : ∃ F', OnM w g pl ps s' L' su last F' W' := by
  obtain ⟨F', h1, h2, h3⟩ := ht
  have hlt := h.lt
  exact ⟨F', ⟨h1, h2.heap h.cl h.nl, h2.heap h.cs h.ns, fun hm => (h3 _ hm).elim h.nl (fun e => by omega), fun hm => (h3 _ hm).elim h.ns (fun e => by omega), h.ne, h.gl, h.gs, h.bel.trans (h2.below h.bel.size (fun k hk => (h.win.in k hk).1))⟩⟩
theorem OnM.clos (h : OnM w g pl ps s L su last F W) (h1 : W'.heap[pl]? = some (icell last')) (h2 : W'.heap[ps]? = some (icell su')) (ho : Only (fun q => q = pl ∨ q = ps) W W') : OnM w g pl ps s L su' last' F W' :=
  { h with win := h.win.only ho (fun k hk hq => hq.elim (fun e => h.nl (e ▸ hk)) (fun e => h.ns (e ▸ hk))), cl := h1, cs := h2, bel := h.bel.trans (ho.below h.bel.size (fun k hk => hk.elim (fun e => e ▸ h.gl) (fun e => e ▸ h.gs))) }
theorem OnM.sset (h : OnM w g pl ps s L su last F W) (x : Int) : OnM w g pl ps s L x last F (W.setCell ⟨ps, 0, none⟩ (.int .i64 x)) :=
  h.clos ((Below.heap_setCell _ _ _ _ h.ne).trans h.cl) (heap_setCell_same _ _ _ _ _ _ h.cs) ((Only.refl _ _).setCell _ _ (fun _ => .inr rfl))
end
set_option maxHeartbeats 8000000 in
set_option maxRecDepth 100000 in
theorem windowOnce_any (w : World) (len lat most : Int) (a : Option Addr) (c : Nat) (l : List ActR) (hx : ActsM w l a) (hl : l.length ≤ 9223372036854775807) :
    Calls Try.prog 3 #[.int .i64 len, .int .i64 lat, .int .i64 most, .slice a l.length c] w fun e w' => e = .returned (.bool true) ∧ Below w.heap.size w w' := by
  have HX := Lib.hid hx
  clear hx
  by_cases hm : MayW len lat most
  rotate_left 1
  · have HM := Lib.hid (may_no w len lat most hm)
    clear hm
    go_enter Try.func3, Try.ntmps3
    go_wp2_with fail
    refine HM.out.mono ?_
    rintro e w1 ⟨rfl, rfl⟩
    go_wp2_with fail
    refine (wknown_any w).mono ?_
    rintro e w2 ⟨rfl, hb⟩
    go_wp2
    go_ret
    exact ⟨rfl, hb⟩
  by_cases h100 : 100 < l.length
  · have HM := Lib.hid (may_yes w len lat most hm)
    clear hm
    go_enter Try.func3, Try.ntmps3
    go_wp2_with fail
    refine HM.out.mono ?_
    rintro e w1 ⟨rfl, rfl⟩
    go_wp2_with fail
    refine (wknown_any w).mono ?_
    rintro e w2 ⟨rfl, hb⟩
    go_wp2
    go_ret
    exact ⟨rfl, hb⟩
  have HM := Lib.hid (may_yes w len lat most hm)
  have HMAY := Lib.hid hm
  clear hm
  go_enter Try.func3, Try.ntmps3
  go_wp2_with fail
  refine HM.out.mono ?_
  rintro e w1 ⟨rfl, rfl⟩
  go_wp2_with fail
  refine (begin_any w len lat most HMAY.out).mono ?_
  rintro e w1 ⟨g, F, p, rfl, hw, hb⟩
  have HW := Lib.hid hw
  have HB := Lib.hid hb
  clear hw hb HM
  go_wp2_with fail
  obtain ⟨pl, hpl⟩ : ∃ x, x = w1.heap.size + 1 := ⟨_, rfl⟩
  obtain ⟨ps, hps⟩ : ∃ x, x = w1.heap.size := ⟨_, rfl⟩
  obtain ⟨V, hV⟩ : ∃ V, V = (w1.alloc (.cells #[.int .i64 0] 2)).alloc (.cells #[.int .i64 (-1)] 2) := ⟨_, rfl⟩
  have HV := Lib.hid (show OnM w g pl ps (cfg0 len lat most) [] 0 (-1) F V from by
    have hb1 : Below w1.heap.size w1 V := by rw [hV]; exact ((Below.refl _ w1).alloc (Nat.le_refl _) _).alloc (by simp) _
    have hlt := HW.out.in
    have hsz := HB.out.size
    refine ⟨HW.out.new hb1, ?_, ?_, fun h => by have := (hlt _ h).2; omega, fun h => by have := (hlt _ h).2; omega, by omega, by omega, by omega, HB.out.trans (hb1.mono HB.out.size)⟩
    · rw [hV, hpl]
      have h := heap_alloc_new (w1.alloc (.cells #[.int .i64 0] 2)) (.cells #[.int .i64 (-1)] 2)
      rw [World.size_alloc] at h
      exact h
    · rw [hV, hps]
      exact (Below.heap_alloc _ _ _ (by simp)).trans (heap_alloc_new w1 _))
  have HI0 := Lib.hid (OnI.zero HMAY.out)
  rw [← hpl, ← hps, ← hV]
  clear hV hpl hps
  go_loopw [13, 16] (fun lv iv wr => ∃ (k : Nat) (s : Cfg) (L : List WV) (su last : Int) (F : List Nat), iv = .int .i64 k ∧ k ≤ l.length ∧ lv = .int .i64 s.late ∧ s.most = most ∧ OnI k s L su last ∧ OnM w g pl ps s L su last F wr) (fun _ iv _ => l.length - (intOf iv).toNat)
  case atStart => exact ⟨0, cfg0 len lat most, [], 0, -1, F, rfl, Nat.zero_le _, rfl, rfl, HI0.out, HV.out⟩
  case round =>
    obtain ⟨k, s, L, su, last, F, rfl, hk, rfl, hmo, hi, hmm⟩ := hrel
    have HI := Lib.hid hi
    have HM := Lib.hid hmm
    have HMO := Lib.hid hmo
    obtain ⟨wz, hwz⟩ : ∃ wz, wz = wr := ⟨_, rfl⟩
    subst hwz
    clear hi hmm HV HI0
    by_cases hc : k < l.length
    · obtain ⟨b, off, rfl, hb, hQ, d0, d1, d2, d3, d4, d5⟩ := acts_at HX.out hc
      have hbel := HM.out.bel
      have e0 : wz.cell? ⟨b, off + k * 6, none⟩ = some _ := keepc hbel d0
      have e1 : wz.cell? ⟨b, off + k * 6 + 1, none⟩ = some _ := keepc hbel d1
      have e2 : wz.cell? ⟨b, off + k * 6 + 2, none⟩ = some _ := keepc hbel d2
      have e3 : wz.cell? ⟨b, off + k * 6 + 3, none⟩ = some _ := keepc hbel d3
      have e4 : wz.cell? ⟨b, off + k * 6 + 4, none⟩ = some _ := keepc hbel d4
      have e5 : wz.cell? ⟨b, off + k * 6 + 5, none⟩ = some _ := keepc hbel d5
      have hb2 : b < wz.heap.size := Nat.lt_of_lt_of_le hb hbel.size
      clear d0 d1 d2 d3 d4 d5 hb hbel
      obtain ⟨x, hx⟩ : ∃ x, x = l[k] := ⟨_, rfl⟩
      rw [← hx] at hQ e0 e1 e2 e3 e4 e5
      clear hx
      obtain ⟨kind, n, nm, time, inc, rst⟩ := x
      obtain ⟨hq1, hq2, hq3, hq4⟩ := hQ
      simp only at e0 e1 e2 e3 e4 e5 hq1 hq2 hq3 hq4
      obtain ⟨A, hA⟩ : ∃ A, A = wz.alloc (.cells #[.int .i64 kind, .int .i64 n, encStr nm, .int .i64 time, .int .i64 inc, .bool rst] 39) := ⟨_, rfl⟩
      have hnb : Below wz.heap.size wz A := by rw [hA]; exact (Below.refl _ wz).alloc (Nat.le_refl _) _
      have HA := Lib.hid hA
      have HMA := Lib.hid (HM.out.new hnb)
      have HK := Lib.hid (show k ≤ 100 from by omega)
      clear hnb hA
      by_cases hk1 : kind = 1
      · subst hk1
        have HN := Lib.hid (note_any HMA.out.win HI.out.sok.len.1 n)
        rw [HA.out] at HN
        go_wp2_with fail
        refine HN.out.mono ?_
        rintro e w5 ⟨⟨v5, rfl⟩, hto⟩
        rw [← HA.out] at hto
        obtain ⟨F5, hm5⟩ := HMA.out.to hto
        have HM5 := Lib.hid hm5
        have HI5 := Lib.hid ((HI.out.note n).up HK.out)
        clear hto hm5
        have HOP := Lib.hid (open_any HM5.out.win HI5.out.wbd HI5.out.sok.len.1)
        have hnum : ((L).length : Int) ≤ most := by have h1 := HI5.out.num; have h2 : (noteS s n).most = most := HMO.out; omega
        go_wp2_with fail
        refine HOP.out.mono ?_
        rintro e w9 ⟨⟨a9, c9, rfl, hw9⟩, hb9⟩
        have HR := Lib.hid (show ∃ (k' : Nat) (t : Cfg) (L : List WV) (su last : Int) (F : List Nat), Value.int .i64 ((k : Int) + 1) = .int .i64 k' ∧ k' ≤ l.length ∧ Value.int .i64 s.late = Value.int .i64 t.late ∧ t.most = most ∧ OnI k' t L su last ∧ OnM w g pl ps t L su last F w9 from ⟨k + 1, noteS s n, _, _, _, _, by simp, by omega, rfl, HMO.out, HI5.out, HM5.out.new hb9⟩)
        clear hw9 hb9
        go_wp2
        go_roundw
        case rel => exact HR.out
        case measure => simp [intOf]; omega
      by_cases hk3 : kind = 3
      · subst hk3
        have HN := Lib.hid (clock_any HMA.out.win HI.out.wbd HI.out.sok n)
        rw [HA.out] at HN
        go_wp2_with fail
        refine HN.out.mono ?_
        rintro e w5 ⟨a5, c5, rfl, hws, hto⟩
        rw [← HA.out] at hto hws
        obtain ⟨F5, hm5⟩ := HMA.out.to hto
        obtain ⟨hcl, hi5⟩ := HI.out.clock HM.out.win.ws n
        have hlt := HMA.out.lt
        have HCL := Lib.hid (closed_any (c := c5) hm5.cl hm5.cs hm5.ne hws (fun q hq e => by have := hq.1; omega) hcl)
        have HM5 := Lib.hid hm5
        have HI5 := Lib.hid (hi5.up HK.out)
        have HLT := Lib.hid (clockW_late s L n)
        have HMS := Lib.hid ((clockW_most s L n).trans HMO.out)
        clear hto hm5 hcl hi5 hws hlt
        obtain ⟨r5, hr5⟩ : ∃ r, r = clockW s L n := ⟨_, rfl⟩
        rw [← hr5] at HM5 HI5 HLT HMS HCL ⊢
        obtain ⟨x5, s5, L5⟩ := r5
        simp only at HM5 HI5 HLT HMS HCL ⊢
        clear hr5
        go_wp2_with fail
        refine HCL.out.mono ?_
        rintro e w6 ⟨rfl, h1, h2, ho⟩
        have HM6 := Lib.hid (HM5.out.clos h1 h2 ho)
        clear h1 h2 ho
        have HOP := Lib.hid (open_any HM6.out.win HI5.out.wbd HI5.out.sok.len.1)
        have hnum : ((L5).length : Int) ≤ most := by have h1 := HI5.out.num; have h2 : (s5).most = most := HMS.out; omega
        go_wp2_with fail
        refine HOP.out.mono ?_
        rintro e w9 ⟨⟨a9, c9, rfl, hw9⟩, hb9⟩
        have HR := Lib.hid (show ∃ (k' : Nat) (t : Cfg) (L : List WV) (su last : Int) (F : List Nat), Value.int .i64 ((k : Int) + 1) = .int .i64 k' ∧ k' ≤ l.length ∧ Value.int .i64 s.late = Value.int .i64 t.late ∧ t.most = most ∧ OnI k' t L su last ∧ OnM w g pl ps t L su last F w9 from ⟨k + 1, s5, _, _, _, _, by simp, by omega, (by rw [HLT.out]), HMS.out, HI5.out, HM6.out.new hb9⟩)
        clear hw9 hb9
        go_wp2
        go_roundw
        case rel => exact HR.out
        case measure => simp [intOf]; omega
      by_cases hk2 : kind = 2
      · subst hk2
        by_cases hge : 1125899906842624 ≤ inc
        · have HI5 := Lib.hid (HI.out.up HK.out)
          rw [HA.out] at HMA
          have HR := Lib.hid (show ∃ (k' : Nat) (t : Cfg) (L : List WV) (su last : Int) (F : List Nat), Value.int .i64 ((k : Int) + 1) = .int .i64 k' ∧ k' ≤ l.length ∧ Value.int .i64 s.late = Value.int .i64 t.late ∧ t.most = most ∧ OnI k' t L su last ∧ OnM w g pl ps t L su last F (wz.alloc (.cells #[.int .i64 2, .int .i64 n, encStr nm, .int .i64 time, .int .i64 inc, .bool rst] 39)) from ⟨k + 1, s, _, _, _, _, by simp, by omega, rfl, HMO.out, HI5.out, HMA.out⟩)
          go_wp2
          go_roundw
          case rel => exact HR.out
          case measure => simp [intOf]; omega
        · have HN := Lib.hid (add_any HMA.out.win HI.out.wbd HI.out.sok nm time inc rst hq3 hq4.2)
          have hadd := HI.out.add HK.out HM.out.win.ws HM.out.win.cs (show nm.length ≤ 140737488355328 by omega) time (show inc < 1125899906842624 by omega)
          have HMS := Lib.hid ((addW_most s L nm time inc).trans HMO.out)
          obtain ⟨r5, hr5⟩ : ∃ r, r = addW s L nm time inc := ⟨_, rfl⟩
          rw [← hr5] at HN HMS hadd
          obtain ⟨b5, x5, s5, L5⟩ := r5
          simp only at HMS hadd
          clear hr5
          have HADD := Lib.hid hadd
          rw [HA.out] at HN
          have hsb : 0 ≤ su ∧ su ≤ 1125899906842624000 := by
            have h1 := HI.out.sum
            have h2 := HI.out.tot
            have h3 := HK.out
            have h4 := totW_nn HI.out.crb
            omega
          have hlb : 0 ≤ s.late ∧ s.late ≤ 101 := by have h1 := HI.out.late; have h3 := HI.out.k100; omega
          clear hadd
          go_wp2_with fail
          refine HN.out.mono ?_
          rintro e w5 ⟨a5, c5, rfl, hws, hto⟩
          rw [← HA.out] at hto hws
          simp only at hto hws
          have hcA : w5.cell? ⟨wz.heap.size, 4, none⟩ = some (.int .i64 inc) := by
            obtain ⟨F9, -, ho9, -⟩ := hto
            refine ho9.cell (p := ⟨wz.heap.size, 4, none⟩) ?_ (fun h => by have h9 := (HM.out.win.in _ h).2; exact absurd h9 (Nat.lt_irrefl _))
            rw [HA.out, cell_of_row _ _ _ _ _ _ (heap_alloc_new wz _)]
            rfl
          obtain ⟨F5, hm5⟩ := HMA.out.to hto
          have hlt := HMA.out.lt
          rcases HADD.out with ⟨h1, h2, h3, h4⟩ | ⟨h1, h2, h3, h4, h5⟩
          · subst h1
            subst h2
            have HCL := Lib.hid (closed_any (c := c5) (l := []) hm5.cl hm5.cs hm5.ne hws (fun q hq e => by have hq : A.heap.size ≤ q := hq; omega) ⟨by simp [WS], by simp, hsb.1, by omega, HI.out.last.1, by simp⟩)
            have HM5 := Lib.hid hm5
            have HI5 := Lib.hid h3
            have HLT := Lib.hid h4
            clear hto hm5 hws hlt h3 h4 hcA
            go_wp2_with fail
            refine HCL.out.mono ?_
            rintro e w6 ⟨rfl, h1, h2, ho⟩
            rw [show su - totW [] = su by simp [totW]] at h2
            have HM6 := Lib.hid (HM5.out.clos (last' := last) h1 h2 ho)
            clear h1 h2 ho
            have HOP := Lib.hid (open_any HM6.out.win HI5.out.wbd HI5.out.sok.len.1)
            have hnum : ((L5).length : Int) ≤ most := by have h1 := HI5.out.num; have h2 : (s5).most = most := HMS.out; omega
            go_wp2_with fail
            refine HOP.out.mono ?_
            rintro e w9 ⟨⟨a9, c9, rfl, hw9⟩, hb9⟩
            have HR := Lib.hid (show ∃ (k' : Nat) (t : Cfg) (L : List WV) (su last : Int) (F : List Nat), Value.int .i64 ((k : Int) + 1) = .int .i64 k' ∧ k' ≤ l.length ∧ Value.int .i64 (s.late + 1) = Value.int .i64 t.late ∧ t.most = most ∧ OnI k' t L su last ∧ OnM w g pl ps t L su last F w9 from ⟨k + 1, s5, _, _, _, _, by simp, by omega, (by rw [HLT.out]), HMS.out, HI5.out, HM6.out.new hb9⟩)
            clear hw9 hb9
            go_wp2
            go_roundw
            case rel => exact HR.out
            case measure => simp [intOf]; omega
          · subst h1
            have hms := hm5.sset (su + inc)
            have hw6 := (hws.only (Q := fun q => q = ps) (w' := w5.setCell ⟨ps, 0, none⟩ (.int .i64 (su + inc))) ((Only.refl _ _).setCell _ _ (fun _ => rfl)) (fun q hq e => by have hq : A.heap.size ≤ q := hq; omega))
            have HCL := Lib.hid (closed_any (c := c5) hms.cl hms.cs hms.ne hw6 (fun q hq e => by have hq : A.heap.size ≤ q := hq; omega) h2)
            have cs5 : w5.cell? ⟨ps, 0, none⟩ = some (.int .i64 su) := by rw [cell_of_row _ _ _ _ _ _ hm5.cs]; rfl
            have zs5 : w5.frozen? ⟨ps, 0, none⟩ = false := frozen_of_row w5 _ _ _ _ hm5.cs
            have HM5 := Lib.hid hms
            have HI5 := Lib.hid h3
            have HLT := Lib.hid h4
            clear hto hm5 hws hlt h3 h4 hms hw6
            go_wp2_with fail
            refine HCL.out.mono ?_
            rintro e w6 ⟨rfl, h1, h2, ho⟩
            have HM6 := Lib.hid (HM5.out.clos h1 h2 ho)
            clear h1 h2 ho
            have HOP := Lib.hid (open_any HM6.out.win HI5.out.wbd HI5.out.sok.len.1)
            have hnum : ((L5).length : Int) ≤ most := by have h1 := HI5.out.num; have h2 : (s5).most = most := HMS.out; omega
            go_wp2_with fail
            refine HOP.out.mono ?_
            rintro e w9 ⟨⟨a9, c9, rfl, hw9⟩, hb9⟩
            have HR := Lib.hid (show ∃ (k' : Nat) (t : Cfg) (L : List WV) (su last : Int) (F : List Nat), Value.int .i64 ((k : Int) + 1) = .int .i64 k' ∧ k' ≤ l.length ∧ Value.int .i64 s.late = Value.int .i64 t.late ∧ t.most = most ∧ OnI k' t L su last ∧ OnM w g pl ps t L su last F w9 from ⟨k + 1, s5, _, _, _, _, by simp, by omega, (by rw [HLT.out]), HMS.out, HI5.out, HM6.out.new hb9⟩)
            clear hw9 hb9
            go_wp2
            go_roundw
            case rel => exact HR.out
            case measure => simp [intOf]; omega
      have n1 : (kind == 1) = false := by simpa using hk1
      have n2 : (kind == 2) = false := by simpa using hk2
      have n3 : (kind == 3) = false := by simpa using hk3
      have HI5 := Lib.hid (HI.out.up HK.out)
      rw [HA.out] at HMA
      generalize hw5 : wz.alloc (.cells #[.int .i64 kind, .int .i64 n, encStr nm, .int .i64 time, .int .i64 inc, .bool rst] 39) = w5 at HMA
      subst hw5
      have HOP := Lib.hid (open_any HMA.out.win HI5.out.wbd HI5.out.sok.len.1)
      have hnum : ((L).length : Int) ≤ most := by have h1 := HI5.out.num; have h2 : (s).most = most := HMO.out; omega
      go_wp2_with fail
      refine HOP.out.mono ?_
      rintro e w9 ⟨⟨a9, c9, rfl, hw9⟩, hb9⟩
      have HR := Lib.hid (show ∃ (k' : Nat) (t : Cfg) (L : List WV) (su last : Int) (F : List Nat), Value.int .i64 ((k : Int) + 1) = .int .i64 k' ∧ k' ≤ l.length ∧ Value.int .i64 s.late = Value.int .i64 t.late ∧ t.most = most ∧ OnI k' t L su last ∧ OnM w g pl ps t L su last F w9 from ⟨k + 1, s, _, _, _, _, by simp, by omega, rfl, HMO.out, HI5.out, HMA.out.new hb9⟩)
      clear hw9 hb9
      go_wp2
      go_roundw
      case rel => exact HR.out
      case measure => simp [intOf]; omega
    · have HOP := Lib.hid (open_any HM.out.win HI.out.wbd HI.out.sok.len.1)
      have hcl := HI.out.clos HM.out.win.ws
      have hsu := HI.out.sum
      have HCLO := Lib.hid hcl
      have HSU := Lib.hid hsu
      clear hcl hsu
      go_wp2_with fail
      refine HOP.out.mono ?_
      rintro e w5 ⟨⟨a5, c5, rfl, hws⟩, hb5⟩
      have hm5 := HM.out.new hb5
      have hlt := HM.out.lt
      have HCL := Lib.hid (closed_any (c := c5) hm5.cl hm5.cs hm5.ne hws (fun q hq e => by have := hq.1; omega) HCLO.out)
      have HM5 := Lib.hid hm5
      clear hm5 hlt hws hb5
      go_wp2_with fail
      refine HCL.out.mono ?_
      rintro e w6 ⟨rfl, h1, h2, ho⟩
      rw [show su - totW L = 0 by have := HSU.out; omega] at h2
      have HM6 := Lib.hid (HM5.out.clos h1 h2 ho)
      have HCN := Lib.hid (counts_any HM6.out.win HI.out.sok.len.1)
      have cs6 : w6.cell? ⟨ps, 0, none⟩ = some (.int .i64 0) := by rw [cell_of_row _ _ _ _ _ _ h2]; rfl
      clear h1 h2 ho
      go_wp2_with fail
      refine HCN.out.mono ?_
      rintro e w7 ⟨rfl, hb7⟩
      have HB7 := Lib.hid (HM6.out.new hb7).bel
      clear hb7
      go_wp2_with fail
      refine (wknown_any w7).mono ?_
      rintro e w8 ⟨rfl, hb8⟩
      have HB8 := Lib.hid (HB7.out.trans (hb8.mono HB7.out.size))
      clear hb8
      go_wp2
      go_ret
      exact ⟨rfl, HB8.out⟩
end Go.Proofs.Ytbkpgpaanhfjfaa
