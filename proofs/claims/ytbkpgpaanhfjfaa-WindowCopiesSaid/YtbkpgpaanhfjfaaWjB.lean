/- Chapter 18: WindowCopies: the walk. -/
import Derived.Test.YtbkpgpaanhfjfaaWiZ
import Derived.Test.YtbkpgpaanhfjfaaWjA
namespace Go.Proofs.Ytbkpgpaanhfjfaa
open Go.RowKit Go.Sort K
theorem WinIs.base {w : World} {B C g : Nat} {s : Cfg} {L : List WV} {F : List Nat} (h : WinIs w B g s L F) (hC : C ≤ B) : WinIs w C g s L F := by
  obtain ⟨M, es, ⟨h1, h2, h3, h4, h5⟩, k2, k3, rfl⟩ := h
  exact ⟨M, es, ⟨h1, h2, h3, h4, fun k hk => Nat.le_trans hC (h5 k hk)⟩, k2, k3, rfl⟩
theorem actW_cfg (s : Cfg) (L : List WV) (x : ActR) : (actW s L x).1.len = s.len ∧ (actW s L x).1.lat = s.lat ∧ (actW s L x).1.most = s.most := by
  unfold actW
  split
  · exact ⟨rfl, rfl, rfl⟩
  split
  · unfold addW
    split
    · exact ⟨rfl, rfl, rfl⟩
    · split
      · exact ⟨rfl, rfl, rfl⟩
      · cases L with
        | nil => exact ⟨rfl, rfl, rfl⟩
        | cons f t =>
          simp only
          split <;> exact ⟨rfl, rfl, rfl⟩
  split
  · unfold clockW
    split <;> exact ⟨rfl, rfl, rfl⟩
  · exact ⟨rfl, rfl, rfl⟩
/-- Two pairs of windows are apart. -/
def Apart (F : List Nat) (r : Nat) (G : Nat → Prop) (F2 : List Nat) (r2 : Nat) (G2 : Nat → Prop) : Prop :=
  r ≠ r2 ∧ (∀ k ∈ F, k ∉ F2) ∧ r ∉ F2 ∧ r2 ∉ F ∧ (∀ k, G k → k ∉ F2) ∧ (∀ k, G2 k → k ∉ F) ∧ (∀ k, G2 k → k ≠ r) ∧ ∀ k, G k → k ≠ r2
theorem Apart.swap {F : List Nat} {r : Nat} {G : Nat → Prop} {F2 : List Nat} {r2 : Nat} {G2 : Nat → Prop} (h : Apart F r G F2 r2 G2) : Apart F2 r2 G2 F r G := by
  obtain ⟨h1, h2, h3, h4, h5, h6, h7, h8⟩ := h
  exact ⟨fun e => h1 e.symm, fun k hk hf => h2 k hf hk, h4, h3, h6, h5, h8, h7⟩
/-- Two pairs of windows within a law. -/
def QdM (w : World) (g r g2 r2 k k2 : Nat) (W : World) : Prop := ∃ s L F G s2 L2 F2 G2, WpIs W w.heap.size g r s L F G ∧ WpIs W w.heap.size g2 r2 s2 L2 F2 G2 ∧ Apart F r G F2 r2 G2 ∧ WpI k s L ∧ WpI k2 s2 L2 ∧ Below w.heap.size w W ∧ s.len = s2.len ∧ s.lat = s2.lat ∧ s.most = s2.most
section
variable {w W V : World} {g r g2 r2 k k2 : Nat}
theorem QdM.swap (h : QdM w g r g2 r2 k k2 W) : QdM w g2 r2 g r k2 k W := by
  obtain ⟨s, L, F, G, s2, L2, F2, G2, h1, h2, h3, h4, h5, h6, h7, h8, h9⟩ := h
  exact ⟨s2, L2, F2, G2, s, L, F, G, h2, h1, h3.swap, h5, h4, h6, h7.symm, h8.symm, h9.symm⟩
theorem QdM.bel (h : QdM w g r g2 r2 k k2 W) : Below w.heap.size w W := by
  obtain ⟨s, L, F, G, s2, L2, F2, G2, h1, h2, h3, h4, h5, h6, -⟩ := h
  exact h6
theorem QdM.new (h : QdM w g r g2 r2 k k2 W) (hb : Below W.heap.size W V) : QdM w g r g2 r2 k k2 V := by
  obtain ⟨s, L, F, G, s2, L2, F2, G2, h1, h2, h3, h4, h5, h6, h7⟩ := h
  exact ⟨s, L, F, G, s2, L2, F2, G2, h1.new hb, h2.new hb, h3, h4, h5, h6.trans (hb.mono h6.size), h7⟩
theorem QdM.do_ (h : QdM w g r g2 r2 k k2 W) (hk : k ≤ 100) (x : ActR) (hx : x.Q) : Calls Try.prog 18 #[.pointer (some ⟨g, 0, none⟩), .pointer (some ⟨r, 0, none⟩), .agg #[.int .i64 x.kind, .int .i64 x.n, encStr x.nm, .int .i64 x.time, .int .i64 x.inc, .bool x.rst]] W fun e w' => e = .returned (.bool true) ∧ QdM w g r g2 r2 (k + 1) k2 w' := by
  obtain ⟨s, L, F, G, s2, L2, F2, G2, h1, h2, ⟨a1, a2, a3, a4, a5, a6, a7, a8⟩, h4, h5, h6, h7, h8, h9⟩ := h
  refine (do18_any h1 h4 hk x hx).mono ?_
  rintro e w' ⟨rfl, hto⟩
  obtain ⟨hbel, -⟩ := WpTo.next (Nat.le_refl _) h6 h1 hto
  obtain ⟨F', G', k1, k2, k3, k4⟩ := hto
  have hin2 := h2.1.in
  have hr2 := h2.2.1.rlt
  have hg2 := h2.2.1.glt
  obtain ⟨e1, e2, e3⟩ := actW_cfg s L x
  refine ⟨rfl, _, _, F', G', s2, L2, F2, G2, k1, h2.only k2 (fun q hq e => ?_) (fun e => ?_) (fun q hq e => ?_), ⟨a1, fun q hq hf => ?_, a3, fun hf => ?_, fun q hq hf => ?_, fun q hq hf => ?_, a7, fun q hq e => ?_⟩, h4.act hk h1.1.ws h1.1.cs hx, h5, hbel, e1.trans h7, e2.trans h8, e3.trans h9⟩
  · rcases e with e | e
    · exact a2 q e hq
    · exact a3 (e ▸ hq)
  · rcases e with e | e
    · exact a4 e
    · exact a1 e.symm
  · rcases e with e | e
    · exact a6 q hq e
    · exact a7 q hq e
  · rcases k3 q hq with h | h
    · exact a2 q h hf
    · have := (hin2 q hf).2
      omega
  · rcases k3 r2 hf with h | h
    · exact a4 h
    · omega
  · rcases k4 q hq with h | h
    · exact a5 q h hf
    · have := (hin2 q hf).2
      omega
  · rcases k3 q hf with h | h
    · exact a6 q hq h
    · have := hg2 q hq
      omega
  · rcases k4 q hq with h | h
    · exact a8 q h e
    · omega
/-- A copy goes apart. -/
theorem QdM.copy {s : Cfg} {L : List WV} {F : List Nat} {G : Nat → Prop} {w2 w3 : World} {F2 : List Nat} (h1 : WpIs W w.heap.size g r s L F G) (h2 : WpI k s L) (h3 : Below w.heap.size w W) (hw2 : WinIs w2 W.heap.size g2 s L F2) (hb2 : Below W.heap.size W w2) (hr3 : RwIs w3 w.heap.size w2.heap.size s L G) (hb3 : Below w2.heap.size w2 w3) : QdM w g r g2 w2.heap.size k k w3 := by
  have hin := h1.1.in
  have hin2 := hw2.in
  have hrl := h1.2.1.rlt
  have hgl := h1.2.1.glt
  have hgn := h1.2.1.gne
  have hsz := hb2.size
  refine ⟨s, L, F, G, s, L, F2, G, (h1.new hb2).new hb3, ⟨(hw2.base h3.size).new hb3, hr3, fun q hq hf => ?_, fun hf => ?_⟩, ⟨by omega, fun q hq hf => ?_, fun hf => ?_, fun hf => ?_, fun q hq hf => ?_, h1.2.2.1, hgn, fun q hq e => ?_⟩, h2, h2, (h3.trans (hb2.mono h3.size)).trans (hb3.mono (Nat.le_trans h3.size hsz)), rfl, rfl, rfl⟩
  · have := (hin2 q hf).1
    have := hgl q hq
    omega
  · have := (hin2 _ hf).2
    omega
  · have := (hin2 q hf).1
    have := (hin q hq).2
    omega
  · have := (hin2 _ hf).1
    omega
  · have := (hin _ hf).2
    omega
  · have := (hin2 q hf).1
    have := hgl q hq
    omega
  · have := hgl q hq
    omega
end
set_option maxHeartbeats 8000000 in
set_option maxRecDepth 100000 in
theorem windowCopies_any (w : World) (len lat most : Int) {l la lb : List ActR} {a1 a2 a3 : Option Addr} {c1 c2 c3 : Nat} (h1 : ActsM w l a1) (h2 : ActsM w la a2) (h3 : ActsM w lb a3) (hl1 : l.length ≤ 9223372036854775807) (hl2 : la.length ≤ 9223372036854775807) (hl3 : lb.length ≤ 9223372036854775807) :
    Calls Try.prog 6 #[.int .i64 len, .int .i64 lat, .int .i64 most, .slice a1 l.length c1, .slice a2 la.length c2, .slice a3 lb.length c3] w fun e w' => e = .returned (.bool true) ∧ Below w.heap.size w w' := by
  have HX1 := Lib.hid h1
  have HX2 := Lib.hid h2
  have HX3 := Lib.hid h3
  clear h1 h2 h3
  by_cases hm : MayW len lat most
  rotate_left 1
  · have HM := Lib.hid (may_no w len lat most hm)
    clear hm
    go_enter Try.func6, Try.ntmps6
    go_wp2_with fail
    refine HM.out.mono ?_
    rintro e w1 ⟨rfl, rfl⟩
    go_wp2_with fail
    refine (wknown_any w).mono ?_
    rintro e w9 ⟨rfl, hb⟩
    have HF := Lib.hid hb
    clear hb
    go_wp2
    go_ret
    exact ⟨rfl, HF.out⟩
  have HM := Lib.hid (may_yes w len lat most hm)
  have HMAY := Lib.hid hm
  clear hm
  go_enter Try.func6, Try.ntmps6
  by_cases hl : 40 < l.length
  · have hgt : (40 : Int) < (l.length : Int) := by omega
    go_wp2_with fail
    refine HM.out.mono ?_
    rintro e w1 ⟨rfl, rfl⟩
    go_wp2_with fail
    refine (wknown_any w).mono ?_
    rintro e w9 ⟨rfl, hb⟩
    have HF := Lib.hid hb
    clear hb
    go_wp2
    go_ret
    exact ⟨rfl, HF.out⟩
  have hlel : (l.length : Int) ≤ 40 := by omega
  by_cases hla : 15 < la.length
  · have hgt : (15 : Int) < (la.length : Int) := by omega
    go_wp2_with fail
    refine HM.out.mono ?_
    rintro e w1 ⟨rfl, rfl⟩
    go_wp2_with fail
    refine (wknown_any w).mono ?_
    rintro e w9 ⟨rfl, hb⟩
    have HF := Lib.hid hb
    clear hb
    go_wp2
    go_ret
    exact ⟨rfl, HF.out⟩
  have hlela : (la.length : Int) ≤ 15 := by omega
  by_cases hlb : 15 < lb.length
  · have hgt : (15 : Int) < (lb.length : Int) := by omega
    go_wp2_with fail
    refine HM.out.mono ?_
    rintro e w1 ⟨rfl, rfl⟩
    go_wp2_with fail
    refine (wknown_any w).mono ?_
    rintro e w9 ⟨rfl, hb⟩
    have HF := Lib.hid hb
    clear hb
    go_wp2
    go_ret
    exact ⟨rfl, HF.out⟩
  have hlelb : (lb.length : Int) ≤ 15 := by omega
  clear hl hla hlb
  go_wp2_with fail
  refine HM.out.mono ?_
  rintro e w1 ⟨rfl, rfl⟩
  go_wp2_with fail
  refine (beginw_any w len lat most HMAY.out).mono ?_
  rintro e w1 ⟨g, r, F, rfl, hw, hb⟩
  have HP := Lib.hid (PlM.beg HMAY.out hw hb)
  clear hw hb HM
  go_wp2_with fail
  go_loopw [16] (fun iv wr => ∃ k : Nat, iv = .int .i64 k ∧ k ≤ l.length ∧ PlM w g r k wr) (fun iv _ => l.length - (intOf iv).toNat)
  case atStart => exact ⟨0, rfl, Nat.zero_le _, HP.out⟩
  case round =>
    obtain ⟨k, rfl, hk, hP⟩ := hrel
    obtain ⟨wz, hwz⟩ : ∃ wz, wz = wr := ⟨_, rfl⟩
    subst hwz
    have HPZ := Lib.hid hP
    clear hP HP
    by_cases hc : k < l.length
    · obtain ⟨b, off, rfl, hb, hQ, d0, d1, d2, d3, d4, d5⟩ := acts_at HX1.out hc
      have hbel := HPZ.out.bel
      have e0 := keepc hbel d0
      have e1 := keepc hbel d1
      have e2 := keepc hbel d2
      have e3 := keepc hbel d3
      have e4 := keepc hbel d4
      have e5 := keepc hbel d5
      have hb2 : b < wz.heap.size := Nat.lt_of_lt_of_le hb hbel.size
      clear d0 d1 d2 d3 d4 d5 hb hbel
      have HDO := Lib.hid (HPZ.out.do_ (by omega) l[k] hQ)
      generalize l[k] = x at e0 e1 e2 e3 e4 e5 HDO
      obtain ⟨kind, n, nm, time, inc, rst⟩ := x
      simp only at e0 e1 e2 e3 e4 e5 HDO
      clear hQ
      go_wp2_with fail
      refine HDO.out.mono ?_
      rintro e w3 ⟨rfl, hp3⟩
      have HREL := Lib.hid hp3
      clear hp3
      go_wp2
      go_roundw
      case rel => exact ⟨k + 1, by go_num, by omega, HREL.out⟩
      case measure => simp [intOf]; omega
    · obtain rfl : k = l.length := by omega
      obtain ⟨s, L, F3, G3, k1, k2, k3⟩ := HPZ.out
      have HK1 := Lib.hid k1
      have HK2 := Lib.hid k2
      have HK3 := Lib.hid k3
      have HCP := Lib.hid (wcopy_any k1.1 k2.len.1)
      clear k1 k2 k3 hc
      go_wp2_with fail
      refine HCP.out.mono ?_
      rintro e w2 ⟨g2, F2, rfl, hw2, hb2⟩
      have HW2 := Lib.hid hw2
      have HB2 := Lib.hid hb2
      have HRC := Lib.hid (rwcopy_any (HK1.out.2.1.new hb2))
      clear hw2 hb2
      go_wp2_with fail
      refine HRC.out.mono ?_
      rintro e w3 ⟨rfl, hr3, hb3⟩
      have HQ := Lib.hid (QdM.copy HK1.out HK2.out HK3.out HW2.out HB2.out hr3 hb3)
      have HS1 := Lib.hid (wsame_any ((HK1.out.1.new HB2.out).new hb3) (HW2.out.new hb3) HK2.out.len.1 ⟨rfl, rfl, rfl⟩)
      have HS2 := Lib.hid (fun V (hV : Below w3.heap.size w3 V) => wsame_any ((HW2.out.new hb3).new hV) (((HK1.out.1.new HB2.out).new hb3).new hV) HK2.out.len.1 ⟨rfl, rfl, rfl⟩)
      rw [smW_r] at HS1 HS2
      obtain ⟨r2, hr2⟩ : ∃ x, x = w2.heap.size := ⟨_, rfl⟩
      rw [← hr2] at HQ ⊢
      clear hr3 hb3 hr2 HRC HCP
      go_wp2_with fail
      refine HS1.out.mono ?_
      rintro e w4 ⟨rfl, hb4⟩
      have HB4 := Lib.hid hb4
      clear hb4
      go_wp2_with fail
      refine (HS2.out w4 HB4.out).mono ?_
      rintro e w5 ⟨rfl, hb5⟩
      have HQ5 := Lib.hid (HQ.out.new (HB4.out.trans (hb5.mono HB4.out.size)))
      clear hb5 HQ HS1 HS2 HB4 HPZ HK1 HK2 HK3 HW2 HB2
      go_wp2_with fail
      go_loopw [19] (fun iv wr => ∃ k : Nat, iv = .int .i64 k ∧ k ≤ la.length ∧ QdM w g r g2 r2 (l.length + k) l.length wr) (fun iv _ => la.length - (intOf iv).toNat)
      case atStart => exact ⟨0, rfl, Nat.zero_le _, HQ5.out⟩
      case round =>
        obtain ⟨k, rfl, hk, hP⟩ := hrel
        obtain ⟨wz, hwz⟩ : ∃ wz, wz = wr := ⟨_, rfl⟩
        subst hwz
        have HPZ := Lib.hid hP
        clear hP HQ5
        by_cases hc : k < la.length
        · obtain ⟨b, off, rfl, hb, hQ, d0, d1, d2, d3, d4, d5⟩ := acts_at HX2.out hc
          have hbel := HPZ.out.bel
          have e0 := keepc hbel d0
          have e1 := keepc hbel d1
          have e2 := keepc hbel d2
          have e3 := keepc hbel d3
          have e4 := keepc hbel d4
          have e5 := keepc hbel d5
          have hb2 : b < wz.heap.size := Nat.lt_of_lt_of_le hb hbel.size
          clear d0 d1 d2 d3 d4 d5 hb hbel
          have HDO := Lib.hid (HPZ.out.do_ (by omega) la[k] hQ)
          generalize la[k] = x at e0 e1 e2 e3 e4 e5 HDO
          obtain ⟨kind, n, nm, time, inc, rst⟩ := x
          simp only at e0 e1 e2 e3 e4 e5 HDO
          clear hQ
          go_wp2_with fail
          refine HDO.out.mono ?_
          rintro e w3 ⟨rfl, hp3⟩
          have HREL := Lib.hid hp3
          clear hp3
          go_wp2
          go_roundw
          case rel => exact ⟨k + 1, by go_num, by omega, HREL.out⟩
          case measure => simp [intOf]; omega
        · obtain rfl : k = la.length := by omega
          clear hc
          go_wp2_with fail
          go_loopw [20] (fun iv wr => ∃ k : Nat, iv = .int .i64 k ∧ k ≤ lb.length ∧ QdM w g2 r2 g r (l.length + k) (l.length + la.length) wr) (fun iv _ => lb.length - (intOf iv).toNat)
          case atStart => exact ⟨0, rfl, Nat.zero_le _, HPZ.out.swap⟩
          case round =>
            obtain ⟨k, rfl, hk, hP⟩ := hrel
            obtain ⟨wz, hwz⟩ : ∃ wz, wz = wr := ⟨_, rfl⟩
            subst hwz
            have HPZ := Lib.hid hP
            clear hP
            by_cases hc : k < lb.length
            · obtain ⟨b, off, rfl, hb, hQ, d0, d1, d2, d3, d4, d5⟩ := acts_at HX3.out hc
              have hbel := HPZ.out.bel
              have e0 := keepc hbel d0
              have e1 := keepc hbel d1
              have e2 := keepc hbel d2
              have e3 := keepc hbel d3
              have e4 := keepc hbel d4
              have e5 := keepc hbel d5
              have hb2 : b < wz.heap.size := Nat.lt_of_lt_of_le hb hbel.size
              clear d0 d1 d2 d3 d4 d5 hb hbel
              have HDO := Lib.hid (HPZ.out.do_ (by omega) lb[k] hQ)
              generalize lb[k] = x at e0 e1 e2 e3 e4 e5 HDO
              obtain ⟨kind, n, nm, time, inc, rst⟩ := x
              simp only at e0 e1 e2 e3 e4 e5 HDO
              clear hQ
              go_wp2_with fail
              refine HDO.out.mono ?_
              rintro e w3 ⟨rfl, hp3⟩
              have HREL := Lib.hid hp3
              clear hp3
              go_wp2
              go_roundw
              case rel => exact ⟨k + 1, by go_num, by omega, HREL.out⟩
              case measure => simp [intOf]; omega
            · obtain rfl : k = lb.length := by omega
              obtain ⟨s, L, F4, G4, s2, L2, F5, G5, k1, k2, -, i1, i2, hbl, he⟩ := HPZ.out.swap
              have HBL := Lib.hid hbl
              obtain ⟨bz, hbz⟩ : ∃ x, x = smW s L s2 L2 := ⟨_, rfl⟩
              have HAL := Lib.hid (alike_any k1.2.1 k2.2.1 he i1.wbd i2.wbd)
              have HS1 := Lib.hid (fun V (hV : Below wz.heap.size wz V) => same18_any (k1.new hV) i1)
              have HS2 := Lib.hid (fun V (hV : Below wz.heap.size wz V) => same18_any (k2.new hV) i2)
              have HW1 := Lib.hid (fun V (hV : Below wz.heap.size wz V) => wsame_any (k1.1.new hV) (k2.1.new hV) i1.len.1 he)
              have HW2 := Lib.hid (fun V (hV : Below wz.heap.size wz V) => wsame_any (k2.1.new hV) (k1.1.new hV) i2.len.1 ⟨he.1.symm, he.2.1.symm, he.2.2.symm⟩)
              rw [smW_c s2 s L2 L] at HW2
              rw [← hbz] at HAL HW1 HW2
              have hbb : (bz == bz) = true := by simp
              clear hbz k1 k2 i1 i2 he hbl hc
              go_wp2_with fail
              refine HAL.out.mono ?_
              rintro e w6 ⟨rfl, hb6⟩
              have HB6 := Lib.hid hb6
              clear hb6
              go_wp2_with fail
              refine (HS1.out w6 HB6.out).mono ?_
              rintro e w7 ⟨rfl, hb7⟩
              have HB7 := Lib.hid (HB6.out.trans (hb7.mono HB6.out.size))
              clear hb7
              go_wp2_with fail
              refine (HS2.out w7 HB7.out).mono ?_
              rintro e w8 ⟨rfl, hb8⟩
              have HB8 := Lib.hid (HB7.out.trans (hb8.mono HB7.out.size))
              clear hb8
              go_wp2_with fail
              refine (HW1.out w8 HB8.out).mono ?_
              rintro e v1 ⟨rfl, hb9⟩
              have HB9 := Lib.hid (HB8.out.trans (hb9.mono HB8.out.size))
              clear hb9
              go_wp2_with fail
              refine (HW2.out v1 HB9.out).mono ?_
              rintro e v2 ⟨rfl, hb10⟩
              have HB10 := Lib.hid (HB9.out.trans (hb10.mono HB9.out.size))
              have HBA := Lib.hid (HBL.out.trans (HB10.out.mono HBL.out.size))
              clear hb10
              go_wp2_with fail
              refine (wknown_any v2).mono ?_
              rintro e w9 ⟨rfl, hb⟩
              have HF := Lib.hid (HBA.out.trans (hb.mono HBA.out.size))
              clear hb
              go_wp2
              go_ret
              exact ⟨rfl, HF.out⟩
end Go.Proofs.Ytbkpgpaanhfjfaa
