/- Scrapes in memory and as they come in; are there few: the walk. What holds behind so many of them. -/
import Derived.Test.YthademifhnkbiaaDpK
import Derived.Test.YthademifhnkbiaaDpJ
import Derived.Test.YthademifhnkbiaaFit
namespace Go.Proofs.Ythademifhnkbiaa
open Go.RowKit K
/-- A scrape. -/
structure PutR where
  owner : Int
  xs : List Smp
structure PutC where
  x : PutR
  a : Option Addr
  c : Nat
def PutC.cells (y : PutC) : List Value := [.int .i64 y.x.owner, .slice y.a y.x.xs.length y.c]
def PutOk (x : PutR) : Prop := x.xs.length ≤ 140737488351232 ∧ ∀ s ∈ x.xs, I64 s.val
def PutC.Q (w : World) (y : PutC) : Prop := PutOk y.x ∧ (y.x.xs.length ≤ y.c ∧ y.c ≤ 9223372036854775807 ∧ (y.a = none → y.c = 0)) ∧ Rd w y.a (smf y.x.xs)
def PutsM (w : World) (l : List PutR) (a : Option Addr) : Prop := ∃ ys : List PutC, l = ys.map PutC.x ∧ (∀ y ∈ ys, y.Q w) ∧ Rd w a (ys.flatMap PutC.cells)
theorem puts_cells {w : World} {l : List PutR} {a : Option Addr} (h : PutsM w l a) {k : Nat} {x : PutR} (hk : l[k]? = some x) :
    ∃ b off ra rc, a = some ⟨b, off, none⟩ ∧ w.cell? ⟨b, off + k * 2, none⟩ = some (.int .i64 x.owner) ∧ w.cell? ⟨b, off + k * 2 + 1, none⟩ = some (.slice ra x.xs.length rc) ∧ b < w.heap.size ∧ (x.xs.length ≤ rc ∧ rc ≤ 9223372036854775807 ∧ (ra = none → rc = 0)) ∧ Rd w ra (smf x.xs) ∧ PutOk x := by
  obtain ⟨ys, rfl, hq, hr⟩ := h
  obtain ⟨y, hy, rfl⟩ : ∃ y, ys[k]? = some y ∧ y.x = x := by
    rw [List.getElem?_map] at hk
    cases hy : ys[k]? with
    | none => rw [hy] at hk; cases hk
    | some y => rw [hy] at hk; exact ⟨y, rfl, by simpa using hk⟩
  have hg : ∀ j v, j < 2 → y.cells[j]? = some v → (ys.flatMap PutC.cells)[2 * k + j]? = some v := fun j v hj hv => (flat_get _ 2 (fun _ => rfl) ys k j _ hy hj).trans hv
  obtain ⟨b, off, rfl, hb, h0⟩ := hr.at (hg 0 _ (by omega) rfl)
  obtain ⟨b', off', e, -, h1⟩ := hr.at (hg 1 _ (by omega) rfl)
  cases e
  obtain ⟨h2, h3, h4⟩ := hq y (List.mem_of_getElem? hy)
  refine ⟨b, off, y.a, y.c, rfl, ?_, ?_, hb, h3, h4, h2⟩
  · rw [← h0]; congr 2; omega
  · rw [← h1]; congr 2; omega
theorem PutsM.below {w w' : World} {l : List PutR} {a : Option Addr} (h : PutsM w l a) (hb : Below w.heap.size w w') : PutsM w' l a := by
  obtain ⟨ys, h1, h2, h3⟩ := h
  exact ⟨ys, h1, fun y hy => ⟨(h2 y hy).1, (h2 y hy).2.1, (h2 y hy).2.2.below hb (Nat.le_refl _)⟩, h3.below hb (Nat.le_refl _)⟩
theorem c9d : Try.prog.cellsOf 9 = 1 := by kernel_rfl
theorem c2d : Try.prog.cellsOf 2 = 1 := by kernel_rfl
theorem c3d : Try.prog.cellsOf 3 = 1 := by kernel_rfl
theorem c4d : Try.prog.cellsOf 4 = 1 := by kernel_rfl
theorem cSmp : Try.prog.cellsOf 31 = 4 := by kernel_rfl
theorem cSmps : Try.prog.cellsOf 43 = 1 := by kernel_rfl
theorem cPut : Try.prog.cellsOf 45 = 2 := by kernel_rfl
theorem bSmp : Try.prog.bytesOf 31 = 40 := by kernel_rfl
theorem list4 {α : Type} {cs : List α} (h : cs.length = 4) : ∃ a b c d, cs = [a, b, c, d] := by
  match cs, h with
  | [a, b, c, d], _ => exact ⟨a, b, c, d, rfl⟩
theorem list2 {α : Type} {cs : List α} (h : cs.length = 2) : ∃ a b, cs = [a, b] := by
  match cs, h with
  | [a, b], _ => exact ⟨a, b, rfl⟩
theorem i64_wf {z : Int} (h : (Lit.int .i64 z).wf = true) : I64 z := by
  unfold I64
  simpa [Lit.wf, IntKind.min, IntKind.max, IntKind.signed, IntKind.bits] using h
theorem fit_smp {w : World} {n : Nat} {cs : List Value} (h : Fit Try.prog w n 31 cs) : ∃ r : Smp, cs = r.cells.toList ∧ I64 r.val := by
  obtain ⟨m, hl, hf⟩ := fit_struct h Try.underlying31
  rw [cSmp] at hl
  obtain ⟨a, b, c, d, rfl⟩ := list4 hl
  have h0 := hf 0 _ rfl
  have h1 := hf 1 _ rfl
  have h2 := hf 2 _ rfl
  have h3 := hf 3 _ rfl
  simp only [List.getElem_toArray, List.getElem_cons_zero, List.getElem_cons_succ, c9d, c2d, c4d, List.drop_zero, List.drop_succ_cons, List.take_succ_cons, List.take_zero] at h0 h1 h2 h3
  obtain ⟨s, e0, w0⟩ := fit_string h0 Try.underlying9
  obtain ⟨z1, e1, w1⟩ := fit_int h1 Try.underlying2
  obtain ⟨z2, e2, w2⟩ := fit_int h2 Try.underlying2
  obtain ⟨b3, e3⟩ := fit_bool h3 Try.underlying4
  simp only [List.cons.injEq, and_true] at e0 e1 e2 e3
  subst e0 e1 e2 e3
  exact ⟨⟨s, z1, z2, b3⟩, rfl, i64_wf w1⟩
theorem fit_put {w : World} {n : Nat} {cs : List Value} (h : Fit Try.prog w n 45 cs) : ∃ y : PutC, cs = y.cells ∧ y.Q w := by
  obtain ⟨m, hl, hf⟩ := fit_struct h Try.underlying45
  rw [cPut] at hl
  obtain ⟨a, b, rfl⟩ := list2 hl
  have h0 := hf 0 _ rfl
  have h1 := hf 1 _ rfl
  simp only [List.getElem_toArray, List.getElem_cons_zero, List.getElem_cons_succ, c3d, cSmps, List.drop_zero, List.drop_succ_cons, List.take_succ_cons, List.take_zero] at h0 h1
  obtain ⟨z0, e0, w0⟩ := fit_int h0 Try.underlying3
  obtain ⟨ad, cap, xs, e1, k1, k2, k3, k4, k5, k6⟩ := fit_slice (fun r : Smp => r.cells.toList) (fun r => I64 r.val) h1 Try.underlying43 (fun m x _ hx => fit_smp hx)
  simp only [List.cons.injEq, and_true] at e0 e1
  subst e0 e1
  rw [bSmp] at k4
  exact ⟨⟨⟨z0, xs⟩, ad, cap⟩, rfl, ⟨by show xs.length ≤ _; omega, k5⟩, ⟨k1, k2, k3⟩, k6⟩
open Go.WideShapes in
theorem open_puts {W : World} {base n : Nat} {v : Value} (ok : Value.okWide Try.prog W .any base 38 v) (h : Fit Try.prog W n 38 v.cells.toList) :
    ∃ a c l, v = .slice a (l : List PutR).length c ∧ PutsM W l a ∧ l.length ≤ 9223372036854775807 := by
  obtain ⟨a0, len, cap, rfl⟩ := okWide_slice Try.underlying38 ok
  obtain ⟨a, c, ys, e, h1, h2, h3, -, h5, h6⟩ := fit_slice PutC.cells (PutC.Q W) h Try.underlying38 (fun m x _ hx => fit_put hx)
  simp only [Value.cells, List.cons.injEq, and_true, Value.slice.injEq] at e
  obtain ⟨rfl, rfl, rfl⟩ := e
  exact ⟨a0, cap, ys.map PutC.x, by rw [List.length_map], ⟨ys, rfl, h5, h6⟩, by rw [List.length_map]; omega⟩
def totP (l : List PutR) : Nat := (l.map fun x => x.xs.length).sum
theorem totP_succ {l : List PutR} {k : Nat} {x : PutR} (h : l[k]? = some x) : totP (l.take (k + 1)) = totP (l.take k) + x.xs.length := by
  obtain ⟨hk, rfl⟩ := List.getElem?_eq_some_iff.1 h
  unfold totP
  rw [List.take_succ_eq_append_getElem hk]
  simp only [List.map_append, List.map_cons, List.map_nil, List.sum_append, List.sum_cons, List.sum_nil, Nat.add_zero]
theorem totP_take_le (l : List PutR) (k : Nat) : totP (l.take k) ≤ totP l := by
  unfold totP
  have : l = l.take k ++ l.drop k := (List.take_append_drop k l).symm
  conv => rhs; rw [this]
  simp only [List.map_append, List.sum_append]
  omega
def FewP17 (w : World) (l : List PutR) (mo : Nat) (e : Ending) (w' : World) : Prop :=
  ∃ b, e = .returned (.bool b) ∧ w = w' ∧ (b = true → l.length ≤ mo ∧ totP l ≤ 200)
set_option maxHeartbeats 1000000 in
theorem few17_any (w : World) (a : Option Addr) (c : Nat) (l : List PutR) (mo : Nat) (hmo : mo ≤ 100) (hx : PutsM w l a) (_hl : l.length ≤ 9223372036854775807) :
    Calls Try.prog 13 #[.slice a l.length c, .int .i64 mo] w (FewP17 w l mo) := by
  have HX := Lib.hid hx
  clear hx
  go_enter Try.func13, Try.ntmps13
  go_wp2
  go_loop [5, 6] (fun n i => ∃ k : Nat, k ≤ l.length ∧ k ≤ mo + 1 ∧ i = .int .i64 k ∧ n = .int .i64 (totP (l.take k) : Nat) ∧ totP (l.take k) ≤ k * 140737488351232) (fun _ i => mo + 1 - (intOf i).toNat)
  case atStart => exact ⟨0, Nat.zero_le _, by omega, rfl, rfl, by simp [totP]⟩
  case round =>
    obtain ⟨k, hk, hk61, rfl, rfl, ht⟩ := hrel
    by_cases hc : k < l.length
    · by_cases hc2 : k ≤ mo
      · obtain ⟨x, hkx⟩ : ∃ x, l[k]? = some x := ⟨_, List.getElem?_eq_getElem hc⟩
        obtain ⟨b, off, ra, rc, rfl, -, c1, hb, -, -, hok⟩ := puts_cells HX.out hkx
        have HSUM := Lib.hid (totP_succ hkx)
        have hx2 := hok.1
        clear hok hkx
        generalize totP (l.take k) = tk at ht HSUM
        generalize x.xs.length = xl at hx2 c1 HSUM
        have htk : tk ≤ 14214486323474432 := by omega
        go_wp2
        go_round
        case rel => exact ⟨k + 1, by omega, by omega, by go_num, by rw [HSUM.out]; go_num, by rw [HSUM.out]; omega⟩
        case measure => simp [intOf]; omega
      · have hlm : ¬ l.length ≤ mo := by omega
        go_wp2
        all_goals
          go_ret
          refine ⟨_, rfl, rfl, fun h => ?_⟩
          simp at h
          try omega
    · obtain rfl : k = l.length := by omega
      rw [List.take_length] at ht ⊢
      obtain ⟨tt, htt⟩ : ∃ tt, tt = totP l := ⟨_, rfl⟩
      rw [← htt] at ht ⊢
      have HTT := Lib.hid htt
      clear htt
      by_cases h60 : l.length ≤ mo
      · go_wp2
        all_goals
          go_ret
          refine ⟨_, rfl, rfl, fun h => ⟨h60, ?_⟩⟩
          simp at h
          have := HTT.out
          omega
      · go_wp2
        all_goals
          go_ret
          refine ⟨_, rfl, rfl, fun h => ?_⟩
          simp at h
          try omega
/-- What holds of both stores, and of the counts, behind so many samples. -/
structure DInv (most : Int) (l L : List SV) (tal : Tal) (n : Nat) : Prop where
  rel : SRel l L
  ok : ∀ v ∈ l, SvOk v
  tb : TB n tal
  len : l.length ≤ n
  sum : tal.p = tal.a + tal.o + tal.t + tal.f ∧ tal.r ≤ tal.g
  most : 0 ≤ most
theorem oneV_chain {most : Int} {l : List SV} {x : Smp} : (oneV most l x).chain = true → (oneV most l x).verdict = 1 := by
  unfold oneV
  cases sfind x.name l with
  | none =>
    simp only
    split <;> (intro h; cases h)
  | some v =>
    simp only
    split
    · intro h; cases h
    · split
      · intro h; cases h
      · split
        · intro _; rfl
        · intro h; cases h
theorem putS_chain {most owner : Int} : ∀ (xs : List Smp) (l : List SV), ∀ s ∈ putS most owner l xs, s.chain = true → s.verdict = 1
  | [], _, s, hs => by simp [putS] at hs
  | x :: r, l, s, hs => by
    simp only [putS, List.mem_cons] at hs
    rcases hs with rfl | hs
    · exact oneV_chain
    · exact putS_chain r _ s hs
theorem DInv.put {most : Int} {l L : List SV} {tal : Tal} {n : Nat} (h : DInv most l L tal n) (owner : Int) (xs : List Smp) (hx : ∀ x ∈ xs, I64 x.val) :
    rputS most owner L xs = putS most owner l xs ∧ DInv most (goneL owner (xs.map (·.name)) (putL most owner l xs)) (goneL owner (xs.map (·.name)) (rputL most owner L xs)) ((putS most owner l xs).foldl tadd tal) (n + xs.length) := by
  obtain ⟨h1, h2⟩ := putL_ok (most := most) (owner := owner) xs h.ok hx
  refine ⟨(put_perm most owner xs h.rel.uniq h.rel.perm).1.symm, ⟨h.rel.put most owner xs, gone_ok h1, ?_, ?_, tally_fold _ h.sum, h.most⟩⟩
  · have := TB.fold (putS most owner l xs) h.tb
    rw [putS_length] at this
    have e : ((n + xs.length : Nat) : Int) = (n : Int) + (xs.length : Int) := by omega
    rw [e]
    exact this
  · rw [gone_len]
    have := putL_len (most := most) (owner := owner) xs l
    have := h.len
    omega
theorem DInv.zero (m : Int) : DInv (max m 0) [] [] tal0 0 :=
  ⟨⟨by simp [Uniq], List.Perm.refl _⟩, by simp, by unfold TB tal0; simp, Nat.le_refl _, by unfold tal0; simp, by omega⟩
/-- Both meters in memory, apart, and their blocks. -/
def TwF (w0 : World) (m s rm r : Nat) (most : Int) (l L : List SV) (tal : Tal) (F : List Nat) (G : Nat → Prop) (w : World) : Prop :=
  MIs w w0.heap.size m s most l F tal ∧ RmIs w w0.heap.size rm r most L G tal ∧ (∀ k ∈ F, ¬ G k ∧ k ≠ rm) ∧ ¬ G m ∧ m ≠ rm ∧ Below w0.heap.size w0 w
/-- Both meters in memory, apart. -/
def TwM (w0 : World) (m s rm r : Nat) (most : Int) (l L : List SV) (tal : Tal) (w : World) : Prop := ∃ F G, TwF w0 m s rm r most l L tal F G w
def twfoot (m rm : Nat) (F : List Nat) (G : Nat → Prop) (k : Nat) : Prop := k = m ∨ k ∈ F ∨ k = rm ∨ G k
section
variable {w0 w w' : World} {m s rm r : Nat} {most : Int} {l L : List SV} {tal : Tal}
theorem TwM.bel (h : TwM w0 m s rm r most l L tal w) : Below w0.heap.size w0 w := by
  obtain ⟨_, _, _, _, _, _, _, hb⟩ := h
  exact hb
theorem MIs.new {B : Nat} {F : List Nat} (h : MIs w B m s most l F tal) (hb : Below w.heap.size w w') : MIs w' B m s most l F tal := by
  obtain ⟨h1, h2, h3, h4, h5⟩ := h
  have ho : Only (fun _ => False) w w' := Only.of_new hb
  exact ⟨ho.heap h1 (fun h => h), h2.only ho (fun _ _ h => h), h3, h4, h5⟩
theorem RmIs.only {B : Nat} {G F : Nat → Prop} (h : RmIs w B rm r most L G tal) (ho : Only F w w') (hm : ¬ F rm) (hd : ∀ k, G k → ¬ F k) : RmIs w' B rm r most L G tal := by
  obtain ⟨h1, h2, h3, h4⟩ := h
  exact ⟨ho.heap h1 hm, h2.only ho hd, h3, h4⟩
theorem TwF.new {F : List Nat} {G : Nat → Prop} (h : TwF w0 m s rm r most l L tal F G w) (hb : Below w.heap.size w w') : TwF w0 m s rm r most l L tal F G w' := by
  obtain ⟨h1, h2, h3, h4, h5, h6⟩ := h
  exact ⟨h1.new hb, h2.only (F := fun _ => False) (Only.of_new hb) (fun h => h) (fun _ _ h => h), h3, h4, h5, h6.trans (hb.mono h6.size)⟩
theorem TwM.new (h : TwM w0 m s rm r most l L tal w) (hb : Below w.heap.size w w') : TwM w0 m s rm r most l L tal w' := by
  obtain ⟨F, G, h1, h2, h3, h4, h5, h6⟩ := h
  exact ⟨F, G, h1.new hb, h2.only (F := fun _ => False) (Only.of_new hb) (fun h => h) (fun _ _ h => h), h3, h4, h5, h6.trans (hb.mono h6.size)⟩
end
end Go.Proofs.Ythademifhnkbiaa
