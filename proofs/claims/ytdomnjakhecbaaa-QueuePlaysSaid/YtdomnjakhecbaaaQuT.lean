/- Do both queues look the same: a round's body. -/
import Derived.Test.YtdomnjakhecbaaaQuR
import Derived.Test.YtdomnjakhecbaaaQuO
import Derived.Test.YtdomnjakhecbaaaFrH
import Derived.LoopN
namespace Go.Proofs.Ytdomnjakhecbaaa
open Go.RowKit K Go.Shelf
attribute [local go_sem] Oper.semAt_some
/-- The program's queue stands as the reference's does. -/
structure QRel (s : QR) (fs : List Frm) (t : RQ) (L : List Frm) (gn : Nat) : Prop where
  gone : t.gone = gn
  le : gn ≤ L.length
  fr : fs = L.drop gn
  put : s.put = L.length
  acked : s.acked = t.gone
  dropped : s.dropped = t.drop
  sink : s.sink = t.at_
  time : s.time = if t.timed = true then t.when_ else once
  tries : s.tries = t.tries
  most : s.most = t.most
  base : s.base = t.base
  longest : s.longest = t.longest
theorem nextV_tup (n : Nat) (s : QR) : ∃ x b, nextV n s = .tuple #[.int .i64 x, .bool b] := by
  unfold nextV
  split
  · exact ⟨_, _, rfl⟩
  · exact ⟨_, _, rfl⟩
theorem QRel.len {s : QR} {fs : List Frm} {t : RQ} {L : List Frm} {gn : Nat} (h : QRel s fs t L gn) : (fs.length : Int) = (L.length : Int) - t.gone := by
  have := h.le
  rw [h.fr, h.gone, List.length_drop]
  omega
theorem QRel.next {s : QR} {fs : List Frm} {t : RQ} {L : List Frm} {gn : Nat} (h : QRel s fs t L gn) : rnextV L.length t = nextV fs.length s := by
  have hl := h.len
  unfold rnextV nextV
  rw [h.sink, h.time]
  by_cases h0 : t.at_ = true
  · rw [if_pos (.inl h0), if_pos (.inr h0)]
  · by_cases h1 : (L.length : Int) - t.gone = 0
    · rw [if_pos (.inr h1), if_pos (.inl (by omega))]
    · have e1 : ¬ (t.at_ = true ∨ (L.length : Int) - t.gone = 0) := fun h => h.elim h0 h1
      have e2 : ¬ (fs.length = 0 ∨ t.at_ = true) := fun h => h.elim (fun h => h1 (by omega)) h0
      rw [if_neg e1, if_neg e2]
theorem RowQ.rd {w : World} {g : Nat} {M : Nat → Prop} {v : Value} {n : Nat} {xs : List Value} {N : Nat → Prop} (h : RowQ w g v n xs N M) (hN : ¬ N g) (hm : n ≤ 1000000) (hx : xs.length = n * 3) : ∃ a c, v = .slice a n c ∧ (n ≤ c ∧ c ≤ 9223372036854775807 ∧ (a = none → c = 0)) ∧ Rd w a xs := by
  by_cases hn : 0 < n
  · obtain ⟨b, off, c, rfl, h1, h2, h3, -, -⟩ := h.first hN hn (by omega)
    exact ⟨_, _, rfl, ⟨h1, h2, fun e => by cases e⟩, fun k u hu => ⟨b, off, rfl, h3 k u hu⟩⟩
  · obtain rfl : n = 0 := by omega
    obtain rfl : xs = [] := List.eq_nil_of_length_eq_zero (by omega)
    rcases h with ⟨h, hb⟩ | ⟨hl, ad, rfl, h, hn'⟩
    · rcases h.2 with ⟨rfl, _⟩ | ⟨b, cap, cur, rfl, h1, h2, h3, h4, h5⟩
      · exact ⟨_, _, rfl, ⟨by omega, by omega, fun _ => rfl⟩, Rd.nil _ _⟩
      · exact ⟨_, _, rfl, ⟨h3, (by unfold maxLen at h4; omega), fun e => by cases e⟩, Rd.nil _ _⟩
    · exact ⟨_, _, rfl, ⟨by omega, by omega, fun _ => rfl⟩, Rd.nil _ _⟩
def QAllP (w : World) (fs : List Frm) (M : Nat → Prop) (e : Ending) (w' : World) : Prop :=
  ∃ b a c xs N, e = .returned (.func (.func 46) #[] #[.pointer (some ⟨b, 0, none⟩)]) ∧ w.heap.size ≤ b ∧ w'.heap[b]? = some (.cells #[.slice a fs.length c] 59 (0, 0)) ∧ Rd w' a xs ∧ Below w.heap.size w w' ∧
    (∀ ad, a = some ad → w.heap.size ≤ ad.block ∧ ad.block ≠ b) ∧ Frs w' N fs xs ∧ ∀ k, N k → M k
theorem qall {w : World} {g : Nat} {s : QR} {fs : List Frm} {M : Nat → Prop} (h : QSt w g s fs M) (hm : fs.length ≤ 1000000) : Calls Try.prog 27 #[.pointer (some ⟨g, 0, none⟩)] w (QAllP w fs M) := by
  obtain ⟨v, xs, N, h1, h2, h3, h4, h5, h6, h7⟩ := h
  obtain ⟨a, c, rfl, hc, hr⟩ := h2.rd h5 hm h3.length
  refine (all_any w g s a fs.length c xs h1 h3.length (fun u hu => h3.one hu) hc.1 hc.2.1 hm hc.2.2 hr).mono ?_
  rintro e w' ⟨b, a2, c2, rfl, k1, k2, k3, k4, -, k6⟩
  exact ⟨b, a2, c2, xs, N, rfl, k1, k2, k3, k4, k6, Frs.only (F := fun k => w.heap.size ≤ k) (Only.of_below k4 (fun _ _ h => h)) (fun k hk hle => by have := h7 k (h6 k hk); omega) (fun _ h => h) h3, h6⟩
theorem below_drewN {n0 : Nat} {w W : World} (h : Below n0 w W) (k : Nat) : Below n0 w (W.drewN k) := by
  obtain ⟨h1, h2, h3, h4, h5⟩ := h
  exact ⟨h1, h2, h3, h4, h5⟩
theorem quiet_add_of {P : Program} {f : FuncId} {args : Array Value} {w : World} {a n : Nat} {v : Value} (h : Calls P f args (w.drewN (a + n)) fun e w' => e = .returned v ∧ ∃ m, w' = (w.drewN (a + n)).drewN m) :
    Calls P f args (w.drewN (a + n)) fun e w'' => e = .returned v ∧ ∃ m, w'' = w.drewN (a + m) :=
  h.mono fun _ _ ⟨he, m, hm⟩ => ⟨he, n + m, by rw [hm, World.drewN_drewN, Nat.add_assoc]⟩
theorem keeph {A B : World} {k : Nat} {o : Obj} (hb : Below A.heap.size A B) (h : A.heap[k]? = some o) : B.heap[k]? = some o := (hb.block _ (Array.getElem?_eq_some_iff.1 h).1).trans h
theorem below_drews (W : World) (k : Nat) : Below W.drew.heap.size W.drew (W.drewN k) := ⟨rfl, rfl, rfl, Nat.le_refl _, fun _ _ => rfl⟩
theorem below_drews2 (W : World) (k : Nat) : Below W.heap.size W (W.drewN k) := ⟨rfl, rfl, rfl, Nat.le_refl _, fun _ _ => rfl⟩
theorem rcf_rate : ∀ (xs : List Rec) (j : Nat), j < xs.length → ∃ r : Int, (rcf xs)[j * 5 + 3]? = some (.int .i64 r)
  | [], j, h => by simp at h
  | x :: xs, 0, _ => ⟨x.rate, by simp [rcf, Rec.cells]⟩
  | x :: xs, j + 1, h => by
    obtain ⟨r, hr⟩ := rcf_rate xs j (by simpa using h)
    refine ⟨r, ?_⟩
    rw [← hr]
    rw [show rcf (x :: xs) = x.cells.toList ++ rcf xs by simp [rcf], List.getElem?_append_right (by simp [Rec.cells]; omega)]
    congr 1
    simp [Rec.cells]
    omega
theorem only_putObj {F : Nat → Prop} {w W : World} (h : Only F w W) (l : Nat) (o : Obj) (hl : w.heap.size ≤ l) : Only F w (W.putObj l o) :=
  h.grown (grownBy_putObj' W l o) (fun k e hk => by cases e; omega)
theorem rnd_inv {W7 : World} {kb : Nat} (hkb : kb < W7.heap.size) (o : Obj) : RndInv W7.heap.size (fun W => Only (· = kb) W7 W ∧ W.heap[kb]? = some o) :=
  ⟨fun _ _ h hb => ⟨h.1.trans' (Only.of_new hb), (hb.block kb (Array.getElem?_eq_some_iff.1 h.2).1).trans h.2⟩, fun _ l _ _ h hl _ _ => ⟨only_putObj h.1 l _ hl, (World.putObj_heap_other (by omega)).trans h.2⟩⟩
theorem rnd_invx {W7 : World} {kb : Nat} (hkb : kb < W7.heap.size) (c : Code) (C : Nat → Prop) (o : Nat → Obj) : RndInv W7.heap.size (fun W => c = .exit 2 ∧ ∃ k, C k ∧ Only (· = kb) W7 W ∧ W.heap[kb]? = some (o k)) :=
  ⟨fun _ _ ⟨hc, k, h, h1⟩ hb => ⟨hc, k, h, (rnd_inv hkb (o k)).new _ _ h1 hb⟩, fun _ l o1 o2 ⟨hc, k, h, h1⟩ hl h2 h3 => ⟨hc, k, h, (rnd_inv hkb (o k)).put _ l o1 o2 h1 hl h2 h3⟩⟩
theorem rd_only {w6 W7 W : World} {kb : Nat} {a : Option Addr} {vs : List Value} (hr : Rd w6 a vs) (hb : Below w6.heap.size w6 W7) (ho : Only (· = kb) W7 W) (hk : w6.heap.size ≤ kb) : Rd W a vs := by
  intro k v hv
  obtain ⟨b, off, e, hc⟩ := hr k v hv
  have hlt := World.block_lt_of_cell? w6 _ hc
  simp only at hlt
  exact ⟨b, off, e, ho.cell (keepc hb hc) (by simp only; omega)⟩
/-- Behind a round's body. -/
theorem same_fin {W7 W w18 wr : World} {kb : Nat} {F : Nat → Prop} {o : Value} {ty : TypeId} (ho : Only (· = kb) W7 W) (hb : Below W.heap.size W w18) (hoi : Only F w18 wr) (hF : ∀ b, F b → W7.heap.size ≤ b) (hFc : ∀ b, F b → ∃ o, w18.heap[b]? = some o ∧ o.isCells = true) (hkr : wr.heap[kb]? = some (.cells #[o] ty (0, 0))) (v : Value) :
    KeepsFrom W7.heap.size W (wr.setCell ⟨kb, 0, none⟩ v) ∧ Only (· = kb) W7 (wr.setCell ⟨kb, 0, none⟩ v) ∧ (wr.setCell ⟨kb, 0, none⟩ v).heap[kb]? = some (.cells #[v] ty (0, 0)) := by
  refine ⟨((below_keeps hb).trans ⟨hoi.size, fun k o _ hk hc => hoi.heap hk (fun h => by obtain ⟨o', h1, h2⟩ := hFc k h; rw [hk] at h1; cases h1; rw [hc] at h2; cases h2)⟩).trans ((KeepsOthers.setCell _ _ _).from _), ?_, ?_⟩
  · exact ((ho.trans' (Only.of_new hb)).trans hoi (fun k hk h => by have := hF k h; omega)).setCell _ _ (fun _ => rfl)
  · rw [heap_setCell_same _ _ _ _ _ _ hkr]
    rfl
/-- What region 14 reads. -/
def SameS (kb wb fb gr lb lo : Nat) (k gn : Int) (f : Frm) (ra : Option Addr) (rc : Nat) (la : Option Addr) (ln lc : Nat) (ra2 : Option Addr) (rc2 : Nat) (w' : World) : Prop :=
  (w'.cell? ⟨kb, 0, none⟩ = some (.int .i64 k) ∧ w'.cell? ⟨wb, 0, none⟩ = some (.pointer (some ⟨gr, 0, none⟩)) ∧ w'.cell? ⟨fb, 0, none⟩ = some (.int .u64 f.seq) ∧ w'.cell? ⟨fb, 1, none⟩ = some (.int .i64 f.win) ∧ w'.cell? ⟨fb, 2, none⟩ = some (.slice ra f.recs.length rc)) ∧
  (w'.cell? ⟨gr, 0, none⟩ = some (.slice la ln lc) ∧ w'.cell? ⟨gr, 1, none⟩ = some (.int .i64 gn) ∧ w'.cell? ⟨lb, lo, none⟩ = some (.int .u64 f.seq) ∧ w'.cell? ⟨lb, lo + 1, none⟩ = some (.int .i64 f.win) ∧ w'.cell? ⟨lb, lo + 2, none⟩ = some (.slice ra2 f.recs.length rc2))
theorem SameS.keep {kb wb fb gr lb lo : Nat} {k gn : Int} {f : Frm} {ra : Option Addr} {rc : Nat} {la : Option Addr} {ln lc : Nat} {ra2 : Option Addr} {rc2 : Nat} {w w' : World} (h : SameS kb wb fb gr lb lo k gn f ra rc la ln lc ra2 rc2 w) (hb : Below w.heap.size w w') : SameS kb wb fb gr lb lo k gn f ra rc la ln lc ra2 rc2 w' := by
  obtain ⟨⟨h1, h2, h3, h4, h5⟩, h6, h7, h8, h9, h10⟩ := h
  exact ⟨⟨keepc hb h1, keepc hb h2, keepc hb h3, keepc hb h4, keepc hb h5⟩, keepc hb h6, keepc hb h7, keepc hb h8, keepc hb h9, keepc hb h10⟩
theorem recsEq_self : ∀ xs : List Rec, recsEq xs xs = true := by
  intro xs
  induction xs with
  | nil => rfl
  | cons x r ih => simp [recsEq, recEq, ih]
theorem frEq_self (q win : Int) (xs : List Rec) : frEq q win xs q win xs = true := by
  simp [frEq, recsEq_self]
/-- A round's body in memory. -/
def pa : Code → Code | .seq a _ => a | c => c
def pb : Code → Code | .seq _ b => b | c => c
def pk : Code → Code | .block _ c => c | c => c
def pl : Code → Code | .loop c => c | c => c
def pr : Code → Code | .rangeFunc _ _ _ c => c | c => c
noncomputable def sameBody : Code := pr (pk (pb (pa (pb (pk (pa (pb (pl (pk (pb (pa (pb (pb (pb (pb (pb (pb (Try.f21.body.getD .skip))))))))))))))))))
/-- How a round may have been left. -/
def sameI (W7 : World) (KB : Nat) (k : Nat) (W : World) : Prop := Only (· = KB) W7 W ∧ W.heap[KB]? = some (.cells #[.int .i64 (k : Nat)] 3 (0, 0))
def sameC (tv most : Int) (n k : Nat) : Prop := tv = 0 ∧ most = k ∧ k ≤ n
set_option maxHeartbeats 4000000 in
set_option maxRecDepth 100000 in
theorem same_body {g gr : Nat} {s : QR} {fs : List Frm} {t : RQ} {L : List Frm} {Mr : Nat → Prop} {gn : Nat} (rel : QRel s fs t L gn)
    (hL : L.length ≤ 1000000) (hrl : ∀ f ∈ L, f.recs.length ≤ 1000000) (most : Int) (tv : Int) {W7 : World} {KB TB WB MB : Nat} (hKT : TB ≠ KB) (hKW : WB ≠ KB) (hKM : MB ≠ KB)
    (PW : W7.heap[WB]? = some (.cells #[.pointer (some ⟨gr, 0, none⟩)] 47 (0, 0))) (PM : W7.heap[MB]? = some (.cells #[.int .i64 most] 3 (0, 0))) (PT : W7.heap[TB]? = some (.cells #[.int .i64 tv] 3 (0, 0)))
    (l k B' : Nat) (f : Frm) (W0 W : World) (ra : Option Addr) (rc : Nat) (hkf : fs[k]? = some f) (hi0 : sameI W7 KB k W0) (_hbW : Below W0.heap.size W0 W) (hi : sameI W7 KB k W) (hrW : RSt W gr t L Mr)
    (_hB' : W0.heap.size ≤ B') (hfb : W.heap[B']? = some (.cells #[.int .u64 f.seq, .int .i64 f.win, .slice ra f.recs.length rc] 38 (0, 0))) (hcc : f.recs.length ≤ rc ∧ rc ≤ 9223372036854775807 ∧ (ra = none → rc = 0)) (hrr : Rd W ra (rcf f.recs)) (hnn : f.recs ≠ [] → ∃ b, ra = some ⟨b, 0, none⟩ ∧ W0.heap.size ≤ b ∧ b ≠ B' ∧ ∃ cur t, W.heap[b]? = some (.cells cur t (0, 0)))
    (u1 u2 u3 u6 u7 u8 u9 u10 u11 u15 u16 u17 u18 u19 u20 u21 u22 u23 u24 u25 u26 u27 u28 u29 u30 u31 u32 u33 u34 u35 u36 u37 u38 u39 u40 u41 u42 u43 u44 u45 u46 u47 u48 u49 u50 u51 u52 u53 u54 u55 u56 u57 u58 u59 u60 u61 u62 u63 u64 u65 u66 u67 u68 u69 u70 u71 u72 u73 u74 u75 u76 u77 u78 u79 u80 u81 u82 u83 u84 u85 u86 u87 u88 u89 u90 u91 u92 u93 u94 u95 u96 u97 u98 u99 u100 u101 u102 u103 u104 u105 u106 u107 u108 u109 u110 u111 u112 u113 u114 u115 u116 u117 u118 u119 u120 u121 u122 u123 u124 u125 u126 u127 u128 u129 u130 u131 u132 u133 u134 u135 u136 u137 u138 u139 u140 u141 u142 u143 u144 : Value) :
    sameBody.wpIn (Fence.wide.inRound l) 7 Try.prog (frPost W7.heap.size (sameI W7 KB) (fun c W => c = .exit 2 ∧ ∃ k, sameC tv most fs.length k ∧ sameI W7 KB k W) (k + 1) W) { tmps := #[.pointer (some ⟨g, 0, none⟩), u1, u2, u3, .pointer (some ⟨WB, 0, none⟩), .pointer (some ⟨MB, 0, none⟩), u6, u7, u8, u9, u10, u11, .pointer (some ⟨TB, 0, none⟩), .pointer (some ⟨KB, 0, none⟩), .pointer (some ⟨B', 0, none⟩), u15, u16, u17, u18, u19, u20, u21, u22, u23, u24, u25, u26, u27, u28, u29, u30, u31, u32, u33, u34, u35, u36, u37, u38, u39, u40, u41, u42, u43, u44, u45, u46, u47, u48, u49, u50, u51, u52, u53, u54, u55, u56, u57, u58, u59, u60, u61, u62, u63, u64, u65, u66, u67, u68, u69, u70, u71, u72, u73, u74, u75, u76, u77, u78, u79, u80, u81, u82, u83, u84, u85, u86, u87, u88, u89, u90, u91, u92, u93, u94, u95, u96, u97, u98, u99, u100, u101, u102, u103, u104, u105, u106, u107, u108, u109, u110, u111, u112, u113, u114, u115, u116, u117, u118, u119, u120, u121, u122, u123, u124, u125, u126, u127, u128, u129, u130, u131, u132, u133, u134, u135, u136, u137, u138, u139, u140, u141, u142, u143, u144], defers := [] } W := by
  dsimp only [sameBody, Try.f21, Option.getD_some, pa, pb, pk, pl, pr]
  obtain ⟨ho0, hk0⟩ := hi0
  obtain ⟨ho, hk⟩ := hi
  have hg0 : 0 ≤ t.gone ∧ t.gone ≤ L.length := by have := rel.gone; have := rel.le; omega
  have hklt : k < fs.length := (List.getElem?_eq_some_iff.1 hkf).1
  have hfl : fs.length ≤ 1000000 := by rw [rel.fr, List.length_drop]; omega
  obtain ⟨m, hm⟩ : ∃ m : Nat, m = gn + k := ⟨_, rfl⟩
  have hLk : L[m]? = some f := by rw [rel.fr, List.getElem?_drop, ← hm] at hkf; exact hkf
  have hidx : m < L.length := (List.getElem?_eq_some_iff.1 hLk).1
  have hwr : IntKind.i64.wrap ((gn : Int) + (k : Int)) = (m : Int) := by rw [IntKind.wrap_i64]; omega
  clear hm
  have hge : (fs.length ≤ k) = False := by rw [eq_iff_iff, iff_false]; omega
  have hfm : f ∈ L := List.mem_of_getElem? hLk
  obtain ⟨la, lc, lxs, NL, hbox, hlc, hlr, -, hlf, -⟩ := id hrW
  obtain ⟨lb, lo, ra2, rc2, rfl, e0, e1, e2, hcc2, hrr2, -⟩ := frs_cells hlf hlr m f hLk
  have g0 := hbox.c0
  have g1 := hbox.c1
  rw [rel.gone] at g1
  have kc : W.cell? ⟨KB, 0, none⟩ = some (.int .i64 k) := by rw [cell_of_row _ _ _ _ _ _ hk]; rfl
  have wc : W.cell? ⟨WB, 0, none⟩ = some (.pointer (some ⟨gr, 0, none⟩)) := by rw [cell_of_row _ _ _ _ _ _ (ho.heap PW hKW)]; rfl
  have f0 : W.cell? ⟨B', 0, none⟩ = some (.int .u64 f.seq) := by rw [cell_of_row _ _ _ _ _ _ hfb]; rfl
  have f1 : W.cell? ⟨B', 1, none⟩ = some (.int .i64 f.win) := by rw [cell_of_row _ _ _ _ _ _ hfb]; rfl
  have f2 : W.cell? ⟨B', 2, none⟩ = some (.slice ra f.recs.length rc) := by rw [cell_of_row _ _ _ _ _ _ hfb]; rfl
  have HWT := Lib.hid (fun X (hb : Below W.heap.size W X) => rel.len ▸ rwaiting_any (hrW.new hb) hg0 hL)
  have HSM := Lib.hid (fun X (hb : Below W.heap.size W X) => frEq_self f.seq f.win f.recs ▸ rfsame_any X f.seq f.win f.seq f.win ra ra2 rc rc2 f.recs f.recs (hrl f hfm) (hrl f hfm) (hrr.below hb (Nat.le_refl _)) (hrr2.below hb (Nat.le_refl _)))
  unfold frv at HSM
  have HS0 := Lib.hid (show SameS KB WB B' gr lb (lo + m * 3) k gn f ra rc (some ⟨lb, lo, none⟩) L.length lc ra2 rc2 W from ⟨⟨kc, wc, f0, f1, f2⟩, g0, g1, e0, e1, e2⟩)
  have HO := Lib.hid ho
  have S70 := Lib.hid ho0.size
  have SB0 := Lib.hid (Array.getElem?_eq_some_iff.1 hk0).1
  have SB1 := Lib.hid (show TB < W0.heap.size by have h1 := (Array.getElem?_eq_some_iff.1 PT).1; have h2 := ho0.size; omega)
  have SB2 := Lib.hid (show MB < W0.heap.size by have h1 := (Array.getElem?_eq_some_iff.1 PM).1; have h2 := ho0.size; omega)
  have PT2 := Lib.hid (ho.heap PT hKT)
  have PM2 := Lib.hid (ho.heap PM hKM)
  have HK := Lib.hid hk
  have HFB := Lib.hid hfb
  have HRR := Lib.hid hrr
  have HNN := Lib.hid hnn
  clear hbox hlr hlf hlc hrr hrr2 hcc2 hnn hfb ho hk ho0 hk0 kc wc f0 f1 f2 g0 g1 e0 e1 e2 PT PM PW hrW hkf
  gi_wp2_with fail
  refine wpIn_region_round (S := SameS KB WB B' gr lb (lo + m * 3) k gn f ra rc (some ⟨lb, lo, none⟩) L.length lc ra2 rc2) (by kernel_rfl) (by kernel_rfl) (SameS.keep HS0.out (below_drews2 _ 1)) (fun hHeld => ?_)
  refine wpAnyH_take (i := 0) (oi := _) (v := ?_) rfl (by kernel_rfl) (by kernel_rfl) (by kernel_rfl) (fun _ _ _ h => h) (Or.inl ⟨by rfl, ?_⟩) (by assumption) ?_
  rotate_left 1
  · (intro w hSw; (try dsimp only at hSw); (obtain ⟨⟨q0, q1, q2, q3, q4⟩, q5, q6, q7, q8, q9⟩ := hSw; go_simp); (try with_reducible rfl))
  try simp only [Act.put, List.getElem_toArray, List.getElem_cons_zero, List.setIfInBounds_toArray, List.set_cons_zero, List.set_cons_succ]
  refine wpAnyH_take (i := 1) (oi := _) (v := ?_) rfl (by kernel_rfl) (by kernel_rfl) (by kernel_rfl) (fun _ _ _ h => h) (Or.inl ⟨by rfl, ?_⟩) (by assumption) ?_
  rotate_left 1
  · (intro w hSw; (try dsimp only at hSw); (obtain ⟨⟨q0, q1, q2, q3, q4⟩, q5, q6, q7, q8, q9⟩ := hSw; go_simp); (try with_reducible rfl))
  try simp only [Act.put, List.getElem_toArray, List.getElem_cons_succ, List.getElem_cons_zero, List.setIfInBounds_toArray, List.set_cons_zero, List.set_cons_succ]
  refine wpAnyH_ready (rs := [2]) (by kernel_rfl) (by simp) ?_
  refine AllReadyH.cons (o := _) rfl (fun K hK => ?_) AllReadyH.nil
  go_simp
  refine (HWT.out _ (by exact below_drews2 W 1)).mono ?_
  rintro e w2 ⟨rfl, n2, rfl⟩
  go_wp2_with fail
  refine hK.out _ _ ?_ (fun hHeld2 => ?_)
  · exact SameS.keep hHeld (below_drews _ _)
  clear hK K
  try simp only [Act.put, List.getElem_toArray, List.getElem_cons_succ, List.getElem_cons_zero, List.setIfInBounds_toArray, List.set_cons_zero, List.set_cons_succ]
  refine wpAnyH_take (i := 3) (oi := _) (v := ?_) rfl (by kernel_rfl) (by kernel_rfl) (by kernel_rfl) (fun _ _ _ h => h) (Or.inl ⟨by rfl, ?_⟩) (by assumption) ?_
  rotate_left 1
  · (intro w hSw; (try dsimp only at hSw); (obtain ⟨⟨q0, q1, q2, q3, q4⟩, q5, q6, q7, q8, q9⟩ := hSw; go_simp); (try with_reducible rfl))
  try simp only [Act.put, List.getElem_toArray, List.getElem_cons_succ, List.getElem_cons_zero, List.setIfInBounds_toArray, List.set_cons_zero, List.set_cons_succ]
  refine wpAnyH_take (i := 4) (oi := _) (v := ?_) rfl (by kernel_rfl) (by kernel_rfl) (by kernel_rfl) (fun _ _ _ h => h) (Or.inl ⟨by rfl, ?_⟩) (by assumption) ?_
  rotate_left 1
  · (intro w hSw; (try dsimp only at hSw); (obtain ⟨⟨q0, q1, q2, q3, q4⟩, q5, q6, q7, q8, q9⟩ := hSw; go_simp); (try with_reducible rfl))
  try simp only [Act.put, List.getElem_toArray, List.getElem_cons_succ, List.getElem_cons_zero, List.setIfInBounds_toArray, List.set_cons_zero, List.set_cons_succ]
  refine wpAnyH_take (i := 5) (oi := _) (v := ?_) rfl (by kernel_rfl) (by kernel_rfl) (by kernel_rfl) (fun _ _ _ h => h) (Or.inl ⟨by rfl, ?_⟩) (by assumption) ?_
  rotate_left 1
  · (intro w hSw; (try dsimp only at hSw); (obtain ⟨⟨q0, q1, q2, q3, q4⟩, q5, q6, q7, q8, q9⟩ := hSw; go_simp); (try with_reducible rfl))
  try simp only [Act.put, List.getElem_toArray, List.getElem_cons_succ, List.getElem_cons_zero, List.setIfInBounds_toArray, List.set_cons_zero, List.set_cons_succ]
  refine wpAnyH_take (i := 6) (oi := _) (v := ?_) rfl (by kernel_rfl) (by kernel_rfl) (by kernel_rfl) (fun _ _ _ h => h) (Or.inl ⟨by rfl, ?_⟩) (by assumption) ?_
  rotate_left 1
  · (intro w hSw; (try dsimp only at hSw); (obtain ⟨⟨q0, q1, q2, q3, q4⟩, q5, q6, q7, q8, q9⟩ := hSw; go_simp); (try with_reducible rfl))
  try simp only [Act.put, List.getElem_toArray, List.getElem_cons_succ, List.getElem_cons_zero, List.setIfInBounds_toArray, List.set_cons_zero, List.set_cons_succ]
  refine wpAnyH_take (i := 7) (oi := _) (v := ?_) rfl (by kernel_rfl) (by kernel_rfl) (by kernel_rfl) (fun _ _ _ h => h) (Or.inl ⟨by rfl, ?_⟩) (by assumption) ?_
  rotate_left 1
  · (intro w hSw; (try dsimp only at hSw); (obtain ⟨⟨q0, q1, q2, q3, q4⟩, q5, q6, q7, q8, q9⟩ := hSw; go_simp); (try with_reducible rfl))
  try simp only [Act.put, List.getElem_toArray, List.getElem_cons_succ, List.getElem_cons_zero, List.setIfInBounds_toArray, List.set_cons_zero, List.set_cons_succ]
  refine wpAnyH_take (i := 8) (oi := _) (v := ?_) rfl (by kernel_rfl) (by kernel_rfl) (by kernel_rfl) (fun _ _ _ h => h) (Or.inl ⟨by rfl, ?_⟩) (by assumption) ?_
  rotate_left 1
  · (intro w hSw; (try dsimp only at hSw); (obtain ⟨⟨q0, q1, q2, q3, q4⟩, q5, q6, q7, q8, q9⟩ := hSw; go_simp); (try with_reducible rfl))
  try simp only [Act.put, List.getElem_toArray, List.getElem_cons_succ, List.getElem_cons_zero, List.setIfInBounds_toArray, List.set_cons_zero, List.set_cons_succ]
  refine wpAnyH_take (i := 9) (oi := _) (v := ?_) rfl (by kernel_rfl) (by kernel_rfl) (by kernel_rfl) (fun _ _ _ h => h) (Or.inl ⟨by rfl, ?_⟩) (by assumption) ?_
  rotate_left 1
  · (intro w hSw; (try dsimp only at hSw); (obtain ⟨⟨q0, q1, q2, q3, q4⟩, q5, q6, q7, q8, q9⟩ := hSw; go_simp); (try with_reducible rfl))
  try simp only [Act.put, List.getElem_toArray, List.getElem_cons_succ, List.getElem_cons_zero, List.setIfInBounds_toArray, List.set_cons_zero, List.set_cons_succ]
  refine wpAnyH_take (i := 10) (oi := _) (v := ?_) rfl (by kernel_rfl) (by kernel_rfl) (by kernel_rfl) (fun _ _ _ h => h) (Or.inl ⟨by rfl, ?_⟩) (by assumption) ?_
  rotate_left 1
  · (intro w hSw; (try dsimp only at hSw); (obtain ⟨⟨q0, q1, q2, q3, q4⟩, q5, q6, q7, q8, q9⟩ := hSw; go_simp); (try with_reducible rfl))
  try simp only [Act.put, List.getElem_toArray, List.getElem_cons_succ, List.getElem_cons_zero, List.setIfInBounds_toArray, List.set_cons_zero, List.set_cons_succ]
  refine wpAnyH_take (i := 11) (oi := _) (v := ?_) rfl (by kernel_rfl) (by kernel_rfl) (by kernel_rfl) (fun _ _ _ h => h) (Or.inl ⟨by rfl, ?_⟩) (by assumption) ?_
  rotate_left 1
  · (intro w hSw; (try dsimp only at hSw); (obtain ⟨⟨q0, q1, q2, q3, q4⟩, q5, q6, q7, q8, q9⟩ := hSw; go_simp); (try with_reducible rfl))
  try simp only [Act.put, List.getElem_toArray, List.getElem_cons_succ, List.getElem_cons_zero, List.setIfInBounds_toArray, List.set_cons_zero, List.set_cons_succ]
  refine wpAnyH_take (i := 12) (oi := _) (v := ?_) rfl (by kernel_rfl) (by kernel_rfl) (by kernel_rfl) (fun _ _ _ h => h) (Or.inl ⟨by rfl, ?_⟩) (by assumption) ?_
  rotate_left 1
  · (intro w hSw; (try dsimp only at hSw); (obtain ⟨⟨q0, q1, q2, q3, q4⟩, q5, q6, q7, q8, q9⟩ := hSw; go_simp); (try with_reducible rfl))
  try simp only [Act.put, List.getElem_toArray, List.getElem_cons_succ, List.getElem_cons_zero, List.setIfInBounds_toArray, List.set_cons_zero, List.set_cons_succ]
  refine wpAnyH_take (i := 13) (oi := _) (v := ?_) rfl (by kernel_rfl) (by kernel_rfl) (by kernel_rfl) (fun _ _ _ h => h) (Or.inl ⟨by rfl, ?_⟩) (by assumption) ?_
  rotate_left 1
  · (intro w hSw; (try dsimp only at hSw); (obtain ⟨⟨q0, q1, q2, q3, q4⟩, q5, q6, q7, q8, q9⟩ := hSw; go_simp); (try with_reducible rfl))
  try simp only [Act.put, List.getElem_toArray, List.getElem_cons_succ, List.getElem_cons_zero, List.setIfInBounds_toArray, List.set_cons_zero, List.set_cons_succ]
  refine wpAnyH_take (i := 14) (oi := _) (v := ?_) rfl (by kernel_rfl) (by kernel_rfl) (by kernel_rfl) (fun _ _ _ h => h) (Or.inl ⟨by rfl, ?_⟩) (by assumption) ?_
  rotate_left 1
  · (intro w hSw; (try dsimp only at hSw); (obtain ⟨⟨q0, q1, q2, q3, q4⟩, q5, q6, q7, q8, q9⟩ := hSw; go_simp); (try with_reducible rfl))
  try simp only [Act.put, List.getElem_toArray, List.getElem_cons_succ, List.getElem_cons_zero, List.setIfInBounds_toArray, List.set_cons_zero, List.set_cons_succ]
  refine wpAnyH_take (i := 15) (oi := _) (v := ?_) rfl (by kernel_rfl) (by kernel_rfl) (by kernel_rfl) (fun _ _ _ h => h) (Or.inl ⟨by rfl, ?_⟩) (by assumption) ?_
  rotate_left 1
  · (intro w hSw; (try dsimp only at hSw); (obtain ⟨⟨q0, q1, q2, q3, q4⟩, q5, q6, q7, q8, q9⟩ := hSw; go_simp); (try with_reducible rfl))
  try simp only [Act.put, List.getElem_toArray, List.getElem_cons_succ, List.getElem_cons_zero, List.setIfInBounds_toArray, List.set_cons_zero, List.set_cons_succ]
  refine wpAnyH_take (i := 16) (oi := _) (v := ?_) rfl (by kernel_rfl) (by kernel_rfl) (by kernel_rfl) (fun _ _ _ h => h) (Or.inl ⟨by rfl, ?_⟩) (by assumption) ?_
  rotate_left 1
  · (intro w hSw; (try dsimp only at hSw); (obtain ⟨⟨q0, q1, q2, q3, q4⟩, q5, q6, q7, q8, q9⟩ := hSw; go_simp); (try with_reducible rfl))
  try simp only [Act.put, List.getElem_toArray, List.getElem_cons_succ, List.getElem_cons_zero, List.setIfInBounds_toArray, List.set_cons_zero, List.set_cons_succ]
  refine wpAnyH_take (i := 17) (oi := _) (v := ?_) rfl (by kernel_rfl) (by kernel_rfl) (by kernel_rfl) (fun _ _ _ h => h) (Or.inl ⟨by rfl, ?_⟩) (by assumption) ?_
  rotate_left 1
  · (intro w hSw; (try dsimp only at hSw); (obtain ⟨⟨q0, q1, q2, q3, q4⟩, q5, q6, q7, q8, q9⟩ := hSw; go_simp); (try with_reducible rfl))
  try simp only [Act.put, List.getElem_toArray, List.getElem_cons_succ, List.getElem_cons_zero, List.setIfInBounds_toArray, List.set_cons_zero, List.set_cons_succ]
  refine wpAnyH_ready (rs := [18]) (by kernel_rfl) (by simp) ?_
  refine AllReadyH.cons (o := _) rfl (fun K hK => ?_) AllReadyH.nil
  go_simp
  refine (HSM.out _ (below_drews2 _ _)).mono ?_
  rintro e w18 ⟨rfl, hb18⟩
  have HB18 := Lib.hid ((below_drews2 W _).trans (hb18.mono (below_drews2 W _).size))
  go_wp2_with fail
  refine hK.out _ _ ?_ (fun hHeld18 => ?_)
  · exact SameS.keep hHeld2 hb18
  clear hK K
  try simp only [Act.put, List.getElem_toArray, List.getElem_cons_succ, List.getElem_cons_zero, List.setIfInBounds_toArray, List.set_cons_zero, List.set_cons_succ]
  refine wpAnyH_take (i := 19) (oi := _) (v := ?_) rfl (by kernel_rfl) (by kernel_rfl) (by kernel_rfl) (fun _ _ _ h => h) (Or.inl ⟨by rfl, ?_⟩) (by assumption) ?_
  rotate_left 1
  · (intro w hSw; (try dsimp only at hSw); go_simp; (try with_reducible rfl))
  try simp only [Act.put, List.getElem_toArray, List.getElem_cons_succ, List.getElem_cons_zero, List.setIfInBounds_toArray, List.set_cons_zero, List.set_cons_succ]
  refine wpAnyH_take (i := 20) (oi := _) (v := ?_) rfl (by kernel_rfl) (by kernel_rfl) (by kernel_rfl) (fun _ _ _ h => h) (Or.inl ⟨by rfl, ?_⟩) (by assumption) ?_
  rotate_left 1
  · (intro w hSw; (try dsimp only at hSw); go_simp; (try with_reducible rfl))
  try simp only [Act.put, List.getElem_toArray, List.getElem_cons_succ, List.getElem_cons_zero, List.setIfInBounds_toArray, List.set_cons_zero, List.set_cons_succ]
  refine wpAnyH_done (by kernel_rfl) ?_ _
  refine NoPanic.normal ?_
  refine OnlyN.normal ?_
  have HS1 := Lib.hid hHeld18
  clear hHeld hHeld2 hHeld18
  have hz18 : ∀ ad, ra = some ad → ∀ j, j < f.recs.length → (∃ r : Int, w18.cell? ⟨ad.block, j * 5 + 3, none⟩ = some (.int .i64 r)) ∧ w18.frozen? ⟨ad.block, j * 5 + 3, none⟩ = false := by
    intro ad e j hj
    obtain ⟨b, e2, -, -, cur, ty, hz⟩ := HNN.out (fun h => by rw [h] at hj; simp at hj)
    rw [e] at e2
    cases e2
    obtain ⟨r, hr3⟩ := rcf_rate f.recs j hj
    obtain ⟨b', off, e3, -, hc⟩ := HRR.out.at hr3
    rw [e] at e3
    cases e3
    rw [Nat.zero_add] at hc
    exact ⟨⟨r, keepc HB18.out hc⟩, frozen_of_row w18 _ _ _ _ (keeph HB18.out hz)⟩
  have fc18 := HS1.out.1.2.2.2.2
  have HFN := Lib.hid (fun b (hb : ∃ ad, ra = some ad ∧ ad.block = b ∧ f.recs ≠ []) => (show W0.heap.size ≤ b ∧ b ≠ B' from by
    obtain ⟨ad, e, rfl, hne⟩ := hb
    obtain ⟨b, e2, h1, h2, -⟩ := HNN.out hne
    rw [e] at e2
    cases e2
    exact ⟨h1, h2⟩))
  gi_wp2_with fail
  gi_loopw [15] (fun iv wr => ∃ i : Nat, iv = .int .i64 i ∧ i ≤ f.recs.length ∧ Only (fun b => ∃ ad, ra = some ad ∧ ad.block = b ∧ f.recs ≠ []) w18 wr ∧ ∀ ad, ra = some ad → ∀ j, j < f.recs.length → (∃ r : Int, wr.cell? ⟨ad.block, j * 5 + 3, none⟩ = some (.int .i64 r)) ∧ wr.frozen? ⟨ad.block, j * 5 + 3, none⟩ = false) (fun iv _ => f.recs.length - (intOf iv).toNat)
  case atStart => exact ⟨0, rfl, Nat.zero_le _, Only.refl _ _, hz18⟩
  case round =>
    obtain ⟨i, rfl, hi, hoi, hzi⟩ := hrel
    have fci : wr.cell? ⟨B', 2, none⟩ = some (.slice ra f.recs.length rc) := hoi.cell fc18 (fun hb => (HFN.out _ hb).2 rfl)
    clear fc18 hz18
    have hrl18 := hrl f hfm
    by_cases hilt : i < f.recs.length
    · have hfne : f.recs ≠ [] := fun e => by rw [e] at hilt; simp at hilt
      obtain ⟨rb, rfl, -⟩ := HNN.out hfne
      obtain ⟨⟨r, hci⟩, hfi⟩ := hzi _ rfl i hilt
      simp only at hci hfi
      gi_wp2
      go_roundw
      case rel =>
        refine ⟨i + 1, by go_num, by omega, hoi.setCell _ _ (fun _ => ⟨_, rfl, rfl, hfne⟩), fun ad e j hj => ?_⟩
        cases e
        obtain ⟨⟨r2, hcj⟩, hfj⟩ := hzi _ rfl j hj
        simp only at hcj hfj
        rw [World.frozen?_setCell]
        refine ⟨?_, hfj⟩
        by_cases hji : j = i
        · subst hji
          exact ⟨_, World.cell?_setCell_same' _ _ _ (by rw [hcj]; rfl)⟩
        · exact ⟨r2, (World.cell?_setCell_other (w := wr) (a := ⟨rb, i * 5 + 3, none⟩) (b := ⟨rb, j * 5 + 3, none⟩) (v := .int .i64 (wrap64 (r + 1))) (h := fun e => hji (by injection e with _ e2 _; omega))).trans hcj⟩
      case measure => simp [intOf]; omega
    · obtain rfl : i = f.recs.length := by omega
      have hkr := hoi.heap (keeph HB18.out HK.out) (fun hb => by have h1 := (HFN.out _ hb).1; have h2 := SB0.out; omega)
      have htr := hoi.heap (keeph HB18.out PT2.out) (fun hb => by have h1 := (HFN.out _ hb).1; have h2 := SB1.out; omega)
      have hmr := hoi.heap (keeph HB18.out PM2.out) (fun hb => by have h1 := (HFN.out _ hb).1; have h2 := SB2.out; omega)
      have kcr : wr.cell? ⟨KB, 0, none⟩ = some (.int .i64 k) := by rw [cell_of_row _ _ _ _ _ _ hkr]; rfl
      have kzr := frozen_of_row wr _ 0 _ _ hkr
      have tcr : wr.cell? ⟨TB, 0, none⟩ = some (.int .i64 tv) := by rw [cell_of_row _ _ _ _ _ _ htr]; rfl
      have mcr : wr.cell? ⟨MB, 0, none⟩ = some (.int .i64 most) := by rw [cell_of_row _ _ _ _ _ _ hmr]; rfl
      have HOI := Lib.hid hoi
      have HKR := Lib.hid hkr
      clear hoi hkr htr hmr hzi
      have HWK := Lib.hid (show ((k + 1 : Nat) : Int) = (k : Int) + 1 by omega)
      have HFIN := Lib.hid (same_fin HO.out HB18.out HOI.out (fun b hb => Nat.le_trans S70.out (HFN.out b hb).1) (fun b hb => by
        obtain ⟨ad, e, rfl, hne⟩ := hb
        obtain ⟨b', e2, -, -, cur, ty, hz⟩ := HNN.out hne
        rw [e] at e2
        cases e2
        exact ⟨_, keeph HB18.out hz, rfl⟩) HKR.out)
      by_cases htv : tv = 0
      · subst htv
        by_cases hmk : (k : Int) + 1 = most
        · subst hmk
          gi_wp2_with fail
          all_goals exact ⟨(HFIN.out _).1, rfl, k + 1, ⟨rfl, HWK.out.symm, by omega⟩, (HFIN.out _).2.1, by rw [HWK.out]; exact (HFIN.out _).2.2⟩
        · gi_wp2_with fail
          all_goals exact ⟨(HFIN.out _).1, (HFIN.out _).2.1, by rw [HWK.out]; exact (HFIN.out _).2.2⟩
      · gi_wp2_with fail
        all_goals exact ⟨(HFIN.out _).1, (HFIN.out _).2.1, by rw [HWK.out]; exact (HFIN.out _).2.2⟩
end Go.Proofs.Ytdomnjakhecbaaa
