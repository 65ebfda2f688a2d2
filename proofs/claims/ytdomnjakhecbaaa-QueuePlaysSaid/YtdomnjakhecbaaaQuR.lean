/- A range over a queue's frames: the law, with what the memory says of each frame that is handed out. -/
import Derived.Test.YtdomnjakhecbaaaQuP
import Derived.OrdersIn
import Derived.OrdersHeld
import Derived.Deep.RegionHeld3
namespace Go.Proofs.Ytdomnjakhecbaaa
open Go.RowKit K Go.Shelf
attribute [local go_sem] Oper.semAt_some
theorem frs_cells {w : World} {N : Nat → Prop} {fs : List Frm} {a : Option Addr} {xs : List Value} (h : Frs w N fs xs) (hr : Rd w a xs) (k : Nat) (f : Frm) (hk : fs[k]? = some f) :
    ∃ b off ra rc, a = some ⟨b, off, none⟩ ∧ w.cell? ⟨b, off + k * 3, none⟩ = some (.int .u64 f.seq) ∧ w.cell? ⟨b, off + k * 3 + 1, none⟩ = some (.int .i64 f.win) ∧ w.cell? ⟨b, off + k * 3 + 2, none⟩ = some (.slice ra f.recs.length rc) ∧
      (f.recs.length ≤ rc ∧ rc ≤ 9223372036854775807 ∧ (ra = none → rc = 0)) ∧ Rd w ra (rcf f.recs) ∧ ∀ ad, ra = some ad → N ad.block := by
  obtain ⟨hlt, hkf⟩ := List.getElem?_eq_some_iff.1 hk
  obtain ⟨cs, ⟨ra, rc, rfl, h2, h3, h4⟩, h5⟩ := h.at k hlt
  rw [hkf] at h5 h2 h3
  have e0 := h5 0 (by omega)
  have e1 := h5 1 (by omega)
  have e2 := h5 2 (by omega)
  simp only [List.getElem?_cons_zero, List.getElem?_cons_succ, Nat.add_zero] at e0 e1 e2
  obtain ⟨b, off, rfl, -, c0⟩ := hr.at e0
  obtain ⟨b', off', e, -, c1⟩ := hr.at e1
  cases e
  obtain ⟨b', off', e, -, c2⟩ := hr.at e2
  cases e
  refine ⟨b, off, ra, rc, rfl, ?_, ?_, ?_, h2, h3, h4⟩
  · rw [← c0, Nat.mul_comm]
  · rw [← c1, Nat.mul_comm, Nat.add_assoc]
  · rw [← c2, Nat.mul_comm, Nat.add_assoc]
/-- What the iterator is told: between two frames, where it was stopped; its own row lies on; new memory is no matter. -/
structure ItSrc (a : Option Addr) (xs : List Value) (fs : List Frm) (J : Nat → World → Prop) : Prop where
  src : ∀ k W, J k W → Rd W a xs ∧ ∃ N, Frs W N fs xs
  new : ∀ k W W', J k W → Below W.heap.size W W' → J k W'
def ItYield (P : Program) (l : Nat) (fs : List Frm) (J : Nat → World → Prop) (Jx : World → Prop) : Prop :=
  ∀ k f W0 W a c, fs[k]? = some f → J k W0 → Below W0.heap.size W0 W → (f.recs.length ≤ c ∧ c ≤ 9223372036854775807 ∧ (a = none → c = 0)) → Rd W a (rcf f.recs) → (f.recs ≠ [] → ∃ b, a = some ⟨b, 0, none⟩ ∧ W0.heap.size ≤ b ∧ ∃ cur t, W.heap[b]? = some (.cells cur t (0, 0))) →
    YieldAt Fence.wide 7 P l #[frv f.seq f.win (.slice a f.recs.length c)] W fun e W' => (e = .returned (.bool true) ∧ J (k + 1) W') ∨ (e = .returned (.bool false) ∧ Jx W')
set_option maxHeartbeats 1000000 in
set_option maxRecDepth 100000 in
theorem all1_any {a : Option Addr} {xs : List Value} {fs : List Frm} {J : Nat → World → Prop} {Jx : World → Prop} (hs : ItSrc a xs fs J) (l b c : Nat) (hY : ItYield Try.prog l fs J Jx)
    (_hf : ∀ f ∈ fs, FOk f) (hm : fs.length ≤ 1000000) (hrl : ∀ f ∈ fs, f.recs.length ≤ 1000000) (W : World) (hb : W.cell? ⟨b, 0, none⟩ = some (.slice a fs.length c)) (h0 : J 0 W) :
    CallsIn Fence.wide 8 Try.prog 46 #[.func (.yield l) #[] #[], .pointer (some ⟨b, 0, none⟩)] W fun e W' => (∃ v, e = .returned v) ∧ (J fs.length W' ∨ Jx W') := by
  refine callsIn_of_wp Try.func46 rfl trivial ?_ rfl
  simp only [Try.ntmps46, List.size_toArray, List.length_cons, List.length_nil, Nat.reduceAdd, Nat.reduceSub, Array.replicate_succ, Array.replicate_zero, List.push_toArray, List.append_toArray, List.nil_append, List.cons_append]
  have HS := Lib.hid hs
  have HY := Lib.hid hY
  clear hs hY
  gi_wp2
  gi_loopw [7] (fun i wr => ∃ k : Nat, i = .int .i64 k ∧ k ≤ fs.length ∧ J k wr) (fun i _ => fs.length - (intOf i).toNat)
  case atStart => exact ⟨0, rfl, Nat.zero_le _, h0⟩
  case round =>
    obtain ⟨k, rfl, hk, hJ⟩ := hrel
    by_cases hlt : k < fs.length
    · obtain ⟨f, hkf⟩ : ∃ f, fs[k]? = some f := ⟨_, List.getElem?_eq_getElem hlt⟩
      obtain ⟨hra, N, hN⟩ := HS.out.src k wr hJ
      obtain ⟨bb, off, ra, rc, rfl, d0, d1, d2, hcc, hrr, -⟩ := frs_cells hN hra k f hkf
      have HC := Lib.hid (fun w1 (h : Below wr.heap.size wr w1) => callsIn_wide (n := 7).2 (copied_z w1 f.seq f.win ra rc f.recs hcc.1 hcc.2.1 (hrl f (List.mem_of_getElem? hkf)) hcc.2.2 (hrr.below h (Nat.le_refl _))))
      have HJ := Lib.hid hJ
      clear hra hN hrr hJ hcc
      gi_wp2_with fail
      refine ⟨trivial, (HC.out _ ((Below.refl _ _).alloc (Nat.le_refl _) _)).mono ?_⟩
      rintro e w1 ⟨a2, c2, rfl, hr1, hb1, hcc1, hn1⟩
      obtain ⟨fn, tmps, assign, body, hy, hR⟩ := HY.out k f wr w1 a2 c2 hkf HJ.out (((Below.refl _ wr).alloc (Nat.le_refl _) _).trans (hb1.mono (by simp))) hcc1 hr1 (fun h => by
        obtain ⟨b', e, hb', hz⟩ := hn1 h
        exact ⟨b', e, by simp only [World.size_alloc] at hb'; omega, hz⟩)
      clear hr1 hb1 hcc1 hn1 HC HJ
      gi_wp2
      refine hR.mono ?_
      rintro e W3 (⟨rfl, hJ3⟩ | ⟨rfl, hJx3⟩)
      · gi_wp2
        go_roundw
        case rel => exact ⟨k + 1, by go_num, by omega, hJ3⟩
        case measure => simp [intOf]; omega
      · gi_wp2
        refine bodyPost_ret (results_none rfl _ _ _) rfl ?_
        exact ⟨⟨_, rfl⟩, .inr hJx3⟩
    · obtain rfl : k = fs.length := by omega
      gi_wp2
      go_end0
      exact ⟨⟨_, rfl⟩, .inl hJ⟩
end Go.Proofs.Ytdomnjakhecbaaa
namespace Go.Proofs.Ytdomnjakhecbaaa
open Go.RowKit K Go.Shelf
attribute [local go_sem] Oper.semAt_some
/-- Q, at a normal end alone. -/
def OnlyN (Q : Exit → Act → World → Prop) : Exit → Act → World → Prop
  | .normal, a, w => Q .normal a w
  | _, _, _ => False
theorem OnlyN.imp {Q : Exit → Act → World → Prop} : ∀ (e : Exit) (a : Act) (w : World), OnlyN Q e a w → Q e a w := fun e a w h => by
  cases e <;> first | exact h | exact (h : False).elim
theorem OnlyN.normal {Q : Exit → Act → World → Prop} {a : Act} {w : World} (h : Q .normal a w) : OnlyN Q .normal a w := h
/-- No operation of these defers. -/
def noDefer (ops : Array Oper) : Bool := ops.all fun o => match o.op with | .defer _ => false | _ => true
theorem noDefer_at {ops : Array Oper} (h : noDefer ops = true) {i : Nat} {o : Oper} (ho : ops[i]? = some o) : ∀ c, o.op ≠ .defer c := by
  intro c e
  obtain ⟨hi, rfl⟩ := Array.getElem?_eq_some_iff.1 ho
  have := (Array.all_eq_true.1 h) i hi
  rw [e] at this
  cases this
theorem wpOpIn_of_wpOp {P : Program} {ops : Array Oper} {Q : Exit → Act → World → Prop} {l n i : Nat} (hd : noDefer ops = true) (hQ : ¬ LetsOut Q) {K : Act → World → Prop} {a : Act} {w : World} (h : wpOp P ops Q i K a w) : wpOpIn (Fence.wide.inRound l) n P ops Q i K a w := by
  unfold wpOp at h
  unfold wpOpIn
  cases ho : ops[i]? with
  | none =>
    rw [ho] at h
    exact h
  | some o =>
    rw [ho] at h
    simp only [] at h ⊢
    split at h
    · rename_i hw
      rw [if_pos hw]
      rcases h with h | ⟨_, h⟩
      · unfold Oper.wp at h
        unfold Oper.wpIn
        refine ⟨fun _ _ => trivial, ?_⟩
        rw [Oper.semAt_eq _ _ _ (noDefer_at hd ho)]
        generalize (execOp a.eval o).run P w = r at h
        cases r with
        | ok x w' =>
          cases x <;> simp only [Oper.upon] at h <;> simp only [Oper.uponIn]
          case value => exact h
          case skip => exact h
          case defer => exact h
          case enter f args => exact ⟨fun h => (by cases h), callsIn_wide.2 h⟩
          case row f args => exact ⟨fun h => (by cases h), fun c cs _ => by
            obtain ⟨v, w1, h1, h2⟩ := h c cs
            exact ⟨v, w1, h1, stepsIn_wide.2 h2⟩⟩
        | halt x w' => cases x <;> simp only [Oper.upon] at h <;> simp only [Oper.uponIn] <;> exact h
      · exact absurd h hQ
    · rename_i hw
      rw [if_neg hw]
      exact ⟨fun _ _ => trivial, h⟩
theorem wpAnyIn_of_wpAny {P : Program} {md : Region.Mode} {ops : Array Oper} {Q : Exit → Act → World → Prop} {l n : Nat} (hd : noDefer ops = true) (hQ : ¬ LetsOut Q) : ∀ (fuel : Nat) (listed : Array Bool) (a : Act) (w : World), wpAny P md ops Q fuel listed a w → wpAnyIn (Fence.wide.inRound l) n P md ops Q fuel listed a w
  | 0, _, _, _, h => h
  | fuel + 1, _, _, _, h => ⟨h.1, fun i hi => wpOpIn_mono (fun a w h => wpAnyIn_of_wpAny hd hQ fuel _ a w h) (wpOpIn_of_wpOp hd hQ (h.2 i hi))⟩
/-- A region that draws its order, in a round: a plain walk of its operations. -/
theorem wpIn_region_round {P : Program} {ops : Array Oper} {Q : Exit → Act → World → Prop} {l n id : Nat} {a : Act} {w : World} {S : World → Prop} (hm : P.follows .mixedOrders = true) (hd : noDefer ops = true) (hS : S w.drew)
    (h : S w.drew → wpAnyH P .any ops (NoPanic (OnlyN Q)) S ops.size (Array.replicate ops.size false) a w.drew) : (Code.region id ops true).wpIn (Fence.wide.inRound l) n P Q a w := by
  refine wpIn_mono (Q := NoPanic (OnlyN Q)) (wpIn_region_any hm (wpAnyIn_of_wpAny hd ?_ _ _ _ _ (wpAny_of_held _ _ _ _ (h hS)))) (fun e a w h => OnlyN.imp e a w (NoPanic.imp e a w h))
  rintro ⟨a0, w0, h0⟩
  exact h0
/-- How a round's body may be left. -/
def frPost (B : Nat) (I : Nat → World → Prop) (Ix : Code → World → Prop) (k : Nat) (W : World) : Exit → Act → World → Prop
  | .normal, _, W' => KeepsFrom B W W' ∧ I k W'
  | .ret, _, W' => KeepsFrom B W W' ∧ Ix .ret W'
  | .exit id, _, W' => KeepsFrom B W W' ∧ Ix (.exit id) W'
  | _, _, _ => False
/-- What an invariant of a round must abide. -/
structure RndInv (B : Nat) (I : World → Prop) : Prop where
  new : ∀ W W', I W → Below W.heap.size W W' → I W'
  put : ∀ W (l : Nat) (o o' : Obj), I W → B ≤ l → W.heap[l]? = some o → o.isCells = false → I (W.putObj l o')
theorem below_keeps {B : Nat} {W W' : World} (h : Below W.heap.size W W') : KeepsFrom B W W' :=
  ⟨h.size, fun k _ _ hk _ => (h.block k (Array.getElem?_eq_some_iff.1 hk).1).trans hk⟩
theorem below_putObj {W W' : World} (h : Below W.heap.size W W') (l : Nat) (o : Obj) : Below (W.putObj l o).heap.size (W.putObj l o) (W'.putObj l o) := by
  obtain ⟨h1, h2, h3, h4, h5⟩ := h
  refine ⟨h1, h2, h3, by simpa using h4, fun k hk0 => ?_⟩
  have hk : k < W.heap.size := by simpa using hk0
  clear hk0
  by_cases e : k = l
  · subst e
    rw [World.putObj_heap_same hk, World.putObj_heap_same (by omega)]
  · rw [World.putObj_heap_other e, World.putObj_heap_other e]
    exact h5 k hk
theorem rd_putObj {W : World} {a : Option Addr} {vs : List Value} (h : Rd W a vs) {l : Nat} {o : Obj} (o' : Obj) (hl : W.heap[l]? = some o) (ho : o.isCells = false) : Rd (W.putObj l o') a vs := by
  intro k v hv
  obtain ⟨b, off, e, hc⟩ := h k v hv
  refine ⟨b, off, e, ?_⟩
  have hne : b ≠ l := fun e => by
    subst e
    unfold World.cell? at hc
    rw [hl] at hc
    cases o <;> simp_all [Obj.isCells]
  unfold World.cell? at hc ⊢
  rw [World.putObj_heap_other hne]
  exact hc
theorem wp_rangeFunc_frames {P : Program} {g : Operand} {p : Tmp} {assign body : Code} {Q : Exit → Act → World → Prop} {a : Act} {w : World} {gf : Nat} {lb : Array Value} {fs : List Frm} {av : Option Addr} {xs : List Value}
    (hg : a.eval g = .func (.func gf) #[] lb) (eg : ∀ args w, (callFunc gf args).run P w = .ok (.enter gf args) w)
    (hseq : ∀ (l : Nat) (J : Nat → World → Prop) (Jx : World → Prop) (W : World), ItSrc av xs fs J → ItYield P l fs J Jx → Below w.heap.size w W → J 0 W → CallsIn Fence.wide 8 P gf (#[.func (.yield l) #[] #[]] ++ lb) W fun e W' => (∃ v, e = .returned v) ∧ (J fs.length W' ∨ Jx W'))
    (I : Nat → World → Prop) (Ix : Code → World → Prop) (hI : ∀ k, RndInv w.heap.size (I k)) (hIx : ∀ c, RndInv w.heap.size (Ix c)) (hsrc : ∀ k W, I k W → Rd W av xs ∧ ∃ N, Frs W N fs xs) (h0 : I 0 w)
    (q : Tmp) (ty : TypeId)
    (hassign : ∀ (l : Nat) (sq win : Int) (sa : Option Addr) (sn sc : Nat) (W : World) (K : Act → World → Prop), K { tmps := (a.tmps.setIfInBounds p (frv sq win (.slice sa sn sc))).setIfInBounds q (.pointer (some ⟨W.heap.size, 0, none⟩)), defers := [] } (W.alloc (.cells #[.int .u64 sq, .int .i64 win, .slice sa sn sc] ty)) → assign.wpIn (Fence.wide.inRound l) 7 P (Exit.then K (fun _ _ _ => False)) { tmps := a.tmps.setIfInBounds p (frv sq win (.slice sa sn sc)), defers := [] } W)
    (hbody : ∀ (l k B' : Nat) (f : Frm) (W0 W : World) (ra : Option Addr) (rc : Nat), fs[k]? = some f → w.heap.size ≤ l → I k W0 → Below W0.heap.size W0 W → I k W → W0.heap.size ≤ B' → W.heap[B']? = some (.cells #[.int .u64 f.seq, .int .i64 f.win, .slice ra f.recs.length rc] ty (0, 0)) → (f.recs.length ≤ rc ∧ rc ≤ 9223372036854775807 ∧ (ra = none → rc = 0)) → Rd W ra (rcf f.recs) → (f.recs ≠ [] → ∃ b, ra = some ⟨b, 0, none⟩ ∧ W0.heap.size ≤ b ∧ b ≠ B' ∧ ∃ cur t, W.heap[b]? = some (.cells cur t (0, 0))) →
      body.wpIn (Fence.wide.inRound l) 7 P (frPost w.heap.size I Ix (k + 1) W) { tmps := (a.tmps.setIfInBounds p (frv f.seq f.win (.slice ra f.recs.length rc))).setIfInBounds q (.pointer (some ⟨B', 0, none⟩)), defers := [] } W)
    (hdone : ∀ (D : Nat) (W : World), w.heap.size ≤ D → I fs.length W → W.heap[D]? = some (.deferred (some [])) → Q .normal { a with defers := { target := .collected D, args := #[] } :: a.defers } W)
    (hstop : ∀ (D : Nat) (c : Code) (W : World), w.heap.size ≤ D → Ix c W → W.heap[D]? = some (.deferred (some [])) → c.wp P Q { a with defers := { target := .collected D, args := #[] } :: a.defers } W) :
    (Code.rangeFunc g #[p] assign body).wp P Q a w := by
  refine (wpIn_wide (n := 9)).1 (wpIn_rangeFunc ?_)
  intro fn _
  obtain ⟨rec, hrec⟩ : ∃ rec : LoopState → Option Code → Loop, rec = fun st pe => { state := st, pending := pe, fn, tmps := a.tmps, params := #[p], assign, body, defers := w.heap.size } := ⟨_, rfl⟩
  obtain ⟨W1, hW1⟩ : ∃ W1, (w.alloc (.deferred (some []))).alloc (.loop (rec .ready none)) = W1 := ⟨_, rfl⟩
  have hb1 : Below w.heap.size w W1 := by
    rw [← hW1]; exact ((Below.refl _ w).alloc (Nat.le_refl _) _).alloc (by simp) _
  have hL1 : W1.heap[w.heap.size + 1]? = some (.loop (rec .ready none)) := by
    rw [← hW1]; have := World.alloc_heap_new (w.alloc (.deferred (some []))) (.loop (rec .ready none)); rwa [World.size_alloc] at this
  have hK1 : W1.heap[w.heap.size]? = some (.deferred (some [])) := by
    rw [← hW1]; exact (Below.heap_alloc _ _ _ (by simp)).trans (World.alloc_heap_new w _)
  refine ⟨w.heap.size + 1, [{ target := .collected w.heap.size, args := #[] }], W1, { target := .fn (.func gf) lb, args := #[.func (.yield (w.heap.size + 1)) #[] #[]] }, W1, gf,
    #[.func (.yield (w.heap.size + 1)) #[] #[]] ++ lb, W1, ?_, ?_, fun _ _ => trivial, ?_, fun _ => by omega, ?_⟩
  · rw [← hW1, hrec]; exact run_enterLoop_outer _ _ _ _ _
  · simp only [resolve, hg]
    simp [go_sem]
  · simp [invoke, go_sem, eg]
  · have keep : ∀ {A B : World} {k : Nat} {o : Obj}, A.heap[k]? = some o → Below A.heap.size A B → B.heap[k]? = some o := fun hk hb => (hb.block _ (Array.getElem?_eq_some_iff.1 hk).1).trans hk
    refine (hseq (w.heap.size + 1)
      (fun k W => I k W ∧ W.heap[w.heap.size + 1]? = some (.loop (rec .ready none)) ∧ W.heap[w.heap.size]? = some (.deferred (some [])))
      (fun W => ∃ c, Ix c W ∧ W.heap[w.heap.size + 1]? = some (.loop (rec .done (some c))) ∧ W.heap[w.heap.size]? = some (.deferred (some [])))
      W1 ⟨fun k W h => hsrc k W h.1, fun k W W' h hb => ⟨(hI k).new _ _ h.1 hb, keep h.2.1 hb, keep h.2.2 hb⟩⟩ ?_ hb1 ⟨(hI 0).new _ _ h0 hb1, hL1, hK1⟩).mono ?_
    · -- one round
      rintro k f W0 W ra rc hkf ⟨hi0, hl0, hk0⟩ hbW hcc hrr hnn
      have hl := keep hl0 hbW
      have hk := keep hk0 hbW
      have hlt : w.heap.size + 1 < W.heap.size := (Array.getElem?_eq_some_iff.1 hl).1
      have hy := run_yield (P := P) (args := #[frv f.seq f.win (.slice ra f.recs.length rc)]) hl (by rw [hrec]; rfl)
      rw [hrec] at hy
      replace hy : (Instr.yield (w.heap.size + 1) #[frv f.seq f.win (.slice ra f.recs.length rc)]).run P W = .ok (.round (w.heap.size + 1) fn (a.tmps.setIfInBounds p (frv f.seq f.win (.slice ra f.recs.length rc))) assign body) W := by
        rw [hy]
        simp
      refine ⟨fn, _, assign, body, hy, roundIn_of_wpIn trivial (hassign _ _ _ _ _ _ _ _ ?_)⟩
      clear hy
      have hbx := heap_alloc_new W (.cells #[.int .u64 f.seq, .int .i64 f.win, .slice ra f.recs.length rc] ty)
      have hBge : W0.heap.size ≤ W.heap.size := hbW.size
      have hbl : w.heap.size + 1 < W.heap.size := (Array.getElem?_eq_some_iff.1 hl).1
      have hbA : Below W.heap.size W (W.alloc (.cells #[.int .u64 f.seq, .int .i64 f.win, .slice ra f.recs.length rc] ty)) := (Below.refl _ W).alloc (Nat.le_refl _) _
      replace hnn : f.recs ≠ [] → ∃ b, ra = some ⟨b, 0, none⟩ ∧ W0.heap.size ≤ b ∧ b ≠ W.heap.size ∧ b ≠ w.heap.size + 1 ∧ ∃ cur t, (W.alloc (.cells #[.int .u64 f.seq, .int .i64 f.win, .slice ra f.recs.length rc] ty)).heap[b]? = some (.cells cur t (0, 0)) := fun h => by
        obtain ⟨b, e, hb, cur, t', hz⟩ := hnn h
        refine ⟨b, e, hb, fun e2 => ?_, fun e2 => (by rw [e2, hl] at hz; cases hz), cur, t', keep hz hbA⟩
        obtain ⟨x, r, hx⟩ : ∃ x r, f.recs = x :: r := by
          cases hh : f.recs with
          | nil => exact absurd hh h
          | cons x r => exact ⟨x, r, rfl⟩
        obtain ⟨b', off, e', hlt', _⟩ := hrr.at (k := 0) (v := .string x.name) (by rw [hx]; simp [rcf, Rec.cells])
        rw [e] at e'
        cases e'
        omega
      replace hrr := hrr.below hbA (Nat.le_refl _)
      replace hl := keep hl hbA
      replace hk := keep hk hbA
      replace hbW := hbW.trans (hbA.mono hbW.size)
      obtain ⟨BB, hBB⟩ : ∃ BB, BB = W.heap.size := ⟨_, rfl⟩
      rw [← hBB] at hbx hnn hBge hbl ⊢
      clear hBB hbA
      generalize W.alloc (.cells #[.int .u64 f.seq, .int .i64 f.win, .slice ra f.recs.length rc] ty) = W at hl hk hbW hrr hbx hnn ⊢
      have hlt : w.heap.size + 1 < W.heap.size := (Array.getElem?_eq_some_iff.1 hl).1
      refine ⟨_, run_beginRound hl (by rw [hrec]), ?_⟩
      have hl2 : (W.putObj (w.heap.size + 1) (.loop { rec .ready none with state := .busy })).heap[w.heap.size + 1]? = some (.loop { rec .ready none with state := .busy }) := World.putObj_heap_same hlt
      have hk2 : (W.putObj (w.heap.size + 1) (.loop { rec .ready none with state := .busy })).heap[w.heap.size]? = some (.deferred (some [])) := (World.putObj_heap_other (by omega)).trans hk
      have hi := (hI k).put _ _ _ (.loop { rec .ready none with state := .busy }) ((hI k).new _ _ hi0 hbW) (Nat.le_add_right _ 1) hl rfl
      have hi00 := (hI k).put _ _ _ (.loop { rec .ready none with state := .busy }) hi0 (Nat.le_add_right _ 1) hl0 rfl
      have hbW2 : Below (W0.putObj (w.heap.size + 1) (.loop { rec .ready none with state := .busy })).heap.size (W0.putObj (w.heap.size + 1) (.loop { rec .ready none with state := .busy })) (W.putObj (w.heap.size + 1) (.loop { rec .ready none with state := .busy })) := by
        exact below_putObj hbW _ _
      have hrr2 : Rd (W.putObj (w.heap.size + 1) (.loop { rec .ready none with state := .busy })) ra (rcf f.recs) := by
        exact rd_putObj hrr _ hl rfl
      refine wpIn_mono (hbody _ k BB f _ _ ra rc hkf (Nat.le_add_right _ 1) hi00 hbW2 hi (by simpa using hBge) ((World.putObj_heap_other (by omega)).trans hbx) hcc hrr2 (fun h => by
        obtain ⟨b, e, hb, hb2, hb3, cur, t', hz⟩ := hnn h
        exact ⟨b, e, by simpa using hb, hb2, cur, t', (World.putObj_heap_other hb3).trans hz⟩)) ?_
      have fin : ∀ (jump : Option Code) (W3 : World), KeepsFrom w.heap.size (W.putObj (w.heap.size + 1) (.loop { rec .ready none with state := .busy })) W3 →
          (Instr.endRound (w.heap.size + 1) jump).run P W3 = .ok (.bool jump.isNone) (W3.putObj (w.heap.size + 1) (.loop (rec (if jump.isNone then .ready else .done) jump))) ∧
          W3.heap[w.heap.size + 1]? = some (.loop { rec .ready none with state := .busy }) ∧
          (W3.putObj (w.heap.size + 1) (.loop (rec (if jump.isNone then .ready else .done) jump))).heap[w.heap.size + 1]? = some (.loop (rec (if jump.isNone then .ready else .done) jump)) ∧
          (W3.putObj (w.heap.size + 1) (.loop (rec (if jump.isNone then .ready else .done) jump))).heap[w.heap.size]? = some (.deferred (some [])) := fun jump W3 hk3 => by
        have hl3 := hk3.same _ _ (by omega) hl2 rfl
        have := run_endRound (P := P) jump hl3
        rw [hrec] at this ⊢
        exact ⟨this, by rw [hrec] at hl3; exact hl3, World.putObj_heap_same (Array.getElem?_eq_some_iff.1 hl3).1, (World.putObj_heap_other (by omega)).trans (hk3.same _ _ (Nat.le_refl _) hk2 rfl)⟩
      rintro e a3 W3 hp
      cases e with
      | normal =>
        obtain ⟨hk3, hi3⟩ := hp
        obtain ⟨hr, hl3, hl4, hk4⟩ := fin none W3 hk3
        exact ⟨_, _, hr, .inl ⟨rfl, (hI _).put _ _ _ _ hi3 (Nat.le_add_right _ 1) hl3 rfl, hl4, hk4⟩⟩
      | ret =>
        obtain ⟨hk3, hi3⟩ := hp
        obtain ⟨hr, hl3, hl4, hk4⟩ := fin (some .ret) W3 hk3
        exact ⟨_, _, hr, .inr ⟨rfl, .ret, (hIx _).put _ _ _ _ hi3 (Nat.le_add_right _ 1) hl3 rfl, hl4, hk4⟩⟩
      | exit id =>
        obtain ⟨hk3, hi3⟩ := hp
        obtain ⟨hr, hl3, hl4, hk4⟩ := fin (some (.exit id)) W3 hk3
        exact ⟨_, _, hr, .inr ⟨rfl, .exit id, (hIx _).put _ _ _ _ hi3 (Nat.le_add_right _ 1) hl3 rfl, hl4, hk4⟩⟩
      | goto t => exact hp.elim
      | panic ch => exact hp.elim
      | outgrown => exact hp.elim
    · -- behind the iterator
      rintro e W2 ⟨⟨v, rfl⟩, (⟨hi, hl, hk⟩ | ⟨c, hi, hl, hk⟩)⟩
      · exact ⟨none, _, by have := run_endLoop (P := P) hl (by rw [hrec]; simp); rw [hrec] at this; exact this, hdone _ _ (Nat.le_refl _) ((hI _).put _ _ _ _ hi (Nat.le_add_right _ 1) hl rfl) ((World.putObj_heap_other (by omega)).trans hk)⟩
      · exact ⟨some c, _, by have := run_endLoop (P := P) hl (by rw [hrec]; simp); rw [hrec] at this; exact this, wpIn_wide.2 (hstop _ c _ (Nat.le_refl _) ((hIx c).put _ _ _ _ hi (Nat.le_add_right _ 1) hl rfl) ((World.putObj_heap_other (by omega)).trans hk))⟩
end Go.Proofs.Ytdomnjakhecbaaa
