/- Going over both nets: what All hands back, as the reference has it; the law of a range over it within a plain walk. -/
import Derived.Test.YtepdnmpcccgcaaaNtM
import Derived.OrdersIn
import Derived.OrdersHeld
import Derived.Deep.RegionHeld3
namespace Go.Proofs.Ytepdnmpcccgcaaa
open Go.RowKit K Go.Shelf
attribute [local go_sem] Oper.semAt_some
def RC.ih (v : RC) : Int × ByteArray := (v.id, v.host)
theorem ih_vw (L : List RC) : (L.map RC.vw).map CV.ih = L.map RC.ih := by
  rw [List.map_map]
  rfl
section
variable {w0 w w' : World} {n r : Nat} {most d : Int} {L : List RC} {F : List Nat} {G : Nat → Prop} {m N : Nat}
theorem all_nw (h : NwF w0 n r most d L F G w) (hi : NInv most d L m N) : Calls Try.prog 23 #[.pointer (some ⟨n, 0, none⟩)] w (AllPost w (L.map RC.ih)) := by
  obtain ⟨⟨M, es, h1, h2, -⟩, -⟩ := h
  have hn : (es.map (·.id)).Nodup := by
    have e : es.map (·.id) = L.map (·.id) := by
      have := congrArg (List.map CV.id) h2
      rw [List.map_map, List.map_map] at this
      exact this
    rw [e]
    exact hi.ids.imp fun h => by omega
  have := all_any h1 hn
  rw [h2, ih_vw] at this
  exact this
/-- What All handed back gives the pairs in their order. -/
theorem nw_ids (hi : NInv most d L m N) (hm : m ≤ 1000) : ((L.map RC.ih).map (·.1)).Pairwise (· < ·) ∧ (∀ p ∈ L.map RC.ih, (Lit.int .i64 p.1).wf = true) ∧ (L.map RC.ih).length ≤ 1000000 := by
  refine ⟨?_, fun p hpm => ?_, by rw [List.length_map]; have := hi.len2; omega⟩
  · rw [List.map_map]
    exact hi.ids
  · obtain ⟨v, hv, rfl⟩ := List.mem_map.1 hpm
    have h1 := hi.rng v hv
    have h2 := hi.dn
    show (Lit.int .i64 v.id).wf = true
    simp [Lit.wf, IntKind.min, IntKind.max, IntKind.signed, IntKind.bits]
    omega
end
def OnlyN (Q : Exit → Act → World → Prop) : Exit → Act → World → Prop
  | .normal, a, w => Q .normal a w
  | _, _, _ => False
theorem OnlyN.imp {Q : Exit → Act → World → Prop} : ∀ (e : Exit) (a : Act) (w : World), OnlyN Q e a w → Q e a w := fun e a w h => by
  cases e <;> first | exact h | exact (h : False).elim
theorem OnlyN.normal {Q : Exit → Act → World → Prop} {a : Act} {w : World} (h : Q .normal a w) : OnlyN Q .normal a w := h
/-- No operation of these defers. -/
def noDefer (ops : Array Oper) : Bool := ops.all fun o => match o.op with | .defer _ => false | _ => true
theorem noDefer_at {ops : Array Oper} (h : noDefer ops = true) {i : Nat} {o : Oper} (ho : ops[i]? = some o) : ∀ c, o.op ≠ .defer c := by
  intro c e
  obtain ⟨hi, rfl⟩ := Array.getElem?_eq_some_iff.1 ho
  have := (Array.all_eq_true.1 h) i hi
  rw [e] at this
  cases this
theorem wpOpIn_of_wpOp {P : Program} {ops : Array Oper} {Q : Exit → Act → World → Prop} {l n i : Nat} (hd : noDefer ops = true) (hQ : ¬ LetsOut Q) {K : Act → World → Prop} {a : Act} {w : World} (h : wpOp P ops Q i K a w) : wpOpIn (Fence.wide.inRound l) n P ops Q i K a w := by
  unfold wpOp at h
  unfold wpOpIn
  cases ho : ops[i]? with
  | none =>
    rw [ho] at h
    exact h
  | some o =>
    rw [ho] at h
    simp only [] at h ⊢
    split at h
    · rename_i hw
      rw [if_pos hw]
      rcases h with h | ⟨_, h⟩
      · unfold Oper.wp at h
        unfold Oper.wpIn
        refine ⟨fun _ _ => trivial, ?_⟩
        rw [Oper.semAt_eq _ _ _ (noDefer_at hd ho)]
        generalize (execOp a.eval o).run P w = r at h
        cases r with
        | ok x w' =>
          cases x <;> simp only [Oper.upon] at h <;> simp only [Oper.uponIn]
          case value => exact h
          case skip => exact h
          case defer => exact h
          case enter f args => exact ⟨fun h => (by cases h), callsIn_wide.2 h⟩
          case row f args => exact ⟨fun h => (by cases h), fun c cs _ => by
            obtain ⟨v, w1, h1, h2⟩ := h c cs
            exact ⟨v, w1, h1, stepsIn_wide.2 h2⟩⟩
        | halt x w' => cases x <;> simp only [Oper.upon] at h <;> simp only [Oper.uponIn] <;> exact h
      · exact absurd h hQ
    · rename_i hw
      rw [if_neg hw]
      exact ⟨fun _ _ => trivial, h⟩
theorem wpAnyIn_of_wpAny {P : Program} {md : Region.Mode} {ops : Array Oper} {Q : Exit → Act → World → Prop} {l n : Nat} (hd : noDefer ops = true) (hQ : ¬ LetsOut Q) : ∀ (fuel : Nat) (listed : Array Bool) (a : Act) (w : World), wpAny P md ops Q fuel listed a w → wpAnyIn (Fence.wide.inRound l) n P md ops Q fuel listed a w
  | 0, _, _, _, h => h
  | fuel + 1, _, _, _, h => ⟨h.1, fun i hi => wpOpIn_mono (fun a w h => wpAnyIn_of_wpAny hd hQ fuel _ a w h) (wpOpIn_of_wpOp hd hQ (h.2 i hi))⟩
/-- A region that draws its order, in a round: a plain walk of its operations. -/
theorem wpIn_region_round {P : Program} {ops : Array Oper} {Q : Exit → Act → World → Prop} {l n id : Nat} {a : Act} {w : World} {S : World → Prop} (hm : P.follows .mixedOrders = true) (hd : noDefer ops = true) (hS : S w.drew)
    (h : S w.drew → wpAnyH P .any ops (NoPanic (OnlyN Q)) S ops.size (Array.replicate ops.size false) a w.drew) : (Code.region id ops true).wpIn (Fence.wide.inRound l) n P Q a w := by
  refine wpIn_mono (Q := NoPanic (OnlyN Q)) (wpIn_region_any hm (wpAnyIn_of_wpAny hd ?_ _ _ _ _ (wpAny_of_held _ _ _ _ (h hS)))) (fun e a w h => OnlyN.imp e a w (NoPanic.imp e a w h))
  rintro ⟨a0, w0, h0⟩
  exact h0
/-- How a round's body may be left. -/
def prPost (B Bh Mh : Nat) (I : Nat → World → Prop) (Ix : Code → World → Prop) (k : Nat) (W : World) : Exit → Act → World → Prop
  | .normal, _, W' => KeepsFrom B W W' ∧ KeptIt B Bh Mh W W' ∧ I k W'
  | .ret, _, W' => KeepsFrom B W W' ∧ Ix .ret W'
  | .exit id, _, W' => KeepsFrom B W W' ∧ Ix (.exit id) W'
  | _, _, _ => False
/-- What an invariant of a round must abide. -/
structure RndInv (B : Nat) (I : World → Prop) : Prop where
  new : ∀ W W', I W → Below W.heap.size W W' → I W'
  put : ∀ W (l : Nat) (o o' : Obj), I W → B ≤ l → W.heap[l]? = some o → o.isCells = false → I (W.putObj l o')
theorem below_keeps {B : Nat} {W W' : World} (h : Below W.heap.size W W') : KeepsFrom B W W' :=
  ⟨h.size, fun k _ _ hk _ => (h.block k (Array.getElem?_eq_some_iff.1 hk).1).trans hk⟩
theorem below_putObj {W W' : World} (h : Below W.heap.size W W') (l : Nat) (o : Obj) : Below (W.putObj l o).heap.size (W.putObj l o) (W'.putObj l o) := by
  obtain ⟨h1, h2, h3, h4, h5⟩ := h
  refine ⟨h1, h2, h3, by simpa using h4, fun k hk0 => ?_⟩
  have hk : k < W.heap.size := by simpa using hk0
  clear hk0
  by_cases e : k = l
  · subst e
    rw [World.putObj_heap_same hk, World.putObj_heap_same (by omega)]
  · rw [World.putObj_heap_other e, World.putObj_heap_other e]
    exact h5 k hk
theorem rd_putObj {W : World} {a : Option Addr} {vs : List Value} (h : Rd W a vs) {l : Nat} {o : Obj} (o' : Obj) (hl : W.heap[l]? = some o) (ho : o.isCells = false) : Rd (W.putObj l o') a vs := by
  intro k v hv
  obtain ⟨b, off, e, hc⟩ := h k v hv
  refine ⟨b, off, e, ?_⟩
  have hne : b ≠ l := fun e => by
    subst e
    unfold World.cell? at hc
    rw [hl] at hc
    cases o <;> simp_all [Obj.isCells]
  unfold World.cell? at hc ⊢
  rw [World.putObj_heap_other hne]
  exact hc
/-- A range over All's iterator, within a plain walk: each round knows its pair. -/
theorem wp_rangeFunc_pairs {g : Operand} {p1 p2 : Tmp} {assign body : Code} {Q : Exit → Act → World → Prop} {a : Act} {w : World} {Bh Mh : Nat} {kvs : List (Int × Value)} {L : List (Int × ByteArray)}
    (hg : a.eval g = .func (.func 48) #[] #[.pointer (some ⟨Bh, 0, none⟩)])
    (hB : w.heap[Bh]? = some (.cells #[.map (some Mh)] 75 (0, 0))) (hM : MapAt iEnc w Mh kvs) (hp : kvs.Perm (L.map idv)) (hs : (L.map (·.1)).Pairwise (· < ·)) (hwf : ∀ p ∈ L, (Lit.int .i64 p.1).wf = true) (hlen : L.length ≤ 1000000)
    (I : Nat → World → Prop) (Ix : Code → World → Prop) (hI : ∀ k, RndInv w.heap.size (I k)) (hIx : ∀ c, RndInv w.heap.size (Ix c)) (h0 : I 0 w) (a₁ : Int → ByteArray → Act)
    (hassign : ∀ (l : Nat) (x : Int) (y : ByteArray) (W : World) (K : Act → World → Prop), K (a₁ x y) W → assign.wpIn (Fence.wide.inRound l) 7 Try.prog (Exit.then K (fun _ _ _ => False)) { tmps := (a.tmps.setIfInBounds p1 (.int .i64 x)).setIfInBounds p2 (.string y), defers := [] } W)
    (hbody : ∀ (l k : Nat) (x : Int) (y : ByteArray) (W : World), L[k]? = some (x, y) → w.heap.size ≤ l → I k W → body.wpIn (Fence.wide.inRound l) 7 Try.prog (prPost w.heap.size Bh Mh I Ix (k + 1) W) (a₁ x y) W)
    (hdone : ∀ (D : Nat) (W : World), w.heap.size ≤ D → I L.length W → W.heap[D]? = some (.deferred (some [])) → Q .normal { a with defers := { target := .collected D, args := #[] } :: a.defers } W)
    (hstop : ∀ (D : Nat) (c : Code) (W : World), w.heap.size ≤ D → Ix c W → W.heap[D]? = some (.deferred (some [])) → c.wp Try.prog Q { a with defers := { target := .collected D, args := #[] } :: a.defers } W) :
    (Code.rangeFunc g #[p1, p2] assign body).wp Try.prog Q a w := by
  have hBl : Bh < w.heap.size := (Array.getElem?_eq_some_iff.1 hB).1
  have hMl : Mh < w.heap.size := hM.lt
  refine (wpIn_wide (n := 9)).1 (wpIn_rangeFunc ?_)
  intro fn _
  obtain ⟨rec, hrec⟩ : ∃ rec : LoopState → Option Code → Loop, rec = fun st pe => { state := st, pending := pe, fn, tmps := a.tmps, params := #[p1, p2], assign, body, defers := w.heap.size } := ⟨_, rfl⟩
  obtain ⟨W1, hW1⟩ : ∃ W1, (w.alloc (.deferred (some []))).alloc (.loop (rec .ready none)) = W1 := ⟨_, rfl⟩
  have hb1 : Below w.heap.size w W1 := by
    rw [← hW1]; exact ((Below.refl _ w).alloc (Nat.le_refl _) _).alloc (by simp) _
  have hL1 : W1.heap[w.heap.size + 1]? = some (.loop (rec .ready none)) := by
    rw [← hW1]; have := World.alloc_heap_new (w.alloc (.deferred (some []))) (.loop (rec .ready none)); rwa [World.size_alloc] at this
  have hK1 : W1.heap[w.heap.size]? = some (.deferred (some [])) := by
    rw [← hW1]; exact (Below.heap_alloc _ _ _ (by simp)).trans (World.alloc_heap_new w _)
  refine ⟨w.heap.size + 1, [{ target := .collected w.heap.size, args := #[] }], W1, { target := .fn (.func 48) #[.pointer (some ⟨Bh, 0, none⟩)], args := #[.func (.yield (w.heap.size + 1)) #[] #[]] }, W1, 48,
    #[.func (.yield (w.heap.size + 1)) #[] #[]] ++ #[.pointer (some ⟨Bh, 0, none⟩)], W1, ?_, ?_, fun _ _ => trivial, ?_, fun _ => by omega, ?_⟩
  · rw [← hW1, hrec]; exact run_enterLoop_outer _ _ _ _ _
  · simp only [resolve, hg]
    simp [go_sem]
  · simp [invoke, go_sem]
  · have keep : ∀ {A B : World} {k : Nat} {o : Obj}, A.heap[k]? = some o → Below A.heap.size A B → B.heap[k]? = some o := fun hk hb => (hb.block _ (Array.getElem?_eq_some_iff.1 hk).1).trans hk
    refine (all1_pairs 8 (by omega) hB hM hp hs hwf hlen (w.heap.size + 1)
      (fun k W => I k W ∧ W.heap[w.heap.size + 1]? = some (.loop (rec .ready none)) ∧ W.heap[w.heap.size]? = some (.deferred (some [])))
      (fun W => ∃ c, Ix c W ∧ W.heap[w.heap.size + 1]? = some (.loop (rec .done (some c))) ∧ W.heap[w.heap.size]? = some (.deferred (some [])))
      W1 hb1 (fun k W W' h hb => ⟨(hI k).new _ _ h.1 hb, keep h.2.1 hb, keep h.2.2 hb⟩) ?_ ⟨(hI 0).new _ _ h0 hb1, hL1, hK1⟩).mono ?_
    · -- one round
      rintro k ⟨x, y⟩ W hkf ⟨hi, hl, hk⟩
      have hlt : w.heap.size + 1 < W.heap.size := (Array.getElem?_eq_some_iff.1 hl).1
      have hy := run_yield (P := Try.prog) (args := #[.int .i64 x, .string y]) hl (by rw [hrec]; rfl)
      rw [hrec] at hy
      replace hy : (Instr.yield (w.heap.size + 1) #[.int .i64 x, .string y]).run Try.prog W = .ok (.round (w.heap.size + 1) fn ((a.tmps.setIfInBounds p1 (.int .i64 x)).setIfInBounds p2 (.string y)) assign body) W := by
        rw [hy]
        simp
      refine ⟨fn, _, assign, body, hy, roundIn_of_wpIn trivial (hassign _ _ _ _ _ ?_)⟩
      clear hy
      refine ⟨_, run_beginRound hl (by rw [hrec]), ?_⟩
      have hl2 : (W.putObj (w.heap.size + 1) (.loop { rec .ready none with state := .busy })).heap[w.heap.size + 1]? = some (.loop { rec .ready none with state := .busy }) := World.putObj_heap_same hlt
      have hk2 : (W.putObj (w.heap.size + 1) (.loop { rec .ready none with state := .busy })).heap[w.heap.size]? = some (.deferred (some [])) := (World.putObj_heap_other (by omega)).trans hk
      have hw2 : KeptIt w.heap.size Bh Mh W (W.putObj (w.heap.size + 1) (.loop { rec .ready none with state := .busy })) := KeptIt.putObj hBl hMl W _ _ _ (by omega) hl rfl rfl
      have hi2 := (hI k).put _ _ _ (.loop { rec .ready none with state := .busy }) hi (Nat.le_add_right _ 1) hl rfl
      refine wpIn_mono (hbody _ k x y _ hkf (Nat.le_add_right _ 1) hi2) ?_
      have fin : ∀ (jump : Option Code) (W3 : World), KeepsFrom w.heap.size (W.putObj (w.heap.size + 1) (.loop { rec .ready none with state := .busy })) W3 →
          (Instr.endRound (w.heap.size + 1) jump).run Try.prog W3 = .ok (.bool jump.isNone) (W3.putObj (w.heap.size + 1) (.loop (rec (if jump.isNone then .ready else .done) jump))) ∧
          W3.heap[w.heap.size + 1]? = some (.loop { rec .ready none with state := .busy }) ∧
          (W3.putObj (w.heap.size + 1) (.loop (rec (if jump.isNone then .ready else .done) jump))).heap[w.heap.size + 1]? = some (.loop (rec (if jump.isNone then .ready else .done) jump)) ∧
          (W3.putObj (w.heap.size + 1) (.loop (rec (if jump.isNone then .ready else .done) jump))).heap[w.heap.size]? = some (.deferred (some [])) := fun jump W3 hk3 => by
        have hl3 := hk3.same _ _ (by omega) hl2 rfl
        have := run_endRound (P := Try.prog) jump hl3
        rw [hrec] at this ⊢
        exact ⟨this, by rw [hrec] at hl3; exact hl3, World.putObj_heap_same (Array.getElem?_eq_some_iff.1 hl3).1, (World.putObj_heap_other (by omega)).trans (hk3.same _ _ (Nat.le_refl _) hk2 rfl)⟩
      rintro e a3 W3 hp
      cases e with
      | normal =>
        obtain ⟨hk3, hkp3, hi3⟩ := hp
        obtain ⟨hr, hl3, hl4, hk4⟩ := fin none W3 hk3
        exact ⟨_, _, hr, .inl ⟨rfl, ⟨(hI _).put _ _ _ _ hi3 (Nat.le_add_right _ 1) hl3 rfl, hl4, hk4⟩, (hw2.trans hkp3).trans (KeptIt.putObj hBl hMl W3 _ _ _ (by omega) hl3 rfl rfl)⟩⟩
      | ret =>
        obtain ⟨hk3, hi3⟩ := hp
        obtain ⟨hr, hl3, hl4, hk4⟩ := fin (some .ret) W3 hk3
        exact ⟨_, _, hr, .inr ⟨rfl, .ret, (hIx _).put _ _ _ _ hi3 (Nat.le_add_right _ 1) hl3 rfl, hl4, hk4⟩⟩
      | exit id =>
        obtain ⟨hk3, hi3⟩ := hp
        obtain ⟨hr, hl3, hl4, hk4⟩ := fin (some (.exit id)) W3 hk3
        exact ⟨_, _, hr, .inr ⟨rfl, .exit id, (hIx _).put _ _ _ _ hi3 (Nat.le_add_right _ 1) hl3 rfl, hl4, hk4⟩⟩
      | goto t => exact hp.elim
      | panic ch => exact hp.elim
      | outgrown => exact hp.elim
    · -- behind the iterator
      rintro e W2 ⟨⟨v, rfl⟩, (⟨hi, hl, hk⟩ | ⟨c, hi, hl, hk⟩)⟩
      · exact ⟨none, _, by have := run_endLoop (P := Try.prog) hl (by rw [hrec]; simp); rw [hrec] at this; exact this, hdone _ _ (Nat.le_refl _) ((hI _).put _ _ _ _ hi (Nat.le_add_right _ 1) hl rfl) ((World.putObj_heap_other (by omega)).trans hk)⟩
      · exact ⟨some c, _, by have := run_endLoop (P := Try.prog) hl (by rw [hrec]; simp); rw [hrec] at this; exact this, wpIn_wide.2 (hstop _ c _ (Nat.le_refl _) ((hIx c).put _ _ _ _ hi (Nat.le_add_right _ 1) hl rfl) ((World.putObj_heap_other (by omega)).trans hk))⟩
end Go.Proofs.Ytepdnmpcccgcaaa
