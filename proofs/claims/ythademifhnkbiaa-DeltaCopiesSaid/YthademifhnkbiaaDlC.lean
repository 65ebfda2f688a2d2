/- The walk over delta.counter: a map literal whose stores come in an open order. -/
import Derived.Test.YthademifhnkbiaaReg
import Derived.Test.YthademifhnkbiaaStV
import Derived.BigQuiet
import Derived.WalkSmall
namespace Go.Proofs.Ythademifhnkbiaa
open Go.RowKit K
def vEnc (x : Int) : Value := .int .i64 x
theorem vKey : KeyEnc Try.prog 66 vEnc := int_enc Try.underlying66
theorem eval_tmp (a : Act) (t : Nat) : a.eval (.tmp t) = a.tmps[t]?.getD undef := by simp [Act.eval]
def cPtr (b o : Nat) : Value := .pointer (some ⟨b, o, none⟩)
/-- What is in the map when these are done. -/
def cTab (b o : Nat) (S : Done) (v : Int) : Option Value :=
  if v = 1 ∧ S 4 = true then some (cPtr b (o + 1)) else if v = 2 ∧ S 8 = true then some (cPtr b (o + 2)) else if v = 3 ∧ S 12 = true then some (cPtr b (o + 3)) else if v = 4 ∧ S 16 = true then some (cPtr b (o + 4)) else none
def cVal (m b o : Nat) (v : Int) (i : Nat) : Value :=
  (#[.map (some m), cPtr b o, cPtr b o, cPtr b (o + 1), undef, cPtr b o, cPtr b o, cPtr b (o + 2), undef, cPtr b o, cPtr b o, cPtr b (o + 3), undef, cPtr b o, cPtr b o, cPtr b (o + 4), undef, .map (some m), .int .i64 v, cPtr b (o + v.toNat), cPtr b (o + v.toNat)] : Array Value).getD i undef
def cWI (w : World) (b o : Nat) (S : Done) (wr : World) : Prop :=
  (S 0 = false ∧ wr = w.drew) ∨ (S 0 = true ∧ ∃ kvs, MapAt vEnc wr w.heap.size kvs ∧ Below w.heap.size w wr ∧ ∀ v, mget v kvs = cTab b o S v)
theorem cWI.keep {w wr : World} {b o : Nat} {S : Done} (h : cWI w b o S wr) (i : Nat) (h0 : i ≠ 0) (h4 : i ≠ 4) (h8 : i ≠ 8) (h12 : i ≠ 12) (h16 : i ≠ 16) : cWI w b o (S.add i) wr := by
  have e : ∀ j, j ≠ i → S.add i j = S j := fun j hj => by simp [Done.add, hj]
  unfold cWI cTab
  rw [e 0 (Ne.symm h0), e 4 (Ne.symm h4), e 8 (Ne.symm h8), e 12 (Ne.symm h12), e 16 (Ne.symm h16)]
  exact h
set_option maxHeartbeats 4000000 in
set_option maxRecDepth 100000 in
theorem counter_any (w : World) (b o : Nat) (v : Int) (hv : 1 ≤ v ∧ v ≤ 4) :
    Calls Try.prog 25 #[cPtr b o, .int .i64 v] w fun e w' => e = .returned (cPtr b (o + v.toNat)) ∧ Below w.heap.size w w' := by
  go_enter Try.func25, Try.ntmps25
  go_wp2
  refine wp_region_vals rfl (cVal w.heap.size b o v) (cWI w b o) #[cPtr b o, .int .i64 v, undef, undef, cPtr b (o + v.toNat), .map (some w.heap.size), cPtr b o, cPtr b o, cPtr b (o + 1), cPtr b o, cPtr b o, cPtr b (o + 2), cPtr b o, cPtr b o, cPtr b (o + 3), cPtr b o, cPtr b o, cPtr b (o + 4), .map (some w.heap.size), .int .i64 v, cPtr b (o + v.toNat)]
    (by kernel_rfl) (by kernel_rfl) (by kernel_rfl) ?h0 ?hext ?hstep ?hfs ?hf ?hend
  case h0 => exact .inl ⟨rfl, rfl⟩
  case hfs => rfl
  case hext =>
    intro S S' wr h hW
    unfold cWI cTab at hW ⊢
    rw [← h 0 (by decide), ← h 4 (by decide), ← h 8 (by decide), ← h 12 (by decide), ← h 16 (by decide)]
    exact hW
  case hf =>
    intro t ht
    have ht2 : t < 21 := ht
    have hc : t = 0 ∨ t = 1 ∨ t = 2 ∨ t = 3 ∨ t = 4 ∨ t = 5 ∨ t = 6 ∨ t = 7 ∨ t = 8 ∨ t = 9 ∨ t = 10 ∨ t = 11 ∨ t = 12 ∨ t = 13 ∨ t = 14 ∨ t = 15 ∨ t = 16 ∨ t = 17 ∨ t = 18 ∨ t = 19 ∨ t = 20 := by omega
    rcases hc with rfl | rfl | rfl | rfl | rfl | rfl | rfl | rfl | rfl | rfl | rfl | rfl | rfl | rfl | rfl | rfl | rfl | rfl | rfl | rfl | rfl <;> (show _ = _; kernel_rfl)
  case hend =>
    intro wr hW
    have hb : Below w.heap.size w wr := by
      rcases hW with ⟨h, _⟩ | ⟨_, kvs, _, h, _⟩
      · cases h
      · exact h
    have HB := Lib.hid hb
    clear hb hW
    go_wp2
    go_ret
    exact ⟨rfl, HB.out⟩
  case hstep =>
    intro S a wr i op hF hW hcl ho hS hedge
    have hi : i < 21 := (Array.getElem?_eq_some_iff.1 ho).1
    have E : ∀ t j, t < 21 → prodOf _ t = some j → S j = true → a.eval (.tmp t) = cVal w.heap.size b o v j := fun t j h1 h2 h3 => hF.done h1 h2 h3
    have E0 : a.eval (.tmp 0) = cPtr b o := hF.old (t := 0) (by show 0 < 21; omega) (by kernel_rfl)
    have E1 : a.eval (.tmp 1) = .int .i64 v := hF.old (t := 1) (by show 1 < 21; omega) (by kernel_rfl)
    have hc : i = 0 ∨ i = 1 ∨ i = 2 ∨ i = 3 ∨ i = 4 ∨ i = 5 ∨ i = 6 ∨ i = 7 ∨ i = 8 ∨ i = 9 ∨ i = 10 ∨ i = 11 ∨ i = 12 ∨ i = 13 ∨ i = 14 ∨ i = 15 ∨ i = 16 ∨ i = 17 ∨ i = 18 ∨ i = 19 ∨ i = 20 := by omega
    rcases hc with rfl | rfl | rfl | rfl | rfl | rfl | rfl | rfl | rfl | rfl | rfl | rfl | rfl | rfl | rfl | rfl | rfl | rfl | rfl | rfl | rfl
    all_goals (
      simp only [List.getElem?_toArray, List.getElem?_cons_zero, List.getElem?_cons_succ, Option.some.injEq] at ho
      subst ho)
    · -- makeMap
      have hw : wr = w.drew := by
        rcases hW with ⟨_, h⟩ | ⟨h, _⟩
        · exact h
        · rw [hS] at h; cases h
      subst hw
      refine .inr (.inl ⟨w.drew.alloc (.map #[] 0), ?_, (.inr ⟨by simp [Done.add], [], MapAt.new vEnc w.drew, ((Below.refl _ _).drew).alloc (Nat.le_refl _) _, fun v => ?_⟩)⟩)
      · simp [execOp, run_makeMap, cVal]
      · have n4 : S 4 = false := by
          cases h : S 4 with
          | false => rfl
          | true =>
            have h2 : S 0 = true := hcl 4 _ rfl h { on := 0, ground := .data } (by simp) rfl
            rw [hS] at h2
            cases h2
        have n8 : S 8 = false := by
          cases h : S 8 with
          | false => rfl
          | true =>
            have h2 : S 0 = true := hcl 8 _ rfl h { on := 0, ground := .data } (by simp) rfl
            rw [hS] at h2
            cases h2
        have n12 : S 12 = false := by
          cases h : S 12 with
          | false => rfl
          | true =>
            have h2 : S 0 = true := hcl 12 _ rfl h { on := 0, ground := .data } (by simp) rfl
            rw [hS] at h2
            cases h2
        have n16 : S 16 = false := by
          cases h : S 16 with
          | false => rfl
          | true =>
            have h2 : S 0 = true := hcl 16 _ rfl h { on := 0, ground := .data } (by simp) rfl
            rw [hS] at h2
            cases h2
        simp [mget, cTab, Done.add, n4, n8, n12, n16]
    · -- 1
      refine .inr (.inl ⟨wr, ?_, hW.keep 1 (by decide) (by decide) (by decide) (by decide) (by decide)⟩)
      have e2 := E0
      rw [eval_tmp] at e2
      simp only [cVal, cPtr] at e2 ⊢
      try simp at e2
      simp [execOp, e2, go_sem]
    · -- 2
      have e := E 6 1 (by omega) (by kernel_rfl) (hedge { on := 1, ground := .data } (by simp) rfl)
      refine .inr (.inl ⟨wr, ?_, hW.keep 2 (by decide) (by decide) (by decide) (by decide) (by decide)⟩)
      have e2 := e
      rw [eval_tmp] at e2
      simp only [cVal, cPtr] at e2 ⊢
      try simp at e2
      simp [execOp, e2, go_sem]
    · -- 3
      have e := E 7 2 (by omega) (by kernel_rfl) (hedge { on := 2, ground := .data } (by simp) rfl)
      refine .inr (.inl ⟨wr, ?_, hW.keep 3 (by decide) (by decide) (by decide) (by decide) (by decide)⟩)
      have e2 := e
      rw [eval_tmp] at e2
      simp only [cVal, cPtr] at e2 ⊢
      try simp at e2
      simp [execOp, e2, go_sem]
    · -- 4
      have e := E 8 3 (by omega) (by kernel_rfl) (hedge { on := 3, ground := .data } (by simp) rfl)
      have s0 : S 0 = true := hedge { on := 0, ground := .data } (by simp) rfl
      have e5 := E 5 0 (by omega) (by kernel_rfl) s0
      rcases hW with ⟨h, _⟩ | ⟨_, kvs, hm, hb, ht⟩
      · rw [s0] at h; cases h
      obtain ⟨ob, hr, hm2⟩ := run_update vKey hm Try.underlying90 1 (cPtr b (o + 1))
      refine .inr (.inr ⟨rfl, _, .inl ?_, .inr ⟨by simp [Done.add, s0], _, hm2, hb.trans (((Only.refl (fun k => k = w.heap.size) wr).setBlock w.heap.size ob (fun _ => rfl)).below hb.size (fun k hk => by omega)), fun v => ?_⟩⟩)
      · have hr2 : Sem.run Try.prog (Instr.mapUpdate 90 (.map (some w.heap.size)) (.int .i64 1) (cPtr b (o + 1))) wr = _ := hr
        have c1 : a.eval (.const (.int .i64 1)) = .int .i64 1 := rfl
        simp [execOp, e, e5, c1, cVal, hr2]
      · rw [mget_mput, ht v]
        by_cases hv : v = 1
        · subst hv
          simp [cTab, Done.add]
        · simp [cTab, Done.add, hv]
    · -- 5
      refine .inr (.inl ⟨wr, ?_, hW.keep 5 (by decide) (by decide) (by decide) (by decide) (by decide)⟩)
      have e2 := E0
      rw [eval_tmp] at e2
      simp only [cVal, cPtr] at e2 ⊢
      try simp at e2
      simp [execOp, e2, go_sem]
    · -- 6
      have e := E 9 5 (by omega) (by kernel_rfl) (hedge { on := 5, ground := .data } (by simp) rfl)
      refine .inr (.inl ⟨wr, ?_, hW.keep 6 (by decide) (by decide) (by decide) (by decide) (by decide)⟩)
      have e2 := e
      rw [eval_tmp] at e2
      simp only [cVal, cPtr] at e2 ⊢
      try simp at e2
      simp [execOp, e2, go_sem]
    · -- 7
      have e := E 10 6 (by omega) (by kernel_rfl) (hedge { on := 6, ground := .data } (by simp) rfl)
      refine .inr (.inl ⟨wr, ?_, hW.keep 7 (by decide) (by decide) (by decide) (by decide) (by decide)⟩)
      have e2 := e
      rw [eval_tmp] at e2
      simp only [cVal, cPtr] at e2 ⊢
      try simp at e2
      simp [execOp, e2, go_sem]
    · -- 8
      have e := E 11 7 (by omega) (by kernel_rfl) (hedge { on := 7, ground := .data } (by simp) rfl)
      have s0 : S 0 = true := hedge { on := 0, ground := .data } (by simp) rfl
      have e5 := E 5 0 (by omega) (by kernel_rfl) s0
      rcases hW with ⟨h, _⟩ | ⟨_, kvs, hm, hb, ht⟩
      · rw [s0] at h; cases h
      obtain ⟨ob, hr, hm2⟩ := run_update vKey hm Try.underlying90 2 (cPtr b (o + 2))
      refine .inr (.inr ⟨rfl, _, .inl ?_, .inr ⟨by simp [Done.add, s0], _, hm2, hb.trans (((Only.refl (fun k => k = w.heap.size) wr).setBlock w.heap.size ob (fun _ => rfl)).below hb.size (fun k hk => by omega)), fun v => ?_⟩⟩)
      · have hr2 : Sem.run Try.prog (Instr.mapUpdate 90 (.map (some w.heap.size)) (.int .i64 2) (cPtr b (o + 2))) wr = _ := hr
        have c1 : a.eval (.const (.int .i64 2)) = .int .i64 2 := rfl
        simp [execOp, e, e5, c1, cVal, hr2]
      · rw [mget_mput, ht v]
        by_cases hv : v = 2
        · subst hv
          simp [cTab, Done.add]
        · simp [cTab, Done.add, hv]
    · -- 9
      refine .inr (.inl ⟨wr, ?_, hW.keep 9 (by decide) (by decide) (by decide) (by decide) (by decide)⟩)
      have e2 := E0
      rw [eval_tmp] at e2
      simp only [cVal, cPtr] at e2 ⊢
      try simp at e2
      simp [execOp, e2, go_sem]
    · -- 10
      have e := E 12 9 (by omega) (by kernel_rfl) (hedge { on := 9, ground := .data } (by simp) rfl)
      refine .inr (.inl ⟨wr, ?_, hW.keep 10 (by decide) (by decide) (by decide) (by decide) (by decide)⟩)
      have e2 := e
      rw [eval_tmp] at e2
      simp only [cVal, cPtr] at e2 ⊢
      try simp at e2
      simp [execOp, e2, go_sem]
    · -- 11
      have e := E 13 10 (by omega) (by kernel_rfl) (hedge { on := 10, ground := .data } (by simp) rfl)
      refine .inr (.inl ⟨wr, ?_, hW.keep 11 (by decide) (by decide) (by decide) (by decide) (by decide)⟩)
      have e2 := e
      rw [eval_tmp] at e2
      simp only [cVal, cPtr] at e2 ⊢
      try simp at e2
      simp [execOp, e2, go_sem]
    · -- 12
      have e := E 14 11 (by omega) (by kernel_rfl) (hedge { on := 11, ground := .data } (by simp) rfl)
      have s0 : S 0 = true := hedge { on := 0, ground := .data } (by simp) rfl
      have e5 := E 5 0 (by omega) (by kernel_rfl) s0
      rcases hW with ⟨h, _⟩ | ⟨_, kvs, hm, hb, ht⟩
      · rw [s0] at h; cases h
      obtain ⟨ob, hr, hm2⟩ := run_update vKey hm Try.underlying90 3 (cPtr b (o + 3))
      refine .inr (.inr ⟨rfl, _, .inl ?_, .inr ⟨by simp [Done.add, s0], _, hm2, hb.trans (((Only.refl (fun k => k = w.heap.size) wr).setBlock w.heap.size ob (fun _ => rfl)).below hb.size (fun k hk => by omega)), fun v => ?_⟩⟩)
      · have hr2 : Sem.run Try.prog (Instr.mapUpdate 90 (.map (some w.heap.size)) (.int .i64 3) (cPtr b (o + 3))) wr = _ := hr
        have c1 : a.eval (.const (.int .i64 3)) = .int .i64 3 := rfl
        simp [execOp, e, e5, c1, cVal, hr2]
      · rw [mget_mput, ht v]
        by_cases hv : v = 3
        · subst hv
          simp [cTab, Done.add]
        · simp [cTab, Done.add, hv]
    · -- 13
      refine .inr (.inl ⟨wr, ?_, hW.keep 13 (by decide) (by decide) (by decide) (by decide) (by decide)⟩)
      have e2 := E0
      rw [eval_tmp] at e2
      simp only [cVal, cPtr] at e2 ⊢
      try simp at e2
      simp [execOp, e2, go_sem]
    · -- 14
      have e := E 15 13 (by omega) (by kernel_rfl) (hedge { on := 13, ground := .data } (by simp) rfl)
      refine .inr (.inl ⟨wr, ?_, hW.keep 14 (by decide) (by decide) (by decide) (by decide) (by decide)⟩)
      have e2 := e
      rw [eval_tmp] at e2
      simp only [cVal, cPtr] at e2 ⊢
      try simp at e2
      simp [execOp, e2, go_sem]
    · -- 15
      have e := E 16 14 (by omega) (by kernel_rfl) (hedge { on := 14, ground := .data } (by simp) rfl)
      refine .inr (.inl ⟨wr, ?_, hW.keep 15 (by decide) (by decide) (by decide) (by decide) (by decide)⟩)
      have e2 := e
      rw [eval_tmp] at e2
      simp only [cVal, cPtr] at e2 ⊢
      try simp at e2
      simp [execOp, e2, go_sem]
    · -- 16
      have e := E 17 15 (by omega) (by kernel_rfl) (hedge { on := 15, ground := .data } (by simp) rfl)
      have s0 : S 0 = true := hedge { on := 0, ground := .data } (by simp) rfl
      have e5 := E 5 0 (by omega) (by kernel_rfl) s0
      rcases hW with ⟨h, _⟩ | ⟨_, kvs, hm, hb, ht⟩
      · rw [s0] at h; cases h
      obtain ⟨ob, hr, hm2⟩ := run_update vKey hm Try.underlying90 4 (cPtr b (o + 4))
      refine .inr (.inr ⟨rfl, _, .inl ?_, .inr ⟨by simp [Done.add, s0], _, hm2, hb.trans (((Only.refl (fun k => k = w.heap.size) wr).setBlock w.heap.size ob (fun _ => rfl)).below hb.size (fun k hk => by omega)), fun v => ?_⟩⟩)
      · have hr2 : Sem.run Try.prog (Instr.mapUpdate 90 (.map (some w.heap.size)) (.int .i64 4) (cPtr b (o + 4))) wr = _ := hr
        have c1 : a.eval (.const (.int .i64 4)) = .int .i64 4 := rfl
        simp [execOp, e, e5, c1, cVal, hr2]
      · rw [mget_mput, ht v]
        by_cases hv : v = 4
        · subst hv
          simp [cTab, Done.add]
        · simp [cTab, Done.add, hv]
    · -- 17
      have e := E 5 0 (by omega) (by kernel_rfl) (hedge { on := 0, ground := .data } (by simp) rfl)
      refine .inr (.inl ⟨wr, ?_, hW.keep 17 (by decide) (by decide) (by decide) (by decide) (by decide)⟩)
      have e2 := e
      rw [eval_tmp] at e2
      simp only [cVal, cPtr] at e2 ⊢
      try simp at e2
      simp [execOp, e2, go_sem]
    · -- 18
      refine .inr (.inl ⟨wr, ?_, hW.keep 18 (by decide) (by decide) (by decide) (by decide) (by decide)⟩)
      have e2 := E1
      rw [eval_tmp] at e2
      simp only [cVal, cPtr] at e2 ⊢
      try simp at e2
      simp [execOp, e2, go_sem]
    · -- 19
      have s17 : S 17 = true := hedge { on := 17, ground := .data } (by simp) rfl
      have e18 := E 18 17 (by omega) (by kernel_rfl) s17
      have e19 := E 19 18 (by omega) (by kernel_rfl) (hedge { on := 18, ground := .data } (by simp) rfl)
      have hs : ∀ j, j < 17 → S j = true := fun j hj => hcl 17 _ rfl s17 { on := j, ground := .data } (by
        have hc : j = 0 ∨ j = 1 ∨ j = 2 ∨ j = 3 ∨ j = 4 ∨ j = 5 ∨ j = 6 ∨ j = 7 ∨ j = 8 ∨ j = 9 ∨ j = 10 ∨ j = 11 ∨ j = 12 ∨ j = 13 ∨ j = 14 ∨ j = 15 ∨ j = 16 := by omega
        rcases hc with rfl | rfl | rfl | rfl | rfl | rfl | rfl | rfl | rfl | rfl | rfl | rfl | rfl | rfl | rfl | rfl | rfl <;> simp) rfl
      have hW2 := hW
      rcases hW with ⟨h, _⟩ | ⟨_, kvs, hm, hb, ht⟩
      · rw [hs 0 (by omega)] at h; cases h
      have hr := run_lookup vKey hm Try.underlying90 (.pointer none) (by kernel_rfl) v false
      have hg : mget v kvs = some (cPtr b (o + v.toNat)) := by
        rw [ht v]
        unfold cTab
        rw [hs 4 (by omega), hs 8 (by omega), hs 12 (by omega), hs 16 (by omega)]
        have hc : v = 1 ∨ v = 2 ∨ v = 3 ∨ v = 4 := by omega
        rcases hc with rfl | rfl | rfl | rfl <;> rfl
      rw [hg] at hr
      have hr2 : Sem.run Try.prog (Instr.lookup 90 (.map (some w.heap.size)) (.int .i64 v) false) wr = .ok (cPtr b (o + v.toNat)) wr := hr
      refine .inr (.inl ⟨wr, ?_, hW2.keep 19 (by decide) (by decide) (by decide) (by decide) (by decide)⟩)
      simp [execOp, e18, e19, cVal, hr2]
    · -- 20
      have e := E 20 19 (by omega) (by kernel_rfl) (hedge { on := 19, ground := .data } (by simp) rfl)
      refine .inr (.inl ⟨wr, ?_, hW.keep 20 (by decide) (by decide) (by decide) (by decide) (by decide)⟩)
      have e2 := e
      rw [eval_tmp] at e2
      simp only [cVal, cPtr] at e2 ⊢
      try simp at e2
      simp [execOp, e2, go_sem]
end Go.Proofs.Ythademifhnkbiaa
