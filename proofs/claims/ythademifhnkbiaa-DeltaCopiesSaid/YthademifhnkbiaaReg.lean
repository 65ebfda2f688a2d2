/- A region that draws its order, by an invariant: what holds whichever operations have been carried out, in whatever order. -/
import Derived.Test.YthademifhnkbiaaFoot
import Derived.Orders
namespace Go.Proofs.Ythademifhnkbiaa.K
open Go.RowKit
section
variable {P : Program} {Q : Exit → Act → World → Prop}
/-- Which operations are done. -/
abbrev Done := Nat → Bool
def Done.add (S : Done) (i : Nat) : Done := fun j => S j || j == i
/-- What is done is done behind all that it waits for. -/
def Closed (ops : Array Oper) (S : Done) : Prop := ∀ i o, ops[i]? = some o → S i = true → ∀ e ∈ o.after.toList, Region.binds .any e = true → S e.on = true
def ofArr (l : Array Bool) : Done := fun j => l.getD j true
theorem ready_mem {ops : Array Oper} {l : Array Bool} {i : Nat} (h : i ∈ Region.ready .any ops l) : ∃ o, ops[i]? = some o ∧ l.getD i true = false ∧ ∀ e ∈ o.after.toList, Region.binds .any e = true → l.getD e.on false = true := by
  simp only [Region.ready, List.mem_filter, List.mem_range, Bool.and_eq_true, Bool.not_eq_true'] at h
  obtain ⟨h1, h2, h3⟩ := h
  refine ⟨ops[i], by simp [h1], h2, fun e he hb => ?_⟩
  rw [Array.getElem?_eq_getElem h1] at h3
  simp only [Option.map_some, Option.getD_some, Array.all_eq_true_iff_forall_mem] at h3
  have := h3 e (by simpa using he)
  simpa [hb] using this
theorem ready_nil {ops : Array Oper} {l : Array Bool} (hsz : l.size = ops.size) (hback : ∀ i o, ops[i]? = some o → ∀ e ∈ o.after.toList, Region.binds .any e = true → e.on < i) (h : Region.ready .any ops l = []) : ∀ i, i < ops.size → l.getD i true = true := by
  intro i
  induction i using Nat.strongRecOn with
  | _ i ih =>
    intro hi
    cases hl : l.getD i true with
    | true => rfl
    | false =>
      exfalso
      have hm : i ∈ Region.ready .any ops l := by
        simp only [Region.ready, List.mem_filter, List.mem_range, Bool.and_eq_true, Bool.not_eq_true']
        refine ⟨hi, hl, ?_⟩
        rw [Array.getElem?_eq_getElem hi]
        simp only [Option.map_some, Option.getD_some, Array.all_eq_true_iff_forall_mem]
        intro e he
        cases hb : Region.binds .any e with
        | false => simp
        | true =>
          have hlt := hback i ops[i] (by simp [hi]) e (by simpa using he) hb
          have := ih e.on hlt (by omega)
          have hel : e.on < l.size := by omega
          simp [hel] at this ⊢
          exact this
      rw [h] at hm
      cases hm
theorem wpAny_inv {ops : Array Oper} (Inv : Done → Act → World → Prop) (hback : ∀ i o, ops[i]? = some o → ∀ e ∈ o.after.toList, Region.binds .any e = true → e.on < i)
    (hstep : ∀ S a w i o, Inv S a w → Closed ops S → ops[i]? = some o → S i = false → (∀ e ∈ o.after.toList, Region.binds .any e = true → S e.on = true) → wpOp P ops Q i (Inv (S.add i)) a w)
    (hend : ∀ S a w, Inv S a w → (∀ i, i < ops.size → S i = true) → Q .normal a w) :
    ∀ (fuel : Nat) (l : Array Bool) (a : Act) (w : World), l.size = ops.size → l.toList.count false = fuel → Closed ops (ofArr l) → Inv (ofArr l) a w → wpAny P .any ops Q fuel l a w := by
  intro fuel
  induction fuel with
  | zero =>
    intro l a w hsz hc hcl hI
    have hall : ∀ i, i < ops.size → l.getD i true = true := by
      intro i hi
      have hl : i < l.size := by omega
      cases hb : l[i] with
      | true => simp [hl, hb]
      | false =>
        have : false ∈ l.toList := by rw [← hb]; simp
        have := List.count_pos_iff.2 this
        omega
    refine ⟨?_, hend _ a w hI hall⟩
    cases hr : Region.ready .any ops l with
    | nil => rfl
    | cons i r =>
      obtain ⟨o, h1, h2, _⟩ := ready_mem (show i ∈ Region.ready .any ops l by rw [hr]; simp)
      have := hall i (Array.getElem?_eq_some_iff.1 h1).1
      rw [h2] at this
      cases this
  | succ fuel ih =>
    intro l a w hsz hc hcl hI
    refine ⟨fun hr => hend _ a w hI (ready_nil hsz hback hr), fun i hi => ?_⟩
    obtain ⟨o, h1, h2, h3⟩ := ready_mem hi
    have hil : i < ops.size := (Array.getElem?_eq_some_iff.1 h1).1
    have hedge : ∀ e ∈ o.after.toList, Region.binds .any e = true → ofArr l e.on = true := fun e he hb => by
      have h4 := h3 e he hb
      have hlt := hback i o h1 e he hb
      have hel : e.on < l.size := by omega
      unfold ofArr
      simp [hel] at h4 ⊢
      exact h4
    have hadd : ofArr (l.setIfInBounds i true) = (ofArr l).add i := by
      funext j
      unfold ofArr Done.add
      by_cases hj : j = i
      · subst hj; simp [hsz, hil]
      · simp [Ne.symm hj, hj]
    refine wpOp_mono (fun a' w' hI' => ih _ a' w' (by simp [hsz]) ?_ ?_ (by rw [hadd]; exact hI')) (hstep (ofArr l) a w i o hI hcl h1 h2 hedge)
    · have hl : i < l.size := by omega
      have hb : l[i] = false := by simpa [hl] using h2
      rw [Array.toList_setIfInBounds]
      have h5 := List.count_set (l := l.toList) (i := i) (a := true) (b := false) (by simpa using hl)
      simp [hb] at h5
      rw [h5]
      have : l.toList.count false = fuel + 1 := hc
      simp at this
      omega
    · rw [hadd]
      intro j o' h4 h5 e he hb
      unfold Done.add at h5 ⊢
      by_cases hj : j = i
      · subst hj
        rw [h1] at h4
        cases h4
        rw [hedge e he hb]
        rfl
      · have h6 : ofArr l j = true := by simpa [hj] using h5
        rw [hcl j o' h4 h6 e he hb]
        rfl
/-- THE RULE: an invariant that holds behind the draw, that each operation which may come next carries on, and that gives the post when all are done. -/
theorem wp_region_inv {id : Nat} {ops : Array Oper} {a : Act} {w : World} (hm : P.follows .mixedOrders = true) (Inv : Done → Act → World → Prop)
    (hback : ∀ i o, ops[i]? = some o → ∀ e ∈ o.after.toList, Region.binds .any e = true → e.on < i)
    (h0 : Inv (fun _ => false) a w.drew)
    (hext : ∀ S S' a w, (∀ i, i < ops.size → S i = S' i) → Inv S a w → Inv S' a w)
    (hstep : ∀ S a w i o, Inv S a w → Closed ops S → ops[i]? = some o → S i = false → (∀ e ∈ o.after.toList, Region.binds .any e = true → S e.on = true) → wpOp P ops Q i (Inv (S.add i)) a w)
    (hend : ∀ S a w, Inv S a w → (∀ i, i < ops.size → S i = true) → Q .normal a w) : (Code.region id ops true).wp P Q a w := by
  refine wp_region_any hm (wpAny_inv Inv hback hstep hend ops.size _ a _ (by simp) (by simp) ?_ ?_)
  · intro i o h1 h2 e he hb
    have hil := (Array.getElem?_eq_some_iff.1 h1).1
    unfold ofArr at h2
    simp [hil] at h2
  · refine hext _ _ _ _ ?_ h0
    intro i hi
    unfold ofArr
    simp [hi]
/-- Which operation lays slot t. -/
def prodOf (ops : Array Oper) (t : Nat) : Option Nat := ops.findIdx? (fun o => o.dst == some t)
def slotOf (ops : Array Oper) (base : Array Value) (val : Nat → Value) (S : Done) (t : Nat) : Value :=
  match prodOf ops t with
  | some i => if S i = true then val i else base.getD t undef
  | none => base.getD t undef
def FrameIs (ops : Array Oper) (base : Act) (val : Nat → Value) (S : Done) (a : Act) : Prop :=
  a.defers = base.defers ∧ a.tmps.size = base.tmps.size ∧ ∀ t, t < base.tmps.size → a.tmps.getD t undef = slotOf ops base.tmps val S t
/-- Each slot is laid once. -/
def OnceB (ops : Array Oper) (n : Nat) : Bool := (List.range ops.size).all fun i => match (ops[i]?).bind (·.dst) with | some d => decide (d < n) && (prodOf ops d == some i) | none => true
theorem once_spec {ops : Array Oper} {n i d : Nat} {o : Oper} (h : OnceB ops n = true) (ho : ops[i]? = some o) (hd : o.dst = some d) : d < n ∧ prodOf ops d = some i := by
  have hi := (Array.getElem?_eq_some_iff.1 ho).1
  simp only [OnceB, List.all_eq_true, List.mem_range] at h
  have := h i hi
  rw [ho] at this
  simpa [hd] using this
theorem FrameIs.put {ops : Array Oper} {base : Act} {val : Nat → Value} {S : Done} {a : Act} {i : Nat} {o : Oper} (h : FrameIs ops base val S a) (honce : OnceB ops base.tmps.size = true) (ho : ops[i]? = some o) (v : Value) (hv : o.dst.isSome = true → v = val i) :
    FrameIs ops base val (S.add i) (a.put o.dst v) := by
  obtain ⟨h1, h2, h3⟩ := h
  cases hd : o.dst with
  | none =>
    refine ⟨h1, h2, fun t ht => ?_⟩
    show a.tmps.getD t undef = _
    rw [h3 t ht]
    unfold slotOf
    cases hp : prodOf ops t with
    | none => rfl
    | some j =>
      have hj : j ≠ i := by
        intro e
        subst e
        have := Array.findIdx?_eq_some_iff_getElem.1 hp
        obtain ⟨hjl, hb, _⟩ := this
        rw [Array.getElem?_eq_getElem hjl] at ho
        cases ho
        simp [hd] at hb
      simp [Done.add, hj]
  | some d =>
    obtain ⟨hdn, hpd⟩ := once_spec honce ho hd
    have hv' := hv (by simp [hd])
    subst hv'
    refine ⟨h1, by simp [Act.put, h2], fun t ht => ?_⟩
    by_cases e : d = t
    · subst e
      have : ((a.put (some d) (val i)).tmps).getD d undef = val i := by simp [Act.put, h2, hdn]
      rw [this]
      simp [slotOf, hpd, Done.add]
    · have : ((a.put (some d) (val i)).tmps).getD t undef = a.tmps.getD t undef := by simp [Act.put, Array.getElem?_setIfInBounds_ne e]
      rw [this, h3 t ht]
      unfold slotOf
      cases hp : prodOf ops t with
      | none => rfl
      | some j =>
        have hj : j ≠ i := by
          intro e2
          subst e2
          have := Array.findIdx?_eq_some_iff_getElem.1 hp
          obtain ⟨hjl, hb, _⟩ := this
          rw [Array.getElem?_eq_getElem hjl] at ho
          cases ho
          simp [hd] at hb
          exact e hb
        simp [Done.add, hj]
theorem FrameIs.done {ops : Array Oper} {base : Act} {val : Nat → Value} {S : Done} {a : Act} (h : FrameIs ops base val S a) {t i : Nat} (ht : t < base.tmps.size) (hp : prodOf ops t = some i) (hS : S i = true) : a.eval (.tmp t) = val i := by
  have := h.2.2 t ht
  simp only [slotOf, hp, hS, if_true] at this
  rw [← this]
  simp [Act.eval]
theorem FrameIs.old {ops : Array Oper} {base : Act} {val : Nat → Value} {S : Done} {a : Act} (h : FrameIs ops base val S a) {t : Nat} (ht : t < base.tmps.size) (hp : prodOf ops t = none) : a.eval (.tmp t) = base.tmps.getD t undef := by
  have := h.2.2 t ht
  simp only [slotOf, hp] at this
  rw [← this]
  simp [Act.eval]
theorem FrameIs.begin (ops : Array Oper) (base : Act) (val : Nat → Value) : FrameIs ops base val (fun _ => false) base := by
  refine ⟨rfl, rfl, fun t ht => ?_⟩
  unfold slotOf
  cases prodOf ops t <;> simp
theorem FrameIs.fin {ops : Array Oper} {base : Act} {val : Nat → Value} {S : Done} {a : Act} (h : FrameIs ops base val S a) (hS : ∀ i, i < ops.size → S i = true) (fin : Array Value) (hsz : fin.size = base.tmps.size)
    (hf : ∀ t, t < base.tmps.size → fin.getD t undef = slotOf ops base.tmps val (fun _ => true) t) : a = { tmps := fin, defers := base.defers } := by
  obtain ⟨tm, df⟩ := a
  obtain ⟨h1, h2, h3⟩ := h
  simp only at h1 h2 h3
  subst h1
  congr 1
  apply Array.ext (by omega)
  intro t ht1 ht2
  have h4 := h3 t (by omega)
  have h5 := hf t (by omega)
  have h6 : slotOf ops base.tmps val S t = slotOf ops base.tmps val (fun _ => true) t := by
    unfold slotOf
    cases hp : prodOf ops t with
    | none => rfl
    | some j =>
      have hj := (Array.findIdx?_eq_some_iff_getElem.1 hp).1
      simp [hS j hj]
  rw [h6, ← h5] at h4
  simpa [ht1, ht2] using h4
/-- What an operation of a drawn region does: a value that does not hang on the order, and a world of which WI holds; or nothing. -/
def OpTo (P : Program) (o : Oper) (a : Act) (v : Value) (w : World) (R : World → Prop) : Prop :=
  (∃ f args, (execOp a.eval o).run P w = .ok (.enter f args) w ∧ Calls P f args w fun e w' => e = .returned v ∧ R w') ∨
  (∃ w', (execOp a.eval o).run P w = .ok (.value v) w' ∧ R w') ∨ (o.dst = none ∧ ∃ w', ((execOp a.eval o).run P w = .ok .skip w' ∨ ∃ u, (execOp a.eval o).run P w = .ok (.value u) w') ∧ R w')
/-- The rule, where guards are taken: each guard's value is known, and it is met. -/
theorem wp_region_gvals {id : Nat} {ops : Array Oper} {base : Act} {w : World} (hm : P.follows .mixedOrders = true) (val : Nat → Value) (WI : Done → World → Prop) (fin : Array Value)
    (hback : (List.range ops.size).all (fun i => match ops[i]? with | some o => o.after.toList.all (fun e => !Region.binds .any e || decide (e.on < i)) | none => true) = true) (honce : OnceB ops base.tmps.size = true) (hguard : ∀ (i : Nat) (o : Oper) (j : Nat) (b : Bool), ops[i]? = some o → o.guard = some (j, b) → (∃ e ∈ o.after.toList, Region.binds .any e = true ∧ e.on = j) ∧ (∃ oj d, ops[j]? = some oj ∧ oj.dst = some d) ∧ val j = .bool b)
    (h0 : WI (fun _ => false) w.drew)
    (hext : ∀ S S' w, (∀ i, i < ops.size → S i = S' i) → WI S w → WI S' w)
    (hstep : ∀ S a w i o, FrameIs ops base val S a → WI S w → Closed ops S → ops[i]? = some o → S i = false → (∀ e ∈ o.after.toList, Region.binds .any e = true → S e.on = true) → OpTo P o a (val i) w (WI (S.add i)))
    (hfin : fin.size = base.tmps.size) (hf : ∀ t, t < base.tmps.size → fin.getD t undef = slotOf ops base.tmps val (fun _ => true) t)
    (hend : ∀ w, WI (fun _ => true) w → Q .normal { tmps := fin, defers := base.defers } w) : (Code.region id ops true).wp P Q base w := by
  refine wp_region_inv hm (fun S a w => FrameIs ops base val S a ∧ WI S w) ?_ ⟨FrameIs.begin ops base val, h0⟩ ?_ ?_ ?_
  · intro i o ho e he hb
    have hi := (Array.getElem?_eq_some_iff.1 ho).1
    have := (List.all_eq_true.1 hback) i (by simpa using hi)
    rw [ho] at this
    have := (List.all_eq_true.1 this) e he
    simpa [hb] using this
  · rintro S S' a w hS ⟨h1, h2⟩
    refine ⟨⟨h1.1, h1.2.1, fun t ht => ?_⟩, hext S S' w hS h2⟩
    rw [h1.2.2 t ht]
    unfold slotOf
    cases hp : prodOf ops t with
    | none => rfl
    | some j =>
      have hj := (Array.findIdx?_eq_some_iff_getElem.1 hp).1
      simp [hS j hj]
  · rintro S a w i o ⟨h1, h2⟩ hcl ho hS hedge
    have hw : Region.wanted o (yielded ops a.tmps) = true := by
      cases hg : o.guard with
      | none => simp [Region.wanted, hg]
      | some jb =>
        obtain ⟨j, b⟩ := jb
        obtain ⟨⟨e, he, hb, hej⟩, ⟨oj, d, hoj, hd⟩, hval⟩ := hguard i o j b ho hg
        have hSj : S j = true := by rw [← hej]; exact hedge e he hb
        obtain ⟨hdn, hpd⟩ := once_spec honce hoj hd
        have hf := h1.2.2 d hdn
        simp only [slotOf, hpd, hSj, if_true, hval] at hf
        have hsz : d < a.tmps.size := by rw [h1.2.1]; exact hdn
        have hf2 : a.tmps[d]? = some (.bool b) := by
          rw [Array.getElem?_eq_getElem hsz]
          simpa [hsz] using hf
        simp [Region.wanted, hg, yielded, hoj, hd, hf2]
    have hr := hstep S a w i o h1 h2 hcl ho hS hedge
    unfold wpOp
    rw [ho]
    simp only [hw, if_true]
    refine .inl ?_
    unfold Oper.wp
    rcases hr with ⟨f, args, hr, hc⟩ | ⟨w', hr, hw⟩ | ⟨hd, w', hr | ⟨u, hr⟩, hw⟩
    · rw [hr, Oper.upon_enter]
      refine hc.mono ?_
      rintro e w' ⟨rfl, hw⟩
      exact ⟨h1.put honce ho _ (fun _ => rfl), hw⟩
    · rw [hr]
      exact ⟨h1.put honce ho _ (fun _ => rfl), hw⟩
    · rw [hr]
      exact ⟨h1.put honce ho _ (fun h => by simp [hd] at h), hw⟩
    · rw [hr]
      exact ⟨h1.put honce ho _ (fun h => by simp [hd] at h), hw⟩
  · rintro S a w ⟨h1, h2⟩ hS
    have := h1.fin hS fin hfin hf
    rw [this]
    exact hend w (hext S _ w (fun i hi => hS i hi) h2)
theorem wp_region_vals {id : Nat} {ops : Array Oper} {base : Act} {w : World} (hm : P.follows .mixedOrders = true) (val : Nat → Value) (WI : Done → World → Prop) (fin : Array Value)
    (hback : (List.range ops.size).all (fun i => match ops[i]? with | some o => o.after.toList.all (fun e => !Region.binds .any e || decide (e.on < i)) | none => true) = true) (honce : OnceB ops base.tmps.size = true) (hguard : ops.toList.all (fun o => o.guard.isNone) = true)
    (h0 : WI (fun _ => false) w.drew)
    (hext : ∀ S S' w, (∀ i, i < ops.size → S i = S' i) → WI S w → WI S' w)
    (hstep : ∀ S a w i o, FrameIs ops base val S a → WI S w → Closed ops S → ops[i]? = some o → S i = false → (∀ e ∈ o.after.toList, Region.binds .any e = true → S e.on = true) → OpTo P o a (val i) w (WI (S.add i)))
    (hfin : fin.size = base.tmps.size) (hf : ∀ t, t < base.tmps.size → fin.getD t undef = slotOf ops base.tmps val (fun _ => true) t)
    (hend : ∀ w, WI (fun _ => true) w → Q .normal { tmps := fin, defers := base.defers } w) : (Code.region id ops true).wp P Q base w :=
  wp_region_gvals hm val WI fin hback honce (fun i o j b ho hg => by
    have hi := (Array.getElem?_eq_some_iff.1 ho).1
    have := (List.all_eq_true.1 hguard) o (by
      rw [Array.getElem?_eq_some_iff] at ho
      obtain ⟨hi, rfl⟩ := ho
      simp)
    rw [hg] at this
    cases this) h0 hext hstep hfin hf hend
end
end Go.Proofs.Ythademifhnkbiaa.K
