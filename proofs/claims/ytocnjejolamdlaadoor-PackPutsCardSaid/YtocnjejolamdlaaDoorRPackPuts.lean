/-
  For every row of bytes, every two numbers and every text, the law PackPuts answers true; its arguments read afterwards as they read before.
  The variable errors.errorType is as the program text lays it (the card ties it).
-/
import Derived.Test.YtocnjejolamdlaaDoorRows
import Derived.Test.YtocnjejolamdlaaDoorCards
import Derived.Test.YtocnjejolamdlaaDoorTie
import Derived.WalkKit
import Derived.ProofKit
import Derived.OpenShut
import Derived.ShutString
import Derived.ChangeOld
import Derived.Below
import Derived.ChangeSame
import Derived.ChangeVars
import Derived.JoinedOf
import Derived.RowKit
import Derived.RowKitTokens
import Derived.LaidLaws
import Derived.LaidHandle
import Derived.Stop.Joined
import Derived.SevenTiedAt
import Derived.Handed
import Derived.Test.YtocnjejolamdlaaDoorFit
import Derived.Test.YtocnjejolamdlaaDoorLPuts
namespace Go.Proofs.YtocnjejolamdlaaDoor.packPuts
open Go.ChangeShapes Go.WideShapes Go.ChangeAt Go.RowKit
open Go.ChangeMaps (open_string shut_string)
set_option linter.unusedVariables false
theorem own : ownKnob Tryd.prog.godebug = none := by kernel_rfl
theorem laidOut : laidOutB Tryd.prog = true := by kernel_rfl
theorem et : Tryd.prog.globalNamed "errors.errorType" = some 0 := by kernel_rfl
theorem rt : (Tryd.prog.cutTypes.find? (·.1 == "internal/reflectlite.rtype")).map (·.2) = some 65 := by kernel_rfl
theorem oneRow : ((List.range 107).filter fun t => Tryd.prog.rowNamed t [101, 114, 114, 111, 114]) = [39] := by kernel_rfl
theorem tsize : Tryd.prog.types.size = 107 := by kernel_rfl
/-- What the condition gives a walk: the variable's one cell. -/
theorem handle_of_laid {W : World} (h : laidMetH Tryd.prog [("errors.errorType", Rows.laid_errors_errorType)] W) : GErr W := by
  have h' : laidMet Tryd.prog [] W ∧ handlesMet Tryd.prog [("errors.errorType", Rows.laid_errors_errorType)] W := h
  obtain ⟨name, u, ty, e1, e2, e3, e4, e5⟩ := h'.2 _ (List.mem_singleton.2 rfl)
  have en : name = [101, 114, 114, 111, 114] := (Option.some.inj e1).symm
  subst en
  obtain rfl := Option.some.inj (rt.symm.trans e2)
  have hm : ty ∈ (List.range 107).filter fun t => Tryd.prog.rowNamed t [101, 114, 114, 111, 114] := List.mem_filter.2 ⟨List.mem_range.2 (by rw [← tsize]; exact e3), e4⟩
  rw [oneRow] at hm
  obtain rfl := List.mem_singleton.1 hm
  have hh : typeHandle Tryd.prog 39 = .pointer (some ⟨1, 39, none⟩) := by kernel_rfl
  rw [hh] at e5
  simpa [GErr] using World.var?_cell et e5 0
/-- A world that meets the condition. -/
noncomputable def laidWorld (os : Os) : World :=
  let w0 := World.holding Tryd.prog os ⟨#[], #[], []⟩
  { w0 with heap := w0.heap.modify 0 fun
      | .cells _ t frozen => .cells #[.iface 65 (.agg #[.pointer (some ⟨1, 39, none⟩)])] t frozen
      | o => o }
theorem laidWorld_met (os : Os) (args : Array Value) : laidMetH Tryd.prog [("errors.errorType", Rows.laid_errors_errorType)] ((laidWorld os).forCall (fun _ _ => 0) ⟨#[], args, []⟩).memory :=
  laidMetH_of_parts (laidMet_nil _ _) (by kernel_rfl)
set_option maxRecDepth 100000 in
theorem lifted (os : Os) (started : os.Started) (H : Type) (enc : TypeId × Value → H) :
    ReturnsInHanded {} Tryd.checked os 4 .any (fun w args => (Rows.packPutsSpec.pre enc Tryd.prog Tryd.f4 Rows.packPutsRow.domain false w args ∧ laidMetH Tryd.prog [("errors.errorType", Rows.laid_errors_errorType)] w) ∧ sizedMet enc Tryd.prog Tryd.f4 (OpenSpec.ofChange Rows.packPutsSpec) false w args) (Rows.packPutsSpec.post enc Tryd.prog Tryd.f4 false true false false) := by
  refine returnsInHanded_of_change_and (C := Tryd.checked) (X := fun w _ => laidMetH Tryd.prog [("errors.errorType", Rows.laid_errors_errorType)] w) (fun _ _ _ hh h => h.of_heap hh) own started (by kernel_rfl) Tryd.func4
    (ChangeSpec.witness_at (enc := enc) (C := Tryd.checked) (os := os) (X := fun w _ => laidMetH Tryd.prog [("errors.errorType", Rows.laid_errors_errorType)] w) false (laidWorld os) #[.slice none 0 0, .int .u64 0, .int .i64 0, .string ⟨#[]⟩] 8 rfl (by kernel_rfl) (by kernel_rfl) (by kernel_rfl) (by kernel_rfl) (by kernel_rfl) (laidWorld_met os _)) ?_
  intro W base args ds gs before hval0 hW hcnd hwts hL _
  have hg := handle_of_laid hL
  have hval : ∀ (j : Nat) t v, Tryd.f4.params[j]? = some t → args[j]? = some v → Value.okWide Tryd.prog W .any base t v := hval0
  have hW' := hW
  obtain ⟨p, q, hA0, hV, rfl, hfz, hnd⟩ := hW
  have hA : DataW.TrodAll enc Tryd.prog W 0 (fun _ => true) true Tryd.f4.params.toList args.toList ds p := hA0
  rw [Tryd.params4] at hA hval
  obtain ⟨v0, vs0, d0, ds0, p0, q0, hargs, rfl, rfl, h0, r0⟩ := trodAll_cons hA
  obtain ⟨v1, vs1, d1, ds1, p1, q1, rfl, rfl, rfl, h1, r1⟩ := trodAll_cons r0
  obtain ⟨v2, vs2, d2, ds2, p2, q2, rfl, rfl, rfl, h2, r2⟩ := trodAll_cons r1
  obtain ⟨v3, vs3, d3, ds3, p3, q3, rfl, rfl, rfl, h3, r3⟩ := trodAll_cons r2
  obtain ⟨rfl, rfl, rfl⟩ := trodAll_nil r3
  obtain rfl : args = #[v0, v1, v2, v3] := by cases args; simp_all
  obtain ⟨rfl, rfl⟩ := trodVars_none hV
  have hwall : ∀ (j : Nat) (t : TypeId) (d : DataW H), ([26, 22, 2, 9] : List TypeId)[j]? = some t → ([d0, d1, d2, d3] : List (DataW H))[j]? = some d → ∀ n ∈ d.weights Tryd.prog t, n ≤ reachBytes := by
    intro j t d ht hd n hn
    have hall : (DataW.weightsEach Tryd.prog [26, 22, 2, 9] [d0, d1, d2, d3]).all (· ≤ reachBytes) = true := by
      have := hwts
      rw [Tryd.params4] at this
      change (DataW.weightsEach Tryd.prog ([26, 22, 2, 9] ++ []) ([d0, d1, d2, d3] ++ [])).all (· ≤ reachBytes) = true at this
      rw [List.append_nil, List.append_nil] at this
      exact this
    have := List.all_eq_true.1 hall _ (DataW.weights_mem_each ht hd n hn)
    simpa using this
  have k0 := h0
  have lt0 : ∀ x ∈ p0, x.block < W.heap.size := by obtain ⟨m, hm⟩ := k0; exact DataW.trod_lt m _ _ _ hm
  obtain ⟨n0, fit0⟩ : ∃ m, K.Fit Tryd.prog W m 26 v0.cells.toList := by
    obtain ⟨m, hm⟩ := h0
    exact ⟨m, K.fit_of_trod m _ _ _ hm (hwall 0 26 d0 rfl rfl)⟩
  have ok0 := hval 0 26 v0 rfl rfl
  have k1 := h1
  have lt1 : ∀ x ∈ p1, x.block < W.heap.size := by obtain ⟨m, hm⟩ := k1; exact DataW.trod_lt m _ _ _ hm
  obtain ⟨n1, fit1⟩ : ∃ m, K.Fit Tryd.prog W m 22 v1.cells.toList := by
    obtain ⟨m, hm⟩ := h1
    exact ⟨m, K.fit_of_trod m _ _ _ hm (hwall 1 22 d1 rfl rfl)⟩
  have ok1 := hval 1 22 v1 rfl rfl
  have k2 := h2
  have lt2 : ∀ x ∈ p2, x.block < W.heap.size := by obtain ⟨m, hm⟩ := k2; exact DataW.trod_lt m _ _ _ hm
  obtain ⟨n2, fit2⟩ : ∃ m, K.Fit Tryd.prog W m 2 v2.cells.toList := by
    obtain ⟨m, hm⟩ := h2
    exact ⟨m, K.fit_of_trod m _ _ _ hm (hwall 2 2 d2 rfl rfl)⟩
  have ok2 := hval 2 2 v2 rfl rfl
  have k3 := h3
  have lt3 : ∀ x ∈ p3, x.block < W.heap.size := by obtain ⟨m, hm⟩ := k3; exact DataW.trod_lt m _ _ _ hm
  obtain ⟨n3, fit3⟩ : ∃ m, K.Fit Tryd.prog W m 9 v3.cells.toList := by
    obtain ⟨m, hm⟩ := h3
    exact ⟨m, K.fit_of_trod m _ _ _ hm (hwall 3 9 d3 rfl rfl)⟩
  have ok3 := hval 3 9 v3 rfl rfl
  clear hA0 hval0 hwts hwall
  have walk : Calls Tryd.prog 4 #[v0, v1, v2, v3] W fun e W' => e = .returned (.bool true) ∧ Below W.heap.size W W' := by
    obtain ⟨a, len, cap, rfl⟩ := okWide_slice Tryd.underlying26 ok0
    obtain ⟨a0, c0, lb, e0, -, -, -, -, hr⟩ := K.fit_bytes fit0 Tryd.underlying26 Tryd.underlying5 (by kernel_rfl)
    simp only [Value.cells, List.cons.injEq, and_true] at e0
    injection e0 with e1 e2 e3
    subst e1 e2 e3
    obtain ⟨n, rfl⟩ := okWide_int Tryd.underlying22 ok1
    obtain ⟨n', e1, hn⟩ := K.fit_int fit1 Tryd.underlying22
    simp only [Value.cells, List.cons.injEq, and_true, Value.int.injEq, true_and] at e1
    subst e1
    obtain ⟨hn1, hn2⟩ := wfu64 hn
    obtain ⟨n, rfl⟩ := Int.eq_ofNat_of_zero_le hn1
    obtain ⟨m, rfl⟩ := okWide_int Tryd.underlying2 ok2
    obtain ⟨m', e1, hm⟩ := K.fit_int fit2 Tryd.underlying2
    simp only [Value.cells, List.cons.injEq, and_true, Value.int.injEq, true_and] at e1
    subst e1
    obtain ⟨hm1, hm2⟩ := wf64 hm
    obtain ⟨s, rfl⟩ := okWide_string Tryd.underlying9 ok3
    exact packPuts_any W _ _ lb n m s (by omega) hm1 hm2 hr hg
  refine walk.mono fun e W' ⟨he, bel⟩ => ?_
  subst he
  exact ⟨_, rfl, _, _, _, [], _, [], hW', trodAll_mk1 (shut_bool Tryd.underlying4 _), (trodAll_cons_mk (Below.trod laidOut (by kernel_rfl) (of_decide_eq_true (by kernel_rfl)) k0 bel lt0) (trodAll_cons_mk (Below.trod laidOut (by kernel_rfl) (of_decide_eq_true (by kernel_rfl)) k1 bel lt1) (trodAll_cons_mk (Below.trod laidOut (by kernel_rfl) (of_decide_eq_true (by kernel_rfl)) k2 bel lt2) (trodAll_cons_mk (Below.trod laidOut (by kernel_rfl) (of_decide_eq_true (by kernel_rfl)) k3 bel lt3) trodAll_mk0)))), rfl, bel.frame _, fun h => by cases h⟩

theorem over : Rows.packPutsRow.holds Tryd.pinned (OpenSpec.ofChange Rows.packPutsSpec) :=
  OpenClaim.holds_of_wide 4 Tryd.f4 rfl rfl rfl rfl rfl rfl rfl ⟨rfl, rfl, rfl, rfl, rfl⟩ rfl rfl rfl rfl rfl (by kernel_rfl) Tryd.func4 (by kernel_rfl)
    (of_decide_eq_true (by kernel_rfl)) (by unfold Func.isWrapper; first | (rw [if_pos (by decide +kernel)]; kernel_rfl) | (rw [if_neg (by decide +kernel)]; exact ⟨rfl, rfl⟩))
    (fun os started H enc _ => lifted os started H enc)
theorem proved : Rows.PackPutsCardSaid :=
  Claim7.holds_tied_plain_at .later [] [.handle] true (true, "646cd970743b85cbfa34cc5cbd99cd2b34d7cebffc1f0ee728b68d71843ad9ec") true
    over (fun _ h => by cases h) (by kernel_rfl) (fun _ h => by cases h) packPuts_row_tie rfl ⟨rfl, rfl⟩ (by kernel_rfl) rfl
    (fun f fn hf hfn => by
      obtain rfl : f = 4 := Option.some.inj ((show Tryd.prog.funcNamed "odometer/odometerlaw02.PackPuts" = some 4 by kernel_rfl).symm.trans hf) |>.symm
      obtain rfl : fn = Tryd.f4 := (Option.some.inj (Tryd.func4.symm.trans hfn)).symm
      exact ⟨by kernel_rfl, fun j t ht => by
        rw [Tryd.params4] at ht
        rcases j with _ | _ | _ | _ | j
        · have h3 : t = 26 := by simpa using ht.symm
          subst h3
          exact (show Tryd.prog.wantsStandIn 26 = false by kernel_rfl)
        · have h3 : t = 22 := by simpa using ht.symm
          subst h3
          exact (show Tryd.prog.wantsStandIn 22 = false by kernel_rfl)
        · have h3 : t = 2 := by simpa using ht.symm
          subst h3
          exact (show Tryd.prog.wantsStandIn 2 = false by kernel_rfl)
        · have h3 : t = 9 := by simpa using ht.symm
          subst h3
          exact (show Tryd.prog.wantsStandIn 9 = false by kernel_rfl)
        · simp at ht⟩)
    (by kernel_rfl)
#print axioms proved
end Go.Proofs.YtocnjejolamdlaaDoor.packPuts
