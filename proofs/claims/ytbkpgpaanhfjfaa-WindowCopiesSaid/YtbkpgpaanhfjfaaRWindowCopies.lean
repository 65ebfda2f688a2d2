/-
  For every input the law WindowCopies answers true; its arguments read afterwards as they read before.
-/
import Derived.Test.YtbkpgpaanhfjfaaRows
import Derived.WalkKit
import Derived.ProofKit
import Derived.OpenShut
import Derived.ShutString
import Derived.ChangeOld
import Derived.Below
import Derived.Test.YtbkpgpaanhfjfaaFit
import Derived.Test.YtbkpgpaanhfjfaaWjB
namespace Go.Proofs.Ytbkpgpaanhfjfaa.windowCopies
open Go.ChangeShapes Go.WideShapes Go.ChangeAt Go.RowKit
open Go.ChangeMaps (open_string shut_string)
set_option linter.unusedVariables false
theorem own : ownKnob Try.prog.godebug = none := by kernel_rfl
theorem laidOut : laidOutB Try.prog = true := by kernel_rfl
set_option maxRecDepth 100000 in
theorem lifted (os : Os) (started : os.Started) (H : Type) (enc : TypeId × Value → H) :
    ReturnsInHanded {} Try.checked os 6 .any (Rows.windowCopiesSpec.pre6 enc Try.prog Try.f6 Rows.windowCopiesRow.domain false) (Rows.windowCopiesSpec.post enc Try.prog Try.f6 false true false false) := by
  refine returnsInHanded_of_change_sized (C := Try.checked) own started (by kernel_rfl) Try.func6
    (ChangeSpec.witness6 (enc := enc) (C := Try.checked) false ⟨#[], #[.int .i64 0, .int .i64 0, .int .i64 0, .slice none 0 0, .slice none 0 0, .slice none 0 0], []⟩ 8 (by kernel_rfl) (by kernel_rfl) (by kernel_rfl) (by kernel_rfl)) ?_
  intro W base args ds gs before hval0 hW hcnd hwts _
  have hval : ∀ (j : Nat) t v, Try.f6.params[j]? = some t → args[j]? = some v → Value.okWide Try.prog W .any base t v := hval0
  have hW' := hW
  obtain ⟨p, q, hA0, hV, rfl, hfz, hnd⟩ := hW
  have hA : DataW.TrodAll enc Try.prog W 0 (fun _ => true) true Try.f6.params.toList args.toList ds p := hA0
  rw [Try.params6] at hA hval
  obtain ⟨v0, vs0, d0, ds0, p0, q0, hargs, rfl, rfl, h0, r0⟩ := trodAll_cons hA
  obtain ⟨v1, vs1, d1, ds1, p1, q1, rfl, rfl, rfl, h1, r1⟩ := trodAll_cons r0
  obtain ⟨v2, vs2, d2, ds2, p2, q2, rfl, rfl, rfl, h2, r2⟩ := trodAll_cons r1
  obtain ⟨v3, vs3, d3, ds3, p3, q3, rfl, rfl, rfl, h3, r3⟩ := trodAll_cons r2
  obtain ⟨v4, vs4, d4, ds4, p4, q4, rfl, rfl, rfl, h4, r4⟩ := trodAll_cons r3
  obtain ⟨v5, vs5, d5, ds5, p5, q5, rfl, rfl, rfl, h5, r5⟩ := trodAll_cons r4
  obtain ⟨rfl, rfl, rfl⟩ := trodAll_nil r5
  obtain rfl : args = #[v0, v1, v2, v3, v4, v5] := by cases args; simp_all
  obtain ⟨rfl, rfl⟩ := trodVars_none hV
  have hwall : ∀ (j : Nat) (t : TypeId) (d : DataW H), ([2, 2, 3, 22, 22, 22] : List TypeId)[j]? = some t → ([d0, d1, d2, d3, d4, d5] : List (DataW H))[j]? = some d → ∀ n ∈ d.weights Try.prog t, n ≤ reachBytes := by
    intro j t d ht hd n hn
    have hall : (DataW.weightsEach Try.prog [2, 2, 3, 22, 22, 22] [d0, d1, d2, d3, d4, d5]).all (· ≤ reachBytes) = true := by
      have := hwts
      rw [Try.params6] at this
      change (DataW.weightsEach Try.prog ([2, 2, 3, 22, 22, 22] ++ []) ([d0, d1, d2, d3, d4, d5] ++ [])).all (· ≤ reachBytes) = true at this
      rw [List.append_nil, List.append_nil] at this
      exact this
    have := List.all_eq_true.1 hall _ (DataW.weights_mem_each ht hd n hn)
    simpa using this
  have k0 := h0
  have lt0 : ∀ x ∈ p0, x.block < W.heap.size := by obtain ⟨m, hm⟩ := k0; exact DataW.trod_lt m _ _ _ hm
  obtain ⟨n0, fit0⟩ : ∃ m, K.Fit Try.prog W m 2 v0.cells.toList := by
    obtain ⟨m, hm⟩ := h0
    exact ⟨m, K.fit_of_trod m _ _ _ hm (hwall 0 2 d0 rfl rfl)⟩
  have ok0 := hval 0 2 v0 rfl rfl
  have k1 := h1
  have lt1 : ∀ x ∈ p1, x.block < W.heap.size := by obtain ⟨m, hm⟩ := k1; exact DataW.trod_lt m _ _ _ hm
  obtain ⟨n1, fit1⟩ : ∃ m, K.Fit Try.prog W m 2 v1.cells.toList := by
    obtain ⟨m, hm⟩ := h1
    exact ⟨m, K.fit_of_trod m _ _ _ hm (hwall 1 2 d1 rfl rfl)⟩
  have ok1 := hval 1 2 v1 rfl rfl
  have k2 := h2
  have lt2 : ∀ x ∈ p2, x.block < W.heap.size := by obtain ⟨m, hm⟩ := k2; exact DataW.trod_lt m _ _ _ hm
  obtain ⟨n2, fit2⟩ : ∃ m, K.Fit Try.prog W m 3 v2.cells.toList := by
    obtain ⟨m, hm⟩ := h2
    exact ⟨m, K.fit_of_trod m _ _ _ hm (hwall 2 3 d2 rfl rfl)⟩
  have ok2 := hval 2 3 v2 rfl rfl
  have k3 := h3
  have lt3 : ∀ x ∈ p3, x.block < W.heap.size := by obtain ⟨m, hm⟩ := k3; exact DataW.trod_lt m _ _ _ hm
  obtain ⟨n3, fit3⟩ : ∃ m, K.Fit Try.prog W m 22 v3.cells.toList := by
    obtain ⟨m, hm⟩ := h3
    exact ⟨m, K.fit_of_trod m _ _ _ hm (hwall 3 22 d3 rfl rfl)⟩
  have ok3 := hval 3 22 v3 rfl rfl
  have k4 := h4
  have lt4 : ∀ x ∈ p4, x.block < W.heap.size := by obtain ⟨m, hm⟩ := k4; exact DataW.trod_lt m _ _ _ hm
  obtain ⟨n4, fit4⟩ : ∃ m, K.Fit Try.prog W m 22 v4.cells.toList := by
    obtain ⟨m, hm⟩ := h4
    exact ⟨m, K.fit_of_trod m _ _ _ hm (hwall 4 22 d4 rfl rfl)⟩
  have ok4 := hval 4 22 v4 rfl rfl
  have k5 := h5
  have lt5 : ∀ x ∈ p5, x.block < W.heap.size := by obtain ⟨m, hm⟩ := k5; exact DataW.trod_lt m _ _ _ hm
  obtain ⟨n5, fit5⟩ : ∃ m, K.Fit Try.prog W m 22 v5.cells.toList := by
    obtain ⟨m, hm⟩ := h5
    exact ⟨m, K.fit_of_trod m _ _ _ hm (hwall 5 22 d5 rfl rfl)⟩
  have ok5 := hval 5 22 v5 rfl rfl
  clear hA0 hval0 hwall hwts
  have walk : Calls Try.prog 6 #[v0, v1, v2, v3, v4, v5] W fun e W' => e = .returned (.bool true) ∧ Below W.heap.size W W' := by
    obtain ⟨d1, rfl⟩ := okWide_int Try.underlying2 ok0
    obtain ⟨d2, rfl⟩ := okWide_int Try.underlying2 ok1
    obtain ⟨d3, rfl⟩ := okWide_int Try.underlying3 ok2
    obtain ⟨a, c, l, rfl, hx, hl⟩ := open_acts ok3 fit3
    obtain ⟨a2, c2, l2, rfl, hx2, hl2⟩ := open_acts ok4 fit4
    obtain ⟨a3, c3, l3, rfl, hx3, hl3⟩ := open_acts ok5 fit5
    exact windowCopies_any W d1 d2 d3 hx hx2 hx3 hl hl2 hl3
  refine walk.mono fun e W' ⟨he, bel⟩ => ?_
  subst he
  exact ⟨_, rfl, _, _, _, [], _, [], hW', trodAll_mk1 (shut_bool Try.underlying4 _), (trodAll_cons_mk (Below.trod laidOut (by kernel_rfl) (of_decide_eq_true (by kernel_rfl)) k0 bel lt0) (trodAll_cons_mk (Below.trod laidOut (by kernel_rfl) (of_decide_eq_true (by kernel_rfl)) k1 bel lt1) (trodAll_cons_mk (Below.trod laidOut (by kernel_rfl) (of_decide_eq_true (by kernel_rfl)) k2 bel lt2) (trodAll_cons_mk (Below.trod laidOut (by kernel_rfl) (of_decide_eq_true (by kernel_rfl)) k3 bel lt3) (trodAll_cons_mk (Below.trod laidOut (by kernel_rfl) (of_decide_eq_true (by kernel_rfl)) k4 bel lt4) (trodAll_cons_mk (Below.trod laidOut (by kernel_rfl) (of_decide_eq_true (by kernel_rfl)) k5 bel lt5) trodAll_mk0)))))), rfl, bel.frame _, fun h => by cases h⟩

theorem over : Rows.windowCopiesRow.holds Try.pinned (OpenSpec.ofChange Rows.windowCopiesSpec) :=
  OpenClaim.holds_of_wide 6 Try.f6 rfl rfl rfl rfl rfl rfl rfl ⟨rfl, rfl, rfl, rfl, rfl⟩ rfl rfl rfl rfl rfl (by kernel_rfl) Try.func6 (by kernel_rfl)
    (of_decide_eq_true (by kernel_rfl)) (by unfold Func.isWrapper; first | (rw [if_pos (by decide +kernel)]; kernel_rfl) | (rw [if_neg (by decide +kernel)]; exact ⟨rfl, rfl⟩))
    (fun os started H enc _ => lifted os started H enc)
theorem proved : Rows.WindowCopiesSaid := over
#print axioms proved
end Go.Proofs.Ytbkpgpaanhfjfaa.windowCopies
