/-
  For every input the law WindowSums answers true; its arguments read afterwards as they read before.
-/
import Derived.Test.YtbkpgpaanhfjfaaRows
import Derived.WalkKit
import Derived.ProofKit
import Derived.OpenShut
import Derived.ShutString
import Derived.ChangeOld
import Derived.Below
import Derived.Test.YtbkpgpaanhfjfaaFit
import Derived.Test.YtbkpgpaanhfjfaaWiW
namespace Go.Proofs.Ytbkpgpaanhfjfaa.windowSums
open Go.ChangeShapes Go.WideShapes Go.ChangeAt Go.RowKit
open Go.ChangeMaps (open_string shut_string)
set_option linter.unusedVariables false
theorem own : ownKnob Try.prog.godebug = none := by kernel_rfl
theorem laidOut : laidOutB Try.prog = true := by kernel_rfl
set_option maxRecDepth 100000 in
theorem lifted (os : Os) (started : os.Started) (H : Type) (enc : TypeId × Value → H) :
    ReturnsInHanded {} Try.checked os 5 .any (Rows.windowSumsSpec.pre6 enc Try.prog Try.f5 Rows.windowSumsRow.domain false) (Rows.windowSumsSpec.post enc Try.prog Try.f5 false true false false) := by
  refine returnsInHanded_of_change_sized (C := Try.checked) own started (by kernel_rfl) Try.func5
    (ChangeSpec.witness6 (enc := enc) (C := Try.checked) false ⟨#[], #[.slice none 0 0], []⟩ 8 (by kernel_rfl) (by kernel_rfl) (by kernel_rfl) (by kernel_rfl)) ?_
  intro W base args ds gs before hval0 hW hcnd hwts _
  have hval : ∀ (j : Nat) t v, Try.f5.params[j]? = some t → args[j]? = some v → Value.okWide Try.prog W .any base t v := hval0
  have hW' := hW
  obtain ⟨p, q, hA0, hV, rfl, hfz, hnd⟩ := hW
  have hA : DataW.TrodAll enc Try.prog W 0 (fun _ => true) true Try.f5.params.toList args.toList ds p := hA0
  rw [Try.params5] at hA hval
  obtain ⟨v0, vs0, d0, ds0, p0, q0, hargs, rfl, rfl, h0, r0⟩ := trodAll_cons hA
  obtain ⟨rfl, rfl, rfl⟩ := trodAll_nil r0
  obtain rfl : args = #[v0] := by cases args; simp_all
  obtain ⟨rfl, rfl⟩ := trodVars_none hV
  have hwall : ∀ (j : Nat) (t : TypeId) (d : DataW H), ([53] : List TypeId)[j]? = some t → ([d0] : List (DataW H))[j]? = some d → ∀ n ∈ d.weights Try.prog t, n ≤ reachBytes := by
    intro j t d ht hd n hn
    have hall : (DataW.weightsEach Try.prog [53] [d0]).all (· ≤ reachBytes) = true := by
      have := hwts
      rw [Try.params5] at this
      change (DataW.weightsEach Try.prog ([53] ++ []) ([d0] ++ [])).all (· ≤ reachBytes) = true at this
      rw [List.append_nil, List.append_nil] at this
      exact this
    have := List.all_eq_true.1 hall _ (DataW.weights_mem_each ht hd n hn)
    simpa using this
  have k0 := h0
  have lt0 : ∀ x ∈ p0, x.block < W.heap.size := by obtain ⟨m, hm⟩ := k0; exact DataW.trod_lt m _ _ _ hm
  obtain ⟨n0, fit0⟩ : ∃ m, K.Fit Try.prog W m 53 v0.cells.toList := by
    obtain ⟨m, hm⟩ := h0
    exact ⟨m, K.fit_of_trod m _ _ _ hm (hwall 0 53 d0 rfl rfl)⟩
  have ok0 := hval 0 53 v0 rfl rfl
  clear hA0 hval0 hwall hwts
  have walk : Calls Try.prog 5 #[v0] W fun e W' => e = .returned (.bool true) ∧ Below W.heap.size W W' := by
    obtain ⟨a, c, l, rfl, hx, hz, hl⟩ := open_ints ok0 fit0
    exact windowSums_any W hx hz hl
  refine walk.mono fun e W' ⟨he, bel⟩ => ?_
  subst he
  exact ⟨_, rfl, _, _, _, [], _, [], hW', trodAll_mk1 (shut_bool Try.underlying4 _), (trodAll_cons_mk (Below.trod laidOut (by kernel_rfl) (of_decide_eq_true (by kernel_rfl)) k0 bel lt0) trodAll_mk0), rfl, bel.frame _, fun h => by cases h⟩

theorem over : Rows.windowSumsRow.holds Try.pinned (OpenSpec.ofChange Rows.windowSumsSpec) :=
  OpenClaim.holds_of_wide 5 Try.f5 rfl rfl rfl rfl rfl rfl rfl ⟨rfl, rfl, rfl, rfl, rfl⟩ rfl rfl rfl rfl rfl (by kernel_rfl) Try.func5 (by kernel_rfl)
    (of_decide_eq_true (by kernel_rfl)) (by unfold Func.isWrapper; first | (rw [if_pos (by decide +kernel)]; kernel_rfl) | (rw [if_neg (by decide +kernel)]; exact ⟨rfl, rfl⟩))
    (fun os started H enc _ => lifted os started H enc)
theorem proved : Rows.WindowSumsSaid := over
#print axioms proved
end Go.Proofs.Ytbkpgpaanhfjfaa.windowSums
