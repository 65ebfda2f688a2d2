/- The walks over net's inner functions: which state is asked for, and a connection of a number. -/
import Derived.Test.YtepdnmpcccgcaaaNet
namespace Go.Proofs.Ytepdnmpcccgcaaa
open Go.RowKit K
def stv (l : List Int) : List Value := l.map fun x => .int .i64 x
theorem stv_get {l : List Int} {k : Nat} (h : k < l.length) : (stv l)[k]? = some (.int .i64 l[k]) := by simp [stv, h]
def IdxOk (r v : Int) (l : List Int) : Prop := decide (0 ≤ r) = l.contains v
set_option maxHeartbeats 400000 in
theorem index_any (a : Option Addr) (c : Nat) (l : List Int) (v : Int) (w : World) (hl : l.length ≤ 1000) (hr : Rd w a (stv l)) :
    Calls Try.prog 59 #[.slice a l.length c, .int .i64 v] w fun e w' => (∃ r : Int, e = .returned (.int .i64 r) ∧ IdxOk r v l) ∧ w = w' := by
  have HR := Lib.hid hr
  clear hr
  go_enter Try.func59, Try.ntmps59
  go_wp2
  go_loop [5, 8] (fun _ i => ∃ k : Nat, k ≤ l.length ∧ i = .int .i64 k ∧ Hid (∀ j (h : j < l.length), j < k → l[j] ≠ v)) (fun _ i => l.length - (intOf i).toNat)
  case atStart => exact ⟨0, by omega, rfl, Lib.hid (fun j _ h => by omega)⟩
  case round =>
    obtain ⟨k, hk, rfl, HN⟩ := hrel
    by_cases hlt : k < l.length
    · obtain ⟨b, off, rfl, hbl, hcell⟩ := HR.out.at (stv_get hlt)
      obtain ⟨x, hx⟩ : ∃ x, x = l[k] := ⟨_, rfl⟩
      rw [← hx] at hcell
      have HX := Lib.hid hx
      clear hx
      by_cases he : v = x
      · have hb : (v == x) = true := by rw [beq_iff_eq]; exact he
        have HE := Lib.hid he
        clear he
        go_wp2
        go_ret
        refine ⟨⟨(k : Int), rfl, ?_⟩, rfl⟩
        have hm : l.contains v = true := by rw [List.contains_iff_mem, HE.out, HX.out]; exact List.getElem_mem hlt
        show decide (0 ≤ (k : Int)) = l.contains v
        rw [hm]
        simp
      · have hb : (v == x) = false := by rw [beq_eq_false_iff_ne]; exact he
        have HE := Lib.hid he
        clear he
        go_wp2
        go_round
        case rel => exact ⟨k + 1, by omega, by go_num, Lib.hid (fun j h hj => by
          by_cases e : j = k
          · subst e; rw [← HX.out]; exact fun h => HE.out h.symm
          · exact HN.out j h (by omega))⟩
        case measure => simp [intOf]; omega
    · go_wp2
      go_ret
      refine ⟨⟨-1, rfl, ?_⟩, rfl⟩
      have hm : l.contains v = false := by
        rw [Bool.eq_false_iff]
        intro hc
        rw [List.contains_iff_mem] at hc
        obtain ⟨j, hj, he⟩ := List.getElem_of_mem hc
        exact HN.out j hj (by omega) he
      show decide (0 ≤ (-1 : Int)) = l.contains v
      rw [hm]
      rfl
theorem contains_any (a : Option Addr) (c : Nat) (l : List Int) (v : Int) (w : World) (hl : l.length ≤ 1000) (hr : Rd w a (stv l)) :
    Calls Try.prog 51 #[.slice a l.length c, .int .i64 v] w fun e w' => e = .returned (.bool (l.contains v)) ∧ w = w' := by
  have HR := Lib.hid hr
  clear hr
  go_enter Try.func51, Try.ntmps51
  go_wp2_with fail
  refine (index_any a c l v w hl HR.out).mono ?_
  rintro e w' ⟨⟨r, rfl, hc⟩, rfl⟩
  have HC := Lib.hid hc
  clear hc
  go_wp2
  go_ret
  exact ⟨by rw [← show decide (0 ≤ r) = l.contains v from HC.out]; rfl, rfl⟩
/-- Which connection is meant, or why none. -/
def getE (id : Int) (sts : List Int) (es : List CE) : Option CE × Int :=
  match cfind id es with
  | none => (none, 8)
  | some e => if sts = [] then (some e, 0) else if sts.contains e.st then (some e, 0) else (none, 7)
def ptrE (x : Option CE) : Value := .pointer (x.map fun e => ⟨e.c, 0, none⟩)
section
variable {w : World} {B n M : Nat} {most dialed : Int} {es : List CE}
theorem NetAt.c0 (h : NetAt w B n M most dialed es) : w.cell? ⟨n, 0, none⟩ = some (.map (some M)) := by rw [cell_of_row _ _ _ _ _ _ h.1]; rfl
theorem NetAt.c1 (h : NetAt w B n M most dialed es) : w.cell? ⟨n, 1, none⟩ = some (.int .i64 most) := by rw [cell_of_row _ _ _ _ _ _ h.1]; rfl
theorem NetAt.c2 (h : NetAt w B n M most dialed es) : w.cell? ⟨n, 2, none⟩ = some (.int .i64 dialed) := by rw [cell_of_row _ _ _ _ _ _ h.1]; rfl
theorem zeroPtr (w : World) : (zeroValue 58).run Try.prog w = .ok (.pointer none) w := by kernel_rfl
set_option maxHeartbeats 1000000 in
theorem get_any (h : NetAt w B n M most dialed es) (id : Int) (a : Option Addr) (c : Nat) (sts : List Int) (hl : sts.length ≤ 1000) (hr : Rd w a (stv sts)) :
    Calls Try.prog 32 #[.pointer (some ⟨n, 0, none⟩), .int .i64 id, .slice a sts.length c] w fun e w' => e = .returned (.tuple #[ptrE (getE id sts es).1, .int .i64 (getE id sts es).2]) ∧ w = w' := by
  have HR := Lib.hid hr
  have HM := Lib.hid h.2.1
  have c0 := h.c0
  have hget := mget_ents id es
  cases hf : cfind id es with
  | none =>
    have hg : getE id sts es = (none, 8) := by simp [getE, hf]
    rw [hf] at hget
    have HG := Lib.hid hget
    rw [hg]
    clear hr h hf hget hg
    go_enter Try.func32, Try.ntmps32
    go_wp2_with (first
      | (at_lookup; refine step_lookup iKey rfl 48 _ _ true rfl Try.underlying48 rfl HM.out id rfl (.pointer none) (zeroPtr _) ?_; rw [HG.out])
      | fail)
    go_ret2
    exact ⟨rfl, rfl⟩
  | some e =>
    rw [hf] at hget
    obtain ⟨-, pre, post, hes⟩ := cfind_split hf
    have hcn : w.heap[e.c]? = some (.cells #[.string e.host, .int .i64 e.st, e.iv, e.ov] 60 (0, 0)) := (h.2.2.1 e (by rw [hes]; simp)).1
    have cc : w.cell? ⟨e.c, 1, none⟩ = some (.int .i64 e.st) := by rw [cell_of_row _ _ _ _ _ _ hcn]; rfl
    have HG := Lib.hid hget
    by_cases h0 : sts = []
    · have hg : getE id sts es = (some e, 0) := by simp [getE, hf, h0]
      rw [hg]
      subst h0
      clear hr h hf hget hg hes hcn
      go_enter Try.func32, Try.ntmps32
      go_wp2_with (first
        | (at_lookup; refine step_lookup iKey rfl 48 _ _ true rfl Try.underlying48 rfl HM.out id rfl (.pointer none) (zeroPtr _) ?_; rw [HG.out])
        | fail)
      go_ret2
      exact ⟨rfl, rfl⟩
    · have hp : 0 < sts.length := List.length_pos_iff.2 h0
      cases hc : sts.contains e.st with
      | true =>
        have hg : getE id sts es = (some e, 0) := by simp only [getE, hf, h0, hc, if_true, if_false]
        rw [hg]
        have hcon := contains_any a c sts e.st w hl hr
        rw [hc] at hcon
        have HC := Lib.hid hcon
        clear hr h hf hget hg hes hcn hc hcon h0
        go_enter Try.func32, Try.ntmps32
        go_wp2_with (first
          | (at_lookup; refine step_lookup iKey rfl 48 _ _ true rfl Try.underlying48 rfl HM.out id rfl (.pointer none) (zeroPtr _) ?_; rw [HG.out])
          | fail)
        refine HC.out.mono ?_
        rintro e' w' ⟨rfl, rfl⟩
        go_wp2
        go_ret2
        exact ⟨rfl, rfl⟩
      | false =>
        have hg : getE id sts es = (none, 7) := by simp only [getE, hf, h0, hc, if_false, Bool.false_eq_true]
        rw [hg]
        have hcon := contains_any a c sts e.st w hl hr
        rw [hc] at hcon
        have HC := Lib.hid hcon
        clear hr h hf hget hg hes hcn hc hcon h0
        go_enter Try.func32, Try.ntmps32
        go_wp2_with (first
          | (at_lookup; refine step_lookup iKey rfl 48 _ _ true rfl Try.underlying48 rfl HM.out id rfl (.pointer none) (zeroPtr _) ?_; rw [HG.out])
          | fail)
        refine HC.out.mono ?_
        rintro e' w' ⟨rfl, rfl⟩
        go_wp2
        go_ret2
        exact ⟨rfl, rfl⟩
end
end Go.Proofs.Ytepdnmpcccgcaaa
