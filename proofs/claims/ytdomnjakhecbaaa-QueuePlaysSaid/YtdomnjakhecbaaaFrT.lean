/- Bytes that a call owns, appended to: the laws that the walk over the reference's Encode leans on. -/
import Derived.Test.YtdomnjakhecbaaaFrS4
import Derived.Test.YtdomnjakhecbaaaFrK
import Derived.Test.YtdomnjakhecbaaaRPut
import Derived.Test.YtdomnjakhecbaaaApp5
namespace Go.Proofs.Ytdomnjakhecbaaa
open Go.RowKit K
/-- A row of bytes that was made behind w1. -/
def EncO (w1 : World) (l : List UInt8) (v : Value) (wr : World) : Prop :=
  wr.ownsRow w1.heap.size 5 1 v l.length (bv l) ∧ Below w1.heap.size w1 wr
theorem EncO.below {w1 w w' : World} {l : List UInt8} {v : Value} (h : EncO w1 l v w) (hb : Below w.heap.size w w') : EncO w1 l v w' := by
  refine ⟨?_, h.2.trans (hb.mono h.2.size)⟩
  obtain ⟨hl, h⟩ := h.1
  refine ⟨hl, ?_⟩
  rcases h with h | ⟨g, cap, cur, rfl, h1, h2, h3⟩
  · exact .inl h
  · exact .inr ⟨g, cap, cur, rfl, h1, (hb.block g (Array.getElem?_eq_some_iff.1 h2).1).trans h2, h3⟩
theorem EncO.alloc {w1 w : World} {l : List UInt8} {v : Value} (h : EncO w1 l v w) (o : Obj) : EncO w1 l v (w.alloc o) := h.below ((Below.refl _ _).alloc (Nat.le_refl _) o)
theorem EncO.drew {w1 w : World} {l : List UInt8} {v : Value} (h : EncO w1 l v w) : EncO w1 l v w.drew := h.below (Below.refl _ _).drew
/-- A record in a block of its own. -/
def RBox (w : World) (g : Nat) (nm : ByteArray) (wn inc rate : Int) (ov : Bool) : Prop :=
  w.heap[g]? = some (.cells #[.string nm, .int .i64 wn, .int .i64 inc, .int .i64 rate, .bool ov] 70 (0, 0))
section
variable {w w' : World} {g : Nat} {nm : ByteArray} {wn inc rate : Int} {ov : Bool}
theorem RBox.c0 (h : RBox w g nm wn inc rate ov) : w.cell? ⟨g, 0, none⟩ = some (.string nm) := by rw [cell_of_row _ _ _ _ _ _ h]; rfl
theorem RBox.c2 (h : RBox w g nm wn inc rate ov) : w.cell? ⟨g, 2, none⟩ = some (.int .i64 inc) := by rw [cell_of_row _ _ _ _ _ _ h]; rfl
theorem RBox.c3 (h : RBox w g nm wn inc rate ov) : w.cell? ⟨g, 3, none⟩ = some (.int .i64 rate) := by rw [cell_of_row _ _ _ _ _ _ h]; rfl
theorem RBox.c4 (h : RBox w g nm wn inc rate ov) : w.cell? ⟨g, 4, none⟩ = some (.bool ov) := by rw [cell_of_row _ _ _ _ _ _ h]; rfl
theorem RBox.keep (h : RBox w g nm wn inc rate ov) (hb : Below w.heap.size w w') : RBox w' g nm wn inc rate ov := below_keep hb h
end
theorem rput_own (n : Nat) (l' : List UInt8) (w : World) (hl' : l' = putU n) (hn : n < 18446744073709551616) :
    Calls Try.prog 57 #[.int .u64 n] w fun e w' => OwnB w w' l' e := by
  refine (rput_any n w hn).mono ?_
  rintro e w' ⟨v, rfl, ho, hb⟩
  rw [← hl'] at ho
  obtain ⟨a1, c1, rfl, h1, h2, h3, h4⟩ := own_slice ho
  exact ⟨a1, c1, rfl, h1, h2, h3, h4, ho, hb⟩
theorem putF_pos (k n : Nat) : 0 < (putF k n).length := by
  cases k <;> simp [putF] <;> split <;> simp
theorem putU_pos (n : Nat) : 0 < (putU n).length := putF_pos 9 n
theorem conv_tag2 (w : World) : Sem.run Try.prog (convert 34 34 (.slice (some ⟨w.heap.size, 0, none⟩) 4 4)) (w.alloc (.cells #[.int .u8 79, .int .u8 68, .int .u8 79, .int .u8 1] 5)) = .ok (.slice (some ⟨w.heap.size, 0, none⟩) 4 4) (w.alloc (.cells #[.int .u8 79, .int .u8 68, .int .u8 79, .int .u8 1] 5 (4, 5))) :=
  Lib.run_convert_bytes_const (P := Try.prog) w 34 5 #[.int .u8 79, .int .u8 68, .int .u8 79, .int .u8 1] 4 4 Try.underlying34 Try.underlying5
section
variable {ops : Array Oper} {o : Oper} {a : Act} {w : World} {E : Prop}
theorem enc_step {rest : List Oper} {Q : Exit → Act → World → Prop} (hgd : o.guard = none) (s x : Operand)
    (ho : o.op = .call { callee := .builtin .append, args := #[s, x], argTypes := #[34, 34] })
    (w1 : World) (l l' new : List UInt8) (v : Value) (hs : a.eval s = v) (he : EncO w1 l v w) (ad : Option Addr) (m c : Nat) (hx : a.eval x = .slice ad m c) (hm : m = new.length) (hr : Rd w ad (bv new)) (hl' : l' = l ++ new) (hlen : l'.length ≤ 140737488355328)
    (h : ∀ v' w', EncO w1 l' v' w' → wpList Try.prog ops Q rest (a.put o.dst v') w') : wpList Try.prog ops Q (o :: rest) a w := by
  obtain ⟨i0, hi0, hz0, hz1, hz2⟩ := info_parts info_byte
  subst hl' hm
  rw [List.length_append] at hlen
  refine step_append_row (P := Try.prog) w hgd s x 34 ho w1.heap.size 5 i0 (.int .u8 0) 1 Try.underlying34 hi0 hz0 hz1 hz2 rfl v l.length (bv l) hs he.1 ad new.length c (bv new) hx (bv_length new).symm hr (bv_one new) (by unfold maxLen; omega) (by omega) he.2.size ?_
  intro v' w' hown hg _ _
  refine h v' w' ⟨?_, he.2.trans ((Below.refl _ w).grown hg he.2.size (fun k hk => (he.1.lt k hk).1))⟩
  have e2 : bv (l ++ new) = bv l ++ bv new := by simp [bv]
  rw [List.length_append, e2]
  exact hown
variable {K : Act → World → Prop} {Q : Exit → Act → World → Prop}
theorem renc_append (hw : Region.wanted o (yielded ops a.tmps) = true) (s x : Operand)
    (ho : o.op = .call { callee := .builtin .append, args := #[s, x], argTypes := #[34, 34] })
    (w1 : World) (l l' new : List UInt8) (v : Value) (hs : a.eval s = v) (he : EncO w1 l v w) (ad : Option Addr) (m c : Nat) (hx : a.eval x = .slice ad m c) (hm : m = new.length) (hr : Rd w ad (bv new)) (hl' : l' = l ++ new) (hlen : l'.length ≤ 140737488355328)
    (g : Nat) (nm : ByteArray) (wn inc rate : Int) (ov : Bool) (hg : RBox w g nm wn inc rate ov)
    (h : ∀ v' w', EncO w1 l' v' w' → RBox w' g nm wn inc rate ov → K (a.put o.dst v') w') : if Region.wanted o (yielded ops a.tmps) = true then Oper.wp Try.prog o a w K Q else E := by
  obtain ⟨i0, hi0, hz0, hz1, hz2⟩ := info_parts info_byte
  subst hl' hm
  rw [List.length_append] at hlen
  refine rstep_append_keep (P := Try.prog) hw s x 34 ho w1.heap.size 5 i0 (.int .u8 0) 1 Try.underlying34 hi0 hz0 hz1 hz2 rfl v l.length (bv l) hs he.1 ad new.length c (bv new) hx (bv_length new).symm hr (bv_one new) (by unfold maxLen; omega) (by omega) he.2.size g _ _ _ hg (by decide) ?_
  intro v' w' hown hb hg'
  refine h v' w' ⟨?_, he.2.trans hb⟩ hg'
  have e2 : bv (l ++ new) = bv l ++ bv new := by simp [bv]
  rw [List.length_append, e2]
  exact hown
theorem renc_str (hw : Region.wanted o (yielded ops a.tmps) = true) (s x : Operand)
    (ho : o.op = .call { callee := .builtin .append, args := #[s, x], argTypes := #[34, 9] })
    (w1 : World) (l l' : List UInt8) (t : ByteArray) (v : Value) (hs : a.eval s = v) (he : EncO w1 l v w) (hx : a.eval x = .string t) (hl' : l' = l ++ t.data.toList) (hlen : l'.length ≤ 140737488355328)
    (g : Nat) (nm : ByteArray) (wn inc rate : Int) (ov : Bool) (hg : RBox w g nm wn inc rate ov)
    (h : ∀ v' w', EncO w1 l' v' w' → RBox w' g nm wn inc rate ov → K (a.put o.dst v') w') : if Region.wanted o (yielded ops a.tmps) = true then Oper.wp Try.prog o a w K Q else E := by
  obtain ⟨i0, hi0, hz0, hz1, hz2⟩ := info_parts info_byte
  subst hl'
  have ht : t.data.toList.length = t.size := rfl
  rw [List.length_append, ht] at hlen
  refine rstep_append_str_keep (P := Try.prog) hw s x 34 9 ho w1.heap.size 5 i0 Try.underlying34 Try.underlying9 hi0 hz0 hz1 hz2 v l.length (bv l) hs he.1 t hx (by unfold maxLen; omega) (by omega) he.2.size g _ _ _ hg (by decide) ?_
  intro v' w' hown hb hg'
  refine h v' w' ⟨?_, he.2.trans hb⟩ hg'
  have e2 : bv (l ++ t.data.toList) = bv l ++ bv t.data.toList := by simp [bv]
  rw [List.length_append, ht, e2]
  exact hown
end
end Go.Proofs.Ytdomnjakhecbaaa
