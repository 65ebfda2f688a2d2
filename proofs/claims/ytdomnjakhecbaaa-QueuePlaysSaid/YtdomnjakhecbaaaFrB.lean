/- Records and frames as plain data. -/
import Derived.Test.YtdomnjakhecbaaaSm
import Derived.Test.YtdomnjakhecbaaaReg
import Derived.Test.YtdomnjakhecbaaaApp3
import Derived.Test.YtdomnjakhecbaaaMap
import Derived.BigQuiet
import Derived.Handy
import Derived.WalkSmall
namespace Go.Proofs.Ytdomnjakhecbaaa
open Go.RowKit K
structure Rec where
  name : ByteArray
  win : Int
  inc : Int
  rate : Int
  over : Bool
def Rec.cells (r : Rec) : Array Value := #[.string r.name, .int .i64 r.win, .int .i64 r.inc, .int .i64 r.rate, .bool r.over]
def recEq (x y : Rec) : Bool := decide (x.name.toList = y.name.toList) && (x.win == y.win && (x.inc == y.inc && (x.rate == y.rate && x.over == y.over)))
def recsEq : List Rec → List Rec → Bool
  | [], [] => true
  | x :: xs, y :: ys => recEq x y && recsEq xs ys
  | _, _ => false
/-- A frame: its number, its window, its records' slice. -/
def frv (q win : Int) (s : Value) : Value := .agg #[.int .u64 q, .int .i64 win, s]
def rcf (xs : List Rec) : List Value := xs.flatMap fun x => x.cells.toList
theorem rec_cells {w : World} {a : Option Addr} {xs : List Rec} (hr : Rd w a (rcf xs)) {k : Nat} (h : k < xs.length) : ∃ b off, a = some ⟨b, off, none⟩ ∧ b < w.heap.size ∧ ∀ j v, j < 5 → xs[k].cells.toList[j]? = some v → w.cell? ⟨b, off + k * 5 + j, none⟩ = some v := by
  have hg : ∀ j, j < 5 → (rcf xs)[5 * k + j]? = xs[k].cells.toList[j]? := fun j hj => flat_get _ 5 (fun _ => rfl) xs k j _ (by simp [h]) hj
  obtain ⟨b, off, rfl, hb, q0⟩ := hr.at (hg 0 (by omega))
  refine ⟨b, off, rfl, hb, fun j v hj hv => ?_⟩
  obtain ⟨b', off', he, hc⟩ := hr _ _ ((hg j hj).trans hv)
  cases he
  rw [← hc]
  congr 2
  omega
theorem recsEq_take : ∀ (xs ys : List Rec) (k : Nat) (h : k < xs.length) (h2 : k < ys.length), xs.length = ys.length → recsEq (xs.take k) (ys.take k) = true → recEq xs[k] ys[k] = false → recsEq xs ys = false
  | [], _, _, h, _, _, _, _ => by simp at h
  | _ :: _, [], _, _, h, _, _, _ => by simp at h
  | x :: xs, y :: ys, 0, _, _, _, _, h => by
    have h' : recEq x y = false := h
    simp [recsEq, h']
  | x :: xs, y :: ys, k + 1, h, h2, hl, ht, he => by
    simp only [List.take_succ_cons, recsEq, Bool.and_eq_true] at ht
    have := recsEq_take xs ys k (by simpa using h) (by simpa using h2) (by simpa using hl) ht.2 he
    simp [recsEq, this]
theorem recsEq_succ : ∀ (xs ys : List Rec) (k : Nat) (h : k < xs.length) (h2 : k < ys.length), recsEq (xs.take k) (ys.take k) = true → recEq xs[k] ys[k] = true → recsEq (xs.take (k + 1)) (ys.take (k + 1)) = true
  | [], _, _, h, _, _, _ => by simp at h
  | _ :: _, [], _, _, h, _, _ => by simp at h
  | x :: xs, y :: ys, 0, _, _, _, h => by
    have h' : recEq x y = true := h
    simp [recsEq, h']
  | x :: xs, y :: ys, k + 1, h, h2, ht, he => by
    simp only [List.take_succ_cons, recsEq, Bool.and_eq_true] at ht ⊢
    exact ⟨ht.1, recsEq_succ xs ys k (by simpa using h) (by simpa using h2) ht.2 he⟩
theorem recsEq_len : ∀ (xs ys : List Rec), xs.length ≠ ys.length → recsEq xs ys = false
  | [], [], h => by simp at h
  | [], _ :: _, _ => rfl
  | _ :: _, [], _ => rfl
  | x :: xs, y :: ys, h => by
    simp [recsEq, recsEq_len xs ys (by simpa using h)]
def frEq (q win : Int) (xs : List Rec) (q2 win2 : Int) (ys : List Rec) : Bool := (q == q2) && ((win == win2) && recsEq xs ys)
def RecFit (x : Rec) : Prop := x.name.size ≤ 140737488355328 ∧ (-9223372036854775808 ≤ x.win ∧ x.win ≤ 9223372036854775807) ∧ (-9223372036854775808 ≤ x.inc ∧ x.inc ≤ 9223372036854775807) ∧ (-9223372036854775808 ≤ x.rate ∧ x.rate ≤ 9223372036854775807)
end Go.Proofs.Ytdomnjakhecbaaa
