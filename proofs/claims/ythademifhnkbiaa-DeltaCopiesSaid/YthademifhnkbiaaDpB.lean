/- The reference's store in memory; the walks over New and Of. -/
import Derived.Test.YthademifhnkbiaaDpA
import Derived.Deep.RegionHeld3
import Derived.Deep.QuietTactic
import Derived.BigQuiet
namespace Go.Proofs.Ythademifhnkbiaa
open Go.RowKit K
/-- A series of the reference's: its name, its last sample. -/
def onc (v : SV) : List Value := [.string v.x.name, .string v.x.name, .int .i64 v.x.val, .int .i64 v.x.time, .bool v.x.counts, .bool v.live, .int .i64 v.owner]
def onf (L : List SV) : List Value := L.flatMap onc
theorem onf_length (L : List SV) : (onf L).length = 7 * L.length := flat_length _ 7 (fun _ => rfl) L
theorem onf_get {L : List SV} {i j : Nat} (h : i < L.length) (hj : j < 7) : (onf L)[7 * i + j]? = (onc L[i])[j]? := flat_get _ 7 (fun _ => rfl) L i j _ (by simp [h]) hj
theorem onf_app (A B : List SV) : onf (A ++ B) = onf A ++ onf B := by simp [onf]
theorem onf_one (L : List SV) : ∀ u ∈ onf L, u.oneCell' = true := by
  intro u hu
  unfold onf at hu
  obtain ⟨v, _, hv⟩ := List.mem_flatMap.1 hu
  simp only [onc, List.mem_cons, List.not_mem_nil, or_false] at hv
  rcases hv with rfl | rfl | rfl | rfl | rfl | rfl | rfl <;> rfl
theorem info_on : (Try.prog.info? 95).map (fun i => (i.zero, i.size, i.bytes)) = some (some (.agg #[.string ⟨#[]⟩, .string ⟨#[]⟩, .int .i64 0, .int .i64 0, .bool false, .bool false, .int .i64 0]), 7, 72) := by kernel_rfl
theorem on_cells {w : World} {a : Option Addr} {L : List SV} (hr : Rd w a (onf L)) {k : Nat} (h : k < L.length) : ∃ b off, a = some ⟨b, off, none⟩ ∧ b < w.heap.size ∧ ∀ j v, j < 7 → (onc L[k])[j]? = some v → w.cell? ⟨b, off + k * 7 + j, none⟩ = some v := by
  obtain ⟨b, off, rfl, hb, q0⟩ := hr.at (onf_get (j := 0) h (by omega))
  refine ⟨b, off, rfl, hb, fun j v hj hv => ?_⟩
  obtain ⟨b', off', he, hc⟩ := hr _ _ ((onf_get h hj).trans hv)
  cases he
  rw [← hc]
  congr 2
  omega
/-- The reference's store at r. -/
def RsIs (w : World) (B r : Nat) (most : Int) (L : List SV) (G : Nat → Prop) : Prop :=
  ∃ v, w.heap[r]? = some (.cells #[v, .int .i64 most] 54 (0, 0)) ∧ w.ownsRow B 95 7 v L.length (onf L) ∧ (∀ b, v.ownBlock = some b → G b ∧ b ≠ r) ∧ G r ∧ ∀ k, G k → B ≤ k ∧ k < w.heap.size
def RsTo (w : World) (B r : Nat) (most : Int) (L : List SV) (G : Nat → Prop) (w' : World) : Prop := ∃ G', RsIs w' B r most L G' ∧ Only G w w' ∧ ∀ k, G' k → G k ∨ w.heap.size ≤ k
section
variable {w w' : World} {B r : Nat} {most : Int} {L : List SV} {G F : Nat → Prop}
theorem RsIs.only (h : RsIs w B r most L G) (ho : Only F w w') (hd : ∀ k, G k → ¬ F k) : RsIs w' B r most L G := by
  obtain ⟨v, h1, h2, h3, h4, h5⟩ := h
  exact ⟨v, ho.heap h1 (hd r h4), ho.own h2 (fun k hk => hd k (h3 k hk).1), h3, h4, fun k hk => ⟨(h5 k hk).1, Nat.lt_of_lt_of_le (h5 k hk).2 ho.size⟩⟩
theorem RsIs.lt (h : RsIs w B r most L G) : ∀ k, G k → k < w.heap.size := by
  obtain ⟨v, h1, h2, h3, h4, h5⟩ := h
  exact fun k hk => (h5 k hk).2
theorem RsIs.ge (h : RsIs w B r most L G) : ∀ k, G k → B ≤ k := by
  obtain ⟨v, h1, h2, h3, h4, h5⟩ := h
  exact fun k hk => (h5 k hk).1
theorem RsIs.mem (h : RsIs w B r most L G) : G r := by
  obtain ⟨v, h1, h2, h3, h4, h5⟩ := h
  exact h4
theorem RsIs.new (h : RsIs w B r most L G) (hb : Below w.heap.size w w') : RsIs w' B r most L G :=
  h.only (F := fun k => w.heap.size ≤ k) (Only.of_below hb (fun _ _ h => h)) (fun k hk hle => by have := h.lt k hk; omega)
theorem RsTo.same (h : RsIs w B r most L G) (hb : Below w.heap.size w w') : RsTo w B r most L G w' :=
  ⟨G, h.new hb, Only.of_new hb, fun _ hk => .inl hk⟩
/-- Its row as a slice. -/
theorem RsIs.shape (h : RsIs w B r most L G) : ∃ a c, w.heap[r]? = some (.cells #[.slice a L.length c, .int .i64 most] 54 (0, 0)) ∧ L.length ≤ c ∧ Rd w a (onf L) ∧ ∀ ad, a = some ad → G ad.block ∧ ad.block ≠ r := by
  obtain ⟨v, h1, h2, h3, h4, h5⟩ := h
  obtain ⟨a, c, rfl, hc, hr, hb⟩ := own_cells h2
  exact ⟨a, c, h1, hc, hr, fun ad e => h3 _ (hb ad e)⟩
end
theorem sfind_no {x : ByteArray} : ∀ {L : List SV}, (∀ u ∈ L, u.x.name ≠ x) → sfind x L = none
  | [], _ => rfl
  | v :: r, h => by
    have hv := h v (by simp)
    have := sfind_no (x := x) (L := r) (fun u hu => h u (by simp [hu]))
    unfold sfind at this ⊢
    rw [List.find?_cons, decide_eq_false (fun e => hv e.symm)]
    exact this
theorem sfind_at {x : ByteArray} {v : SV} {post : List SV} (hv : v.x.name = x) : ∀ {pre : List SV}, (∀ u ∈ pre, u.x.name ≠ x) → sfind x (pre ++ v :: post) = some v ∧ ∀ v', sset x v' (pre ++ v :: post) = pre ++ v' :: post
  | [], _ => ⟨by simp [sfind, hv], fun v' => by simp [sset, hv]⟩
  | u :: pre, h => by
    have hu := h u (by simp)
    obtain ⟨h1, h2⟩ := sfind_at (v := v) (post := post) hv (pre := pre) (fun z hz => h z (by simp [hz]))
    have hne : ¬ x = u.x.name := fun e => hu e.symm
    refine ⟨?_, fun v' => ?_⟩
    · unfold sfind at h1 ⊢
      rw [List.cons_append, List.find?_cons, decide_eq_false hne]
      exact h1
    · rw [List.cons_append]
      simp only [sset, hne, if_false, h2, List.cons_append]
theorem tl_ne {y x : ByteArray} (h : y ≠ x) : (y.toList == x.toList) = false := by
  rw [beq_eq_false_iff_ne, ByteArray.toList_eq, ByteArray.toList_eq]
  intro e
  exact h (ByteArray.ext (Array.toList_inj.1 e))
/-- Where a series lies. -/
def OfP (x : ByteArray) (L : List SV) (i : Int) : Prop :=
  (i = -1 ∧ sfind x L = none) ∨ ∃ pre v post, L = pre ++ v :: post ∧ i = pre.length ∧ v.x.name = x ∧ sfind x L = some v ∧ ∀ v', sset x v' L = pre ++ v' :: post
theorem ofP_at {x : ByteArray} {L : List SV} {k : Nat} (hk : k < L.length) (hn : ∀ u ∈ L.take k, u.x.name ≠ x) (he : L[k].x.name = x) : OfP x L k := by
  have e : L = L.take k ++ L[k] :: L.drop (k + 1) := by rw [List.getElem_cons_drop, List.take_append_drop]
  obtain ⟨h1, h2⟩ := sfind_at (post := L.drop (k + 1)) he hn
  rw [← e] at h1 h2
  exact .inr ⟨L.take k, L[k], L.drop (k + 1), e, by simp; omega, he, h1, h2⟩
theorem take_no {x : ByteArray} {L : List SV} {k : Nat} (hk : k < L.length) (hn : ∀ u ∈ L.take k, u.x.name ≠ x) (he : L[k].x.name ≠ x) : ∀ u ∈ L.take (k + 1), u.x.name ≠ x := by
  intro u hu
  rw [List.take_succ_eq_append_getElem hk] at hu
  rcases List.mem_append.1 hu with hu | hu
  · exact hn u hu
  · simp at hu
    rw [hu]
    exact he
section
variable {w : World} {B r : Nat} {most : Int} {L : List SV} {G : Nat → Prop}
set_option maxHeartbeats 1000000 in
theorem rof_any (h : RsIs w B r most L G) (x : ByteArray) (hl : L.length ≤ 1000000) :
    Calls Try.prog 40 #[.pointer (some ⟨r, 0, none⟩), .string x] w fun e w' => ∃ i : Int, e = .returned (.int .i64 i) ∧ OfP x L i ∧ w = w' := by
  obtain ⟨a, c, hb, hc, hr, -⟩ := h.shape
  have c0 : w.cell? ⟨r, 0, none⟩ = some (.slice a L.length c) := by rw [cell_of_row _ _ _ _ _ _ hb]; rfl
  have HR := Lib.hid hr
  clear h hb hr
  go_enter Try.func40, Try.ntmps40
  go_wp2
  go_loop [5] (fun i => ∃ k : Nat, k ≤ L.length ∧ i = .int .i64 k ∧ ∀ u ∈ L.take k, u.x.name ≠ x) (fun i => L.length - (intOf i).toNat)
  case atStart => exact ⟨0, by omega, rfl, by simp⟩
  case round =>
    obtain ⟨k, hk, rfl, hn⟩ := hrel
    have HN := Lib.hid hn
    clear hn
    by_cases hlt : k < L.length
    · obtain ⟨b, off, rfl, hbl, hq⟩ := on_cells HR.out hlt
      have q0 := hq 0 _ (by omega) rfl
      simp only [Nat.add_zero] at q0
      by_cases he : L[k].x.name = x
      · have HP := Lib.hid (ofP_at hlt HN.out he)
        rw [he] at q0
        clear hq he
        go_wp2
        go_ret
        exact ⟨k, rfl, HP.out, rfl⟩
      · have HP := Lib.hid (take_no hlt HN.out he)
        generalize L[k].x.name = y at q0 he
        have hne := tl_ne he
        clear hq
        go_wp2
        go_round
        case rel => exact ⟨k + 1, by omega, by go_num, HP.out⟩
        case measure => simp [intOf]; omega
    · obtain rfl : k = L.length := by omega
      have HP := Lib.hid (show OfP x L (-1) from .inl ⟨rfl, sfind_no (by have := HN.out; rw [List.take_length] at this; exact this)⟩)
      go_wp2
      go_ret
      exact ⟨-1, rfl, HP.out, rfl⟩
end
def RNew (w : World) (B : Nat) (m : Int) (e : Ending) (w' : World) : Prop := ∃ r G, e = .returned (.pointer (some ⟨r, 0, none⟩)) ∧ RsIs w' B r (max m 0) [] G ∧ Below w.heap.size w w' ∧ ∀ k, G k → w.heap.size ≤ k
set_option maxHeartbeats 1000000 in
theorem rsnew_any (w : World) (B : Nat) (hB : B ≤ w.heap.size) (m : Int) :
    Calls Try.prog 27 #[.int .i64 m] w (RNew w B m) := by
  obtain ⟨mx, hmx⟩ : ∃ mx, max m 0 = mx := ⟨_, rfl⟩
  have HM := Lib.hid hmx
  clear hmx
  have HN := Lib.hid (show RsIs (w.alloc (.cells #[.slice none 0 0, .int .i64 mx] 54)) B w.heap.size mx [] (· = w.heap.size) from ⟨_, heap_alloc_new w _, World.ownsRow_nil _ _ _ _, (fun b hb => by simp [Value.ownBlock] at hb), rfl, fun k hk => by rw [hk]; simp; omega⟩)
  go_enter Try.func27, Try.ntmps27
  go_wp2_with (first | (with_reducible refine step_max rfl _ _ _ rfl m 0 rfl rfl mx HM.out ?_) | fail)
  go_ret
  exact ⟨w.heap.size, _, rfl, by rw [HM.out]; exact HN.out, (Below.refl _ _).alloc (Nat.le_refl _) _, fun k hk => by rw [hk]; exact Nat.le_refl _⟩
end Go.Proofs.Ythademifhnkbiaa
