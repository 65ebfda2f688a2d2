/- The walk over (*store.Store).one. -/
import Derived.Test.YthademifhnkbiaaSt
import Derived.BigQuiet
import Derived.Deep.QuietTactic
import Derived.RegionTactic
import Derived.BigRegion
import Derived.ChangeAlike
import Derived.Handy
import Derived.WalkSmall
namespace Go.Proofs.Ythademifhnkbiaa
open Go.RowKit K
section
variable {w : World} {B s : Nat} {most : Int} {l : List SV} {F : List Nat}
/-- The world behind the boxes of the parameter and of the result. -/
def oneW (w : World) (x : Smp) : World := (w.alloc (.cells x.cells 31)).alloc (.cells #[.string ⟨#[]⟩, .int .i64 0, .int .i64 0, .bool false, .int .i64 0, .bool false, .int .i64 0] 68)
def OnePost (w : World) (B s : Nat) (F : List Nat) (most : Int) (r : Sn) (l' : List SV) (e : Ending) (w' : World) : Prop := e = .returned (.agg r.cells) ∧ StTo w B s F most l' w'
theorem lk (w : World) {m : Nat} {kvs : List (ByteArray × Value)} (h : MapAt sEnc w m kvs) (x : ByteArray) : ∀ k, Sem.run Try.prog (Instr.lookup 78 (.map (some m)) (.string x) true) (w.drewN k) = .ok (.tuple #[(mget x kvs).getD (.pointer none), .bool (mget x kvs).isSome]) (w.drewN k) := fun k =>
  run_lookup sKey (h.drewN k) Try.underlying78 (.pointer none) (by kernel_rfl) x true
theorem StTo.same (h : StIs w B s most l F) {w' : World} (hb : Below w.heap.size w w') : StTo w B s F most l w' := by
  obtain ⟨M, es, h1, h2, h3⟩ := h
  exact ⟨F, ⟨M, es, h1.below hb (Nat.le_refl _), h2, h3⟩, Only.of_new hb, fun k hk => .inl hk⟩
theorem efind_none {n : ByteArray} {es : List SE} (hf : sfind n (es.map (·.1)) = none) : mget n (sents es) = none := by
  rw [sfind_map] at hf
  rw [mget_sents]
  cases hc : efind n es with
  | none => rfl
  | some e => rw [hc] at hf; cases hf
theorem efind_some {n : ByteArray} {es : List SE} {u : SV} (hf : sfind n (es.map (·.1)) = some u) : ∃ c, efind n es = some (u, c) ∧ mget n (sents es) = some (.pointer (some ⟨c, 0, none⟩)) := by
  rw [sfind_map] at hf
  cases hc : efind n es with
  | none => rw [hc] at hf; cases hf
  | some e =>
    rw [hc] at hf
    obtain ⟨v, c⟩ := e
    simp only [Option.map_some, Option.some.injEq] at hf
    subst hf
    exact ⟨c, rfl, by rw [mget_sents, hc]; rfl⟩
set_option maxHeartbeats 1000000 in
theorem one_full (h : StIs w B s most l F) (owner : Int) (x : Smp) (hf : sfind x.name l = none) (hfull : most ≤ (l.length : Int)) :
    Calls Try.prog 35 #[.pointer (some ⟨s, 0, none⟩), .int .i64 owner, .agg x.cells] w (OnePost w B s F most ⟨x, 4, false, 0⟩ l) := by
  have HT := Lib.hid (fun w' => StTo.same h (w' := w'))
  obtain ⟨M, es, h1, rfl, rfl⟩ := h
  obtain ⟨n, v, t, c⟩ := x
  have hw : StAt (oneW w ⟨n, v, t, c⟩) B s M most es := h1.below (D := w.heap.size) (((Below.refl _ _).alloc (Nat.le_refl _) _).alloc (by simp) _) (Nat.le_refl _)
  unfold oneW at hw
  simp only [Smp.cells] at hw ⊢
  have hl := lk _ hw.2.1 n
  rw [efind_none hf] at hl
  have hlen := fun k => K.run_len_map (P := Try.prog) (hw.2.1.drewN k) Try.underlying78 3
  have c0 := hw.c0
  have c1 := hw.c1
  simp only [List.length_map] at hfull
  have hs : (sents es).length = es.length := by simp [sents]
  rw [← hs] at hfull
  generalize (sents es).length = ln at hlen hfull
  clear h1 hw hf hs
  go_enter Try.func35, Try.ntmps35
  go_wp2
  go_quiet (fail)
  go_wp2
  go_quiet (fail)
  go_wp2
  clear hl hlen c0 c1
  go_returns
  refine ⟨rfl, HT.out _ ?_⟩
  repeat' (first | (with_reducible refine below_drewN ?_ _) | go_grown)
set_option maxHeartbeats 1000000 in
theorem one_order (h : StIs w B s most l F) (owner : Int) (x : Smp) (u : SV) (hf : sfind x.name l = some u) (hlt : x.time < u.x.time) :
    Calls Try.prog 35 #[.pointer (some ⟨s, 0, none⟩), .int .i64 owner, .agg x.cells] w (OnePost w B s F most ⟨x, 2, false, 0⟩ l) := by
  have HT := Lib.hid (fun w' => StTo.same h (w' := w'))
  obtain ⟨M, es, h1, rfl, rfl⟩ := h
  obtain ⟨n, v, t, c⟩ := x
  obtain ⟨⟨n', v', t', c'⟩, live, ow⟩ := u
  have hw : StAt (oneW w ⟨n, v, t, c⟩) B s M most es := h1.below (D := w.heap.size) (((Below.refl _ _).alloc (Nat.le_refl _) _).alloc (by simp) _) (Nat.le_refl _)
  obtain ⟨b, hf1, hf2⟩ := efind_some hf
  obtain ⟨pre, post, he, _, _⟩ := efind_split hf1
  have hc := hw.2.2.1 (⟨⟨n', v', t', c'⟩, live, ow⟩, b) (by simp [he])
  have c2 : (oneW w ⟨n, v, t, c⟩).cell? ⟨b, 2, none⟩ = some (.int .i64 t') := by rw [cell_of_row _ _ _ _ _ _ hc]; rfl
  unfold oneW at hw c2
  simp only [Smp.cells] at hw c2 hlt ⊢
  have hl := lk _ hw.2.1 n
  rw [hf2] at hl
  have c1 := hw.c1
  clear h1 hw hf hf1 hf2 hc he
  go_enter Try.func35, Try.ntmps35
  go_wp2
  go_quiet (fail)
  go_wp2
  go_quiet (fail)
  go_wp2
  go_quiet (fail)
  go_wp2
  clear hl c1 c2
  go_returns
  refine ⟨rfl, HT.out _ ?_⟩
  repeat' (first | (with_reducible refine below_drewN ?_ _) | go_grown)
set_option maxHeartbeats 1000000 in
theorem one_twice (h : StIs w B s most l F) (owner : Int) (x : Smp) (u : SV) (hf : sfind x.name l = some u) (hlt : x.time = u.x.time) :
    Calls Try.prog 35 #[.pointer (some ⟨s, 0, none⟩), .int .i64 owner, .agg x.cells] w (OnePost w B s F most ⟨x, 3, false, 0⟩ l) := by
  have HT := Lib.hid (fun w' => StTo.same h (w' := w'))
  obtain ⟨M, es, h1, rfl, rfl⟩ := h
  obtain ⟨n, v, t, c⟩ := x
  obtain ⟨⟨n', v', t', c'⟩, live, ow⟩ := u
  have hw : StAt (oneW w ⟨n, v, t, c⟩) B s M most es := h1.below (D := w.heap.size) (((Below.refl _ _).alloc (Nat.le_refl _) _).alloc (by simp) _) (Nat.le_refl _)
  obtain ⟨b, hf1, hf2⟩ := efind_some hf
  obtain ⟨pre, post, he, _, _⟩ := efind_split hf1
  have hc := hw.2.2.1 (⟨⟨n', v', t', c'⟩, live, ow⟩, b) (by simp [he])
  have c2 : (oneW w ⟨n, v, t, c⟩).cell? ⟨b, 2, none⟩ = some (.int .i64 t') := by rw [cell_of_row _ _ _ _ _ _ hc]; rfl
  unfold oneW at hw c2
  simp only [Smp.cells] at hw c2 hlt ⊢
  subst hlt
  have hl := lk _ hw.2.1 n
  rw [hf2] at hl
  have c1 := hw.c1
  clear h1 hw hf hf1 hf2 hc he
  go_enter Try.func35, Try.ntmps35
  go_wp2
  go_quiet (fail)
  go_wp2
  go_quiet (fail)
  go_wp2
  go_quiet (fail)
  go_wp2
  go_quiet (fail)
  go_wp2
  clear hl c1 c2
  go_returns
  refine ⟨rfl, HT.out _ ?_⟩
  repeat' (first | (with_reducible refine below_drewN ?_ _) | go_grown)
end
end Go.Proofs.Ythademifhnkbiaa
