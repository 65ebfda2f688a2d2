/- The walk over a frame's reader: (*reader).frame where nothing is wrong. -/
import Derived.Test.YtajddpdlhahcdaaDoorRds
import Derived.Test.YtajddpdlhahcdaaDoorApp3
import Derived.Test.YtajddpdlhahcdaaDoorApp4
import Derived.Deep.RegionHeld3
import Derived.Deep.DeepCutAuto
namespace Go.Proofs.YtajddpdlhahcdaaDoor
open Go.RowKit K
def rec5 (nm : ByteArray) (wn inc rate : Int) (ov : Bool) : Array Value := #[.string nm, .int .i64 wn, .int .i64 inc, .int .i64 rate, .bool ov]
def zrec : Array Value := rec5 ⟨#[]⟩ 0 0 0 false
theorem rec5_one (nm : ByteArray) (wn inc rate : Int) (ov : Bool) : ∀ v ∈ (rec5 nm wn inc rate ov).toList, v.oneCell' = true := by
  intro v hv
  simp only [rec5, List.mem_cons, List.not_mem_nil, or_false] at hv
  rcases hv with rfl | rfl | rfl | rfl | rfl <;> rfl
theorem own_slice5 {w : World} {B e n : Nat} {v : Value} {xs : List Value} (h : w.ownsRow B e 5 v n xs) : ∃ a c, v = .slice a n c ∧ Rd w a xs := by
  rcases h.2 with ⟨rfl, rfl⟩ | ⟨g, cap, cur, rfl, _, hg, hn, hm, _⟩
  · refine ⟨none, 0, rfl, fun k v hv => ?_⟩
    have : xs = [] := List.eq_nil_of_length_eq_zero (by simpa using h.1)
    subst this
    simp at hv
  · refine ⟨_, cap, rfl, fun k v hv => ⟨g, 0, rfl, ?_⟩⟩
    have := h.cells (g := g) rfl k v hv
    simpa [Addr.add_lit] using this
theorem rec_parts : ∃ i, Tryd.prog.info? 40 = some i ∧ i.zero = some (.agg zrec) ∧ i.size = 5 ∧ i.bytes = 48 := by
  have hs : (Tryd.prog.info? 40).map (·.size) = some 5 := by kernel_rfl
  have hb : (Tryd.prog.info? 40).map (·.bytes) = some 48 := by kernel_rfl
  have hz : (Tryd.prog.info? 40).bind (·.zero) = some (.agg zrec) := by kernel_rfl
  cases h : Tryd.prog.info? 40 with
  | none => rw [h] at hs; cases hs
  | some i =>
    rw [h] at hs hb hz
    exact ⟨i, rfl, by simpa using hz, by simpa using hs, by simpa using hb⟩
theorem rcf_take (xs : List Rec) (k : Nat) (h : k < xs.length) : rcf (xs.take (k + 1)) = rcf (xs.take k) ++ xs[k].cells.toList := by
  unfold rcf
  rw [List.take_succ_eq_append_getElem h, List.flatMap_append]
  simp only [List.flatMap_cons, List.flatMap_nil, List.append_nil]
theorem rest_succ (xs : List Rec) (k : Nat) (h : k < xs.length) : (xs.drop k).flatMap recB = recB xs[k] ++ (xs.drop (k + 1)).flatMap recB := by
  rw [List.drop_eq_getElem_cons h, List.flatMap_cons]
theorem only_row (w : World) (g : Nat) (cs : Array Value) : Only (· = g) w (w.setRow g cs) :=
  ⟨rfl, rfl, rfl, by simp, fun k _ hn => setRow_other w g k cs hn⟩
theorem only_rows {F : Nat → Prop} {w w1 : World} {g : Nat} {cs : Array Value} (h : Only F w w1) (hg : w.heap.size ≤ g) : Only F w (w1.setRow g cs) :=
  h.trans (only_row w1 g cs) (fun k hk e => by omega)
theorem Only.drew' {F : Nat → Prop} {w w1 : World} (h : Only F w.drew w1) : Only F w w1 := ⟨h.os, h.tape, h.output, h.size, h.block⟩
theorem blk_alloc {w : World} {g : Nat} {o p : Obj} (h : w.heap[g]? = some o) : (w.alloc p).heap[g]? = some o := (Below.heap_alloc _ _ _ (Array.getElem?_eq_some_iff.1 h).1).trans h
theorem blk_row {w : World} {g X : Nat} {o : Obj} {cs : Array Value} (h : w.heap[g]? = some o) (hn : g ≠ X) : (w.setRow X cs).heap[g]? = some o := (setRow_other w X g cs hn).trans h
/-- A frame in a block of its own. -/
def FBox (w : World) (g : Nat) (q win : Int) (v : Value) : Prop := w.heap[g]? = some (.cells #[.int .u64 q, .int .i64 win, v] 25 (0, 0))
section
variable {w : World} {g : Nat} {q win : Int} {v : Value}
theorem FBox.c0 (h : FBox w g q win v) : w.cell? ⟨g, 0, none⟩ = some (.int .u64 q) := by rw [cell_of_row _ _ _ _ _ _ h]; rfl
theorem FBox.c1 (h : FBox w g q win v) : w.cell? ⟨g, 1, none⟩ = some (.int .i64 win) := by rw [cell_of_row _ _ _ _ _ _ h]; rfl
theorem FBox.c2 (h : FBox w g q win v) : w.cell? ⟨g, 2, none⟩ = some v := by rw [cell_of_row _ _ _ _ _ _ h]; rfl
end
namespace K
section
variable {P : Program} {ops : Array Oper} {o : Oper} {a : Act} {w : World} {K : Act → World → Prop} {Q : Exit → Act → World → Prop} {E : Prop}
theorem rstep_store_row (hw : Region.wanted o (yielded ops a.tmps) = true) (ty : TypeId) (x y : Operand) (ho : o.op = .store ty x y) (g : Nat) (hx : a.eval x = .pointer (some ⟨g, 0, none⟩)) (cs : Array Value) (hy : a.eval y = .agg cs)
    (cur : Array Value) (t : TypeId) (hb : w.heap[g]? = some (.cells cur t (0, 0))) (hcs : cur.size = cs.size) (hi : (P.info? ty).map (·.size) = some cs.size) (h1 : ∀ v ∈ cs.toList, v.oneCell' = true)
    (h : K (a.put o.dst undef) (w.setRow g cs)) : if Region.wanted o (yielded ops a.tmps) = true then Oper.wp P o a w K Q else E := by
  rw [if_pos hw]
  have hst := run_storeCells_at P g 0 t cs.toList 0 cur w hb (by simp; omega) h1
  have e : (cur.toList.take (0 + 0) ++ cs.toList ++ cur.toList.drop (0 + 0 + cs.toList.length)).toArray = cs := by
    have hd : cur.toList.drop (0 + 0 + cs.toList.length) = [] := List.drop_eq_nil_of_le (by simp; omega)
    rw [hd]; simp
  rw [e] at hst
  unfold Oper.wp
  have hr : (execOp a.eval o).run P w = .ok .skip (w.setRow g cs) := by
    cases hq : P.info? ty with
    | none => simp [hq] at hi
    | some i =>
      have hs : i.size = cs.size := by simpa [hq] using hi
      unfold execOp
      simp only [ho, hx, hy, Instr.storeAt, Instr.sureAddr, storeVar, Sem.run_bind, Sem.run_pure, Result.andThen_ok, sizeOf, typeInfo, Value.cells]
      simp [hq, hs, hst]
  rw [hr]
  exact h
end
end K
theorem fr_one (q win : Int) (a : Option Addr) (n c : Nat) : ∀ v ∈ (#[.int .u64 q, .int .i64 win, .slice a n c] : Array Value).toList, v.oneCell' = true := by
  intro v hv
  simp only [List.mem_cons, List.not_mem_nil, or_false] at hv
  rcases hv with rfl | rfl | rfl <;> rfl
/-- What has been read of a frame's records. -/
def FrI (w : World) (R : Nat) (q win : Int) (xs : List Rec) (k : Nat) (wr : World) : Prop :=
  ∃ v, RdrB wr w.heap.size R ((xs.drop k).flatMap recB) ∧ FBox wr w.heap.size q win v ∧ wr.ownsRow (w.heap.size + 1) 40 5 v k (rcf (xs.take k)) ∧ Only (· = R) w wr
set_option maxHeartbeats 4000000 in
set_option maxRecDepth 100000 in
theorem frame_ok (w : World) (R : Nat) (q : Nat) (win : Int) (xs : List Rec) (hq : q < 18446744073709551616) (hw1 : -9223372036854775808 ≤ win) (hw2 : win ≤ 9223372036854775807) (hl : xs.length ≤ 4096) (hs : ∀ x ∈ xs, RecFit x) (hn : ∀ x ∈ xs, x.win = win ∧ x.name.size ≤ 65536 ∧ 0 ≤ x.inc ∧ 0 ≤ x.rate)
    (h : RdrB w w.heap.size R (putU q ++ (putU (zig win) ++ (putU xs.length ++ xs.flatMap recB)))) :
    Calls Tryd.prog 25 #[.pointer (some ⟨R, 0, none⟩)] w fun e w' => ∃ a c, e = .returned (frv q win (.slice a xs.length c)) ∧ Rd w' a (rcf xs) ∧ RdrB w' w.heap.size R [] ∧ Only (· = R) w w' ∧ (∀ ad, a = some ad → w.heap.size < ad.block) := by
  have hRw : R < w.heap.size := by obtain ⟨_, _, _, _, _, h⟩ := h; exact h
  have hn1 := fun W rest (h : RdrB W w.heap.size R (putU q ++ rest)) => number_ok W w.heap.size R q rest hq h
  have hn2 := fun W rest (h : RdrB W w.heap.size R (putU xs.length ++ rest)) => number_ok W w.heap.size R xs.length rest (by omega) h
  have hn3 := fun W rest (h : RdrB W w.heap.size R (putU (zig win) ++ rest)) => signed_ok W w.heap.size R win rest hw1 hw2 h
  have HN1 := Lib.hid hn1
  have HN2 := Lib.hid hn2
  have HN3 := Lib.hid hn3
  have HS := Lib.hid hs
  have HN := Lib.hid hn
  have hfr : FBox (w.alloc (.cells #[.int .u64 0, .int .i64 0, .slice none 0 0] 25)) w.heap.size 0 0 (.slice none 0 0) := heap_alloc_new w _
  have H := Lib.hid (h.only ((Only.refl (fun k => w.heap.size ≤ k) w).alloc (.cells #[.int .u64 0, .int .i64 0, .slice none 0 0] 25)) (fun k h => h))
  have HFR := Lib.hid hfr
  have HRW := Lib.hid hRw
  clear h hn1 hn2 hn3 hs hn hfr
  go_enter Tryd.func25, Tryd.ntmps25
  go_wp2_with fail
  refine (HN1.out _ _ H.out).mono ?_
  rintro e w1 ⟨rfl, hr1, ho1⟩
  go_wp2_with fail
  refine (HN3.out _ _ hr1).mono ?_
  rintro e w2 ⟨rfl, hr2, ho2⟩
  have ho12 : Only (· = R) w w2 := ((Only.refl (· = R) w).alloc _).trans (ho1.trans ho2 (fun _ _ h => h)) (fun _ _ h => h)
  have hf2 : FBox w2 w.heap.size 0 0 (.slice none 0 0) := (ho1.trans ho2 (fun _ _ h => h)).heap HFR.out (by omega)
  have HRL := Lib.hid hr2
  have HF2 := Lib.hid hf2
  have HO2 := Lib.hid ho12
  have cf0 := hf2.c0
  have cf1 := hf2.c1
  have ff0 : w2.frozen? ⟨w.heap.size, 0, none⟩ = false := frozen_of_row w2 _ 0 _ _ hf2
  have ff1 : w2.frozen? ⟨w.heap.size, 1, none⟩ = false := frozen_of_row w2 _ 1 _ _ hf2
  clear hr1 hr2 ho1 ho2 ho12 hf2 H HFR HN1 HN3
  go_wp2_with fail
  have ho3 : Only (fun k => w.heap.size ≤ k) w2 ((w2.setCell ⟨w.heap.size, 0, none⟩ (.int .u64 q)).setCell ⟨w.heap.size, 1, none⟩ (.int .i64 win)) := ((Only.refl (fun k => w.heap.size ≤ k) w2).setCell ⟨w.heap.size, 0, none⟩ (.int .u64 q) (fun _ => Nat.le_refl w.heap.size)).setCell ⟨w.heap.size, 1, none⟩ (.int .i64 win) (fun _ => Nat.le_refl w.heap.size)
  have hf3 : FBox ((w2.setCell ⟨w.heap.size, 0, none⟩ (.int .u64 q)).setCell ⟨w.heap.size, 1, none⟩ (.int .i64 win)) w.heap.size q win (.slice none 0 0) := by
    unfold FBox
    rw [heap_setCell_same _ _ _ _ _ _ (heap_setCell_same _ _ _ _ _ _ HF2.out)]
    rfl
  have hO3 : Only (· = R) w ((w2.setCell ⟨w.heap.size, 0, none⟩ (.int .u64 q)).setCell ⟨w.heap.size, 1, none⟩ (.int .i64 win)) := (HO2.out.setCell ⟨w.heap.size, 0, none⟩ (.int .u64 q) (fun h => absurd h (Nat.lt_irrefl w.heap.size))).setCell ⟨w.heap.size, 1, none⟩ (.int .i64 win) (fun h => absurd h (Nat.lt_irrefl w.heap.size))
  have hR3 := HRL.out.only ho3 (fun k h => h)
  refine (HN2.out _ _ hR3).mono ?_
  rintro e w4 ⟨rfl, hr4, ho4⟩
  have hf4 : FBox w4 w.heap.size q win (.slice none 0 0) := ho4.heap hf3 (by omega)
  have hI0 : FrI w R q win xs 0 w4 := ⟨.slice none 0 0, hr4, hf4, World.ownsRow_nil _ _ _ _, hO3.trans ho4 (fun _ _ h => h)⟩
  have HI0 := Lib.hid hI0
  clear ho3 hf3 hO3 hR3 hr4 ho4 hf4 hI0 HRL HF2 HO2 cf0 cf1 ff0 ff1 HN2
  go_wp2
  go_loopw [5] (fun i wr => ∃ k : Nat, k ≤ xs.length ∧ i = .int .u64 k ∧ FrI w R q win xs k wr) (fun i _ => xs.length - (intOf i).toNat)
  case atStart => exact ⟨0, by omega, rfl, HI0.out⟩
  case round =>
    obtain ⟨k, hk, rfl, v, hrd, hfb, hown, hO⟩ := hrel
    have cR1 : wr.cell? ⟨R, 1, none⟩ = some .nilIface := by obtain ⟨_, _, _, h, _⟩ := hrd; exact h.c1
    have HOW := Lib.hid hown
    have HO := Lib.hid hO
    have HFB := Lib.hid hfb
    have HSZ := Lib.hid (show w.heap.size ≤ wr.heap.size from hO.size)
    have hFlt : w.heap.size < wr.heap.size := (Array.getElem?_eq_some_iff.1 hfb).1
    clear HI0
    by_cases hlt : k < xs.length
    · rw [rest_succ xs k hlt] at hrd
      have hfit := HS.out _ (List.getElem_mem hlt)
      have hnn := HN.out _ (List.getElem_mem hlt)
      have HTK := Lib.hid (rcf_take xs k hlt)
      generalize xs[k] = x at hrd hfit hnn HTK
      obtain ⟨nm, wn, inc, rate, ov⟩ := x
      simp only [RecFit] at hfit hnn
      obtain ⟨rfl, hnz, hn1, hn2⟩ := hnn
      obtain ⟨ni, rfl⟩ := Int.eq_ofNat_of_zero_le hn1
      obtain ⟨nr, rfl⟩ := Int.eq_ofNat_of_zero_le hn2
      have hni : ni < 18446744073709551616 := by omega
      have hnr : nr < 18446744073709551616 := by omega
      obtain ⟨l5, hl5⟩ : ∃ l, l = (xs.drop (k + 1)).flatMap recB := ⟨_, rfl⟩
      obtain ⟨l1, hl1⟩ : ∃ l, l = putU ni ++ (putU nr ++ ([if ov = true then 1 else 0] ++ l5)) := ⟨_, rfl⟩
      have hrd2 : RdrB wr w.heap.size R (putU nm.size ++ nm.data.toList ++ l1) := by
        rw [hl1]
        simpa [recB, ← hl5, List.append_assoc] using hrd
      have HRD := Lib.hid (hrd2.only ((Only.refl (fun k => w.heap.size ≤ k) wr).drew) (fun k h => h))
      have HL5 := Lib.hid hl5
      have HL1 := Lib.hid hl1
      have HIN := Lib.hid (show IntKind.i64.wrap (ni : Int) = (ni : Int) by rw [IntKind.wrap_i64]; omega)
      have HNR := Lib.hid (show IntKind.i64.wrap (nr : Int) = (nr : Int) by rw [IntKind.wrap_i64]; omega)
      have hFR : ¬ w.heap.size = R := by omega
      have hFX : w.heap.size ≠ wr.heap.size := by omega
      have hXR : ¬ wr.heap.size = R := by omega
      have hklt : (k : Int) < xs.length := by omega
      clear hrd hrd2 hl1 hl5 hown hO hfb
      go_upto_region 7 with fail
      go_cut [6] from 29 to 33 (fun s6 wx => ∃ X : Nat, s6 = .pointer (some ⟨X, 0, none⟩) ∧ wr.heap.size ≤ X ∧ wx.heap[X]? = some (.cells (rec5 nm wn 0 0 false) 40 (0, 0)) ∧ RdrB wx w.heap.size R l1 ∧ Only (· = R) wr wx)
      case first =>
        refine wp_region_noPanic ?_
        refine wp_region_held_drew (S := (fun w' => FBox w' w.heap.size q wn v)) (by kernel_rfl) ?_ (fun hHeld => ?_)
        · exact HFB.out
        refine wpAnyH_take (i := 0) (oi := _) (v := ?_) rfl (by kernel_rfl) (by kernel_rfl) (by kernel_rfl) (fun _ _ _ h => h) (Or.inl ⟨by rfl, ?_⟩) (by assumption) ?_
        rotate_left 1
        · (intro w hSw; (try dsimp only at hSw); (have c1 := hSw.c1; go_simp); (try with_reducible rfl))
        try simp only [Act.put, List.getElem_toArray, List.getElem_cons_succ, List.getElem_cons_zero, List.setIfInBounds_toArray, List.set_cons_zero, List.set_cons_succ]
        refine wpAnyH_take (i := 1) (oi := _) (v := ?_) rfl (by kernel_rfl) (by kernel_rfl) (by kernel_rfl) (fun _ _ _ h => h) (Or.inl ⟨by rfl, ?_⟩) (by assumption) ?_
        rotate_left 1
        · (intro w hSw; (try dsimp only at hSw); (have c1 := hSw.c1; go_simp); (try with_reducible rfl))
        try simp only [Act.put, List.getElem_toArray, List.getElem_cons_succ, List.getElem_cons_zero, List.setIfInBounds_toArray, List.set_cons_zero, List.set_cons_succ]
        refine wpAnyH_take (i := 2) (oi := _) (v := ?_) rfl (by kernel_rfl) (by kernel_rfl) (by kernel_rfl) (fun _ _ _ h => h) (Or.inl ⟨by rfl, ?_⟩) (by assumption) ?_
        rotate_left 1
        · (intro w hSw; (try dsimp only at hSw); (have c1 := hSw.c1; go_simp); (try with_reducible rfl))
        try simp only [Act.put, List.getElem_toArray, List.getElem_cons_succ, List.getElem_cons_zero, List.setIfInBounds_toArray, List.set_cons_zero, List.set_cons_succ]
        refine wpAnyH_ready (rs := [3, 5]) (by kernel_rfl) (by simp) ?_
        refine AllReadyH.cons (o := _) rfl (fun K hK => ?_) (AllReadyH.cons (o := _) rfl (fun K hK => ?_) AllReadyH.nil)
        · go_simp
          refine (text_ok _ w.heap.size R nm l1 hnz HRD.out).mono ?_
          rintro e w2 ⟨rfl, hr2, ho2⟩
          go_wp2_with fail
          refine hK.out _ _ ?_ (fun hHeld3 => ?_)
          · exact ho2.heap hHeld hFR
          clear hK K
          try simp only [Act.put, List.getElem_toArray, List.getElem_cons_succ, List.getElem_cons_zero, List.setIfInBounds_toArray, List.set_cons_zero, List.set_cons_succ]
          refine wpAnyH_take (i := 4) (oi := _) (v := ?_) rfl (by kernel_rfl) (by kernel_rfl) (by kernel_rfl) (fun _ _ _ h => h) (Or.inl ⟨by rfl, ?_⟩) (by assumption) ?_
          rotate_left 1
          · (intro w hSw; (try dsimp only at hSw); (have c1 := hSw.c1; go_simp); (try with_reducible rfl))
          try simp only [Act.put, List.getElem_toArray, List.getElem_cons_succ, List.getElem_cons_zero, List.setIfInBounds_toArray, List.set_cons_zero, List.set_cons_succ]
          refine wpAnyH_ready (rs := [5]) (by kernel_rfl) (by simp) ?_
          refine AllReadyH.cons (o := _) rfl (fun K hK => ?_) AllReadyH.nil
          go_simp
          refine hK.out _ _ ?_ (fun hHeld5 => ?_)
          · exact blk_alloc hHeld3
          clear hK K
          try simp only [Act.put, List.getElem_toArray, List.getElem_cons_succ, List.getElem_cons_zero, List.setIfInBounds_toArray, List.set_cons_zero, List.set_cons_succ]
          refine wpAnyH_ready (rs := [6]) (by kernel_rfl) (by simp) ?_
          refine AllReadyH.cons (o := _) rfl (fun K hK => ?_) AllReadyH.nil
          refine rstep_store_row (by kernel_rfl) 40 _ _ rfl w2.heap.size rfl (rec5 nm wn 0 0 false) rfl zrec 40 (heap_alloc_new _ _) rfl (by kernel_rfl) (rec5_one _ _ _ _ _) ?_
          refine hK.out _ _ ?_ (fun hHeld6 => ?_)
          · exact blk_row hHeld5 (by have := (Array.getElem?_eq_some_iff.1 hHeld3).1; omega)
          clear hK K
          try simp only [Act.put, List.getElem_toArray, List.getElem_cons_succ, List.getElem_cons_zero, List.setIfInBounds_toArray, List.set_cons_zero, List.set_cons_succ]
          refine wpAnyH_done (by kernel_rfl) ?_ _
          refine NoPanic.normal ?_
          go_wp2_with fail
          go_meet
          exact ⟨w2.heap.size, rfl, (show wr.heap.size ≤ w2.heap.size from ho2.size), setRow_heap _ _ _ _ _ _ (heap_alloc_new _ _), (hr2.only ((Only.refl (fun k => w.heap.size ≤ k) w2).alloc _) (fun k h => h)).only (only_row _ _ _) (fun k (h : k = w2.heap.size) => by have h1 : wr.heap.size ≤ w2.heap.size := ho2.size; have := HSZ.out; omega), only_rows ((Only.drew' ho2).alloc _) (show wr.heap.size ≤ w2.heap.size from ho2.size)⟩
        · go_simp
          refine hK.out _ _ ?_ (fun hHeld5 => ?_)
          · exact blk_alloc hHeld
          clear hK K
          try simp only [Act.put, List.getElem_toArray, List.getElem_cons_succ, List.getElem_cons_zero, List.setIfInBounds_toArray, List.set_cons_zero, List.set_cons_succ]
          refine wpAnyH_ready (rs := [3]) (by kernel_rfl) (by simp) ?_
          refine AllReadyH.cons (o := _) rfl (fun K hK => ?_) AllReadyH.nil
          go_simp
          refine (text_ok _ w.heap.size R nm l1 hnz (HRD.out.only ((Only.refl (fun k => w.heap.size ≤ k) _).alloc _) (fun k h => h))).mono ?_
          rintro e w2 ⟨rfl, hr2, ho2⟩
          go_wp2_with fail
          refine hK.out _ _ ?_ (fun hHeld3 => ?_)
          · exact ho2.heap hHeld5 hFR
          clear hK K
          try simp only [Act.put, List.getElem_toArray, List.getElem_cons_succ, List.getElem_cons_zero, List.setIfInBounds_toArray, List.set_cons_zero, List.set_cons_succ]
          refine wpAnyH_take (i := 4) (oi := _) (v := ?_) rfl (by kernel_rfl) (by kernel_rfl) (by kernel_rfl) (fun _ _ _ h => h) (Or.inl ⟨by rfl, ?_⟩) (by assumption) ?_
          rotate_left 1
          · (intro w hSw; (try dsimp only at hSw); (have c1 := hSw.c1; go_simp); (try with_reducible rfl))
          try simp only [Act.put, List.getElem_toArray, List.getElem_cons_succ, List.getElem_cons_zero, List.setIfInBounds_toArray, List.set_cons_zero, List.set_cons_succ]
          refine wpAnyH_ready (rs := [6]) (by kernel_rfl) (by simp) ?_
          refine AllReadyH.cons (o := _) rfl (fun K hK => ?_) AllReadyH.nil
          refine rstep_store_row (by kernel_rfl) 40 _ _ rfl wr.heap.size rfl (rec5 nm wn 0 0 false) rfl zrec 40 (ho2.heap (heap_alloc_new _ _) hXR) rfl (by kernel_rfl) (rec5_one _ _ _ _ _) ?_
          refine hK.out _ _ ?_ (fun hHeld6 => ?_)
          · exact blk_row hHeld3 hFX
          clear hK K
          try simp only [Act.put, List.getElem_toArray, List.getElem_cons_succ, List.getElem_cons_zero, List.setIfInBounds_toArray, List.set_cons_zero, List.set_cons_succ]
          refine wpAnyH_done (by kernel_rfl) ?_ _
          refine NoPanic.normal ?_
          go_wp2_with fail
          go_meet
          exact ⟨wr.heap.size, rfl, Nat.le_refl _, setRow_heap _ _ _ _ _ _ (ho2.heap (heap_alloc_new _ _) hXR), hr2.only (only_row _ _ _) (fun k (h : k = wr.heap.size) => by have := HSZ.out; omega), only_rows (Only.trans (F := (· = R)) ((Only.refl (· = R) wr).drew.alloc _) ho2 (fun _ _ h => h)) (Nat.le_refl _)⟩
      case rest =>
        obtain ⟨X, rfl, hX, hx5, hrx, hox⟩ := hcut
        have HOX := Lib.hid hox
        have HX5 := Lib.hid hx5
        have hXR2 : ¬ X = R := by omega
        have hXF : ¬ X = w.heap.size := by omega
        have hXlt : X < wc.heap.size := (Array.getElem?_eq_some_iff.1 hx5).1
        rw [HL1.out] at hrx
        have hc1 := number_ok wc w.heap.size R ni _ hni hrx
        clear hox hx5 hrx HRD
        go_wp2_with fail
        refine hc1.mono ?_
        rintro e wd ⟨rfl, hrd4, hod⟩
        have hc2 := number_ok wd w.heap.size R nr _ hnr hrd4
        have HXD := Lib.hid (hod.heap HX5.out hXR2)
        have HOD := Lib.hid (HOX.out.trans hod (fun _ _ h => h))
        clear hc1 hrd4 hod
        go_wp2_with fail
        refine hc2.mono ?_
        rintro e we ⟨rfl, hre, hoe⟩
        have HRE := Lib.hid hre
        have HXE := Lib.hid (hoe.heap HXD.out hXR2)
        have HOE := Lib.hid (HOD.out.trans hoe (fun _ _ h => h))
        have e2 : we.cell? ⟨X, 2, none⟩ = some (.int .i64 0) := by rw [cell_of_row _ _ _ _ _ _ HXE.out]; rfl
        have e3 : we.cell? ⟨X, 3, none⟩ = some (.int .i64 0) := by rw [cell_of_row _ _ _ _ _ _ HXE.out]; rfl
        have fe2 : we.frozen? ⟨X, 2, none⟩ = false := frozen_of_row we X 2 _ _ HXE.out
        have fe3 : we.frozen? ⟨X, 3, none⟩ = false := frozen_of_row we X 3 _ _ HXE.out
        have hin := HIN.out
        have hnrw := HNR.out
        clear hc2 hre hoe HXD HOD
        go_wp2_with fail
        obtain ⟨wf, hwf⟩ : ∃ wf, wf = (we.setCell ⟨X, 2, none⟩ (.int .i64 ni)).setCell ⟨X, 3, none⟩ (.int .i64 nr) := ⟨_, rfl⟩
        rw [← hwf]
        have hof : Only (fun k => w.heap.size ≤ k) we wf := by rw [hwf]; exact ((Only.refl (fun k => w.heap.size ≤ k) we).setCell ⟨X, 2, none⟩ (.int .i64 ni) (fun _ => (show w.heap.size ≤ X by have := HSZ.out; omega))).setCell ⟨X, 3, none⟩ (.int .i64 nr) (fun _ => (show w.heap.size ≤ X by have := HSZ.out; omega))
        have HOF := Lib.hid (show Only (· = R) wr wf by rw [hwf]; exact (HOE.out.setCell ⟨X, 2, none⟩ (.int .i64 ni) (fun h => absurd (show X < wr.heap.size from h) (by omega))).setCell ⟨X, 3, none⟩ (.int .i64 nr) (fun h => absurd (show X < wr.heap.size from h) (by omega)))
        have HXF := Lib.hid (show wf.heap[X]? = some (.cells (rec5 nm wn ni nr false) 40 (0, 0)) by rw [hwf, heap_setCell_same _ _ _ _ _ _ (heap_setCell_same _ _ _ _ _ _ HXE.out)]; rfl)
        have hc3 := flag_ok wf w.heap.size R ov l5 (HRE.out.only hof (fun k h => h))
        clear hwf hof HXE HOE HRE e2 e3 fe2 fe3 hin hnrw
        refine hc3.mono ?_
        rintro e wg ⟨rfl, hrg, hog⟩
        have HXG := Lib.hid (hog.heap HXF.out hXR2)
        have HOG := Lib.hid (HOF.out.trans hog (fun _ _ h => h))
        have HRG := Lib.hid hrg
        have g4 : wg.cell? ⟨X, 4, none⟩ = some (.bool false) := by rw [cell_of_row _ _ _ _ _ _ HXG.out]; rfl
        have fg4 : wg.frozen? ⟨X, 4, none⟩ = false := frozen_of_row wg X 4 _ _ HXG.out
        clear hc3 hrg hog HXF HOF
        go_upto_region 10 with fail
        obtain ⟨wh, hwh⟩ : ∃ wh, wh = wg.setCell ⟨X, 4, none⟩ (.bool ov) := ⟨_, rfl⟩
        rw [← hwh]
        have HOH := Lib.hid (show Only (· = R) wr wh by rw [hwh]; exact HOG.out.setCell ⟨X, 4, none⟩ (.bool ov) (fun h => absurd (show X < wr.heap.size from h) (by omega)))
        have hxh : wh.heap[X]? = some (.cells (rec5 nm wn ni nr ov) 40 (0, 0)) := by rw [hwh, heap_setCell_same _ _ _ _ _ _ HXG.out]; rfl
        have HRH := Lib.hid (show RdrB wh w.heap.size R l5 by rw [hwh]; exact HRG.out.only ((Only.refl (fun k => w.heap.size ≤ k) wg).setCell ⟨X, 4, none⟩ (.bool ov) (fun _ => (show w.heap.size ≤ X by have := HSZ.out; omega))) (fun k h => h))
        have hfh : FBox wh w.heap.size q wn v := HOH.out.heap HFB.out hFR
        have HOWH := Lib.hid (HOH.out.own HOW.out (fun k hk e => by have h1 := (HOW.out.lt k hk).1; have e : k = R := e; omega))
        have hfhc := hfh.c2
        have ffh : wh.frozen? ⟨w.heap.size, 2, none⟩ = false := frozen_of_row wh _ 2 _ _ hfh
        have x0 : wh.cell? ⟨X, 0, none⟩ = some (.string nm) := by rw [cell_of_row _ _ _ _ _ _ hxh]; rfl
        have x1 : wh.cell? ⟨X, 1, none⟩ = some (.int .i64 wn) := by rw [cell_of_row _ _ _ _ _ _ hxh]; rfl
        have x2 : wh.cell? ⟨X, 2, none⟩ = some (.int .i64 ni) := by rw [cell_of_row _ _ _ _ _ _ hxh]; rfl
        have x3 : wh.cell? ⟨X, 3, none⟩ = some (.int .i64 nr) := by rw [cell_of_row _ _ _ _ _ _ hxh]; rfl
        have x4 : wh.cell? ⟨X, 4, none⟩ = some (.bool ov) := by rw [cell_of_row _ _ _ _ _ _ hxh]; rfl
        have hFh : w.heap.size < wh.heap.size := (Array.getElem?_eq_some_iff.1 hfh).1
        have HFH := Lib.hid hfh
        obtain ⟨ri, hri, hrz, hrs, hrb⟩ := rec_parts
        clear hwh HXG HOG HRG g4 fg4 hxh hfh
        go_wp2_with (first
          | (at_builtin; refine K.step_append_at _ rfl _ _ 23 rfl (w.heap.size + 1) 40 ri (.agg zrec) 5 48 Tryd.underlying23 hri hrz hrs hrb rfl (by decide) _ _ _ rfl (Only.own ((Only.refl (fun _ => False) wh).alloc _) HOWH.out (fun _ _ h => h)) ⟨wh.heap.size, 0, none⟩ 1 1 (rec5 nm wn ni nr ov).toList rfl rfl (K.row_new _ _ _ _) (rec5_one _ _ _ _ _) ?d1 ?d2 ?d3 ?_)
          | fail)
        case d1 => unfold maxLen; omega
        case d2 => omega
        case d3 => simp; omega
        intro v0 w9 hown9 hg9 _ _
        obtain ⟨va, vc, rfl, _⟩ := own_slice5 hown9
        obtain ⟨v', hv'⟩ : ∃ v', v' = Value.slice va (k + 1) vc := ⟨_, rfl⟩
        have HV := Lib.hid hv'
        rw [← hv'] at hown9
        have ho9 : Only (fun j => w.heap.size + 1 ≤ j) wh w9 := ((Only.refl (fun j => w.heap.size + 1 ≤ j) wh).alloc _).grown hg9 (fun j hj _ => (HOW.out.lt j hj).1)
        have hf9 : FBox w9 w.heap.size q wn v := ho9.heap HFH.out (by omega)
        have c92 := hf9.c2
        have ff9 : w9.frozen? ⟨w.heap.size, 2, none⟩ = false := frozen_of_row w9 _ 2 _ _ hf9
        have HR10 := Lib.hid (show RdrB (w9.setCell ⟨w.heap.size, 2, none⟩ v') w.heap.size R l5 from HRH.out.only ((ho9.mono (G := fun j => w.heap.size ≤ j) (fun j _ h => by have h : w.heap.size + 1 ≤ j := h; omega)).setCell ⟨w.heap.size, 2, none⟩ v' (fun _ => Nat.le_refl w.heap.size)) (fun j h => h))
        have HF10 := Lib.hid (show FBox (w9.setCell ⟨w.heap.size, 2, none⟩ v') w.heap.size q wn v' by unfold FBox; rw [heap_setCell_same _ _ _ _ _ _ hf9]; rfl)
        have HW10 := Lib.hid (((Only.refl (fun j => j = w.heap.size) w9).setCell ⟨w.heap.size, 2, none⟩ v' (fun _ => rfl)).own hown9 (fun j hj e => by have h1 := (hown9.lt j hj).1; have e : j = w.heap.size := e; omega))
        have HO10 := Lib.hid (show Only (· = R) w (w9.setCell ⟨w.heap.size, 2, none⟩ v') from (HO.out.trans HOH.out (fun _ _ h => h)).trans ((ho9.mono (G := fun j => w.heap.size ≤ j) (fun j _ h => by have h : w.heap.size + 1 ≤ j := h; omega)).setCell ⟨w.heap.size, 2, none⟩ v' (fun _ => Nat.le_refl w.heap.size)) (fun j hj h => by have h : w.heap.size ≤ j := h; omega))
        clear hown9 hg9 ho9 hf9 HRH HFH HOWH HOH hfhc ffh x0 x1 x2 x3 x4
        rw [HV.out] at HR10 HF10 HW10 HO10
        go_wp2
        go_roundw
        case rel => exact ⟨k + 1, by omega, by go_num, _, by rw [← HL5.out]; exact HR10.out, HF10.out, by rw [HTK.out]; exact HW10.out, HO10.out⟩
        case measure => simp [intOf]; omega
    · obtain rfl : k = xs.length := by omega
      have hke : ¬ ((xs.length : Int) < xs.length) := by omega
      rw [List.drop_length] at hrd
      obtain ⟨b, off, cap, hri, hb1, hb2⟩ := hrd
      have cR0 := hri.c0
      have HRI := Lib.hid hri
      rw [List.take_length] at hown
      obtain ⟨ra, rc, rfl, hrr⟩ := own_slice5 hown
      have HRR := Lib.hid hrr
      have HRX := Lib.hid (show ∀ ad, ra = some ad → w.heap.size < ad.block from fun ad e => by subst e; exact (hown.lt ad.block rfl).1)
      have HFC := Lib.hid (show wr.heap[w.heap.size]? = some (.cells #[.int .u64 q, .int .i64 win, .slice ra xs.length rc] 25 (0, 0)) from hfb)
      have cf0 := hfb.c0
      have cf1 := hfb.c1
      have cf2 := hfb.c2
      clear hri hown hrr hfb hO
      go_wp2_with (first | (with_reducible refine K.step_store_row rfl 25 _ _ rfl w.heap.size rfl #[.int .u64 q, .int .i64 win, .slice ra xs.length rc] rfl #[.int .u64 q, .int .i64 win, .slice ra xs.length rc] 25 HFC.out rfl (by kernel_rfl) (fr_one _ _ _ _ _) ?_; rw [setRow_self _ _ _ _ _ HFC.out]))
      (try simp only [Exit.inBlock, Exit.then])
      refine bodyPost_ret (v := frv q win (.slice ra xs.length rc)) ?_ rfl ?_
      · simp [results, Tryd.results25, go_sem, cf0, cf1, cf2]
        try rfl
      · exact ⟨ra, ⟨rc, rfl⟩, HRR.out, ⟨b, off, cap, HRI.out, hb1, hb2⟩, HO.out, HRX.out⟩
end Go.Proofs.YtajddpdlhahcdaaDoor
