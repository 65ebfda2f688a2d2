/- The walk over the reference's Decode at a frame's own bytes. -/
import Derived.Test.YtdomnjakhecbaaaRRa
import Derived.Test.YtdomnjakhecbaaaFrR
import Derived.Test.YtdomnjakhecbaaaFrS4
import Derived.Test.YtdomnjakhecbaaaFrW
import Derived.Test.YtdomnjakhecbaaaApp3
import Derived.Outline
namespace Go.Proofs.Ytdomnjakhecbaaa
open Go.RowKit K
theorem body_drop4 (q win : Int) (xs : List Rec) : (bodyB q win xs xs.length).drop 4 = putU q.toNat ++ (putU (zig win) ++ (putU xs.length ++ xs.flatMap recB)) := by
  unfold bodyB headB
  rw [List.take_length, List.append_assoc, List.append_assoc, List.append_assoc]
  exact List.drop_left (l₁ := tagB)
def sumS (s : Nat) : ByteArray := ⟨(sum4 s).toArray⟩
theorem conv_sum (W : World) (a : Option Addr) (c s : Nat) (h : Rd W a (bv (sum4 s))) : Sem.run Try.prog (convert 34 9 (.slice a 4 c)) W = .ok (.string (sumS s)) W :=
  run_bytes_string (P := Try.prog) W 34 9 5 Try.underlying34 Try.underlying5 Try.underlying9 a c (sum4 s) h
def zfr : Obj := .cells #[.int .u64 0, .int .i64 0, .slice none 0 0] 38 (0, 0)
/-- Nothing of what was there has turned, and the result's own block is as it was made. -/
def RDS (w w' : World) : Prop := Below w.heap.size w w' ∧ w'.heap[w.heap.size]? = some zfr
theorem RDS.keep {w w1 w2 : World} (h : RDS w w1) (hb : Below w1.heap.size w1 w2) : RDS w w2 :=
  ⟨h.1.trans (hb.mono h.1.size), (hb.block _ (Array.getElem?_eq_some_iff.1 h.2).1).trans h.2⟩
theorem RDS.set {w w1 : World} (h : RDS w w1) {g : Nat} (hg : w.heap.size < g) (i : Nat) (v : Value) : RDS w (w1.setCell ⟨g, i, none⟩ v) :=
  ⟨h.1.setCell (p := ⟨g, i, none⟩) (Nat.le_of_lt hg) v, (Below.heap_setCell w1 ⟨g, i, none⟩ v w.heap.size (by show w.heap.size ≠ g; omega)).trans h.2⟩
def zrecV : Value := .agg #[.string ⟨#[]⟩, .int .i64 0, .int .i64 0, .int .i64 0, .bool false]
theorem recz_parts : ∃ i, Try.prog.info? 70 = some i ∧ i.zero = some zrecV ∧ i.size = 5 ∧ i.bytes = 48 := by
  have hs : (Try.prog.info? 70).map (·.size) = some 5 := by kernel_rfl
  have hb : (Try.prog.info? 70).map (·.bytes) = some 48 := by kernel_rfl
  have hz : (Try.prog.info? 70).bind (·.zero) = some zrecV := by kernel_rfl
  cases h : Try.prog.info? 70 with
  | none => rw [h] at hs; cases hs
  | some i =>
    rw [h] at hs hb hz
    exact ⟨i, rfl, by simpa using hz, by simpa using hs, by simpa using hb⟩
theorem rcells_one (x : Rec) : ∀ v ∈ x.cells.toList, v.oneCell' = true := by
  intro v hv
  simp only [Rec.cells, List.mem_cons, List.not_mem_nil, or_false] at hv
  rcases hv with rfl | rfl | rfl | rfl | rfl <;> rfl
theorem rcf_succ (xs : List Rec) (k : Nat) (h : k < xs.length) : rcf (xs.take (k + 1)) = rcf (xs.take k) ++ xs[k].cells.toList := by
  unfold rcf
  rw [List.take_succ_eq_append_getElem h, List.flatMap_append]
  simp only [List.flatMap_cons, List.flatMap_nil, List.append_nil]
theorem own_row5 {w : World} {B e n : Nat} {v : Value} {xs : List Value} (h : w.ownsRow B e 5 v n xs) : ∃ a c, v = .slice a n c ∧ Rd w a xs := by
  rcases h.2 with ⟨rfl, rfl⟩ | ⟨g, cap, cur, rfl, _, hg, hn, hm, _⟩
  · refine ⟨none, 0, rfl, fun k v hv => ?_⟩
    have : xs = [] := List.eq_nil_of_length_eq_zero (by simpa using h.1)
    subst this
    simp at hv
  · refine ⟨_, cap, rfl, fun k v hv => ⟨g, 0, rfl, ?_⟩⟩
    have := h.cells (g := g) rfl k v hv
    simpa [Addr.add_lit] using this
theorem frm_one (q win : Int) (a : Option Addr) (n c : Nat) : ∀ v ∈ (#[.int .u64 q, .int .i64 win, .slice a n c] : Array Value).toList, v.oneCell' = true := by
  intro v hv
  simp only [List.mem_cons, List.not_mem_nil, or_false] at hv
  rcases hv with rfl | rfl | rfl <;> rfl
theorem row_new1 (w : World) (o : Obj) (C : Array Value) (t : TypeId) (fr : Nat × Nat) : ∀ j u, C.toList[j]? = some u → ((w.alloc o).alloc (.cells C t fr)).cell? ((⟨w.heap.size + 1, 0, none⟩ : Addr).add j) = some u := by
  have h := K.row_new (w.alloc o) C t fr
  rw [World.size_alloc] at h
  exact h
/-- What has been read of a frame's records. -/
def DecI (w : World) (G : Nat) (q win : Int) (xs : List Rec) (b : List UInt8) (k p : Nat) (wr : World) : Prop :=
  RDS w wr ∧ ∃ v, wr.heap[G]? = some (.cells #[.int .u64 q, .int .i64 win, v] 38 (0, 0)) ∧ wr.ownsRow (G + 1) 70 5 v k (rcf (xs.take k)) ∧ b.drop p = (xs.drop k).flatMap recB
def RDecOk (w : World) (q win : Int) (xs : List Rec) (e : Ending) (w' : World) : Prop :=
  ∃ a c, e = .returned (.tuple #[frv q win (.slice a xs.length c), .int .i64 0]) ∧ Rd w' a (rcf xs) ∧ Below w.heap.size w w'
set_option maxHeartbeats 4000000 in
set_option maxRecDepth 100000 in
theorem rdecode_ok (w : World) (q : Nat) (win : Int) (a : Option Addr) (c : Nat) (xs : List Rec) (l : List UInt8) (hle : l = encB q win xs) (hq2 : q < 18446744073709551616) (hw1 : -9223372036854775808 ≤ win) (hw2 : win ≤ 9223372036854775807) (hs : ∀ x ∈ xs, RecFit x) (hm : mayB q win xs = true)
    (hc : l.length ≤ c) (hc2 : c ≤ 9223372036854775807) (hr : Rd w a (bv l)) :
    Calls Try.prog 13 #[.slice a l.length c] w (RDecOk w q win xs) := by
  obtain ⟨hp1, hp2, hp3, hp4⟩ := may_parts hm
  obtain ⟨n, hn⟩ : ∃ n, n = (bodyB q win xs xs.length).length := ⟨_, rfl⟩
  obtain ⟨hbt, hb4⟩ := body_tag q win xs xs.length
  have hlb := bodyB_length q win xs (fun x hx => (hp4 x hx).2.1) hp3 xs.length
  have hln : l.length = n + 4 := by rw [hle, hn]; unfold encB; rw [List.length_append]; rfl
  have hn4 : 4 ≤ n := by omega
  have htk : l.take n = bodyB q win xs xs.length := by rw [hle, hn]; exact List.take_left
  have hdr : l.drop n = sum4 (sumOf (l.take n)) := by rw [htk, hle, hn]; exact List.drop_left
  have ht : l.take 4 = tagB := by
    rw [hle]
    unfold encB
    rw [List.take_append_of_le_length hb4]
    exact hbt
  obtain ⟨b, hb⟩ : ∃ b, b = l.take n := ⟨_, rfl⟩
  have hbl : b.length = n := by rw [hb, List.length_take]; omega
  have hbd : b.drop 4 = putU q ++ (putU (zig win) ++ (putU xs.length ++ xs.flatMap recB)) := by rw [hb, htk, body_drop4]; rfl
  obtain ⟨ab, ao, rfl, hab, hcl⟩ := hr.at (bv_get (show 0 < l.length by omega))
  have hrb : Rd w (some ⟨ab, ao, none⟩) (bv b) := by rw [hb]; exact rdd_take hr n
  have hrs : Rd w (some ⟨ab, ao + n, none⟩) (bv (sum4 (sumOf b))) := by rw [hb, ← hdr]; exact rdd_drop hr n
  have hrt : Rd w (some ⟨ab, ao, none⟩) (bv tagB) := by rw [← ht]; exact rdd_take hr 4
  have HRB := Lib.hid (fun W (h : Below w.heap.size w W) => hrb.below h (Nat.le_refl _))
  have HRS := Lib.hid (fun W (h : Below w.heap.size w W) => hrs.below h (Nat.le_refl _))
  have HBL := Lib.hid hbl
  have HBD := Lib.hid hbd
  have HS := Lib.hid hs
  have HP4 := Lib.hid hp4
  have HM := Lib.hid hm
  have hcv1 : ∀ W c, Below w.heap.size w W → Sem.run Try.prog (convert 34 9 (.slice (some ⟨ab, ao, none⟩) 4 c)) W = .ok (.string ⟨#[79, 68, 79, 1]⟩) W := fun W c h => run_bytes_string (P := Try.prog) W 34 9 5 Try.underlying34 Try.underlying5 Try.underlying9 (some ⟨ab, ao, none⟩) c tagB (hrt.below h (Nat.le_refl _))
  have HCV1 := Lib.hid (fun A B => hcv1 _ c (((Below.refl _ w).alloc (Nat.le_refl _) A).alloc (by simp) B))
  have HSUM := Lib.hid (fun W (h : Below w.heap.size w W) => (hbl ▸ rsum4_any (some ⟨ab, ao, none⟩) c b W (by omega) (hrb.below h (Nat.le_refl _)) : Calls Try.prog 34 #[.slice (some ⟨ab, ao, none⟩) n c] W fun e w' => e = .returned (.slice (some ⟨W.heap.size, 0, none⟩) 4 4) ∧ Rd w' (some ⟨W.heap.size, 0, none⟩) (bv (sum4 (sumOf b))) ∧ Below W.heap.size W w'))
  have HZ0 := Lib.hid (fun B => (show ((w.alloc zfr).alloc B).drew.heap[w.heap.size]? = some zfr from (Below.heap_alloc _ _ _ (by simp)).trans (heap_alloc_new w _)))
  obtain ⟨sx, hsx⟩ : ∃ sx, sx = sumS (sumOf b) := ⟨_, rfl⟩
  have HSX := Lib.hid hsx
  clear hsx
  have hd1 := drop_more hbd
  have hd2 := drop_more hd1
  have hd3 := drop_more hd2
  obtain ⟨p1, hp1e⟩ : ∃ p1, p1 = 4 + (putU q).length := ⟨_, rfl⟩
  obtain ⟨p2, hp2e⟩ : ∃ p2, p2 = p1 + (putU (zig win)).length := ⟨_, rfl⟩
  obtain ⟨p3, hp3e⟩ : ∃ p3, p3 = p2 + (putU xs.length).length := ⟨_, rfl⟩
  rw [← hp1e] at hd1 hd2 hd3
  rw [← hp2e] at hd2 hd3
  rw [← hp3e] at hd3
  have hzl := zig_lt win hw1 hw2
  have HN1 := Lib.hid (fun W (h : Below w.heap.size w W) => (by have hh := rnumber_ok W (some ⟨ab, ao, none⟩) c 4 q b _ hq2 (by omega) (by omega) hbd (hrb.below h (Nat.le_refl _)); rw [hbl, ← hp1e] at hh; exact hh : Calls Try.prog 35 #[.slice (some ⟨ab, ao, none⟩) n c, .int .i64 4] W fun e w' => e = .returned (.tuple #[.int .u64 q, .int .i64 p1, .int .i64 0]) ∧ W = w'))
  have HN2 := Lib.hid (fun W (h : Below w.heap.size w W) => (by have hh := rnumber_ok W (some ⟨ab, ao, none⟩) c p1 (zig win) b _ hzl (by omega) (by omega) hd1 (hrb.below h (Nat.le_refl _)); rw [hbl, ← hp2e] at hh; exact hh : Calls Try.prog 35 #[.slice (some ⟨ab, ao, none⟩) n c, .int .i64 p1] W fun e w' => e = .returned (.tuple #[.int .u64 (zig win : Nat), .int .i64 p2, .int .i64 0]) ∧ W = w'))
  have HN3 := Lib.hid (fun W (h : Below w.heap.size w W) => (by have hh := rnumber_ok W (some ⟨ab, ao, none⟩) c p2 xs.length b _ (by omega) (by omega) (by omega) hd2 (hrb.below h (Nat.le_refl _)); rw [hbl, ← hp3e] at hh; exact hh : Calls Try.prog 35 #[.slice (some ⟨ab, ao, none⟩) n c, .int .i64 p2] W fun e w' => e = .returned (.tuple #[.int .u64 xs.length, .int .i64 p3, .int .i64 0]) ∧ W = w'))
  have HD3 := Lib.hid hd3
  have HREC := Lib.hid (fun W p x rest (h : Below w.heap.size w W) (hx : x ∈ xs) (hd : b.drop p = recB x ++ rest) => (by
    have hh := rrecord_ok W (some ⟨ab, ao, none⟩) c p _ _ _ _ x b rest (by omega) (by omega) hd (hp4 x hx).2.1 ⟨(hp4 x hx).2.2.1, (hs x hx).2.2.1.2⟩ ⟨(hp4 x hx).2.2.2, (hs x hx).2.2.2.2⟩ rfl rfl rfl rfl (hrb.below h (Nat.le_refl _))
    rw [hbl] at hh
    have e : p + (putU x.name.size).length + x.name.size + (putU x.inc.toNat).length + (putU x.rate.toNat).length + 1 = p + (recB x).length := by
      simp only [recB, List.length_append, List.length_cons, List.length_nil]
      rw [show x.name.data.toList.length = x.name.size from rfl]
      omega
    rw [e] at hh
    exact hh : Calls Try.prog 36 #[.slice (some ⟨ab, ao, none⟩) n c, .int .i64 p, .int .i64 x.win] W (RecOk W x (p + (recB x).length))))
  have hZ : ∃ Z : Nat, Z = zig win := ⟨_, rfl⟩
  obtain ⟨Z, hZ⟩ := hZ
  rw [← hZ] at HN2 hzl
  have HZ := Lib.hid hZ
  clear hd1 hd2 hd3 hp1e hp2e hp3e hZ
  rw [hln] at hc ⊢
  have hnn : 4 ≤ (n : Int) := by omega
  have hn5 : ¬ ((n : Int) + 4 < 4) := by omega
  have hn8 : ¬ ((n : Int) + 4 < 8) := by omega
  have hn0 : (0 : Int) ≤ n := by omega
  have hnz : (n : Int) + 4 - 4 = n := by omega
  have hlb2 : n + 4 ≤ 140737488355328 := by omega
  have hcn : ¬ c = n := by omega
  have hnc : n ≤ c := by omega
  have hnn4 : (n : Int) ≤ n + 4 := by omega
  clear hle hbd hbl hb hrb hrs hrt hcl hr ht hdr htk hn hbt hb4 hlb hln hs hp4 hm hp1 hcv1
  have hcv := HCV1.out
  go_enter Try.func13, Try.ntmps13
  go_wp2_with fail
  refine wp_region_noPanic ?_
  refine wp_region_held_drew (S := (RDS w)) (by kernel_rfl) ?_ (fun hHeld => ?_)
  · exact ⟨((((Below.refl _ w).alloc (Nat.le_refl _) _).alloc (by simp) _).drew), HZ0.out _⟩
  refine wpAnyH_take (i := 0) (oi := _) (v := ?_) rfl (by kernel_rfl) (by kernel_rfl) (by kernel_rfl) (fun _ _ _ h => h) (Or.inl ⟨by rfl, ?_⟩) (by assumption) ?_
  rotate_left 1
  · (intro w hSw; (try dsimp only at hSw); go_simp; (try with_reducible rfl))
  try simp only [Act.put, List.getElem_toArray, List.getElem_cons_zero, List.setIfInBounds_toArray, List.set_cons_zero, List.set_cons_succ]
  refine wpAnyH_take (i := 1) (oi := _) (v := ?_) rfl (by kernel_rfl) (by kernel_rfl) (by kernel_rfl) (fun _ _ _ h => h) (Or.inl ⟨by rfl, ?_⟩) (by assumption) ?_
  rotate_left 1
  · (intro w hSw; (try dsimp only at hSw); go_simp; (try with_reducible rfl))
  try simp only [Act.put, List.getElem_toArray, List.getElem_cons_succ, List.getElem_cons_zero, List.setIfInBounds_toArray, List.set_cons_zero, List.set_cons_succ]
  refine wpAnyH_take (i := 2) (oi := _) (v := ?_) rfl (by kernel_rfl) (by kernel_rfl) (by kernel_rfl) (fun _ _ _ h => h) (Or.inl ⟨by rfl, ?_⟩) (by assumption) ?_
  rotate_left 1
  · (intro w hSw; (try dsimp only at hSw); go_simp; (try with_reducible rfl))
  try simp only [Act.put, List.getElem_toArray, List.getElem_cons_succ, List.getElem_cons_zero, List.setIfInBounds_toArray, List.set_cons_zero, List.set_cons_succ]
  refine wpAnyH_take (i := 5) (oi := _) (v := ?_) rfl (by kernel_rfl) (by kernel_rfl) (by kernel_rfl) (fun _ _ _ h => h) (Or.inl ⟨by rfl, ?_⟩) (by assumption) ?_
  rotate_left 1
  · (intro w hSw; (try dsimp only at hSw); go_simp; (try with_reducible rfl))
  try simp only [Act.put, List.getElem_toArray, List.getElem_cons_succ, List.getElem_cons_zero, List.setIfInBounds_toArray, List.set_cons_zero, List.set_cons_succ]
  refine wpAnyH_take (i := 6) (oi := _) (v := ?_) rfl (by kernel_rfl) (by kernel_rfl) (by kernel_rfl) (fun _ _ _ h => h) (Or.inl ⟨by rfl, ?_⟩) (by assumption) ?_
  rotate_left 1
  · (intro w hSw; (try dsimp only at hSw); go_simp; (try with_reducible rfl))
  try simp only [Act.put, List.getElem_toArray, List.getElem_cons_succ, List.getElem_cons_zero, List.setIfInBounds_toArray, List.set_cons_zero, List.set_cons_succ]
  refine wpAnyH_take (i := 7) (oi := _) (v := ?_) rfl (by kernel_rfl) (by kernel_rfl) (by kernel_rfl) (fun _ _ _ h => h) (Or.inl ⟨by rfl, ?_⟩) (by assumption) ?_
  rotate_left 1
  · (intro w hSw; (try dsimp only at hSw); go_simp; (try with_reducible rfl))
  try simp only [Act.put, List.getElem_toArray, List.getElem_cons_succ, List.getElem_cons_zero, List.setIfInBounds_toArray, List.set_cons_zero, List.set_cons_succ]
  refine wpAnyH_take (i := 8) (oi := _) (v := ?_) rfl (by kernel_rfl) (by kernel_rfl) (by kernel_rfl) (fun _ _ _ h => h) (Or.inl ⟨by rfl, ?_⟩) (by assumption) ?_
  rotate_left 1
  · (intro w hSw; (try dsimp only at hSw); (have hcv2 := conv_sum _ (some ⟨ab, ao + n, none⟩) (c - n) (sumOf b) (HRS.out _ hSw.1); rw [← HSX.out] at hcv2; go_simp); (try with_reducible rfl))
  try simp only [Act.put, List.getElem_toArray, List.getElem_cons_succ, List.getElem_cons_zero, List.setIfInBounds_toArray, List.set_cons_zero, List.set_cons_succ]
  refine wpAnyH_ready (rs := [3]) (by kernel_rfl) (by simp) ?_
  refine AllReadyH.cons (o := _) rfl (fun K hK => ?_) AllReadyH.nil
  go_simp
  refine (HSUM.out _ hHeld.1).mono ?_
  rintro e w1 ⟨rfl, hr1, hb1⟩
  go_wp2_with fail
  refine hK.out _ _ ?_ (fun hHeld3 => ?_)
  · exact RDS.keep hHeld hb1
  clear hK K
  try simp only [Act.put, List.getElem_toArray, List.getElem_cons_succ, List.getElem_cons_zero, List.setIfInBounds_toArray, List.set_cons_zero, List.set_cons_succ]
  refine wpAnyH_ready (rs := [4]) (by kernel_rfl) (by simp) ?_
  refine AllReadyH.cons (o := _) rfl (fun K hK => ?_) AllReadyH.nil
  have hsz1 : (((w.alloc zfr).alloc zfr).drew).heap.size = w.heap.size + 1 + 1 := by simp
  have hcv2 : Sem.run Try.prog (convert 34 9 (.slice (some ⟨w.heap.size + 1 + 1, 0, none⟩) 4 4)) w1 = .ok (.string sx) w1 := by rw [HSX.out, ← hsz1]; exact conv_sum _ _ 4 (sumOf b) hr1
  clear hsz1
  go_simp
  clear hcv2
  refine hK.out _ _ ?_ (fun hHeld4 => ?_)
  · exact hHeld3
  clear hK K
  try simp only [Act.put, List.getElem_toArray, List.getElem_cons_succ, List.getElem_cons_zero, List.setIfInBounds_toArray, List.set_cons_zero, List.set_cons_succ]
  refine wpAnyH_take (i := 9) (oi := _) (v := ?_) rfl (by kernel_rfl) (by kernel_rfl) (by kernel_rfl) (fun _ _ _ h => h) (Or.inl ⟨by rfl, ?_⟩) (by assumption) ?_
  rotate_left 1
  · (intro w hSw; (try dsimp only at hSw); go_simp; (try with_reducible rfl))
  try simp only [Act.put, List.getElem_toArray, List.getElem_cons_succ, List.getElem_cons_zero, List.setIfInBounds_toArray, List.set_cons_zero, List.set_cons_succ]
  refine wpAnyH_done (by kernel_rfl) ?_ _
  refine NoPanic.normal ?_
  go_wp2_with fail
  have HR1 := Lib.hid hHeld4
  have HF2 := Lib.hid (heap_alloc_new w1 (.cells #[.int .u64 0, .int .i64 0, .slice none 0 0] 38))
  have HD2 := Lib.hid (hHeld4.keep ((Below.refl _ w1).alloc (Nat.le_refl _) (.cells #[.int .u64 0, .int .i64 0, .slice none 0 0] 38)))
  have hG : w.heap.size < w1.heap.size := (Array.getElem?_eq_some_iff.1 hHeld4.2).1
  obtain ⟨w2, hw2⟩ : ∃ w2, w2 = w1.alloc (.cells #[.int .u64 0, .int .i64 0, .slice none 0 0] 38) := ⟨_, rfl⟩
  rw [← hw2] at HF2 HD2 ⊢
  clear hHeld hHeld3 hHeld4 hr1 hb1 hw2 HR1 HSX
  refine (HN1.out _ HD2.out.1).mono ?_
  rintro e w3 ⟨rfl, rfl⟩
  have f20 : w2.cell? ⟨w1.heap.size, 0, none⟩ = some (.int .u64 0) := by rw [cell_of_row _ _ _ _ _ _ HF2.out]; rfl
  have z20 : w2.frozen? ⟨w1.heap.size, 0, none⟩ = false := frozen_of_row w2 _ 0 _ _ HF2.out
  go_wp2_with fail
  have HF3 := Lib.hid (show (w2.setCell ⟨w1.heap.size, 0, none⟩ (.int .u64 q)).heap[w1.heap.size]? = some (.cells #[.int .u64 q, .int .i64 0, .slice none 0 0] 38 (0, 0)) by rw [heap_setCell_same _ _ _ _ _ _ HF2.out]; rfl)
  have HE3 := Lib.hid (HD2.out.set hG 0 (.int .u64 q))
  obtain ⟨w3, hw3⟩ : ∃ w3, w3 = w2.setCell ⟨w1.heap.size, 0, none⟩ (.int .u64 q) := ⟨_, rfl⟩
  rw [← hw3] at HF3 HE3 ⊢
  clear hw3 f20 z20 HF2 HD2
  refine (HN2.out _ HE3.out.1).mono ?_
  rintro e w4 ⟨rfl, rfl⟩
  have f31 : w3.cell? ⟨w1.heap.size, 1, none⟩ = some (.int .i64 0) := by rw [cell_of_row _ _ _ _ _ _ HF3.out]; rfl
  have z31 : w3.frozen? ⟨w1.heap.size, 1, none⟩ = false := frozen_of_row w3 _ 1 _ _ HF3.out
  have hzb : (Z : Int) / 2 ≤ 9223372036854775807 := by omega
  by_cases hwin : 0 ≤ win
  · have hZ2 := Lib.hid (show (Z : Int) / 2 = win by rw [HZ.out]; unfold zig; rw [if_pos hwin]; omega)
    have hodd : ((Z : Int) % 2 == 1) = false := by rw [beq_eq_false_iff_ne, HZ.out]; unfold zig; rw [if_pos hwin]; omega
    go_wp2_with fail
    have HF4 := Lib.hid (show (w3.setCell ⟨w1.heap.size, 1, none⟩ (.int .i64 ((Z : Int) / 2))).heap[w1.heap.size]? = some (.cells #[.int .u64 q, .int .i64 win, .slice none 0 0] 38 (0, 0)) by rw [heap_setCell_same _ _ _ _ _ _ HF3.out, hZ2.out]; rfl)
    have HE4 := Lib.hid (HE3.out.set hG 1 (.int .i64 ((Z : Int) / 2)))
    obtain ⟨w4, hw4⟩ : ∃ w4, w4 = w3.setCell ⟨w1.heap.size, 1, none⟩ (.int .i64 ((Z : Int) / 2)) := ⟨_, rfl⟩
    rw [← hw4] at HF4 HE4 ⊢
    clear hw4 f31 z31 HF3 HE3 hodd hZ2 hzb
    refine (HN3.out _ HE4.out.1).mono ?_
    rintro e w5 ⟨rfl, rfl⟩
    go_wp2_with fail
    have HI := Lib.hid (show DecI w w1.heap.size q win xs b 0 p3 w4 from ⟨HE4.out, _, HF4.out, World.ownsRow_nil _ _ _ _, HD3.out⟩)
    clear HE4 HF4
    go_loopw [8, 11] (fun s8 i wr => ∃ k p : Nat, k ≤ xs.length ∧ i = .int .u64 k ∧ s8 = .int .i64 p ∧ DecI w w1.heap.size q win xs b k p wr) (fun _ i _ => xs.length - (intOf i).toNat)
    case atStart => exact ⟨0, p3, by omega, rfl, rfl, HI.out⟩
    case round =>
      obtain ⟨k, p, hk, rfl, rfl, hRD, v, hfb, hown, hdr⟩ := hrel
      have HRD := Lib.hid hRD
      have HFB := Lib.hid hfb
      have HOW := Lib.hid hown
      have HDR := Lib.hid hdr
      have g1 : wr.cell? ⟨w1.heap.size, 1, none⟩ = some (.int .i64 win) := by rw [cell_of_row _ _ _ _ _ _ hfb]; rfl
      have hGl : w1.heap.size < wr.heap.size := (Array.getElem?_eq_some_iff.1 hfb).1
      clear hRD hfb hown hdr HI
      by_cases hlt : k < xs.length
      · have hmem := List.getElem_mem hlt
        have hd5 : b.drop p = recB xs[k] ++ (xs.drop (k + 1)).flatMap recB := by rw [HDR.out, List.drop_eq_getElem_cons hlt, List.flatMap_cons]
        have hwx := (HP4.out _ hmem).1
        have hc := HREC.out wr p xs[k] _ HRD.out.1 hmem hd5
        have HTK := Lib.hid (rcf_succ xs k hlt)
        have HMORE := Lib.hid (drop_more hd5)
        rw [hwx] at hc
        obtain ⟨x, hx⟩ : ∃ x, x = xs[k] := ⟨_, rfl⟩
        rw [← hx] at hc HTK HMORE
        have HC := Lib.hid hc
        have hkl : (k : Int) < xs.length := by omega
        clear hmem hd5 hwx hc hx HDR
        go_wp2_with fail
        refine HC.out.mono ?_
        rintro e w6 ⟨rfl, hb6⟩
        have HR6 := Lib.hid (HRD.out.keep hb6)
        have h6 := (hb6.block _ hGl).trans HFB.out
        have HF6 := Lib.hid h6
        have HO6 := Lib.hid (Only.own (Only.of_new (F := fun _ => False) hb6) HOW.out (fun _ _ h => h))
        have f62 : w6.cell? ⟨w1.heap.size, 2, none⟩ = some v := by rw [cell_of_row _ _ _ _ _ _ h6]; rfl
        have z62 : w6.frozen? ⟨w1.heap.size, 2, none⟩ = false := frozen_of_row w6 _ 2 _ _ h6
        have hG6 : w1.heap.size < w6.heap.size := (Array.getElem?_eq_some_iff.1 h6).1
        obtain ⟨ri, hri, hrz, hrs, hrb⟩ := recz_parts
        clear hb6 HFB HOW HC h6 HRD
        obtain ⟨nm, wn, inc, rate, ov⟩ := x
        simp only [Rec.cells]
        go_wp2_with (first
          | (at_builtin; refine K.step_append_at _ rfl _ _ 30 rfl (w1.heap.size + 1) 70 ri zrecV 5 48 Try.underlying30 hri hrz hrs hrb rfl (by decide) _ _ _ rfl (Only.own (((Only.refl (fun _ => False) w6).alloc _).alloc _) HO6.out (fun _ _ h => h)) ⟨w6.heap.size + 1, 0, none⟩ 1 1 (Rec.cells ⟨nm, wn, inc, rate, ov⟩).toList rfl rfl (row_new1 _ _ _ _ _) (rcells_one _) ?d1 ?d2 ?d3 ?_)
          | fail)
        case d1 => unfold maxLen; omega
        case d2 => omega
        case d3 => simp; omega
        intro v0 w9 hown9 hg9 _ _
        obtain ⟨va, vc, rfl, _⟩ := own_row5 hown9
        obtain ⟨v', hv'⟩ : ∃ v', v' = Value.slice va (k + 1) vc := ⟨_, rfl⟩
        have HV := Lib.hid hv'
        rw [← hv'] at hown9
        have ho9 : Only (fun j => w1.heap.size + 1 ≤ j) w6 w9 := (((Only.refl (fun j => w1.heap.size + 1 ≤ j) w6).alloc _).alloc _).grown hg9 (fun j hj _ => (HO6.out.lt j hj).1)
        have hf9 := ho9.heap HF6.out (by omega)
        have c92 : w9.cell? ⟨w1.heap.size, 2, none⟩ = some v := by rw [cell_of_row _ _ _ _ _ _ hf9]; rfl
        have ff9 : w9.frozen? ⟨w1.heap.size, 2, none⟩ = false := frozen_of_row w9 _ 2 _ _ hf9
        have HR9 : RDS w w9 := ⟨HR6.out.1.trans (ho9.below HR6.out.1.size (fun j h => by have h : w1.heap.size + 1 ≤ j := h; omega)), ho9.heap HR6.out.2 (by omega)⟩
        have HR10 := Lib.hid (HR9.set hG 2 v')
        have HF10 := Lib.hid (show (w9.setCell ⟨w1.heap.size, 2, none⟩ v').heap[w1.heap.size]? = some (.cells #[.int .u64 q, .int .i64 win, v'] 38 (0, 0)) by rw [heap_setCell_same _ _ _ _ _ _ hf9]; rfl)
        have HW10 := Lib.hid (((Only.refl (fun j => j = w1.heap.size) w9).setCell ⟨w1.heap.size, 2, none⟩ v' (fun _ => rfl)).own hown9 (fun j hj e => by have h1 := (hown9.lt j hj).1; have e : j = w1.heap.size := e; omega))
        clear hown9 hg9 ho9 hf9 HR9 HO6 HR6 HF6 f62 z62
        rw [HV.out] at HR10 HF10 HW10
        go_wp2
        go_roundw
        case rel => exact ⟨k + 1, _, by omega, by go_num, by go_num, HR10.out, _, HF10.out, by rw [HTK.out]; exact HW10.out, HMORE.out⟩
        case measure => simp [intOf]; omega
      · obtain rfl : k = xs.length := by omega
        have hpn : (n : Int) ≤ p := by
          have h := congrArg List.length HDR.out
          rw [List.drop_length, List.length_drop, HBL.out] at h
          simp at h
          omega
        obtain ⟨va, vc, rfl, hrv⟩ := own_row5 HOW.out
        have HOWN := Lib.hid HOW.out
        rw [List.take_length] at hrv
        have HRV := Lib.hid hrv
        have g0 : wr.cell? ⟨w1.heap.size, 0, none⟩ = some (.int .u64 q) := by rw [cell_of_row _ _ _ _ _ _ HFB.out]; rfl
        have g2 : wr.cell? ⟨w1.heap.size, 2, none⟩ = some (.slice va xs.length vc) := by rw [cell_of_row _ _ _ _ _ _ HFB.out]; rfl
        have hmy := rmay_any wr q win va vc xs (by omega) (fun x hx => (HS.out x hx).1) HRV.out (by omega)
        rw [HM.out] at hmy
        unfold frv at hmy
        have HMY := Lib.hid hmy
        clear hrv HOW hmy
        go_wp2_with fail
        refine HMY.out.mono ?_
        rintro e w7 ⟨rfl, hb7⟩
        have hF7 := (hb7.block _ (Array.getElem?_eq_some_iff.1 HFB.out).1).trans HFB.out
        have HR7 := Lib.hid (HRD.out.keep hb7)
        have HZ7 := Lib.hid (show w7.heap[w.heap.size]? = some (.cells #[.int .u64 0, .int .i64 0, .slice none 0 0] 38 (0, 0)) from HR7.out.2)
        have HV7 := Lib.hid (HRV.out.below hb7 (Nat.le_refl _))
        have x0 : w7.cell? ⟨w1.heap.size, 0, none⟩ = some (.int .u64 q) := by rw [cell_of_row _ _ _ _ _ _ hF7]; rfl
        have x1 : w7.cell? ⟨w1.heap.size, 1, none⟩ = some (.int .i64 win) := by rw [cell_of_row _ _ _ _ _ _ hF7]; rfl
        have x2 : w7.cell? ⟨w1.heap.size, 2, none⟩ = some (.slice va xs.length vc) := by rw [cell_of_row _ _ _ _ _ _ hF7]; rfl
        have hVX := Lib.hid (show ∀ ad, va = some ad → w.heap.size < ad.block from fun ad e => by subst e; have := (HOWN.out.lt ad.block rfl).1; omega)
        clear hb7 hF7 HMY HRV HFB HRD g0 g1 g2
        go_wp2_with (first | (with_reducible refine K.step_store_row rfl 38 _ _ rfl w.heap.size rfl #[.int .u64 q, .int .i64 win, .slice va xs.length vc] rfl #[.int .u64 0, .int .i64 0, .slice none 0 0] 38 HZ7.out rfl (by kernel_rfl) (frm_one _ _ _ _ _) ?_))
        have hF8 := setRow_heap w7 w.heap.size _ #[.int .u64 q, .int .i64 win, .slice va xs.length vc] _ _ HR7.out.2
        have y0 : (w7.setRow w.heap.size #[.int .u64 q, .int .i64 win, .slice va xs.length vc]).cell? ⟨w.heap.size, 0, none⟩ = some (.int .u64 q) := by rw [cell_of_row _ _ _ _ _ _ hF8]; rfl
        have y1 : (w7.setRow w.heap.size #[.int .u64 q, .int .i64 win, .slice va xs.length vc]).cell? ⟨w.heap.size, 1, none⟩ = some (.int .i64 win) := by rw [cell_of_row _ _ _ _ _ _ hF8]; rfl
        have y2 : (w7.setRow w.heap.size #[.int .u64 q, .int .i64 win, .slice va xs.length vc]).cell? ⟨w.heap.size, 2, none⟩ = some (.slice va xs.length vc) := by rw [cell_of_row _ _ _ _ _ _ hF8]; rfl
        refine bodyPost_ret (v := .tuple #[frv q win (.slice va xs.length vc), .int .i64 0]) ?_ rfl ?_
        · simp [results, Try.results13, go_sem, y0, y1, y2]
          try rfl
        · have ho : Only (· = w.heap.size) w7 (w7.setRow w.heap.size #[.int .u64 q, .int .i64 win, .slice va xs.length vc]) := ⟨rfl, rfl, rfl, by simp, fun k _ hn => setRow_other w7 w.heap.size k _ hn⟩
          exact ⟨va, vc, rfl, ho.rd HV7.out (fun ad e h => by have := hVX.out ad e; have h : ad.block = w.heap.size := h; omega), HR7.out.1.trans (ho.below HR7.out.1.size (fun k h => by have h : k = w.heap.size := h; omega))⟩
  · have hZ2 := Lib.hid (show -1 - (Z : Int) / 2 = win by rw [HZ.out]; unfold zig; rw [if_neg hwin]; omega)
    have hodd : ((Z : Int) % 2 == 1) = true := by rw [beq_iff_eq, HZ.out]; unfold zig; rw [if_neg hwin]; omega
    go_wp2_with fail
    have HF4 := Lib.hid (show ((w3.setCell ⟨w1.heap.size, 1, none⟩ (.int .i64 ((Z : Int) / 2))).setCell ⟨w1.heap.size, 1, none⟩ (.int .i64 (-1 - (Z : Int) / 2))).heap[w1.heap.size]? = some (.cells #[.int .u64 q, .int .i64 win, .slice none 0 0] 38 (0, 0)) by rw [heap_setCell_same _ _ _ _ _ _ (heap_setCell_same _ _ _ _ _ _ HF3.out), hZ2.out]; rfl)
    have HE4 := Lib.hid ((HE3.out.set hG 1 (.int .i64 ((Z : Int) / 2))).set hG 1 (.int .i64 (-1 - (Z : Int) / 2)))
    obtain ⟨w4, hw4⟩ : ∃ w4, w4 = (w3.setCell ⟨w1.heap.size, 1, none⟩ (.int .i64 ((Z : Int) / 2))).setCell ⟨w1.heap.size, 1, none⟩ (.int .i64 (-1 - (Z : Int) / 2)) := ⟨_, rfl⟩
    rw [← hw4] at HF4 HE4 ⊢
    clear hw4 f31 z31 HF3 HE3 hodd hZ2 hzb
    refine (HN3.out _ HE4.out.1).mono ?_
    rintro e w5 ⟨rfl, rfl⟩
    go_wp2_with fail
    have HI := Lib.hid (show DecI w w1.heap.size q win xs b 0 p3 w4 from ⟨HE4.out, _, HF4.out, World.ownsRow_nil _ _ _ _, HD3.out⟩)
    clear HE4 HF4
    go_loopw [8, 11] (fun s8 i wr => ∃ k p : Nat, k ≤ xs.length ∧ i = .int .u64 k ∧ s8 = .int .i64 p ∧ DecI w w1.heap.size q win xs b k p wr) (fun _ i _ => xs.length - (intOf i).toNat)
    case atStart => exact ⟨0, p3, by omega, rfl, rfl, HI.out⟩
    case round =>
      obtain ⟨k, p, hk, rfl, rfl, hRD, v, hfb, hown, hdr⟩ := hrel
      have HRD := Lib.hid hRD
      have HFB := Lib.hid hfb
      have HOW := Lib.hid hown
      have HDR := Lib.hid hdr
      have g1 : wr.cell? ⟨w1.heap.size, 1, none⟩ = some (.int .i64 win) := by rw [cell_of_row _ _ _ _ _ _ hfb]; rfl
      have hGl : w1.heap.size < wr.heap.size := (Array.getElem?_eq_some_iff.1 hfb).1
      clear hRD hfb hown hdr HI
      by_cases hlt : k < xs.length
      · have hmem := List.getElem_mem hlt
        have hd5 : b.drop p = recB xs[k] ++ (xs.drop (k + 1)).flatMap recB := by rw [HDR.out, List.drop_eq_getElem_cons hlt, List.flatMap_cons]
        have hwx := (HP4.out _ hmem).1
        have hc := HREC.out wr p xs[k] _ HRD.out.1 hmem hd5
        have HTK := Lib.hid (rcf_succ xs k hlt)
        have HMORE := Lib.hid (drop_more hd5)
        rw [hwx] at hc
        obtain ⟨x, hx⟩ : ∃ x, x = xs[k] := ⟨_, rfl⟩
        rw [← hx] at hc HTK HMORE
        have HC := Lib.hid hc
        have hkl : (k : Int) < xs.length := by omega
        clear hmem hd5 hwx hc hx HDR
        go_wp2_with fail
        refine HC.out.mono ?_
        rintro e w6 ⟨rfl, hb6⟩
        have HR6 := Lib.hid (HRD.out.keep hb6)
        have h6 := (hb6.block _ hGl).trans HFB.out
        have HF6 := Lib.hid h6
        have HO6 := Lib.hid (Only.own (Only.of_new (F := fun _ => False) hb6) HOW.out (fun _ _ h => h))
        have f62 : w6.cell? ⟨w1.heap.size, 2, none⟩ = some v := by rw [cell_of_row _ _ _ _ _ _ h6]; rfl
        have z62 : w6.frozen? ⟨w1.heap.size, 2, none⟩ = false := frozen_of_row w6 _ 2 _ _ h6
        have hG6 : w1.heap.size < w6.heap.size := (Array.getElem?_eq_some_iff.1 h6).1
        obtain ⟨ri, hri, hrz, hrs, hrb⟩ := recz_parts
        clear hb6 HFB HOW HC h6 HRD
        obtain ⟨nm, wn, inc, rate, ov⟩ := x
        simp only [Rec.cells]
        go_wp2_with (first
          | (at_builtin; refine K.step_append_at _ rfl _ _ 30 rfl (w1.heap.size + 1) 70 ri zrecV 5 48 Try.underlying30 hri hrz hrs hrb rfl (by decide) _ _ _ rfl (Only.own (((Only.refl (fun _ => False) w6).alloc _).alloc _) HO6.out (fun _ _ h => h)) ⟨w6.heap.size + 1, 0, none⟩ 1 1 (Rec.cells ⟨nm, wn, inc, rate, ov⟩).toList rfl rfl (row_new1 _ _ _ _ _) (rcells_one _) ?d1 ?d2 ?d3 ?_)
          | fail)
        case d1 => unfold maxLen; omega
        case d2 => omega
        case d3 => simp; omega
        intro v0 w9 hown9 hg9 _ _
        obtain ⟨va, vc, rfl, _⟩ := own_row5 hown9
        obtain ⟨v', hv'⟩ : ∃ v', v' = Value.slice va (k + 1) vc := ⟨_, rfl⟩
        have HV := Lib.hid hv'
        rw [← hv'] at hown9
        have ho9 : Only (fun j => w1.heap.size + 1 ≤ j) w6 w9 := (((Only.refl (fun j => w1.heap.size + 1 ≤ j) w6).alloc _).alloc _).grown hg9 (fun j hj _ => (HO6.out.lt j hj).1)
        have hf9 := ho9.heap HF6.out (by omega)
        have c92 : w9.cell? ⟨w1.heap.size, 2, none⟩ = some v := by rw [cell_of_row _ _ _ _ _ _ hf9]; rfl
        have ff9 : w9.frozen? ⟨w1.heap.size, 2, none⟩ = false := frozen_of_row w9 _ 2 _ _ hf9
        have HR9 : RDS w w9 := ⟨HR6.out.1.trans (ho9.below HR6.out.1.size (fun j h => by have h : w1.heap.size + 1 ≤ j := h; omega)), ho9.heap HR6.out.2 (by omega)⟩
        have HR10 := Lib.hid (HR9.set hG 2 v')
        have HF10 := Lib.hid (show (w9.setCell ⟨w1.heap.size, 2, none⟩ v').heap[w1.heap.size]? = some (.cells #[.int .u64 q, .int .i64 win, v'] 38 (0, 0)) by rw [heap_setCell_same _ _ _ _ _ _ hf9]; rfl)
        have HW10 := Lib.hid (((Only.refl (fun j => j = w1.heap.size) w9).setCell ⟨w1.heap.size, 2, none⟩ v' (fun _ => rfl)).own hown9 (fun j hj e => by have h1 := (hown9.lt j hj).1; have e : j = w1.heap.size := e; omega))
        clear hown9 hg9 ho9 hf9 HR9 HO6 HR6 HF6 f62 z62
        rw [HV.out] at HR10 HF10 HW10
        go_wp2
        go_roundw
        case rel => exact ⟨k + 1, _, by omega, by go_num, by go_num, HR10.out, _, HF10.out, by rw [HTK.out]; exact HW10.out, HMORE.out⟩
        case measure => simp [intOf]; omega
      · obtain rfl : k = xs.length := by omega
        have hpn : (n : Int) ≤ p := by
          have h := congrArg List.length HDR.out
          rw [List.drop_length, List.length_drop, HBL.out] at h
          simp at h
          omega
        obtain ⟨va, vc, rfl, hrv⟩ := own_row5 HOW.out
        have HOWN := Lib.hid HOW.out
        rw [List.take_length] at hrv
        have HRV := Lib.hid hrv
        have g0 : wr.cell? ⟨w1.heap.size, 0, none⟩ = some (.int .u64 q) := by rw [cell_of_row _ _ _ _ _ _ HFB.out]; rfl
        have g2 : wr.cell? ⟨w1.heap.size, 2, none⟩ = some (.slice va xs.length vc) := by rw [cell_of_row _ _ _ _ _ _ HFB.out]; rfl
        have hmy := rmay_any wr q win va vc xs (by omega) (fun x hx => (HS.out x hx).1) HRV.out (by omega)
        rw [HM.out] at hmy
        unfold frv at hmy
        have HMY := Lib.hid hmy
        clear hrv HOW hmy
        go_wp2_with fail
        refine HMY.out.mono ?_
        rintro e w7 ⟨rfl, hb7⟩
        have hF7 := (hb7.block _ (Array.getElem?_eq_some_iff.1 HFB.out).1).trans HFB.out
        have HR7 := Lib.hid (HRD.out.keep hb7)
        have HZ7 := Lib.hid (show w7.heap[w.heap.size]? = some (.cells #[.int .u64 0, .int .i64 0, .slice none 0 0] 38 (0, 0)) from HR7.out.2)
        have HV7 := Lib.hid (HRV.out.below hb7 (Nat.le_refl _))
        have x0 : w7.cell? ⟨w1.heap.size, 0, none⟩ = some (.int .u64 q) := by rw [cell_of_row _ _ _ _ _ _ hF7]; rfl
        have x1 : w7.cell? ⟨w1.heap.size, 1, none⟩ = some (.int .i64 win) := by rw [cell_of_row _ _ _ _ _ _ hF7]; rfl
        have x2 : w7.cell? ⟨w1.heap.size, 2, none⟩ = some (.slice va xs.length vc) := by rw [cell_of_row _ _ _ _ _ _ hF7]; rfl
        have hVX := Lib.hid (show ∀ ad, va = some ad → w.heap.size < ad.block from fun ad e => by subst e; have := (HOWN.out.lt ad.block rfl).1; omega)
        clear hb7 hF7 HMY HRV HFB HRD g0 g1 g2
        go_wp2_with (first | (with_reducible refine K.step_store_row rfl 38 _ _ rfl w.heap.size rfl #[.int .u64 q, .int .i64 win, .slice va xs.length vc] rfl #[.int .u64 0, .int .i64 0, .slice none 0 0] 38 HZ7.out rfl (by kernel_rfl) (frm_one _ _ _ _ _) ?_))
        have hF8 := setRow_heap w7 w.heap.size _ #[.int .u64 q, .int .i64 win, .slice va xs.length vc] _ _ HR7.out.2
        have y0 : (w7.setRow w.heap.size #[.int .u64 q, .int .i64 win, .slice va xs.length vc]).cell? ⟨w.heap.size, 0, none⟩ = some (.int .u64 q) := by rw [cell_of_row _ _ _ _ _ _ hF8]; rfl
        have y1 : (w7.setRow w.heap.size #[.int .u64 q, .int .i64 win, .slice va xs.length vc]).cell? ⟨w.heap.size, 1, none⟩ = some (.int .i64 win) := by rw [cell_of_row _ _ _ _ _ _ hF8]; rfl
        have y2 : (w7.setRow w.heap.size #[.int .u64 q, .int .i64 win, .slice va xs.length vc]).cell? ⟨w.heap.size, 2, none⟩ = some (.slice va xs.length vc) := by rw [cell_of_row _ _ _ _ _ _ hF8]; rfl
        refine bodyPost_ret (v := .tuple #[frv q win (.slice va xs.length vc), .int .i64 0]) ?_ rfl ?_
        · simp [results, Try.results13, go_sem, y0, y1, y2]
          try rfl
        · have ho : Only (· = w.heap.size) w7 (w7.setRow w.heap.size #[.int .u64 q, .int .i64 win, .slice va xs.length vc]) := ⟨rfl, rfl, rfl, by simp, fun k _ hn => setRow_other w7 w.heap.size k _ hn⟩
          exact ⟨va, vc, rfl, ho.rd HV7.out (fun ad e h => by have := hVX.out ad e; have h : ad.block = w.heap.size := h; omega), HR7.out.1.trans (ho.below HR7.out.1.size (fun k h => by have h : k = w.heap.size := h; omega))⟩
end Go.Proofs.Ytdomnjakhecbaaa
