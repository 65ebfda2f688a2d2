/- The walks over net's exported functions, each upon a net in memory, and what they do to what is seen of it. -/
import Derived.Test.YtepdnmpcccgcaaaNetM
namespace Go.Proofs.Ytepdnmpcccgcaaa
open Go.RowKit K
/-- What is seen of a connection. -/
structure CV where
  id : Int
  host : ByteArray
  st : Int
  inn : List UInt8
  out : List UInt8
def CE.vw (e : CE) : CV := ⟨e.id, e.host, e.st, e.inn, e.out⟩
def vfind (id : Int) (l : List CV) : Option CV := l.find? fun e => decide (id = e.id)
def vset (id : Int) (v : CV) : List CV → List CV
  | [] => []
  | x :: r => if id = x.id then v :: r else x :: vset id v r
/-- Which connection is meant, or why none. -/
def vget (id : Int) (sts : List Int) (l : List CV) : Option CV × Int :=
  match vfind id l with
  | none => (none, 8)
  | some e => if sts = [] then (some e, 0) else if sts.contains e.st then (some e, 0) else (none, 7)
def vupd (id : Int) (sts : List Int) (f : CV → CV) (l : List CV) : List CV :=
  match (vget id sts l).1 with
  | some e => vset id (f e) l
  | none => l
theorem vfind_map (id : Int) : ∀ es : List CE, vfind id (es.map CE.vw) = (cfind id es).map CE.vw
  | [] => rfl
  | e :: es => by
    have ih := vfind_map id es
    by_cases h : id = e.id
    · simp [vfind, cfind, CE.vw, h]
    · have h1 : vfind id ((e :: es).map CE.vw) = vfind id (es.map CE.vw) := by simp [vfind, CE.vw, h]
      have h2 : cfind id (e :: es) = cfind id es := by simp [cfind, h]
      rw [h1, h2, ih]
theorem vset_map (id : Int) (e' : CE) : ∀ es : List CE, vset id e'.vw (es.map CE.vw) = (cset id e' es).map CE.vw
  | [] => rfl
  | e :: es => by
    have ih := vset_map id e' es
    by_cases h : id = e.id
    · simp [vset, cset, CE.vw, h]
    · have h1 : vset id e'.vw ((e :: es).map CE.vw) = e.vw :: vset id e'.vw (es.map CE.vw) := by simp [vset, CE.vw, h]
      have h2 : cset id e' (e :: es) = e :: cset id e' es := by simp [cset, h]
      rw [h1, h2, ih]; rfl
theorem vget_map (id : Int) (sts : List Int) (es : List CE) : vget id sts (es.map CE.vw) = ((getE id sts es).1.map CE.vw, (getE id sts es).2) := by
  unfold vget getE
  rw [vfind_map]
  cases cfind id es with
  | none => rfl
  | some e =>
    simp only [Option.map_some]
    split
    · rfl
    · rw [show e.vw.st = e.st from rfl]
      split <;> rfl
theorem vupd_some {id : Int} {sts : List Int} {f : CV → CV} {es : List CE} {e e' : CE} {c : Int} (h : getE id sts es = (some e, c)) (he : e'.vw = f e.vw) : vupd id sts f (es.map CE.vw) = (cset id e' es).map CE.vw := by
  unfold vupd
  rw [vget_map, h]
  simp only [Option.map_some]
  rw [← he, vset_map]
theorem vupd_none {id : Int} {sts : List Int} {f : CV → CV} {es : List CE} {c : Int} (h : getE id sts es = (none, c)) : vupd id sts f (es.map CE.vw) = es.map CE.vw := by
  unfold vupd
  rw [vget_map, h]
  rfl
/-- The net in memory, as it is seen: most, how many were dialled, the connections. -/
def NetIs (w : World) (B n : Nat) (most dialed : Int) (l : List CV) (F : List Nat) : Prop := ∃ M es, NetAt w B n M most dialed es ∧ es.map CE.vw = l ∧ F = foot n M es
/-- From one net to another one: nothing else was turned. -/
def NetTo (w : World) (B n : Nat) (F : List Nat) (most dialed : Int) (l : List CV) (w' : World) : Prop := ∃ F', NetIs w' B n most dialed l F' ∧ Only (· ∈ F) w w' ∧ ∀ k ∈ F', k ∈ F ∨ w.heap.size ≤ k
theorem NetTo.of_post {w w' : World} {B n M : Nat} {most d d' : Int} {es es' : List CE} {l : List CV} (h : NetPost w B n M most d d' es es' w') (hl : es'.map CE.vw = l) : NetTo w B n (foot n M es) most d' l w' :=
  ⟨foot n M es', ⟨M, es', h.1, hl, rfl⟩, h.2.1, h.2.2.1⟩
section
variable {w : World} {B n : Nat} {most dialed : Int} {l : List CV} {F : List Nat}
theorem NetIs.lt (h : NetIs w B n most dialed l F) : ∀ k ∈ F, B ≤ k ∧ k < w.heap.size := by
  obtain ⟨M, es, h1, _, rfl⟩ := h
  exact fun k hk => ⟨h1.2.2.2.2 k hk, h1.lt k hk⟩
theorem NetIs.only {w' : World} {G : Nat → Prop} (h : NetIs w B n most dialed l F) (ho : Only G w w') (hn : ∀ k ∈ F, ¬ G k) : NetIs w' B n most dialed l F := by
  obtain ⟨M, es, h1, h2, rfl⟩ := h
  exact ⟨M, es, h1.only ho hn, h2, rfl⟩
theorem NetIs.below {w' : World} {D : Nat} (h : NetIs w B n most dialed l F) (hb : Below D w w') (hD : w.heap.size ≤ D) : NetIs w' B n most dialed l F := by
  obtain ⟨M, es, h1, h2, rfl⟩ := h
  exact ⟨M, es, h1.below hb hD, h2, rfl⟩
theorem NetTo.only {w1 w2 : World} {l1 : List CV} {d1 : Int} (h : NetTo w B n F most d1 l1 w1) (hb : Below w1.heap.size w1 w2) : NetTo w B n F most d1 l1 w2 := by
  obtain ⟨F', h1, h2, h3⟩ := h
  exact ⟨F', h1.below hb (Nat.le_refl _), h2.trans (Only.of_new (F := (· ∈ F)) hb) (fun _ _ h => h), h3⟩
set_option maxHeartbeats 1000000 in
theorem accept_any (h : NetIs w B n most dialed l F) (hB : B ≤ w.heap.size) (id : Int) :
    Calls Try.prog 10 #[.pointer (some ⟨n, 0, none⟩), .int .i64 id] w fun e w' => e = .returned (.int .i64 (vget id [1] l).2) ∧ NetTo w B n F most dialed (vupd id [1] (fun v => { v with st := 2 }) l) w' := by
  obtain ⟨M, es, h1, rfl, rfl⟩ := h
  have hb0 : Below w.heap.size w (w.alloc (.cells #[.int .i64 1] 55)) := (Below.refl _ _).alloc (Nat.le_refl _) _
  have ht := turn_any (h1.below hb0 (Nat.le_refl _)) (by simp; omega) id 2 (some ⟨w.heap.size, 0, none⟩) 1 [1] (by simp) (Rd.new w #[.int .i64 1] _ (0, 0) _ (fun k v h => by simpa [stv] using h))
  have HT := Lib.hid ht
  have H1 := Lib.hid h1
  have HB0 := Lib.hid hb0
  have hv : (vget id [1] (es.map CE.vw)).2 = (getE id [1] es).2 := by rw [vget_map]
  have hu : vupd id [1] (fun v => { v with st := 2 }) (es.map CE.vw) = (turnS id 2 [1] es).map CE.vw := by
    unfold turnS
    rcases getE_cases id [1] es with ⟨e, hg, _⟩ | ⟨code, hg, _⟩
    · rw [vupd_some (e' := { e with st := 2 }) hg rfl]; simp only [hg]
    · rw [vupd_none hg]; simp only [hg]
  rw [hv, hu]
  clear ht h1 hb0 hv hu
  go_enter Try.func10, Try.ntmps10
  go_wp2_with fail
  refine HT.out.mono ?_
  rintro e w' ⟨rfl, hp⟩
  have HP := Lib.hid hp
  clear hp
  go_wp2
  go_ret
  exact ⟨rfl, NetTo.of_post (HP.out.start H1.out HB0.out) rfl⟩
set_option maxHeartbeats 1000000 in
theorem refuse_any (h : NetIs w B n most dialed l F) (hB : B ≤ w.heap.size) (id : Int) :
    Calls Try.prog 24 #[.pointer (some ⟨n, 0, none⟩), .int .i64 id] w fun e w' => e = .returned (.int .i64 (vget id [1] l).2) ∧ NetTo w B n F most dialed (vupd id [1] (fun v => { v with st := 4 }) l) w' := by
  obtain ⟨M, es, h1, rfl, rfl⟩ := h
  have hb0 : Below w.heap.size w (w.alloc (.cells #[.int .i64 1] 55)) := (Below.refl _ _).alloc (Nat.le_refl _) _
  have ht := turn_any (h1.below hb0 (Nat.le_refl _)) (by simp; omega) id 4 (some ⟨w.heap.size, 0, none⟩) 1 [1] (by simp) (Rd.new w #[.int .i64 1] _ (0, 0) _ (fun k v h => by simpa [stv] using h))
  have HT := Lib.hid ht
  have H1 := Lib.hid h1
  have HB0 := Lib.hid hb0
  have hv : (vget id [1] (es.map CE.vw)).2 = (getE id [1] es).2 := by rw [vget_map]
  have hu : vupd id [1] (fun v => { v with st := 4 }) (es.map CE.vw) = (turnS id 4 [1] es).map CE.vw := by
    unfold turnS
    rcases getE_cases id [1] es with ⟨e, hg, _⟩ | ⟨code, hg, _⟩
    · rw [vupd_some (e' := { e with st := 4 }) hg rfl]; simp only [hg]
    · rw [vupd_none hg]; simp only [hg]
  rw [hv, hu]
  clear ht h1 hb0 hv hu
  go_enter Try.func24, Try.ntmps24
  go_wp2_with fail
  refine HT.out.mono ?_
  rintro e w' ⟨rfl, hp⟩
  have HP := Lib.hid hp
  clear hp
  go_wp2
  go_ret
  exact ⟨rfl, NetTo.of_post (HP.out.start H1.out HB0.out) rfl⟩
set_option maxHeartbeats 1000000 in
theorem end_any (h : NetIs w B n most dialed l F) (hB : B ≤ w.heap.size) (id : Int) :
    Calls Try.prog 14 #[.pointer (some ⟨n, 0, none⟩), .int .i64 id] w fun e w' => e = .returned (.int .i64 (vget id [2] l).2) ∧ NetTo w B n F most dialed (vupd id [2] (fun v => { v with st := 3 }) l) w' := by
  obtain ⟨M, es, h1, rfl, rfl⟩ := h
  have hb0 : Below w.heap.size w (w.alloc (.cells #[.int .i64 2] 55)) := (Below.refl _ _).alloc (Nat.le_refl _) _
  have ht := turn_any (h1.below hb0 (Nat.le_refl _)) (by simp; omega) id 3 (some ⟨w.heap.size, 0, none⟩) 1 [2] (by simp) (Rd.new w #[.int .i64 2] _ (0, 0) _ (fun k v h => by simpa [stv] using h))
  have HT := Lib.hid ht
  have H1 := Lib.hid h1
  have HB0 := Lib.hid hb0
  have hv : (vget id [2] (es.map CE.vw)).2 = (getE id [2] es).2 := by rw [vget_map]
  have hu : vupd id [2] (fun v => { v with st := 3 }) (es.map CE.vw) = (turnS id 3 [2] es).map CE.vw := by
    unfold turnS
    rcases getE_cases id [2] es with ⟨e, hg, _⟩ | ⟨code, hg, _⟩
    · rw [vupd_some (e' := { e with st := 3 }) hg rfl]; simp only [hg]
    · rw [vupd_none hg]; simp only [hg]
  rw [hv, hu]
  clear ht h1 hb0 hv hu
  go_enter Try.func14, Try.ntmps14
  go_wp2_with fail
  refine HT.out.mono ?_
  rintro e w' ⟨rfl, hp⟩
  have HP := Lib.hid hp
  clear hp
  go_wp2
  go_ret
  exact ⟨rfl, NetTo.of_post (HP.out.start H1.out HB0.out) rfl⟩
theorem vget_code (id : Int) (sts : List Int) (es : List CE) : (vget id sts (es.map CE.vw)).2 = (getE id sts es).2 := by rw [vget_map]
set_option maxHeartbeats 1000000 in
theorem reset_any (h : NetIs w B n most dialed l F) (hB : B ≤ w.heap.size) (id : Int) :
    Calls Try.prog 25 #[.pointer (some ⟨n, 0, none⟩), .int .i64 id] w fun e w' => e = .returned (.int .i64 (vget id [2, 3] l).2) ∧ NetTo w B n F most dialed (vupd id [2, 3] (fun v => { v with st := 5, inn := [] }) l) w' := by
  obtain ⟨M, es, h1, rfl, rfl⟩ := h
  have hb0 : Below w.heap.size w (w.alloc (.cells #[.int .i64 2, .int .i64 3] 55)) := (Below.refl _ _).alloc (Nat.le_refl _) _
  have h2 := h1.below hb0 (Nat.le_refl _)
  have hget := get_any h2 id (some ⟨w.heap.size, 0, none⟩) 2 [2, 3] (by simp) (Rd.new w #[.int .i64 2, .int .i64 3] _ (0, 0) _ (fun k v h => by simpa [stv] using h))
  rw [vget_code]
  rcases getE_cases id [2, 3] es with ⟨e, hg, hf⟩ | ⟨code, hg, hcode⟩
  · obtain ⟨pre, post, hes, hid, hcs⟩ := cset_split hf
    rw [vupd_some (e' := { e with st := 5, inn := [], iv := .slice none 0 0 }) hg rfl, hcs]
    rw [hg, ptr_some] at hget
    rw [hg]
    subst hes
    have hcn := h2.2.2.1 e (by simp)
    have hnd := h2.nodup
    have hap := CE.apart hnd
    have c1 : (w.alloc (.cells #[.int .i64 2, .int .i64 3] 55)).cell? ⟨e.c, 1, none⟩ = some (.int .i64 e.st) := conn_cell hcn 1
    have f1 : (w.alloc (.cells #[.int .i64 2, .int .i64 3] 55)).frozen? ⟨e.c, 1, none⟩ = false := frozen_of_row _ _ _ _ _ hcn.1
    have c2 : (w.alloc (.cells #[.int .i64 2, .int .i64 3] 55)).cell? ⟨e.c, 2, none⟩ = some e.iv := conn_cell hcn 2
    have f2 : (w.alloc (.cells #[.int .i64 2, .int .i64 3] 55)).frozen? ⟨e.c, 2, none⟩ = false := frozen_of_row _ _ _ _ _ hcn.1
    generalize hw : w.alloc (.cells #[.int .i64 2, .int .i64 3] 55) = wa at *
    have hcn2 : ConnAt (wa.setCell ⟨e.c, 1, none⟩ (.int .i64 5)) B { e with st := 5 } :=
      conn_set hcn hnd 1 _ _ rfl rfl (hcn.2.1.setCell _ _ hap.1) (hcn.2.2.setCell _ _ hap.2.1)
    have hcn3 : ConnAt ((wa.setCell ⟨e.c, 1, none⟩ (.int .i64 5)).setCell ⟨e.c, 2, none⟩ (.slice none 0 0)) B { e with st := 5, inn := [], iv := .slice none 0 0 } :=
      conn_set hcn2 hnd 2 _ _ rfl rfl (Buf.nil _ _) (hcn2.2.2.setCell _ _ hap.2.1)
    have hpost := NetPost.of_turned (e' := { e with st := 5, inn := [], iv := .slice none 0 0 }) h2 (((Only.refl (· ∈ e.blocks) _).setCell ⟨e.c, 1, none⟩ (.int .i64 5) (fun _ => by simp [CE.blocks])).setCell ⟨e.c, 2, none⟩ (.slice none 0 0) (fun _ => by simp [CE.blocks])) rfl rfl hcn3
      (fun k hk => .inl (by simp only [CE.blocks, List.mem_cons, List.mem_append] at hk ⊢; rcases hk with hk | hk | hk; exact .inl hk; exact absurd hk (by simp [Value.ownBlock]); exact .inr (.inr hk)))
      (by unfold CE.blocks at hnd ⊢; exact hnd.sublist (List.Sublist.cons_cons _ (List.sublist_append_right _ _))) (by rw [← hw]; simp; omega)
    have HP := Lib.hid (NetTo.of_post (hpost.start h1 hb0) rfl)
    have HG := Lib.hid hget
    have HW := Lib.hid hw
    clear hpost hcn hcn2 hcn3 hget hcs h1 h2 hnd hf hg hid hap hb0 hw
    go_enter Try.func25, Try.ntmps25
    go_wp2_with fail
    rw [HW.out]
    refine HG.out.mono ?_
    rintro e' w' ⟨rfl, rfl⟩
    go_wp2
    go_ret
    exact ⟨rfl, HP.out⟩
  · rw [vupd_none hg]
    rw [hg, ptr_none] at hget
    rw [hg]
    have hc0 : (code == 0) = false := by rw [beq_eq_false_iff_ne]; omega
    have HG := Lib.hid hget
    have HP := Lib.hid (NetTo.of_post ((NetPost.refl h2).start h1 hb0) rfl)
    clear hget hg hcode h1 h2 hb0
    go_enter Try.func25, Try.ntmps25
    go_wp2_with fail
    refine HG.out.mono ?_
    rintro e' w' ⟨rfl, rfl⟩
    go_wp2
    go_ret
    exact ⟨rfl, HP.out⟩
end
end Go.Proofs.Ytepdnmpcccgcaaa
