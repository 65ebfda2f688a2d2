/- The walks over net.New and Dial. -/
import Derived.Test.YtepdnmpcccgcaaaNetQ
import Derived.BigQuiet
import Derived.Deep.QuietTactic
import Derived.RegionTactic
import Derived.BigRegion
import Derived.ChangeAlike
namespace Go.Proofs.Ytepdnmpcccgcaaa
open Go.RowKit K
section
variable {w : World} {B n : Nat} {most dialed : Int} {l : List CV} {F : List Nat}
def NewPost (w : World) (B : Nat) (m : Int) (e : Ending) (w' : World) : Prop := ∃ n F, e = .returned (.pointer (some ⟨n, 0, none⟩)) ∧ NetIs w' B n (max m 0) 0 [] F ∧ Below w.heap.size w w' ∧ ∀ k ∈ F, w.heap.size ≤ k
set_option maxHeartbeats 1000000 in
theorem new_any (B : Nat) (hB : B ≤ w.heap.size) (m : Int) :
    Calls Try.prog 8 #[.int .i64 m] w (NewPost w B m) := by
  have hmm := @run_makeMap Try.prog
  have hm0 : MapAt iEnc (w.alloc (.map #[] 0)) w.heap.size (ents []) := MapAt.new iEnc w
  have hnet : ∀ x : Int, NetIs ((w.alloc (.map #[] 0)).alloc (.cells #[.map (some w.heap.size), .int .i64 x, .int .i64 0] 50)) B (w.heap.size + 1) x 0 [] [w.heap.size + 1, w.heap.size] := fun x => by
    refine ⟨w.heap.size, [], ⟨?_, ?_, by simp, by simp [foot], by simp [foot]; omega⟩, rfl, rfl⟩
    · have := heap_alloc_new (w.alloc (.map #[] 0)) (.cells #[.map (some w.heap.size), .int .i64 x, .int .i64 0] 50)
      simpa using this
    · exact hm0.only (F := fun _ => False) (Only.of_new ((Below.refl _ _).alloc (Nat.le_refl _) _)) (fun h => h)
  have hbel : ∀ x : Int, Below w.heap.size w ((w.alloc (.map #[] 0)).alloc (.cells #[.map (some w.heap.size), .int .i64 x, .int .i64 0] 50)) := fun x => ((Below.refl _ _).alloc (Nat.le_refl _) _).alloc (by simp) _
  have HN := Lib.hid hnet
  have HB := Lib.hid hbel
  clear hnet hbel hm0
  by_cases h : 0 ≤ m
  · have HM := Lib.hid (show max m 0 = m by omega)
    go_enter Try.func8, Try.ntmps8
    go_wp2
    go_ret
    refine ⟨w.heap.size + 1, [w.heap.size + 1, w.heap.size], rfl, ?_, ?_, ?_⟩
    · rw [HM.out]; exact HN.out m
    · exact HB.out m
    · simp
  · have HM := Lib.hid (show max m 0 = 0 by omega)
    go_enter Try.func8, Try.ntmps8
    go_wp2
    go_ret
    refine ⟨w.heap.size + 1, [w.heap.size + 1, w.heap.size], rfl, ?_, ?_, ?_⟩
    · rw [HM.out]; exact HN.out 0
    · exact HB.out 0
    · simp
set_option maxHeartbeats 1000000 in
theorem dial_full (h : NetIs w B n most dialed l F) (host : ByteArray) (hfull : most ≤ (l.length : Int)) :
    Calls Try.prog 9 #[.pointer (some ⟨n, 0, none⟩), .string host] w fun e w' => e = .returned (.tuple #[.int .i64 0, .int .i64 6]) ∧ NetTo w B n F most dialed l w' := by
  obtain ⟨M, es, h1, rfl, rfl⟩ := h
  have hlen := fun k => K.run_len_map (P := Try.prog) (h1.2.1.drewN k) Try.underlying48 3
  have hl : ((es.map CE.vw).length : Int) = ((ents es).length : Int) := by simp [ents]
  rw [hl] at hfull
  have c0 := h1.c0
  have c1 := h1.c1
  have H1 := Lib.hid h1
  clear hl h1
  go_enter Try.func9, Try.ntmps9
  go_wp2
  go_quiet (fail)
  go_wp2
  go_ret2
  exact ⟨rfl, _, ⟨M, es, H1.out.only (F := fun _ => False) ((Only.refl _ _).drewN _) (fun _ _ h => h), rfl, rfl⟩, (Only.refl _ _).drewN _, fun _ h => .inl h⟩
set_option maxHeartbeats 2000000 in
theorem dial_any (h : NetIs w B n most dialed l F) (hB : B ≤ w.heap.size) (hd : 0 ≤ dialed) (hd2 : dialed ≤ 1000000) (hnew : vfind (dialed + 1) l = none) (host : ByteArray) (hroom : (l.length : Int) < most) :
    Calls Try.prog 9 #[.pointer (some ⟨n, 0, none⟩), .string host] w fun e w' => e = .returned (.tuple #[.int .i64 (dialed + 1), .int .i64 0]) ∧ NetTo w B n F most (dialed + 1) (l ++ [⟨dialed + 1, host, 1, [], []⟩]) w' := by
  obtain ⟨M, es, h1, rfl, rfl⟩ := h
  have hmg : mget (dialed + 1) (ents es) = none := by
    rw [vfind_map] at hnew
    rw [mget_ents]
    cases hc : cfind (dialed + 1) es with
    | none => rfl
    | some e => rw [hc] at hnew; cases hnew
  have HMG := Lib.hid hmg
  clear hmg
  have hlen := fun k => K.run_len_map (P := Try.prog) (h1.2.1.drewN k) Try.underlying48 3
  have hl : ((es.map CE.vw).length : Int) = ((ents es).length : Int) := by simp [ents]
  rw [hl] at hroom
  have c0 := h1.c0
  have c1 := h1.c1
  have c2 := h1.c2
  have f2 : w.frozen? ⟨n, 2, none⟩ = false := frozen_of_row _ _ _ _ _ h1.1
  have H1 := Lib.hid h1
  clear hl h1 hnew
  go_enter Try.func9, Try.ntmps9
  go_wp2
  go_quiet (fail)
  clear hlen
  go_wp2
  obtain ⟨wa, hwa⟩ : ∃ wa, wa = (w.drewN nq).setCell ⟨n, 2, none⟩ (.int .i64 (dialed + 1)) := ⟨_, rfl⟩
  rw [← hwa]
  have hoa : Only (· = n) w wa := by rw [hwa]; exact ((Only.refl _ _).drewN nq).setCell _ _ (fun _ => rfl)
  have hsz : wa.heap.size = w.heap.size := by rw [hwa]; simp
  have hna : wa.heap[n]? = some (.cells #[.map (some M), .int .i64 most, .int .i64 (dialed + 1)] 50 (0, 0)) := by
    rw [hwa, heap_setCell_same (w.drewN nq) n 2 #[.map (some M), .int .i64 most, .int .i64 dialed] 50 _ H1.out.1]
    rfl
  have hfd := H1.out.2.2.2.1
  have hnlt : n < wa.heap.size := (Array.getElem?_eq_some_iff.1 hna).1
  have hnM : M ≠ n := fun e => (List.nodup_cons.1 hfd).1 (by simp [e])
  have hma : MapAt iEnc wa M (ents es) := H1.out.2.1.only hoa hnM
  have hma2 : MapAt iEnc ((wa.alloc (.cells #[.string host, .int .i64 1, .slice none 0 0, .slice none 0 0] 60)).drew) M (ents es) :=
    hma.only (F := fun _ => False) ((Only.of_new ((Below.refl _ _).alloc (Nat.le_refl _) _)).drew) (fun h => h)
  obtain ⟨o, hup, hm2⟩ := run_update iKey hma2 Try.underlying48 (dialed + 1) (.pointer (some ⟨wa.heap.size, 0, none⟩))
  have hon : Only (· = M) ((wa.alloc (.cells #[.string host, .int .i64 1, .slice none 0 0, .slice none 0 0] 60)).drew) (ChangeMaps.setBlock ((wa.alloc (.cells #[.string host, .int .i64 1, .slice none 0 0, .slice none 0 0] 60)).drew) M o) := (Only.refl _ _).setBlock M o (fun _ => rfl)
  have hup2 : Sem.run Try.prog (Instr.mapUpdate 48 (.map (some M)) (.int .i64 (dialed + 1)) (.pointer (some ⟨wa.heap.size, 0, none⟩))) ((wa.alloc (.cells #[.string host, .int .i64 1, .slice none 0 0, .slice none 0 0] 60)).drew) = .ok () (ChangeMaps.setBlock ((wa.alloc (.cells #[.string host, .int .i64 1, .slice none 0 0, .slice none 0 0] 60)).drew) M o) := hup
  clear hup
  generalize ChangeMaps.setBlock ((wa.alloc (.cells #[.string host, .int .i64 1, .slice none 0 0, .slice none 0 0] 60)).drew) M o = w2 at hup2 hm2 hon
  have c0' : wa.cell? ⟨n, 0, none⟩ = some (.map (some M)) := by rw [cell_of_row _ _ _ _ _ _ hna]; rfl
  have c2' : wa.cell? ⟨n, 2, none⟩ = some (.int .i64 (dialed + 1)) := by rw [cell_of_row _ _ _ _ _ _ hna]; rfl
  have hn2 : w2.heap[n]? = some (.cells #[.map (some M), .int .i64 most, .int .i64 (dialed + 1)] 50 (0, 0)) := by
    have hal : (wa.alloc (.cells #[.string host, .int .i64 1, .slice none 0 0, .slice none 0 0] 60)).heap[n]? = some (.cells #[.map (some M), .int .i64 most, .int .i64 (dialed + 1)] 50 (0, 0)) :=
      (Below.heap_alloc wa _ n (Array.getElem?_eq_some_iff.1 hna).1).trans hna
    exact hon.heap hal (fun e => hnM e.symm)
  have c2'' : w2.cell? ⟨n, 2, none⟩ = some (.int .i64 (dialed + 1)) := by rw [cell_of_row _ _ _ _ _ _ hn2]; rfl
  have hfin : NetTo w B n (foot n M es) most (dialed + 1) (es.map CE.vw ++ [⟨dialed + 1, host, 1, [], []⟩]) w2 := by
    have hlt := H1.out.lt
    have hot : Only (· ∈ foot n M es) w w2 := by
      have h3 : Only (· ∈ foot n M es) w (wa.alloc (.cells #[.string host, .int .i64 1, .slice none 0 0, .slice none 0 0] 60)).drew :=
        ((hoa.mono (fun k _ e => by rw [e]; simp [foot])).alloc _).drew
      exact h3.trans hon (fun k _ e => by rw [e]; simp [foot])
    have hnew : w2.heap[wa.heap.size]? = some (.cells #[.string host, .int .i64 1, .slice none 0 0, .slice none 0 0] 60 (0, 0)) := by
      refine hon.heap (heap_alloc_new wa _) (fun e => ?_)
      have := hlt M (by simp [foot])
      omega
    refine ⟨foot n M (es ++ [⟨dialed + 1, host, 1, [], [], wa.heap.size, .slice none 0 0, .slice none 0 0⟩]), ⟨M, _, ⟨hn2, ?_, ?_, ?_, ?_⟩, by simp [CE.vw], rfl⟩, hot, ?_⟩
    · have he : ents (es ++ [⟨dialed + 1, host, 1, [], [], wa.heap.size, .slice none 0 0, .slice none 0 0⟩]) = mput (dialed + 1) (.pointer (some ⟨wa.heap.size, 0, none⟩)) (ents es) := by
        rw [(mget_none _ _ HMG.out).2]
        simp [ents]
      rw [he]
      exact hm2
    · intro e he
      rcases List.mem_append.1 he with he | he
      · have hce := H1.out.2.2.1 e he
        have hnd : ∀ k ∈ e.blocks, k ∈ foot n M es → k ≠ n ∧ k ≠ M := fun k hk _ => by
          have h5 := List.nodup_cons.1 hfd
          have hin : k ∈ es.flatMap CE.blocks := List.mem_flatMap.2 ⟨e, he, hk⟩
          exact ⟨fun h => h5.1 (by rw [← h]; exact List.mem_cons_of_mem _ hin), fun h => (List.nodup_cons.1 h5.2).1 (by rw [← h]; exact hin)⟩
        have hmem : ∀ k ∈ e.blocks, k ∈ foot n M es := fun k hk => by
          simp only [foot, List.mem_cons, List.mem_flatMap]
          exact .inr (.inr ⟨e, he, hk⟩)
        have hca : ConnAt wa B e := hce.only hoa (fun k hk => (hnd k hk (hmem k hk)).1)
        have hcb : ConnAt (wa.alloc (.cells #[.string host, .int .i64 1, .slice none 0 0, .slice none 0 0] 60)).drew B e := hca.only (F := fun _ => False) ((Only.of_new ((Below.refl _ _).alloc (Nat.le_refl _) _)).drew) (fun _ _ h => h)
        exact hcb.only hon (fun k hk => (hnd k hk (hmem k hk)).2)
      · simp at he
        subst he
        exact ⟨hnew, Buf.nil _ _, Buf.nil _ _⟩
    · have : foot n M (es ++ [⟨dialed + 1, host, 1, [], [], wa.heap.size, .slice none 0 0, .slice none 0 0⟩]) = foot n M es ++ [wa.heap.size] := by simp [foot, CE.blocks, Value.ownBlock]
      rw [this]
      refine List.nodup_append.2 ⟨hfd, by simp, fun a ha b hb e => ?_⟩
      simp at hb
      have := hlt a ha
      omega
    · have : foot n M (es ++ [⟨dialed + 1, host, 1, [], [], wa.heap.size, .slice none 0 0, .slice none 0 0⟩]) = foot n M es ++ [wa.heap.size] := by simp [foot, CE.blocks, Value.ownBlock]
      rw [this]
      intro k hk
      rcases List.mem_append.1 hk with hk | hk
      · exact H1.out.2.2.2.2 k hk
      · simp at hk; omega
    · have : foot n M (es ++ [⟨dialed + 1, host, 1, [], [], wa.heap.size, .slice none 0 0, .slice none 0 0⟩]) = foot n M es ++ [wa.heap.size] := by simp [foot, CE.blocks, Value.ownBlock]
      rw [this]
      intro k hk
      rcases List.mem_append.1 hk with hk | hk
      · exact .inl hk
      · simp at hk; exact .inr (by omega)
  have HF := Lib.hid hfin
  clear c0 c1 c2 f2 hwa hoa hsz hna hfd hnM hma hma2 hm2 hon hn2 hfin
  go_region
  all_goals (try go_wp2)
  go_ret2
  exact ⟨rfl, HF.out⟩
end
end Go.Proofs.Ytepdnmpcccgcaaa
