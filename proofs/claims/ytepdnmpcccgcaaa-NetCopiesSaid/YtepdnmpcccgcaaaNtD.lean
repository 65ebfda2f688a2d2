/- The walks over slices.Clone at bytes, Sent, Close. -/
import Derived.Test.YtepdnmpcccgcaaaNtC
namespace Go.Proofs.Ytepdnmpcccgcaaa
open Go.RowKit K
theorem bytes_not_nil (w : World) (ad : Addr) (n c : Nat) : Sem.run Try.prog (binOp .eql 22 (.slice (some ad) n c) (.slice none 0 0)) w = .ok (.bool false) w := by kernel_rfl
theorem bytes_nil (w : World) : Sem.run Try.prog (binOp .eql 22 (.slice none 0 0) (.slice none 0 0)) w = .ok (.bool true) w := by kernel_rfl
theorem bv_one (l : List UInt8) : ∀ v ∈ bv l, v.oneCell' = true := fun v hv => by
  obtain ⟨x, _, rfl⟩ := List.mem_map.1 hv
  rfl
theorem rd_cellsB {w : World} {b off : Nat} {vs : List Value} (h : Rd w (some ⟨b, off, none⟩) vs) : ∀ j u, vs[j]? = some u → w.cell? ((⟨b, off, none⟩ : Addr).add j) = some u := fun j u hu => by
  obtain ⟨b', off', e, hc⟩ := h j u hu
  cases e
  rw [Addr.add_lit]
  exact hc
set_option maxHeartbeats 400000 in
set_option maxRecDepth 100000 in
theorem cloneb_any {w : World} {B : Nat} {v : Value} {l : List UInt8} (h : Buf w B v l) (hl : l.length ≤ 1000000) :
    Calls Try.prog 42 #[v] w fun e w' => ∃ v', e = .returned v' ∧ Buf w' w.heap.size v' l ∧ Below w.heap.size w w' := by
  cases l with
  | nil =>
    obtain rfl := h.2 rfl
    have hcmp := bytes_nil w
    clear h
    go_enter Try.func42, Try.ntmps42
    go_wp2
    go_ret
    exact ⟨_, rfl, Buf.nil _ _, Below.refl _ _⟩
  | cons x r =>
    obtain ⟨ri, hri, hrz, hrs, hrb⟩ := info_parts info_byte
    obtain ⟨a, c, rfl, hc, hr, -⟩ := h.rd
    obtain ⟨b, off, rfl, hb, hcell⟩ := hr.at (k := 0) (v := .int .u8 x.toNat) (by simp [bv])
    have HR := Lib.hid hr
    have HRI := Lib.hid hri
    have hcmp := bytes_not_nil w ⟨b, off, none⟩ (r.length + 1) c
    clear hcell hr hri h
    go_enter Try.func42, Try.ntmps42
    go_wp2_with (first
      | (at_builtin; refine K.step_append_app _ rfl _ _ 22 rfl w.heap.size 5 ri (.int .u8 0) 1 1 Try.underlying22 HRI.out hrz hrs hrb rfl (by decide) _ 0 [] rfl (.inr ⟨rfl, ⟨w.heap.size, 0, none⟩, rfl, fun j u h => by cases h⟩) ⟨b, off, none⟩ (r.length + 1) c (bv (x :: r)) rfl (by simp [bv]) (rd_cellsB (HR.out.below ((Below.refl _ _).alloc (Nat.le_refl _) _) (Nat.le_refl _))) (bv_one _) ?d1 ?d2 ?d3 ?d4 ?_)
      | fail)
    case d1 => simp
    case d2 => unfold maxLen; simp only [List.length_cons] at hl ⊢; omega
    case d3 => simp only [List.length_cons] at hl ⊢; omega
    case d4 => simp
    intro v' w' hown hb'
    obtain ⟨a', c', rfl⟩ := ownsRow_form hown
    go_wp2
    go_ret
    exact ⟨_, rfl, ⟨hown, fun h => by cases h⟩, ((Below.refl _ w).alloc (Nat.le_refl _) _).trans hb'⟩
section
variable {w : World} {B n : Nat} {most dialed : Int} {l : List CV} {F : List Nat}
set_option maxHeartbeats 400000 in
theorem sent_any (h : NetIs w B n most dialed l F) (hl : ∀ v ∈ l, v.out.length ≤ 1000000) (id : Int) :
    Calls Try.prog 28 #[.pointer (some ⟨n, 0, none⟩), .int .i64 id] w fun e w' => ∃ v, e = .returned v ∧ Buf w' w.heap.size v (vout id l) ∧ Below w.heap.size w w' := by
  obtain ⟨M, es, h1, rfl, rfl⟩ := h
  have hget := get_any h1 id none 0 [] (by simp) (Rd.nil w none)
  rcases getE_nil id es with ⟨e, hg, hf⟩ | ⟨hg, hf⟩
  · obtain ⟨pre, post, hes, hid, hcs⟩ := cset_split hf
    rw [hg, ptr_some] at hget
    have hv : vout id (es.map CE.vw) = e.out := by unfold vout; rw [vfind_map, hf]; rfl
    rw [hv]
    subst hes
    have hcn := h1.2.2.1 e (by simp)
    have c3 : w.cell? ⟨e.c, 3, none⟩ = some e.ov := conn_cell hcn 3
    have HC := Lib.hid (cloneb_any hcn.2.2 (hl e.vw (by simp)))
    obtain ⟨a0, k0, hform⟩ := ownsRow_form hcn.2.2.1
    rw [hform] at c3 HC
    have HG := Lib.hid hget
    clear hget hcs h1 hf hg hid hv hcn hform hl
    go_enter Try.func28, Try.ntmps28
    go_wp2_with fail
    refine HG.out.mono ?_
    rintro e' w' ⟨rfl, rfl⟩
    go_wp2_with fail
    refine HC.out.mono ?_
    rintro e' w' ⟨v, rfl, hb, hbb⟩
    obtain ⟨a1, k1, rfl⟩ := ownsRow_form hb.1
    have HB := Lib.hid hb
    have HBB := Lib.hid hbb
    clear hb hbb
    go_wp2
    go_ret
    exact ⟨_, rfl, HB.out, HBB.out⟩
  · rw [hg, ptr_none] at hget
    have hv : vout id (es.map CE.vw) = [] := by unfold vout; rw [vfind_map, hf]; rfl
    rw [hv]
    have HG := Lib.hid hget
    clear hget hg h1 hf hv hl
    go_enter Try.func28, Try.ntmps28
    go_wp2_with fail
    refine HG.out.mono ?_
    rintro e' w' ⟨rfl, rfl⟩
    go_wp2
    go_ret
    exact ⟨_, rfl, Buf.nil _ _, Below.refl _ _⟩
def vdel (id : Int) : List CV → List CV
  | [] => []
  | v :: r => if id = v.id then r else v :: vdel id r
theorem cdel_split {id : Int} : ∀ {es : List CE} {e : CE}, cfind id es = some e → ∃ pre post, es = pre ++ e :: post ∧ mdel id (ents es) = ents (pre ++ post) ∧ vdel id (es.map CE.vw) = (pre ++ post).map CE.vw
  | [], _, h => by cases h
  | y :: r, e, h => by
    by_cases hx : id = y.id
    · have : y = e := by simpa [cfind, hx] using h
      subst this
      exact ⟨[], r, rfl, by simp [ents, mdel, hx], by simp [vdel, CE.vw, hx]⟩
    · have h' : cfind id r = some e := by simpa [cfind, hx] using h
      obtain ⟨pre, post, h1, h2, h3⟩ := cdel_split h'
      refine ⟨y :: pre, post, by rw [h1]; rfl, ?_, ?_⟩
      · simp only [ents, List.map_cons, mdel, if_neg hx, List.cons_append] at h2 ⊢
        rw [h2]
      · have hx' : ¬ id = y.vw.id := hx
        simp only [List.map_cons, vdel, if_neg hx', h3, List.cons_append]
theorem vdel_none {id : Int} : ∀ {l : List CV}, vfind id l = none → vdel id l = l
  | [], _ => rfl
  | v :: r, h => by
    by_cases hx : id = v.id
    · simp [vfind, hx] at h
    · have h' : vfind id r = none := by simpa [vfind, hx] using h
      simp only [vdel, if_neg hx, vdel_none h']
set_option maxHeartbeats 1000000 in
theorem close_any (h : NetIs w B n most dialed l F) (id : Int) :
    Calls Try.prog 27 #[.pointer (some ⟨n, 0, none⟩), .int .i64 id] w fun e w' => e = .returned (.int .i64 (vget id [] l).2) ∧ NetTo w B n F most dialed (vdel id l) w' := by
  obtain ⟨M, es, h1, rfl, rfl⟩ := h
  have hget := get_any h1 id none 0 [] (by simp) (Rd.nil w none)
  rw [vget_code]
  rcases getE_nil id es with ⟨e, hg, hf⟩ | ⟨hg, hf⟩
  · obtain ⟨pre, post, hes, hmd, hvd⟩ := cdel_split hf
    rw [hg, ptr_some] at hget
    rw [hg, hvd]
    have c0 := h1.c0
    have HM := Lib.hid h1.2.1
    have HFIN := Lib.hid (fun w2 (hm2 : MapAt iEnc w2 M (mdel id (ents es))) (ho : Only (· = M) w w2) => (show NetTo w B n (foot n M es) most dialed ((pre ++ post).map CE.vw) w2 from by
      rw [hmd] at hm2
      have hsub : ∀ k ∈ foot n M (pre ++ post), k ∈ foot n M es := fun k hk => by
        rw [hes]
        simp only [foot, List.mem_cons, List.flatMap_append, List.flatMap_cons, List.mem_append] at hk ⊢
        rcases hk with hk | hk | hk | hk
        · exact .inl hk
        · exact .inr (.inl hk)
        · exact .inr (.inr (.inl hk))
        · exact .inr (.inr (.inr (.inr hk)))
      have hnd := h1.2.2.2.1
      have hnM : n ≠ M := fun e => (List.nodup_cons.1 hnd).1 (by simp [e])
      refine ⟨foot n M (pre ++ post), ⟨M, pre ++ post, ⟨ho.heap h1.1 hnM, hm2, fun e' he' => ?_, ?_, fun k hk => h1.2.2.2.2 k (hsub k hk)⟩, rfl, rfl⟩, ho.mono (fun k _ e => by rw [e]; simp [foot]), fun k hk => .inl (hsub k hk)⟩
      · have hin : e' ∈ es := by
          rw [hes]
          rcases List.mem_append.1 he' with h | h
          · exact List.mem_append_left _ h
          · exact List.mem_append_right _ (List.mem_cons_of_mem _ h)
        refine (h1.2.2.1 e' hin).only ho (fun k hk e => ?_)
        have h5 := (List.nodup_cons.1 (List.nodup_cons.1 hnd).2).1
        exact h5 (by rw [← e]; exact List.mem_flatMap.2 ⟨e', hin, hk⟩)
      · rw [hes] at hnd
        refine hnd.sublist ?_
        simp only [foot, List.flatMap_append, List.flatMap_cons]
        exact List.Sublist.cons_cons _ (List.Sublist.cons_cons _ (List.Sublist.append_left (List.sublist_append_right _ _) _))))
    have HG := Lib.hid hget
    clear hget h1 hf hg hmd hvd hes
    go_enter Try.func27, Try.ntmps27
    go_wp2_with fail
    refine HG.out.mono ?_
    rintro e' w' ⟨rfl, rfl⟩
    go_wp2_with (first
      | (with_reducible refine step_delete iKey rfl _ _ _ _ rfl Try.underlying48 rfl HM.out id rfl ?_)
      | fail)
    intro w2 d1 d2 d3
    have HN := Lib.hid (HFIN.out w2 d1 d2)
    clear d1 d2 d3
    go_wp2
    go_ret
    exact ⟨rfl, HN.out⟩
  · rw [hg, ptr_none] at hget
    rw [hg, vdel_none (by rw [vfind_map, hf]; rfl)]
    have HG := Lib.hid hget
    have HN := Lib.hid (show NetTo w B n (foot n M es) most dialed (es.map CE.vw) w from ⟨_, ⟨M, es, h1, rfl, rfl⟩, Only.refl _ _, fun _ h => .inl h⟩)
    clear hget hg h1 hf
    go_enter Try.func27, Try.ntmps27
    go_wp2_with fail
    refine HG.out.mono ?_
    rintro e' w' ⟨rfl, rfl⟩
    go_wp2
    go_ret
    exact ⟨rfl, HN.out⟩
end
end Go.Proofs.Ytepdnmpcccgcaaa
