/- The walks over net's bytes: read, what is left, the state, how many. -/
import Derived.Test.YtepdnmpcccgcaaaNetP
namespace Go.Proofs.Ytepdnmpcccgcaaa
open Go.RowKit K
section
variable {w : World} {B n : Nat} {most dialed : Int} {l : List CV} {F : List Nat}
/-- What a connection holds that was not read. -/
def vin (id : Int) (l : List CV) : List UInt8 := match vfind id l with | some v => v.inn | none => []
def vout (id : Int) (l : List CV) : List UInt8 := match vfind id l with | some v => v.out | none => []
def vst (id : Int) (l : List CV) : Int := match vfind id l with | some v => v.st | none => 0
def ReadPost (w : World) (B n : Nat) (F : List Nat) (most dialed : Int) (l l' : List CV) (id : Int) (v : Value) (w' : World) : Prop :=
  ∃ F', NetIs w' B n most dialed l' F' ∧ Only (· ∈ F) w w' ∧ (∀ k ∈ F', k ∈ F) ∧ Buf w' B v (vin id l) ∧ ∀ k, v.ownBlock = some k → k ∈ F ∧ k ∉ F'
theorem getE_nil (id : Int) (es : List CE) : (∃ e, getE id [] es = (some e, 0) ∧ cfind id es = some e) ∨ (getE id [] es = (none, 8) ∧ cfind id es = none) := by
  unfold getE
  cases cfind id es with
  | none => exact .inr ⟨rfl, rfl⟩
  | some e => exact .inl ⟨e, rfl, rfl⟩
set_option maxHeartbeats 1000000 in
theorem read_any (h : NetIs w B n most dialed l F) (hB : B ≤ w.heap.size) (id : Int) :
    Calls Try.prog 12 #[.pointer (some ⟨n, 0, none⟩), .int .i64 id] w fun e w' => ∃ v, e = .returned v ∧ ReadPost w B n F most dialed l (vupd id [] (fun v => { v with inn := [] }) l) id v w' := by
  obtain ⟨M, es, h1, rfl, rfl⟩ := h
  have hget := get_any h1 id none 0 [] (by simp) (Rd.nil w none)
  rcases getE_nil id es with ⟨e, hg, hf⟩ | ⟨hg, hf⟩
  · obtain ⟨pre, post, hes, hid, hcs⟩ := cset_split hf
    rw [vupd_some (e' := { e with inn := [], iv := .slice none 0 0 }) hg rfl, hcs]
    rw [hg, ptr_some] at hget
    have hvin : vin id (es.map CE.vw) = e.inn := by unfold vin; rw [vfind_map, hf]; rfl
    subst hes
    have hcn := h1.2.2.1 e (by simp)
    have hnd := h1.nodup
    have hap := CE.apart hnd
    have c2 : w.cell? ⟨e.c, 2, none⟩ = some e.iv := conn_cell hcn 2
    have f2 : w.frozen? ⟨e.c, 2, none⟩ = false := frozen_of_row _ _ _ _ _ hcn.1
    obtain ⟨a0, k0, hform⟩ := ownsRow_form hcn.2.1.1
    have hcn2 : ConnAt (w.setCell ⟨e.c, 2, none⟩ (.slice none 0 0)) B { e with inn := [], iv := .slice none 0 0 } :=
      conn_set hcn hnd 2 _ _ rfl rfl (Buf.nil _ _) (hcn.2.2.setCell _ _ hap.2.1)
    have hnd2 : ({ e with inn := [], iv := .slice none 0 0 } : CE).blocks.Nodup := by
      unfold CE.blocks at hnd ⊢
      exact hnd.sublist (List.Sublist.cons_cons _ (List.sublist_append_right _ _))
    have hsub : ∀ k ∈ ({ e with inn := [], iv := .slice none 0 0 } : CE).blocks, k ∈ e.blocks := fun k hk => by
      simp only [CE.blocks, List.mem_cons, List.mem_append] at hk ⊢
      rcases hk with hk | hk | hk
      · exact .inl hk
      · exact absurd hk (by simp [Value.ownBlock])
      · exact .inr (.inr hk)
    have hpost := NetPost.of_turned (e' := { e with inn := [], iv := .slice none 0 0 }) h1 ((Only.refl (· ∈ e.blocks) _).setCell ⟨e.c, 2, none⟩ (.slice none 0 0) (fun _ => by simp [CE.blocks])) rfl rfl hcn2
      (fun k hk => .inl (hsub k hk)) hnd2 hB
    have hread : ReadPost w B n (foot n M (pre ++ e :: post)) most dialed ((pre ++ e :: post).map CE.vw) ((pre ++ { e with inn := [], iv := .slice none 0 0 } :: post).map CE.vw) id e.iv (w.setCell ⟨e.c, 2, none⟩ (.slice none 0 0)) := by
      refine ⟨_, ⟨M, _, hpost.1, rfl, rfl⟩, hpost.2.1, ?_, ?_, ?_⟩
      · intro k hk
        rw [foot_split] at hk ⊢
        rcases List.mem_append.1 hk with hk | hk
        · exact List.mem_append_left _ hk
        · rcases List.mem_append.1 hk with hk | hk
          · exact List.mem_append_right _ (List.mem_append_left _ (hsub k hk))
          · exact List.mem_append_right _ (List.mem_append_right _ hk)
      · rw [hvin]
        exact hcn.2.1.setCell _ _ hap.1
      · intro k hk
        have h4 := h1.2.2.2.1
        rw [foot_split] at h4 ⊢
        rw [foot_split]
        have hke : k ∈ e.blocks := by simp [CE.blocks, hk]
        refine ⟨by simp [hke], ?_⟩
        obtain ⟨n1, n2, n3⟩ := List.nodup_append.1 h4
        obtain ⟨m1, m2, m3⟩ := List.nodup_append.1 n2
        intro hm
        rcases List.mem_append.1 hm with hm | hm
        · exact n3 k hm k (List.mem_append_left _ hke) rfl
        · rcases List.mem_append.1 hm with hm | hm
          · simp only [CE.blocks, List.mem_cons, List.mem_append, Option.mem_toList] at hm
            rcases hm with hm | hm | hm
            · exact hap.1 (by rw [hk, hm])
            · simp [Value.ownBlock] at hm
            · exact hap.2.2 k hk hm
          · exact m3 k hke k hm rfl
    have HP := Lib.hid hread
    have HG := Lib.hid hget
    obtain ⟨iv, hiv⟩ : ∃ iv, iv = e.iv := ⟨_, rfl⟩
    rw [← hiv] at c2 hform
    rw [hform] at c2
    have HIV := Lib.hid (hform.symm.trans hiv)
    clear hpost hread hcn hcn2 hget hcs h1 hnd hnd2 hsub hf hg hid hap hform hiv hvin
    go_enter Try.func12, Try.ntmps12
    go_wp2_with fail
    refine HG.out.mono ?_
    rintro e' w' ⟨rfl, rfl⟩
    go_wp2
    go_ret
    exact ⟨_, rfl, by rw [HIV.out]; exact HP.out⟩
  · rw [vupd_none hg]
    rw [hg, ptr_none] at hget
    have hvin : vin id (es.map CE.vw) = [] := by unfold vin; rw [vfind_map, hf]; rfl
    have hread : ReadPost w B n (foot n M es) most dialed (es.map CE.vw) (es.map CE.vw) id (.slice none 0 0) w :=
      ⟨_, ⟨M, _, h1, rfl, rfl⟩, Only.refl _ _, fun _ h => h, by rw [hvin]; exact Buf.nil _ _, by simp [Value.ownBlock]⟩
    have HG := Lib.hid hget
    have HP := Lib.hid hread
    clear hget hg h1 hread hvin hf
    go_enter Try.func12, Try.ntmps12
    go_wp2_with fail
    refine HG.out.mono ?_
    rintro e' w' ⟨rfl, rfl⟩
    go_wp2
    go_ret
    exact ⟨_, rfl, HP.out⟩
set_option maxHeartbeats 400000 in
theorem state_any (h : NetIs w B n most dialed l F) (id : Int) :
    Calls Try.prog 30 #[.pointer (some ⟨n, 0, none⟩), .int .i64 id] w fun e w' => e = .returned (.int .i64 (vst id l)) ∧ w = w' := by
  obtain ⟨M, es, h1, rfl, rfl⟩ := h
  have hget := get_any h1 id none 0 [] (by simp) (Rd.nil w none)
  rcases getE_nil id es with ⟨e, hg, hf⟩ | ⟨hg, hf⟩
  · obtain ⟨pre, post, hes, hid, hcs⟩ := cset_split hf
    rw [hg, ptr_some] at hget
    have hv : vst id (es.map CE.vw) = e.st := by unfold vst; rw [vfind_map, hf]; rfl
    subst hes
    have hcn := h1.2.2.1 e (by simp)
    have c1 : w.cell? ⟨e.c, 1, none⟩ = some (.int .i64 e.st) := conn_cell hcn 1
    have HV := Lib.hid hv
    have HG := Lib.hid hget
    clear hget hcs h1 hf hg hid hv hcn
    go_enter Try.func30, Try.ntmps30
    go_wp2_with fail
    refine HG.out.mono ?_
    rintro e' w' ⟨rfl, rfl⟩
    go_wp2
    go_ret
    exact ⟨by rw [HV.out]; rfl, rfl⟩
  · rw [hg, ptr_none] at hget
    have hv : vst id (es.map CE.vw) = 0 := by unfold vst; rw [vfind_map, hf]; rfl
    have HV := Lib.hid hv
    have HG := Lib.hid hget
    clear hget hg h1 hf hv
    go_enter Try.func30, Try.ntmps30
    go_wp2_with fail
    refine HG.out.mono ?_
    rintro e' w' ⟨rfl, rfl⟩
    go_wp2
    go_ret
    exact ⟨by rw [HV.out]; rfl, rfl⟩
set_option maxHeartbeats 400000 in
theorem left_any (h : NetIs w B n most dialed l F) (id : Int) :
    Calls Try.prog 13 #[.pointer (some ⟨n, 0, none⟩), .int .i64 id] w fun e w' => e = .returned (.int .i64 ((vin id l).length : Int)) ∧ w = w' := by
  obtain ⟨M, es, h1, rfl, rfl⟩ := h
  have hget := get_any h1 id none 0 [] (by simp) (Rd.nil w none)
  rcases getE_nil id es with ⟨e, hg, hf⟩ | ⟨hg, hf⟩
  · obtain ⟨pre, post, hes, hid, hcs⟩ := cset_split hf
    rw [hg, ptr_some] at hget
    have hv : ((vin id (es.map CE.vw)).length : Int) = (e.inn.length : Int) := by unfold vin; rw [vfind_map, hf]; rfl
    subst hes
    have hcn := h1.2.2.1 e (by simp)
    have c2 : w.cell? ⟨e.c, 2, none⟩ = some e.iv := conn_cell hcn 2
    obtain ⟨a0, k0, hform⟩ := ownsRow_form hcn.2.1.1
    rw [hform] at c2
    have HV := Lib.hid hv
    have HG := Lib.hid hget
    clear hget hcs h1 hf hg hid hv hcn hform
    go_enter Try.func13, Try.ntmps13
    go_wp2_with fail
    refine HG.out.mono ?_
    rintro e' w' ⟨rfl, rfl⟩
    go_wp2
    go_ret
    exact ⟨by rw [HV.out]; rfl, rfl⟩
  · rw [hg, ptr_none] at hget
    have hv : ((vin id (es.map CE.vw)).length : Int) = 0 := by unfold vin; rw [vfind_map, hf]; rfl
    have HV := Lib.hid hv
    have HG := Lib.hid hget
    clear hget hg h1 hf hv
    go_enter Try.func13, Try.ntmps13
    go_wp2_with fail
    refine HG.out.mono ?_
    rintro e' w' ⟨rfl, rfl⟩
    go_wp2
    go_ret
    exact ⟨by rw [HV.out]; rfl, rfl⟩
set_option maxHeartbeats 400000 in
theorem len_any (h : NetIs w B n most dialed l F) :
    Calls Try.prog 29 #[.pointer (some ⟨n, 0, none⟩)] w fun e w' => e = .returned (.int .i64 (l.length : Int)) ∧ w = w' := by
  obtain ⟨M, es, h1, rfl, rfl⟩ := h
  have hlen := K.run_len_map (P := Try.prog) h1.2.1 Try.underlying48 3
  have hl : ((es.map CE.vw).length : Int) = ((ents es).length : Int) := by simp [ents]
  rw [hl]
  have c0 := h1.c0
  clear hl h1
  go_enter Try.func29, Try.ntmps29
  go_wp2
  go_ret
  exact ⟨rfl, rfl⟩
end
end Go.Proofs.Ytepdnmpcccgcaaa
