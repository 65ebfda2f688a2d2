/- The walks over net's bytes: arrive, send, read, what is left, the state. -/
import Derived.Test.YtepdnmpcccgcaaaNetO
namespace Go.Proofs.Ytepdnmpcccgcaaa
open Go.RowKit K
theorem ownsRow_form {w : World} {B e n : Nat} {v : Value} {xs : List Value} (h : w.ownsRow B e 1 v n xs) : ∃ a c, v = .slice a n c := by
  obtain ⟨a, c, h1, _⟩ := App.cells (.inl h)
  exact ⟨a, c, h1⟩
theorem info_byte : (Try.prog.info? 5).map (fun i => (i.zero, i.size, i.bytes)) = some (some (.int .u8 0), 1, 1) := by kernel_rfl
/-- Bytes appended onto a buffer. -/
theorem Buf.appended {w w' : World} {B : Nat} {v v' : Value} {l b : List UInt8} (h : w'.ownsRow B 5 1 v' (l.length + b.length) (bv l ++ bv b)) (hn : v' = .slice none 0 0 ↔ v = .slice none 0 0 ∧ bv b = []) (hv : Buf w B v l) : Buf w' B v' (l ++ b) := by
  refine ⟨?_, fun he => ?_⟩
  · rw [List.length_append, show bv (l ++ b) = bv l ++ bv b from by simp [bv]]
    exact h
  · have h1 := List.append_eq_nil_iff.1 he
    exact hn.2 ⟨hv.2 h1.1, by rw [h1.2]; rfl⟩
section
variable {w : World} {B n : Nat} {most dialed : Int} {l : List CV} {F : List Nat}
set_option maxHeartbeats 1000000 in
theorem arrive_any (h : NetIs w B n most dialed l F) (hB : B ≤ w.heap.size) (id : Int) (a : Option Addr) (c : Nat) (b : List UInt8) (hr : Rd w a (bv b)) (hbd : ∀ v ∈ l, v.inn.length + b.length ≤ 70368744177664) :
    Calls Try.prog 11 #[.pointer (some ⟨n, 0, none⟩), .int .i64 id, .slice a b.length c] w fun e w' => e = .returned (.int .i64 (vget id [2] l).2) ∧ NetTo w B n F most dialed (vupd id [2] (fun v => { v with inn := v.inn ++ b }) l) w' := by
  obtain ⟨M, es, h1, rfl, rfl⟩ := h
  have hb0 : Below w.heap.size w (w.alloc (.cells #[.int .i64 2] 55)) := (Below.refl _ _).alloc (Nat.le_refl _) _
  have h2 := h1.below hb0 (Nat.le_refl _)
  have hr2 := hr.below hb0 (Nat.le_refl _)
  have hget := get_any h2 id (some ⟨w.heap.size, 0, none⟩) 1 [2] (by simp) (Rd.new w #[.int .i64 2] _ (0, 0) _ (fun k v h => by simpa [stv] using h))
  obtain ⟨i0, hi0, hz0, hz1, hz2⟩ := info_parts info_byte
  rw [vget_code]
  rcases getE_cases id [2] es with ⟨e, hg, hf⟩ | ⟨code, hg, hcode⟩
  · obtain ⟨pre, post, hes, hid, hcs⟩ := cset_split hf
    rw [hg, ptr_some] at hget
    rw [hg]
    subst hes
    have hcn := h2.2.2.1 e (by simp)
    have hnd := h2.nodup
    have hap := CE.apart hnd
    have hlen : e.inn.length + b.length ≤ 70368744177664 := hbd e.vw (by simp)
    have c2 : (w.alloc (.cells #[.int .i64 2] 55)).cell? ⟨e.c, 2, none⟩ = some e.iv := conn_cell hcn 2
    obtain ⟨a0, k0, hform⟩ := ownsRow_form hcn.2.1.1
    have hsz : B ≤ (w.alloc (.cells #[.int .i64 2] 55)).heap.size := by simp; omega
    have hgo : ∀ v' w1, w1.ownsRow B 5 1 v' (e.inn.length + b.length) (bv e.inn ++ bv b) → (w.alloc (.cells #[.int .i64 2] 55)).grownBy w1 e.iv.ownBlock → (v' = .slice none 0 0 ↔ e.iv = .slice none 0 0 ∧ bv b = []) →
        (v'.ownBlock = e.iv.ownBlock ∨ v'.ownBlock = some (w.alloc (.cells #[.int .i64 2] 55)).heap.size) →
        (w1.cell? ⟨e.c, 2, none⟩ = some e.iv ∧ w1.frozen? ⟨e.c, 2, none⟩ = false) ∧ NetTo w B n (foot n M (pre ++ e :: post)) most dialed (vupd id [2] (fun v => { v with inn := v.inn ++ b }) ((pre ++ e :: post).map CE.vw)) (w1.setCell ⟨e.c, 2, none⟩ v') := by
      intro v' w1 hown hgr hnil hloc
      rw [vupd_some (e' := { e with inn := e.inn ++ b, iv := v' }) hg rfl, hcs]
      generalize hw : w.alloc (.cells #[.int .i64 2] 55) = wa at *
      have hne : some e.c ≠ e.iv.ownBlock := fun he => hap.1 he.symm
      have hlt := h2.lt
      have hcl : e.c < wa.heap.size := hcn.lt e.c (by simp [CE.blocks])
      have hc1 : w1.heap[e.c]? = some (.cells #[.string e.host, .int .i64 e.st, e.iv, e.ov] 60 (0, 0)) := (hgr.block e.c hcl hne).trans hcn.1
      refine ⟨⟨by rw [cell_of_row _ _ _ _ _ _ hc1]; rfl, frozen_of_row _ _ _ _ _ hc1⟩, ?_⟩
      have ho1 : Only (· ∈ e.blocks) wa w1 := (Only.refl _ _).grown hgr (fun k hk _ => by simp [CE.blocks, hk])
      have hv' : v'.ownBlock ≠ some e.c := by
        rcases hloc with h | h
        · rw [h]; exact hap.1
        · rw [h]; intro he; simp at he; omega
      have hov1 : Buf w1 B e.ov e.out := hcn.2.2.only (F := fun k => e.iv.ownBlock = some k) ((Only.refl _ _).grown hgr (fun k hk _ => hk)) (fun k hk hi => hap.2.2 k hi hk)
      have hbuf : Buf w1 B v' (e.inn ++ b) := Buf.appended hown hnil hcn.2.1
      have hconn : ConnAt (w1.setCell ⟨e.c, 2, none⟩ v') B { e with inn := e.inn ++ b, iv := v' } := by
        refine ⟨?_, hbuf.setCell _ _ hv', hov1.setCell _ _ hap.2.1⟩
        rw [heap_setCell_same _ _ _ _ _ _ hc1]
        rfl
      have hov : ∀ k, e.ov.ownBlock = some k → k < wa.heap.size := fun k hk => hcn.lt k (by simp [CE.blocks, hk])
      have hpost := NetPost.of_turned (e' := { e with inn := e.inn ++ b, iv := v' }) h2 (ho1.setCell ⟨e.c, 2, none⟩ v' (fun _ => by simp [CE.blocks])) rfl rfl hconn
        (fun k hk => by
          simp only [CE.blocks, List.mem_cons, List.mem_append, Option.mem_toList] at hk ⊢
          rcases hk with hk | hk | hk
          · exact .inl (.inl hk)
          · rcases hloc with h | h
            · rw [h] at hk; exact .inl (.inr (.inl hk))
            · rw [h] at hk; simp at hk; exact .inr (by omega)
          · exact .inl (.inr (.inr hk)))
        (by
          rcases hloc with h | h
          · simp only [CE.blocks, h]; exact hnd
          · simp only [CE.blocks, h, Option.toList_some, List.singleton_append]
            unfold CE.blocks at hnd
            obtain ⟨n1, n2⟩ := List.nodup_cons.1 hnd
            refine List.nodup_cons.2 ⟨?_, List.nodup_cons.2 ⟨?_, (List.nodup_append.1 n2).2.1⟩⟩
            · simp only [List.mem_cons, Option.mem_toList, not_or]
              exact ⟨by omega, hap.2.1⟩
            · simp only [Option.mem_toList]
              intro hk
              have := hov _ hk
              omega)
        hsz
      exact NetTo.of_post (hpost.start h1 hb0) rfl
    have HGO := Lib.hid hgo
    have HG := Lib.hid hget
    have HR2 := Lib.hid hr2
    have HOWN := Lib.hid hcn.2.1.1
    have HSZ := Lib.hid hsz
    obtain ⟨iv, hiv⟩ : ∃ iv, iv = e.iv := ⟨_, rfl⟩
    rw [← hiv] at c2 hform
    rw [hform] at c2
    have HIV := Lib.hid (hform.symm.trans hiv)
    clear hgo hcn hget hcs h1 h2 hnd hf hg hid hap hb0 hr hr2 hsz hform hiv hbd
    go_enter Try.func11, Try.ntmps11
    go_wp2_with fail
    refine HG.out.mono ?_
    rintro e' w' ⟨rfl, rfl⟩
    go_wp2_with (first
      | (at_builtin; refine step_append_row _ rfl _ _ 22 rfl B 5 i0 (.int .u8 0) 1 Try.underlying22 hi0 hz0 hz1 hz2 rfl e.iv e.inn.length (bv e.inn) HIV.out HOWN.out a b.length c (bv b) rfl (bv_length b).symm HR2.out (bv_one b) ?g1 ?g2 HSZ.out ?_)
      | fail)
    case g1 => unfold maxLen; omega
    case g2 => omega
    intro v' w1 hown hgr hnil hloc
    obtain ⟨⟨hx1, hx2⟩, hx3⟩ := HGO.out v' w1 hown hgr hnil (by simpa using hloc)
    obtain ⟨a9, k9, hv9⟩ := ownsRow_form hown
    have HX3 := Lib.hid hx3
    rw [← HIV.out] at hx1
    clear hown hgr hnil hloc hx3
    subst hv9
    go_wp2
    go_ret
    exact ⟨rfl, HX3.out⟩
  · rw [vupd_none hg]
    rw [hg, ptr_none] at hget
    rw [hg]
    have hc0 : (code == 0) = false := by rw [beq_eq_false_iff_ne]; omega
    have HG := Lib.hid hget
    have HP := Lib.hid (NetTo.of_post ((NetPost.refl h2).start h1 hb0) rfl)
    clear hget hg hcode h1 h2 hb0 hr hr2 hbd
    go_enter Try.func11, Try.ntmps11
    go_wp2_with fail
    refine HG.out.mono ?_
    rintro e' w' ⟨rfl, rfl⟩
    go_wp2
    go_ret
    exact ⟨rfl, HP.out⟩
set_option maxHeartbeats 1000000 in
theorem send_any (h : NetIs w B n most dialed l F) (hB : B ≤ w.heap.size) (id : Int) (a : Option Addr) (c : Nat) (b : List UInt8) (hr : Rd w a (bv b)) (hbd : ∀ v ∈ l, v.out.length + b.length ≤ 70368744177664) :
    Calls Try.prog 26 #[.pointer (some ⟨n, 0, none⟩), .int .i64 id, .slice a b.length c] w fun e w' => e = .returned (.int .i64 (vget id [2] l).2) ∧ NetTo w B n F most dialed (vupd id [2] (fun v => { v with out := v.out ++ b }) l) w' := by
  obtain ⟨M, es, h1, rfl, rfl⟩ := h
  have hb0 : Below w.heap.size w (w.alloc (.cells #[.int .i64 2] 55)) := (Below.refl _ _).alloc (Nat.le_refl _) _
  have h2 := h1.below hb0 (Nat.le_refl _)
  have hr2 := hr.below hb0 (Nat.le_refl _)
  have hget := get_any h2 id (some ⟨w.heap.size, 0, none⟩) 1 [2] (by simp) (Rd.new w #[.int .i64 2] _ (0, 0) _ (fun k v h => by simpa [stv] using h))
  obtain ⟨i0, hi0, hz0, hz1, hz2⟩ := info_parts info_byte
  rw [vget_code]
  rcases getE_cases id [2] es with ⟨e, hg, hf⟩ | ⟨code, hg, hcode⟩
  · obtain ⟨pre, post, hes, hid, hcs⟩ := cset_split hf
    rw [hg, ptr_some] at hget
    rw [hg]
    subst hes
    have hcn := h2.2.2.1 e (by simp)
    have hnd := h2.nodup
    have hap := CE.apart hnd
    have hlen : e.out.length + b.length ≤ 70368744177664 := hbd e.vw (by simp)
    have c2 : (w.alloc (.cells #[.int .i64 2] 55)).cell? ⟨e.c, 3, none⟩ = some e.ov := conn_cell hcn 3
    obtain ⟨a0, k0, hform⟩ := ownsRow_form hcn.2.2.1
    have hsz : B ≤ (w.alloc (.cells #[.int .i64 2] 55)).heap.size := by simp; omega
    have hgo : ∀ v' w1, w1.ownsRow B 5 1 v' (e.out.length + b.length) (bv e.out ++ bv b) → (w.alloc (.cells #[.int .i64 2] 55)).grownBy w1 e.ov.ownBlock → (v' = .slice none 0 0 ↔ e.ov = .slice none 0 0 ∧ bv b = []) →
        (v'.ownBlock = e.ov.ownBlock ∨ v'.ownBlock = some (w.alloc (.cells #[.int .i64 2] 55)).heap.size) →
        (w1.cell? ⟨e.c, 3, none⟩ = some e.ov ∧ w1.frozen? ⟨e.c, 3, none⟩ = false) ∧ NetTo w B n (foot n M (pre ++ e :: post)) most dialed (vupd id [2] (fun v => { v with out := v.out ++ b }) ((pre ++ e :: post).map CE.vw)) (w1.setCell ⟨e.c, 3, none⟩ v') := by
      intro v' w1 hown hgr hnil hloc
      rw [vupd_some (e' := { e with out := e.out ++ b, ov := v' }) hg rfl, hcs]
      generalize hw : w.alloc (.cells #[.int .i64 2] 55) = wa at *
      have hne : some e.c ≠ e.ov.ownBlock := fun he => hap.2.1 he.symm
      have hlt := h2.lt
      have hcl : e.c < wa.heap.size := hcn.lt e.c (by simp [CE.blocks])
      have hc1 : w1.heap[e.c]? = some (.cells #[.string e.host, .int .i64 e.st, e.iv, e.ov] 60 (0, 0)) := (hgr.block e.c hcl hne).trans hcn.1
      refine ⟨⟨by rw [cell_of_row _ _ _ _ _ _ hc1]; rfl, frozen_of_row _ _ _ _ _ hc1⟩, ?_⟩
      have ho1 : Only (· ∈ e.blocks) wa w1 := (Only.refl _ _).grown hgr (fun k hk _ => by simp [CE.blocks, hk])
      have hv' : v'.ownBlock ≠ some e.c := by
        rcases hloc with h | h
        · rw [h]; exact hap.2.1
        · rw [h]; intro he; simp at he; omega
      have hiv1 : Buf w1 B e.iv e.inn := hcn.2.1.only (F := fun k => e.ov.ownBlock = some k) ((Only.refl _ _).grown hgr (fun k hk _ => hk)) (fun k hk hi => hap.2.2 k hk hi)
      have hbuf : Buf w1 B v' (e.out ++ b) := Buf.appended hown hnil hcn.2.2
      have hconn : ConnAt (w1.setCell ⟨e.c, 3, none⟩ v') B { e with out := e.out ++ b, ov := v' } := by
        refine ⟨?_, hiv1.setCell _ _ hap.1, hbuf.setCell _ _ hv'⟩
        rw [heap_setCell_same _ _ _ _ _ _ hc1]
        rfl
      have hiv' : ∀ k, e.iv.ownBlock = some k → k < wa.heap.size := fun k hk => hcn.lt k (by simp [CE.blocks, hk])
      have hpost := NetPost.of_turned (e' := { e with out := e.out ++ b, ov := v' }) h2 (ho1.setCell ⟨e.c, 3, none⟩ v' (fun _ => by simp [CE.blocks])) rfl rfl hconn
        (fun k hk => by
          simp only [CE.blocks, List.mem_cons, List.mem_append, Option.mem_toList] at hk ⊢
          rcases hk with hk | hk | hk
          · exact .inl (.inl hk)
          · exact .inl (.inr (.inl hk))
          · rcases hloc with h | h
            · rw [h] at hk; exact .inl (.inr (.inr hk))
            · rw [h] at hk; simp at hk; exact .inr (by omega))
        (by
          rcases hloc with h | h
          · simp only [CE.blocks, h]; exact hnd
          · simp only [CE.blocks, h, Option.toList_some]
            unfold CE.blocks at hnd
            obtain ⟨n1, n2⟩ := List.nodup_cons.1 hnd
            refine List.nodup_cons.2 ⟨?_, List.nodup_append.2 ⟨(List.nodup_append.1 n2).1, by simp, ?_⟩⟩
            · simp only [List.mem_append, List.mem_singleton, Option.mem_toList, not_or]
              exact ⟨hap.1, by omega⟩
            · intro k hk k2 hk2 he
              simp only [Option.mem_toList, List.mem_singleton] at hk hk2
              have := hiv' _ hk
              omega)
        hsz
      exact NetTo.of_post (hpost.start h1 hb0) rfl
    have HGO := Lib.hid hgo
    have HG := Lib.hid hget
    have HR2 := Lib.hid hr2
    have HOWN := Lib.hid hcn.2.2.1
    have HSZ := Lib.hid hsz
    obtain ⟨iv, hiv⟩ : ∃ iv, iv = e.ov := ⟨_, rfl⟩
    rw [← hiv] at c2 hform
    rw [hform] at c2
    have HIV := Lib.hid (hform.symm.trans hiv)
    clear hgo hcn hget hcs h1 h2 hnd hf hg hid hap hb0 hr hr2 hsz hform hiv hbd
    go_enter Try.func26, Try.ntmps26
    go_wp2_with fail
    refine HG.out.mono ?_
    rintro e' w' ⟨rfl, rfl⟩
    go_wp2_with (first
      | (at_builtin; refine step_append_row _ rfl _ _ 22 rfl B 5 i0 (.int .u8 0) 1 Try.underlying22 hi0 hz0 hz1 hz2 rfl e.ov e.out.length (bv e.out) HIV.out HOWN.out a b.length c (bv b) rfl (bv_length b).symm HR2.out (bv_one b) ?g1 ?g2 HSZ.out ?_)
      | fail)
    case g1 => unfold maxLen; omega
    case g2 => omega
    intro v' w1 hown hgr hnil hloc
    obtain ⟨⟨hx1, hx2⟩, hx3⟩ := HGO.out v' w1 hown hgr hnil (by simpa using hloc)
    obtain ⟨a9, k9, hv9⟩ := ownsRow_form hown
    have HX3 := Lib.hid hx3
    rw [← HIV.out] at hx1
    clear hown hgr hnil hloc hx3
    subst hv9
    go_wp2
    go_ret
    exact ⟨rfl, HX3.out⟩
  · rw [vupd_none hg]
    rw [hg, ptr_none] at hget
    rw [hg]
    have hc0 : (code == 0) = false := by rw [beq_eq_false_iff_ne]; omega
    have HG := Lib.hid hget
    have HP := Lib.hid (NetTo.of_post ((NetPost.refl h2).start h1 hb0) rfl)
    clear hget hg hcode h1 h2 hb0 hr hr2 hbd
    go_enter Try.func26, Try.ntmps26
    go_wp2_with fail
    refine HG.out.mono ?_
    rintro e' w' ⟨rfl, rfl⟩
    go_wp2
    go_ret
    exact ⟨rfl, HP.out⟩
end
end Go.Proofs.Ytepdnmpcccgcaaa
