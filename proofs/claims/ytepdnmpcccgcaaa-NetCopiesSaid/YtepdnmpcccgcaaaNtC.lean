/- 'All': the walk. -/
import Derived.Test.YtepdnmpcccgcaaaNtB
import Derived.Deep.RegionHeld3
import Derived.Deep.QuietTactic
import Derived.BigQuiet
namespace Go.Proofs.Ytepdnmpcccgcaaa
open Go.RowKit K
def CE.hv (e : CE) : Int × Value := (e.id, .agg #[.string e.host])
def CV.ih (v : CV) : Int × ByteArray := (v.id, v.host)
theorem mput_mput (x : Int) (v : Value) : ∀ l : List (Int × Value), mput x v (mput x v l) = mput x v l
  | [] => by simp [mput]
  | (y, u) :: r => by
    by_cases h : x = y
    · subst h
      simp [mput]
    · simp only [mput, if_neg h, mput_mput x v r]
theorem ents_split {re : List CE} {pre post : List (Int × Value)} {x : Int} {v : Value} (h : ents re = pre ++ (x, v) :: post) : ∃ p e q, re = p ++ e :: q ∧ pre = ents p ∧ post = ents q ∧ x = e.id ∧ v = .pointer (some ⟨e.c, 0, none⟩) := by
  obtain ⟨p, t, rfl, hp, ht⟩ := List.map_eq_append_iff.1 h
  obtain ⟨e, q, rfl, he, hq⟩ := List.map_eq_cons_iff.1 ht
  cases he
  exact ⟨p, e, q, rfl, hp.symm, hq.symm, rfl, rfl⟩
section
variable {w w0 : World} {B n M : Nat} {most dialed : Int} {es : List CE}
/-- Between two rounds. -/
def AllJ (w : World) (B n M : Nat) (most dialed : Int) (es : List CE) (r g : Nat) (wr : World) : Prop :=
  ∃ de re, g = (ents re).length ∧ IterAt iEnc wr r M (ents es) (ents re) ∧ MapAt iEnc wr w.heap.size (de.map CE.hv) ∧ wr.heap[w.heap.size + 1]? = some (.cells #[.map (some w.heap.size)] 75 (0, 0)) ∧ NetAt wr B n M most dialed es ∧ Below w.heap.size w wr ∧ (de ++ re).Perm es
def AllPost (w : World) (L : List (Int × ByteArray)) (e : Ending) (w' : World) : Prop :=
  ∃ Bh Mh kvs, e = .returned (.func (.func 48) #[] #[.pointer (some ⟨Bh, 0, none⟩)]) ∧ w.heap.size ≤ Mh ∧ w.heap.size ≤ Bh ∧ w'.heap[Bh]? = some (.cells #[.map (some Mh)] 75 (0, 0)) ∧ MapAt iEnc w' Mh kvs ∧ kvs.Perm (L.map idv) ∧ Below w.heap.size w w'
set_option maxHeartbeats 2000000 in
set_option maxRecDepth 100000 in
theorem all_nil (w : World) : Calls Try.prog 23 #[.pointer none] w (AllPost w []) := by
  have hmm := @run_makeMap Try.prog
  go_enter Try.func23, Try.ntmps23
  go_wp2
  go_ret
  refine ⟨w.heap.size + 1, w.heap.size, [], rfl, Nat.le_refl _, Nat.le_succ _, ?_, ?_, List.Perm.refl _, ?_⟩
  · have := heap_alloc_new (w.alloc (.map #[] 0)) (.cells #[.map (some w.heap.size)] 75)
    rwa [World.size_alloc] at this
  · exact (MapAt.new iEnc w).only (F := fun _ => False) ((Only.refl _ _).alloc _) (fun h => h)
  · exact ((Below.refl _ w).alloc (Nat.le_refl _) _).alloc (by simp) _
set_option maxHeartbeats 4000000 in
set_option maxRecDepth 100000 in
theorem all_any (h : NetAt w B n M most dialed es) (hnd : (es.map (·.id)).Nodup) :
    Calls Try.prog 23 #[.pointer (some ⟨n, 0, none⟩)] w (AllPost w ((es.map CE.vw).map CV.ih)) := by
  have c0 := h.c0
  have hn := h.lt n (by simp [foot])
  have H := Lib.hid h
  have HND := Lib.hid hnd
  clear h hnd
  have hmm := @run_makeMap Try.prog
  go_enter Try.func23, Try.ntmps23
  have h1 := H.out
  have hb1 : Below w.heap.size w ((w.alloc (.map #[] 0)).alloc (.cells #[.map (some w.heap.size)] 75)) := ((Below.refl _ w).alloc (Nat.le_refl _) _).alloc (by simp) _
  have HB1 := Lib.hid hb1
  have hma := (h1.below hb1 (Nat.le_refl _)).2.1
  have HMA := Lib.hid hma
  clear h1 hb1 hma
  go_wp2_with (first
    | (with_reducible refine step_range rfl _ _ rfl Try.underlying48 rfl HMA.out ?_)
    | fail)
  intro wx hit hbx hsx
  have HJ := Lib.hid (show AllJ w B n M most dialed es (w.heap.size + 1 + 1) (ents es).length wx from by
    have hbx : Below ((w.alloc (.map #[] 0)).alloc (.cells #[.map (some w.heap.size)] 75)).heap.size ((w.alloc (.map #[] 0)).alloc (.cells #[.map (some w.heap.size)] 75)) wx := by rw [World.size_alloc, World.size_alloc]; exact hbx
    have hbel := HB1.out.trans (hbx.mono HB1.out.size)
    have ho : Only (fun _ => False) ((w.alloc (.map #[] 0)).alloc (.cells #[.map (some w.heap.size)] 75)) wx := Only.of_new hbx
    refine ⟨[], es, rfl, hit, ((MapAt.new iEnc w).only (F := fun _ => False) ((Only.refl _ _).alloc _) (fun h => h)).only ho (fun h => h), ho.heap ?_ (fun h => h), H.out.below hbel (Nat.le_refl _), hbel, List.Perm.refl _⟩
    have := heap_alloc_new (w.alloc (.map #[] 0)) (.cells #[.map (some w.heap.size)] 75)
    rwa [World.size_alloc] at this)
  have HFT := Lib.hid (show ∀ k ∈ foot n M es, k < w.heap.size from H.out.lt)
  clear hit hbx hsx HMA HB1 c0 hn hmm H
  go_wp2
  go_loopg [14] (ents es).length (fun g _ wy => AllJ w B n M most dialed es (w.heap.size + 1 + 1) g wy)
  case atStart => exact HJ.out
  case round =>
    obtain ⟨de, re, hgk, hit, hmh, hbx, hnet, hbel, hpm⟩ := hrel
    have HIT := Lib.hid hit
    have HMH := Lib.hid hmh
    have HBX := Lib.hid hbx
    have HNET := Lib.hid hnet
    have HBEL := Lib.hid hbel
    have HPM := Lib.hid hpm
    have HGK := Lib.hid hgk
    clear hit hmh hbx hnet hbel hpm hgk
    go_wp2_with (first
      | (with_reducible refine step_next iKey rfl _ rfl rfl HIT.out ?hdone ?hK)
      | fail)
    case hdone =>
      intro hrem
      have hre : re = [] := List.map_eq_nil_iff.1 hrem
      have HP := Lib.hid (show AllPost w ((es.map CE.vw).map CV.ih) (.returned (.func (.func 48) #[] #[.pointer (some ⟨w.heap.size + 1, 0, none⟩)])) wr from by
        refine ⟨w.heap.size + 1, w.heap.size, _, rfl, Nat.le_refl _, Nat.le_succ _, HBX.out, HMH.out, ?_, HBEL.out⟩
        have := HPM.out
        rw [hre, List.append_nil] at this
        have := this.map CE.hv
        rw [List.map_map, List.map_map]
        exact this)
      clear hrem hre HIT HMH HBX HNET HBEL HPM HGK HJ
      go_wp2
      go_ret
      exact HP.out
    case hK =>
      intro w2 pre x v post hrem hmem hit2 ho2 hs2 hent
      obtain ⟨p, e, q, rfl, rfl, rfl, rfl, rfl⟩ := ents_split hrem
      have hem : e ∈ es := HPM.out.mem_iff.1 (by simp)
      have hst2 : NetAt w2 B n M most dialed es := HNET.out.only ho2 (fun k hk h => by have := HFT.out k hk; omega)
      have hmh2 : MapAt iEnc w2 w.heap.size (de.map CE.hv) := HMH.out.only ho2 (fun h => by omega)
      have hbx2 := ho2.heap HBX.out (fun h => by omega)
      have hbel2 : Below w.heap.size w w2 := HBEL.out.trans (ho2.below HBEL.out.size (fun k hk => by omega))
      have hce := (hst2.2.2.1 e hem).1
      have hel : e.c < w.heap.size := HFT.out _ (by simp only [foot, List.mem_cons, List.mem_flatMap]; exact .inr (.inr ⟨e, hem, by simp [CE.blocks]⟩))
      have cc : w2.cell? ⟨e.c, 0, none⟩ = some (.string e.host) := by rw [cell_of_row _ _ _ _ _ _ hce]; rfl
      have cb : w2.cell? ⟨w.heap.size + 1, 0, none⟩ = some (.map (some w.heap.size)) := by rw [cell_of_row _ _ _ _ _ _ hbx2]; rfl
      have hent2 : Sem.run Try.prog (Instr.entry (Value.pointer (some ⟨w.heap.size + 1 + 1, 0, none⟩))) w2 = .ok (.tuple #[.int .i64 e.id, .pointer (some ⟨e.c, 0, none⟩)]) w2 := hent
      have hpm2 : ((de ++ [e]) ++ (p ++ q)).Perm es := by
        refine List.Perm.trans ?_ HPM.out
        rw [List.append_assoc]
        exact List.Perm.append_left de (show ([e] ++ (p ++ q)).Perm _ from (List.perm_middle (a := e) (l₁ := p) (l₂ := q)).symm)
      have hnid : e.id ∉ de.map (·.id) := fun hm => by
        have h1 : ((de ++ (p ++ e :: q)).map (·.id)).Nodup := (HPM.out.map (·.id)).nodup_iff.2 HND.out
        rw [List.map_append, List.nodup_append] at h1
        exact h1.2.2 _ hm e.id (by simp) rfl
      have hmg : mget e.id (de.map CE.hv) = none := by
        cases hc : mget e.id (de.map CE.hv) with
        | none => rfl
        | some u =>
          exfalso
          have : ∀ l : List CE, mget e.id (l.map CE.hv) = some u → e.id ∈ l.map (·.id) := fun l => by
            induction l with
            | nil => intro h; cases h
            | cons a t ih =>
              intro h
              by_cases ha : e.id = a.id
              · rw [ha]; simp
              · simp only [List.map_cons, mget, CE.hv, if_neg ha] at h
                exact List.mem_cons_of_mem _ (ih h)
          exact hnid (this de hc)
      have HUP := Lib.hid (fun W (hW : MapAt iEnc W w.heap.size (de.map CE.hv) ∨ MapAt iEnc W w.heap.size ((de ++ [e]).map CE.hv)) => (show ∃ o, Sem.run Try.prog (Instr.mapUpdate 75 (.map (some w.heap.size)) (.int .i64 e.id) (.agg #[.string e.host])) W = .ok () (ChangeMaps.setBlock W w.heap.size o) ∧ MapAt iEnc (ChangeMaps.setBlock W w.heap.size o) w.heap.size ((de ++ [e]).map CE.hv) from by
        have hput : mput e.id (.agg #[.string e.host]) (de.map CE.hv) = (de ++ [e]).map CE.hv := by
          rw [(mget_none _ _ hmg).2]
          simp [CE.hv]
        rcases hW with hW | hW
        · obtain ⟨o, h1, h2⟩ := run_update iKey hW Try.underlying75 e.id (.agg #[.string e.host])
          rw [hput] at h2
          exact ⟨o, h1, h2⟩
        · obtain ⟨o, h1, h2⟩ := run_update iKey hW Try.underlying75 e.id (.agg #[.string e.host])
          have : mput e.id (.agg #[.string e.host]) ((de ++ [e]).map CE.hv) = (de ++ [e]).map CE.hv := by
            rw [← hput]
            exact mput_mput _ _ _
          rw [this] at h2
          exact ⟨o, h1, h2⟩))
      have HNX := Lib.hid (fun W (ho : Only (· = w.heap.size) w2 W) (hW : MapAt iEnc W w.heap.size ((de ++ [e]).map CE.hv)) => (show AllJ w B n M most dialed es (w.heap.size + 1 + 1) (ents (p ++ q)).length W from
        ⟨de ++ [e], p ++ q, rfl, by rw [show ents (p ++ q) = ents p ++ ents q from List.map_append]; exact hit2.only ho (fun h => by have := HFT.out M (by simp [foot]); omega) (fun h => by omega), hW, ho.heap hbx2 (fun h => by omega), hst2.only ho (fun k hk h => by have := HFT.out k hk; omega), hbel2.trans (ho.below hbel2.size (fun k hk => by omega)), hpm2⟩))
      have HLT := Lib.hid (show (ents (p ++ q)).length < gk from by rw [HGK.out]; simp [ents])
      have HM2 := Lib.hid hmh2
      have CB := Lib.hid cb
      have CC := Lib.hid cc
      have HEL := Lib.hid hel
      clear hrem hmem hit2 ho2 hs2 hent hem hst2 hmh2 hbx2 hbel2 hce hel cc cb hpm2 hnid hmg HIT HMH HBX HNET HBEL HPM HGK HJ HND HFT
      obtain ⟨xi, xh, xs, xin, xo, xc, xiv, xov⟩ := e
      simp only at CB CC HEL HUP hent2
      go_wp2_with fail
      refine wp_region_noPanic ?_
      refine wp_region_held_drew (S := (fun w' => Only (· = w.heap.size) w2 w' ∧ (MapAt iEnc w' w.heap.size (de.map CE.hv) ∨ MapAt iEnc w' w.heap.size ((de ++ [(⟨xi, xh, xs, xin, xo, xc, xiv, xov⟩ : CE)]).map CE.hv)))) (by kernel_rfl) ?_ (fun hHeld => ?_)
      · exact ⟨(Only.refl _ _).drew, .inl HM2.out⟩
      refine wpAnyH_take (i := 0) (oi := _) (v := ?_) rfl (by kernel_rfl) (by kernel_rfl) (by kernel_rfl) (fun _ _ _ h => h) (Or.inl ⟨by rfl, ?_⟩) (by assumption) ?_
      rotate_left 1
      · (intro w hSw; (try dsimp only at hSw); (have q := hSw.1.cell CB.out (fun h => by simp at h); go_simp); (try with_reducible rfl))
      try simp only [Act.put, List.getElem_toArray, List.getElem_cons_zero, List.setIfInBounds_toArray, List.set_cons_zero, List.set_cons_succ]
      refine wpAnyH_take (i := 1) (oi := _) (v := ?_) rfl (by kernel_rfl) (by kernel_rfl) (by kernel_rfl) (fun _ _ _ h => h) (Or.inl ⟨by rfl, ?_⟩) (by assumption) ?_
      rotate_left 1
      · (intro w hSw; (try dsimp only at hSw); go_simp; (try with_reducible rfl))
      try simp only [Act.put, List.getElem_toArray, List.getElem_cons_succ, List.getElem_cons_zero, List.setIfInBounds_toArray, List.set_cons_zero, List.set_cons_succ]
      refine wpAnyH_take (i := 2) (oi := _) (v := ?_) rfl (by kernel_rfl) (by kernel_rfl) (by kernel_rfl) (fun _ _ _ h => h) (Or.inl ⟨by rfl, ?_⟩) (by assumption) ?_
      rotate_left 1
      · (intro w hSw; (try dsimp only at hSw); go_simp; (try with_reducible rfl))
      try simp only [Act.put, List.getElem_toArray, List.getElem_cons_succ, List.getElem_cons_zero, List.setIfInBounds_toArray, List.set_cons_zero, List.set_cons_succ]
      refine wpAnyH_take (i := 3) (oi := _) (v := ?_) rfl (by kernel_rfl) (by kernel_rfl) (by kernel_rfl) (fun _ _ _ h => h) (Or.inl ⟨by rfl, ?_⟩) (by assumption) ?_
      rotate_left 1
      · (intro w hSw; (try dsimp only at hSw); go_simp; (try with_reducible rfl))
      try simp only [Act.put, List.getElem_toArray, List.getElem_cons_succ, List.getElem_cons_zero, List.setIfInBounds_toArray, List.set_cons_zero, List.set_cons_succ]
      refine wpAnyH_take (i := 4) (oi := _) (v := ?_) rfl (by kernel_rfl) (by kernel_rfl) (by kernel_rfl) (fun _ _ _ h => h) (Or.inl ⟨by rfl, ?_⟩) (by assumption) ?_
      rotate_left 1
      · (intro w hSw; (try dsimp only at hSw); go_simp; (try with_reducible rfl))
      try simp only [Act.put, List.getElem_toArray, List.getElem_cons_succ, List.getElem_cons_zero, List.setIfInBounds_toArray, List.set_cons_zero, List.set_cons_succ]
      refine wpAnyH_take (i := 5) (oi := _) (v := ?_) rfl (by kernel_rfl) (by kernel_rfl) (by kernel_rfl) (fun _ _ _ h => h) (Or.inl ⟨by rfl, ?_⟩) (by assumption) ?_
      rotate_left 1
      · (intro w hSw; (try dsimp only at hSw); (have q := hSw.1.cell CC.out (fun h => Nat.ne_of_lt HEL.out h); go_simp); (try with_reducible rfl))
      try simp only [Act.put, List.getElem_toArray, List.getElem_cons_succ, List.getElem_cons_zero, List.setIfInBounds_toArray, List.set_cons_zero, List.set_cons_succ]
      refine wpAnyH_take (i := 6) (oi := _) (v := ?_) rfl (by kernel_rfl) (by kernel_rfl) (by kernel_rfl) (fun _ _ _ h => h) (Or.inl ⟨by rfl, ?_⟩) (by assumption) ?_
      rotate_left 1
      · (intro w hSw; (try dsimp only at hSw); go_simp; (try with_reducible rfl))
      try simp only [Act.put, List.getElem_toArray, List.getElem_cons_succ, List.getElem_cons_zero, List.setIfInBounds_toArray, List.set_cons_zero, List.set_cons_succ]
      refine wpAnyH_ready (rs := [7]) (by kernel_rfl) (by simp) ?_
      refine AllReadyH.cons (o := _) rfl (fun K hK => ?_) AllReadyH.nil
      obtain ⟨ob, hup, hm⟩ := HUP.out _ hHeld.2
      go_simp
      refine hK.out _ _ ?_ (fun hHeld7 => ?_)
      · exact ⟨hHeld.1.setBlock _ _ (fun _ => rfl), .inr hm⟩
      clear hK K
      try simp only [Act.put, List.getElem_toArray, List.getElem_cons_succ, List.getElem_cons_zero, List.setIfInBounds_toArray, List.set_cons_zero, List.set_cons_succ]
      refine wpAnyH_done (by kernel_rfl) ?_ _
      refine NoPanic.normal ?_
      go_wp2
      go_roundg (ents (p ++ q)).length
      case rel => exact HNX.out _ hHeld7.1 hm
      case measure => exact HLT.out
end
end Go.Proofs.Ytepdnmpcccgcaaa
