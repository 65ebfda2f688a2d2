/- Chapter 18: maps.Clone, the program's Copy, the reference's Copy: the walks. -/
import Derived.Test.YtbkpgpaanhfjfaaWiW
import Derived.Shelf.SlMaps.Clone
namespace Go.Proofs.Ytbkpgpaanhfjfaa
open Go.RowKit Go.Sort K
set_option maxHeartbeats 2000000 in
set_option maxRecDepth 100000 in
theorem clone_any {w : World} {m : Nat} {kvs : List (List UInt8 × Value)} (h : MapAt encStr w m kvs) :
    Calls Try.prog 37 #[.map (some m)] w fun e w' => e = .returned (.map (some w.heap.size)) ∧ MapAt encStr w' w.heap.size kvs ∧ Below w.heap.size w w' := by
  obtain ⟨es, clock, hb, h2⟩ := h
  have hq := fun w => run_eql_map_nil_sl (P := Try.prog) w 66 _ _ (some m) Try.underlying66
  have HB := Lib.hid hb
  have HF := Lib.hid (show MapAt encStr (w.alloc (.map es clock)) w.heap.size kvs ∧ Below w.heap.size w (w.alloc (.map es clock)) from ⟨⟨es, clock, heap_alloc_new w _, h2⟩, (Below.refl _ _).alloc (Nat.le_refl _) _⟩)
  clear hb h2
  go_enter Try.func37, Try.ntmps37
  go_wp2
  rw [run_callFunc_extern Try.func46 (by kernel_rfl) (by kernel_rfl) (by kernel_rfl) (e := Extern.MapsClone.clone) (by kernel_rfl), run_maps_clone_sl w 66 HB.out]
  simp only [Result.andThen]
  rw [Oper.upon_value]
  go_wp2
  rw [run_typeAssert_map_sl _ 66 20 _ _ _ Try.underlying66]
  simp only [Result.andThen]
  rw [Oper.upon_value]
  go_wp2
  go_ret
  exact ⟨rfl, HF.out⟩
theorem WinAt.add {B g M : Nat} {s : Cfg} {es : List WE} {W W1 W2 : World} (h : WinAt W B g M s es) (e : WE) (hX : W.heap.size ≤ e.m) (hb : Below W.heap.size W W1) (hx : MapAt encStr W1 e.m (ckv e.ks)) (hp : e.ks.Perm e.cr) (hcs : CS e.cr) (hm : MapAt iEnc W2 M (mput e.num (.map (some e.m)) (wents es))) (ho : Only (· = M) W1 W2) (hno : mget e.num (wents es) = none) : WinAt W2 B g M s (es ++ [e]) := by
  have hB := h.big
  have hlt := h.lt
  have h1 := h.below hb
  have h6 := List.nodup_cons.1 h.2.2.2.1
  have h7 := List.nodup_cons.1 h6.2
  have hML : M < W.heap.size := h.2.1.lt
  have hf : wfoot g M (es ++ [e]) = wfoot g M es ++ [e.m] := by simp [wfoot]
  have hw : wents (es ++ [e]) = mput e.num (.map (some e.m)) (wents es) := by
    rw [(mget_none _ _ hno).2]
    simp [wents]
  refine ⟨ho.heap h1.1 (fun e0 => h6.1 (by have e0 : g = M := e0; rw [e0]; simp)), by rw [hw]; exact hm, fun x hx2 => ?_, ?_, ?_⟩
  · rcases List.mem_append.1 hx2 with hx2 | hx2
    · exact ⟨(h1.2.2.1 x hx2).1.only ho (fun e0 => h7.1 (by have e0 : x.m = M := e0; rw [← e0]; exact List.mem_map.2 ⟨x, hx2, rfl⟩)), (h1.2.2.1 x hx2).2⟩
    · simp only [List.mem_singleton] at hx2
      subst hx2
      exact ⟨hx.only ho (fun e0 => by have e0 : x.m = M := e0; omega), hp, hcs⟩
  · rw [hf]
    refine List.nodup_append.2 ⟨h.2.2.2.1, by simp, fun a ha b hb e0 => ?_⟩
    simp only [List.mem_singleton] at hb
    have := hlt a ha
    omega
  · rw [hf]
    intro k hk
    rcases List.mem_append.1 hk with hk | hk
    · exact h.2.2.2.2 k hk
    · simp only [List.mem_singleton] at hk
      omega
theorem wents_split {remE : List WE} {pre post : List (Int × Value)} {x : Int} {v : Value} (h : wents remE = pre ++ (x, v) :: post) : ∃ pr e po, remE = pr ++ e :: po ∧ pre = wents pr ∧ post = wents po ∧ e.num = x ∧ v = .map (some e.m) := by
  unfold wents at h
  obtain ⟨pr, q, h1, h2, h3⟩ := List.map_eq_append_iff.1 h
  obtain ⟨e, po, h4, h5, h6⟩ := List.map_eq_cons_iff.1 h3
  cases h5
  exact ⟨pr, e, po, by rw [h1, h4], h2.symm, h6.symm, rfl, rfl⟩
theorem wents_app (a b : List WE) : wents (a ++ b) = wents a ++ wents b := by simp [wents]
theorem wents_length (es : List WE) : (wents es).length = es.length := by simp [wents]
theorem iterI_lt {w : World} {r m : Nat} {kvs rem : List (Int × Value)} (h : IterAt iEnc w r m kvs rem) : r < w.heap.size := by
  obtain ⟨es, clock, since, seen, last, h1, h2, h3, h4, h5, _⟩ := h
  exact (Array.getElem?_eq_some_iff.1 h5).1
/-- The loop of Copy: what was copied, what is to come. -/
def WcL (w : World) (B g M : Nat) (s : Cfg) (es : List WE) (D g' r gk : Nat) (wr : World) : Prop :=
  ∃ remE M' es', gk = remE.length ∧ IterAt iEnc wr r M (wents es) (wents remE) ∧ WinAt wr B g M s es ∧ WinAt wr D g' M' s es' ∧ (es'.map WE.vw ++ remE.map WE.vw).Perm (es.map WE.vw) ∧ Below D w wr ∧ D ≤ r ∧ r ∉ wfoot g' M' es' ∧ ∀ e ∈ remE, e ∈ es
def WCopyP (w : World) (s : Cfg) (L : List WV) (e : Ending) (w' : World) : Prop := ∃ g' F', e = .returned (.pointer (some ⟨g', 0, none⟩)) ∧ WinIs w' w.heap.size g' s L F' ∧ Below w.heap.size w w'
set_option maxHeartbeats 4000000 in
set_option maxRecDepth 100000 in
theorem wcopy_any {w : World} {B g : Nat} {s : Cfg} {L : List WV} {F : List Nat} (h : WinIs w B g s L F) (hl : 1 ≤ s.len) :
    Calls Try.prog 20 #[.pointer (some ⟨g, 0, none⟩)] w (WCopyP w s L) := by
  obtain ⟨M, es, h1, hp, hs, rfl⟩ := h
  have HN := Lib.hid (none_any h1 hl)
  have H1 := Lib.hid h1
  have HP := Lib.hid hp
  have HS := Lib.hid hs
  have c0 : w.cell? ⟨g, 0, none⟩ = some (.int .i64 s.len) := h1.cell 0 rfl
  have c1 : w.cell? ⟨g, 1, none⟩ = some (.int .i64 s.lat) := h1.cell 1 rfl
  have c2 : w.cell? ⟨g, 2, none⟩ = some (.int .i64 s.most) := h1.cell 2 rfl
  have c3 : w.cell? ⟨g, 3, none⟩ = some (.map (some M)) := h1.cell 3 rfl
  have c4 : w.cell? ⟨g, 4, none⟩ = some (.int .i64 s.floor) := h1.cell 4 rfl
  have c5 : w.cell? ⟨g, 5, none⟩ = some (.int .i64 s.mark) := h1.cell 5 rfl
  have c6 : w.cell? ⟨g, 6, none⟩ = some (.int .i64 s.cred) := h1.cell 6 rfl
  have c7 : w.cell? ⟨g, 7, none⟩ = some (.int .i64 s.late) := h1.cell 7 rfl
  have hmm := @run_makeMap Try.prog
  have hgl : g < w.heap.size := h1.lt g (by simp [wfoot])
  have HMA := Lib.hid (fun V (hb : Below w.heap.size w V) => (h1.below hb).2.1)
  clear h1 hp hs hl
  go_enter Try.func20, Try.ntmps20
  go_wp2_with fail
  refine HN.out.mono ?_
  rintro e w1 ⟨rfl, rfl⟩
  have HMB := Lib.hid (show ∀ V, V = (w.alloc (.cells #[.int .i64 s.len, .int .i64 s.lat, .int .i64 s.most, .map (some (w.heap.size + 1)), .int .i64 s.floor, .int .i64 s.mark, .int .i64 s.cred, .int .i64 s.late] 62)).alloc (.map #[] 0) → WinAt V w.heap.size w.heap.size (w.heap.size + 1) s [] ∧ Below w.heap.size w V ∧ V.heap.size = w.heap.size + 2 ∧ MapAt iEnc V M (wents es) from fun V hV => by
    have hb : Below w.heap.size w V := by rw [hV]; exact ((Below.refl _ _).alloc (Nat.le_refl _) _).alloc (by simp) _
    refine ⟨⟨?_, ?_, by simp, by simp [wfoot], by simp [wfoot]⟩, hb, by rw [hV]; simp, HMA.out V hb⟩
    · rw [hV]
      exact (Below.heap_alloc _ _ _ (by simp)).trans (heap_alloc_new w _)
    · have h9 := MapAt.new (enc := iEnc) (w.alloc (.cells #[.int .i64 s.len, .int .i64 s.lat, .int .i64 s.most, .map (some (w.heap.size + 1)), .int .i64 s.floor, .int .i64 s.mark, .int .i64 s.cred, .int .i64 s.late] 62))
      rw [World.size_alloc] at h9
      rw [hV]
      exact h9)
  go_wp2_with (first
    | (with_reducible refine step_range rfl _ _ rfl Try.underlying60 rfl (HMB.out _ rfl).2.2.2 ?_)
    | fail)
  intro wx hit hbx hsx
  obtain ⟨hA0, hb0, hs0, -⟩ := HMB.out _ rfl
  have hwx : w.heap.size + 1 + 1 = w.heap.size + 2 := rfl
  have HJ := Lib.hid (show WcL w B g M s es w.heap.size w.heap.size (w.heap.size + 1 + 1) es.length wx from
    ⟨es, w.heap.size + 1, [], rfl, hit, H1.out.below (hb0.trans (hbx.mono (by omega))), hA0.below (by rw [hs0]; exact hbx), by simp, hb0.trans (hbx.mono (by omega)), by omega, by simp [wfoot]; omega, fun _ h => h⟩)
  clear hit hbx hsx HMB HMA hA0 hb0 hs0 hwx c0 c1 c2 c3 c4 c5 c6 c7 HN hmm
  obtain ⟨r, hr⟩ : ∃ r, r = w.heap.size + 1 + 1 := ⟨_, rfl⟩
  obtain ⟨g', hg'⟩ : ∃ r, r = w.heap.size := ⟨_, rfl⟩
  rw [← hr] at HJ
  have HJ := Lib.hid (show WcL w B g M s es w.heap.size g' r es.length wx by rw [hg']; exact HJ.out)
  go_wp2
  rw [← hr, ← hg']
  clear hr hg'
  go_loopg [18] es.length (fun gk _ wy => WcL w B g M s es w.heap.size g' r gk wy)
  case atStart => exact HJ.out
  case round =>
    obtain ⟨remE, M', es', hgk, hit, hst, ho, hpm, hbl, hDr, hrn, hsub⟩ := hrel
    have HGK := Lib.hid hgk
    have HIT := Lib.hid hit
    have HST := Lib.hid hst
    have HO := Lib.hid ho
    have HPM := Lib.hid hpm
    have HBL := Lib.hid hbl
    have HDR := Lib.hid hDr
    have HRN := Lib.hid hrn
    have HSUB := Lib.hid hsub
    clear hgk hit hst ho hpm hbl hDr hrn hsub HJ
    go_wp2_with (first
      | (with_reducible refine step_next iKey rfl _ rfl rfl HIT.out ?hdone ?hK)
      | fail)
    case hdone =>
      intro hrem
      have hre : remE = [] := by cases remE with | nil => rfl | cons a b => cases hrem
      subst hre
      have HF := Lib.hid (show WCopyP w s L (.returned (.pointer (some ⟨g', 0, none⟩))) wr from ⟨g', _, rfl, ⟨M', es', HO.out, (by have := HPM.out; simp only [List.map_nil, List.append_nil] at this; exact this.trans HP.out), HS.out, rfl⟩, HBL.out⟩)
      clear hrem
      go_wp2
      go_ret
      exact HF.out
    case hK =>
      intro w2 pre x v post hrem hmem hit2 ho2 hs2 hent
      obtain ⟨pr, c, po, rfl, rfl, rfl, rfl, rfl⟩ := wents_split hrem
      have hce : c ∈ es := HSUB.out _ (by simp)
      have hDs : ∀ k ∈ wfoot g M es, k < w.heap.size := H1.out.lt
      have hoM := HO.out.2.2.2.2
      have hM' : w.heap.size ≤ M' := hoM M' (by simp [wfoot])
      have hrM : r ≠ M' := fun e => HRN.out (by rw [e]; simp [wfoot])
      have hMw : M < w.heap.size := hDs M (by simp [wfoot])
      have hst2 : WinAt w2 B g M s es := HST.out.only ho2 (fun k hk e => by have e : k = r := e; have := hDs k hk; have := HDR.out; omega)
      have hos2 : WinAt w2 w.heap.size g' M' s es' := HO.out.only ho2 (fun k hk e => by have e : k = r := e; exact HRN.out (e ▸ hk))
      have hbl2 : Below w.heap.size w w2 := HBL.out.trans (ho2.below HBL.out.size (fun k e => by have e : k = r := e; rw [e]; exact HDR.out))
      have hok := hst2.2.2.1 c hce
      have hnd : (es'.map WE.vw ++ (pr ++ c :: po).map WE.vw).map (·.num) |>.Nodup := by
        have h1 := ((HPM.out.trans HP.out).map (·.num)).nodup_iff.2 HS.out.nodup
        exact h1
      have hno : mget c.num (wents es') = none := mget_not_mem (by
        rw [wents_fst]
        intro h9
        rw [List.map_append] at hnd
        refine (List.nodup_append.1 hnd).2.2 c.num ?_ c.num ?_ rfl
        · rw [List.map_map]
          exact h9
        · simp only [List.map_append, List.map_cons, List.mem_append, List.mem_cons]
          exact .inr (.inl rfl))
      have hpm2 : ∀ X : Nat, ((es' ++ [WE.mk c.num X c.ks c.cr]).map WE.vw ++ (pr ++ po).map WE.vw).Perm (es.map WE.vw) := fun X => by
        refine List.Perm.trans ?_ HPM.out
        simp only [List.map_append, List.map_cons, List.map_nil, List.append_assoc]
        exact List.Perm.append_left _ (show (c.vw :: (pr.map WE.vw ++ po.map WE.vw)).Perm _ from List.perm_middle.symm)
      have hgm : ¬ g' = M' := fun e => by
        have h9 := (List.nodup_cons.1 HO.out.2.2.2.1).1
        exact h9 (by rw [e]; simp)
      have hrl := iterI_lt hit2
      have HLT := Lib.hid (show (pr ++ po).length < gk from by rw [HGK.out]; simp)
      have HGM := Lib.hid hgm
      have C3 := Lib.hid (show w2.cell? ⟨g', 3, none⟩ = some (.map (some M')) from hos2.cell 3 rfl)
      have hent2 : Sem.run Try.prog (Instr.entry (Value.pointer (some ⟨r, 0, none⟩))) w2 = .ok (.tuple #[.int .i64 c.num, .map (some c.m)]) w2 := hent
      have HCL := Lib.hid (fun V (hV : Below w2.heap.size w2 V) => clone_any (hok.1.only (F := fun _ => False) (Only.of_new hV) (fun h => h)))
      have HMU := Lib.hid (fun (V : World) (hb : Below w2.heap.size w2 V) => (show ∃ u, Sem.run Try.prog (Instr.mapUpdate 60 (.map (some M')) (.int .i64 c.num) (.map (some w2.heap.size))) V = .ok () (ChangeMaps.setBlock V M' u) ∧ MapAt iEnc (ChangeMaps.setBlock V M' u) M' (mput c.num (.map (some w2.heap.size)) (wents es')) from run_update (P := Try.prog) iKey (hos2.2.1.only (F := fun _ => False) (Only.of_new hb) (fun h => h)) Try.underlying60 c.num (.map (some w2.heap.size))))
      have HFIN := Lib.hid (fun (w3 w5 : World) (hb : Below w2.heap.size w2 w3) (hm3 : MapAt encStr w3 w2.heap.size (ckv c.ks)) (hm5 : MapAt iEnc w5 M' (mput c.num (.map (some w2.heap.size)) (wents es'))) (hoU : Only (· = M') w3 w5) => (show WcL w B g M s es w.heap.size g' r (pr ++ po).length w5 from by
        have ho25 : Only (· = M') w2 w5 := (Only.of_new (F := (· = M')) hb).trans hoU (fun _ _ h => h)
        refine ⟨pr ++ po, M', es' ++ [WE.mk c.num w2.heap.size c.ks c.cr], rfl, ?_, hst2.only ho25 (fun k hk e => by have e : k = M' := e; have := hDs k hk; omega), hos2.add (WE.mk c.num w2.heap.size c.ks c.cr) (Nat.le_refl _) hb hm3 hok.2.1 hok.2.2 hm5 hoU hno, hpm2 _, hbl2.trans (ho25.below hbl2.size (fun k e => by have e : k = M' := e; rw [e]; exact hM')), HDR.out, ?_, fun e he => HSUB.out e (by simp only [List.mem_append, List.mem_cons] at he ⊢; rcases he with h | h; exact .inl h; exact .inr (.inr h))⟩
        · rw [wents_app]
          exact hit2.only ho25 (fun e => by have e : M = M' := e; omega) (fun e => hrM e)
        · intro hk
          have e9 : wfoot g' M' (es' ++ [WE.mk c.num w2.heap.size c.ks c.cr]) = wfoot g' M' es' ++ [w2.heap.size] := by simp [wfoot]
          rw [e9] at hk
          rcases List.mem_append.1 hk with hk | hk
          · exact HRN.out hk
          · simp at hk
            omega))
      generalize c.num = cn at hent2 HMU HFIN
      generalize c.m = cm at hent2 HCL
      clear hrem hmem hit2 ho2 hs2 hent hce hDs hoM hM' hrM hMw hst2 hos2 hbl2 hok hnd hno hpm2 hgm hrl
      go_wp2_with fail
      refine wp_region_noPanic ?_
      refine wp_region_held_drew (S := (fun w' => w'.cell? ⟨g', 3, none⟩ = some (.map (some M')))) (by kernel_rfl) ?_ (fun hHeld => ?_)
      · exact keepc (drew_below _) C3.out
      refine wpAnyH_take (i := 0) (oi := _) (v := ?_) rfl (by kernel_rfl) (by kernel_rfl) (by kernel_rfl) (fun _ _ _ h => h) (Or.inl ⟨by rfl, ?_⟩) (by assumption) ?_
      rotate_left 1
      · (intro w hSw; (try dsimp only at hSw); go_simp; (try with_reducible rfl))
      try simp only [Act.put, List.getElem_toArray, List.getElem_cons_succ, List.getElem_cons_zero, List.setIfInBounds_toArray, List.set_cons_zero, List.set_cons_succ]
      refine wpAnyH_take (i := 1) (oi := _) (v := ?_) rfl (by kernel_rfl) (by kernel_rfl) (by kernel_rfl) (fun _ _ _ h => h) (Or.inl ⟨by rfl, ?_⟩) (by assumption) ?_
      rotate_left 1
      · (intro w hSw; (try dsimp only at hSw); (have q := hSw; go_simp); (try with_reducible rfl))
      try simp only [Act.put, List.getElem_toArray, List.getElem_cons_succ, List.getElem_cons_zero, List.setIfInBounds_toArray, List.set_cons_zero, List.set_cons_succ]
      refine wpAnyH_take (i := 2) (oi := _) (v := ?_) rfl (by kernel_rfl) (by kernel_rfl) (by kernel_rfl) (fun _ _ _ h => h) (Or.inl ⟨by rfl, ?_⟩) (by assumption) ?_
      rotate_left 1
      · (intro w hSw; (try dsimp only at hSw); go_simp; (try with_reducible rfl))
      try simp only [Act.put, List.getElem_toArray, List.getElem_cons_succ, List.getElem_cons_zero, List.setIfInBounds_toArray, List.set_cons_zero, List.set_cons_succ]
      refine wpAnyH_take (i := 3) (oi := _) (v := ?_) rfl (by kernel_rfl) (by kernel_rfl) (by kernel_rfl) (fun _ _ _ h => h) (Or.inl ⟨by rfl, ?_⟩) (by assumption) ?_
      rotate_left 1
      · (intro w hSw; (try dsimp only at hSw); go_simp; (try with_reducible rfl))
      try simp only [Act.put, List.getElem_toArray, List.getElem_cons_succ, List.getElem_cons_zero, List.setIfInBounds_toArray, List.set_cons_zero, List.set_cons_succ]
      refine wpAnyH_ready (rs := [4]) (by kernel_rfl) (by simp) ?_
      refine AllReadyH.cons (o := _) rfl (fun K hK => ?_) AllReadyH.nil
      go_simp
      refine (HCL.out _ (drew_below _)).mono ?_
      rintro e1 w3 ⟨rfl, hm3, hb3⟩
      have hsz3 : w2.drew.heap.size = w2.heap.size := rfl
      rw [hsz3] at hm3
      have hb23 := (drew_below w2).trans (hb3.mono (drew_below w2).size)
      have HB23 := Lib.hid hb23
      have HM3 := Lib.hid hm3
      clear hm3 hb3 hb23
      go_wp2_with fail
      refine hK.out _ _ ?_ (fun hHeld4 => ?_)
      · exact keepc HB23.out C3.out
      clear hK K
      try simp only [Act.put, List.getElem_toArray, List.getElem_cons_succ, List.getElem_cons_zero, List.setIfInBounds_toArray, List.set_cons_zero, List.set_cons_succ]
      refine wpAnyH_ready (rs := [5]) (by kernel_rfl) (by simp) ?_
      refine AllReadyH.cons (o := _) rfl (fun K hK => ?_) AllReadyH.nil
      obtain ⟨ub, hup, hm5⟩ := HMU.out w3 HB23.out
      have hoU : Only (· = M') w3 (ChangeMaps.setBlock w3 M' ub) := (Only.refl _ _).setBlock M' ub (fun _ => rfl)
      generalize ChangeMaps.setBlock w3 M' ub = w5 at hup hm5 hoU
      have HJ := Lib.hid (HFIN.out w3 w5 HB23.out HM3.out hm5 hoU)
      have HO5 := Lib.hid hoU
      clear hm5 hoU
      go_simp
      refine hK.out _ _ ?_ (fun hHeld5 => ?_)
      · exact HO5.out.cell (keepc HB23.out C3.out) (fun e => HGM.out e)
      clear hK K
      try simp only [Act.put, List.getElem_toArray, List.getElem_cons_succ, List.getElem_cons_zero, List.setIfInBounds_toArray, List.set_cons_zero, List.set_cons_succ]
      refine wpAnyH_done (by kernel_rfl) ?_ _
      refine NoPanic.normal ?_
      go_wp2
      go_roundg (pr ++ po).length
      case measure => exact HLT.out
      case rel => exact HJ.out
set_option maxHeartbeats 2000000 in
theorem rwcopy_any {w : World} {B r : Nat} {s : Cfg} {L : List WV} {G : Nat → Prop} (h : RwIs w B r s L G) :
    Calls Try.prog 21 #[.pointer (some ⟨r, 0, none⟩)] w fun e w' => e = .returned (.pointer (some ⟨w.heap.size, 0, none⟩)) ∧ RwIs w' B w.heap.size s L G ∧ Below w.heap.size w w' := by
  obtain ⟨a, c, h1, h2, h3, h4, h5⟩ := h
  have c0 : w.cell? ⟨r, 0, none⟩ = some (.int .i64 s.len) := by rw [cell_of_row _ _ _ _ _ _ h1]; rfl
  have c1 : w.cell? ⟨r, 1, none⟩ = some (.int .i64 s.lat) := by rw [cell_of_row _ _ _ _ _ _ h1]; rfl
  have c2 : w.cell? ⟨r, 2, none⟩ = some (.int .i64 s.most) := by rw [cell_of_row _ _ _ _ _ _ h1]; rfl
  have c3 : w.cell? ⟨r, 3, none⟩ = some (.slice a L.length c) := by rw [cell_of_row _ _ _ _ _ _ h1]; rfl
  have c4 : w.cell? ⟨r, 4, none⟩ = some (.int .i64 s.floor) := by rw [cell_of_row _ _ _ _ _ _ h1]; rfl
  have c5 : w.cell? ⟨r, 5, none⟩ = some (.int .i64 s.mark) := by rw [cell_of_row _ _ _ _ _ _ h1]; rfl
  have c6 : w.cell? ⟨r, 6, none⟩ = some (.int .i64 s.cred) := by rw [cell_of_row _ _ _ _ _ _ h1]; rfl
  have c7 : w.cell? ⟨r, 7, none⟩ = some (.int .i64 s.late) := by rw [cell_of_row _ _ _ _ _ _ h1]; rfl
  have hrl : r < w.heap.size := (Array.getElem?_eq_some_iff.1 h1).1
  have HF := Lib.hid (show ∀ V, V = w.alloc (.cells #[.int .i64 s.len, .int .i64 s.lat, .int .i64 s.most, .slice a L.length c, .int .i64 s.floor, .int .i64 s.mark, .int .i64 s.cred, .int .i64 s.late] 73) → RwIs V B w.heap.size s L G ∧ Below w.heap.size w V from fun V hV => by
    have hb : Below w.heap.size w V := by rw [hV]; exact (Below.refl _ _).alloc (Nat.le_refl _) _
    refine ⟨⟨a, c, by rw [hV]; exact heap_alloc_new w _, h2, h3.new hb, by omega, fun k hk => ?_⟩, hb⟩
    have h9 := h5 k hk
    exact ⟨h9.1, Nat.lt_of_lt_of_le h9.2.1 hb.size, by omega⟩)
  clear h1 h2 h3 h4 h5
  go_enter Try.func21, Try.ntmps21
  go_wp2
  go_ret
  exact ⟨rfl, HF.out _ rfl⟩
end Go.Proofs.Ytbkpgpaanhfjfaa
