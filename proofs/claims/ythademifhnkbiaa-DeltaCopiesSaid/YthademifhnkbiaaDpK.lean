/- The walks over the program's (*Store).Copy, (*Meter).Store, (*Store).Len. -/
import Derived.Test.YthademifhnkbiaaDpA
import Derived.Test.YthademifhnkbiaaApp6
import Derived.Test.YthademifhnkbiaaSm
namespace Go.Proofs.Ythademifhnkbiaa
open Go.RowKit K
/-- The loop of Copy: what was copied, what is to come. -/
def CopL (w : World) (B s M : Nat) (most : Int) (es : List SE) (D o : Nat) (most' : Int) (r g : Nat) (wr : World) : Prop :=
  ∃ remE M' es', g = remE.length ∧ IterAt sEnc wr r M (sents es) (sents remE) ∧ StAt wr B s M most es ∧ StAt wr D o M' most' es' ∧ (es'.map (·.1) ++ remE.map (·.1)).Perm (es.map (·.1)) ∧ Below D w wr ∧ D ≤ r ∧ r ∉ sfoot o M' es' ∧ ∀ e ∈ remE, e ∈ es
def SCopy (w : World) (most : Int) (l : List SV) (e : Ending) (w' : World) : Prop :=
  ∃ s' F' l', e = .returned (.pointer (some ⟨s', 0, none⟩)) ∧ StIs w' w.heap.size s' most l' F' ∧ l'.Perm l ∧ Below w.heap.size w w' ∧ ∀ k ∈ F', w.heap.size ≤ k
theorem sents_split {remE : List SE} {pre post : List (ByteArray × Value)} {x : ByteArray} {v : Value} (h : sents remE = pre ++ (x, v) :: post) : ∃ pr e po, remE = pr ++ e :: po ∧ pre = sents pr ∧ post = sents po ∧ e.1.x.name = x ∧ v = .pointer (some ⟨e.2, 0, none⟩) := by
  unfold sents at h
  obtain ⟨pr, q, h1, h2, h3⟩ := List.map_eq_append_iff.1 h
  obtain ⟨e, po, h4, h5, h6⟩ := List.map_eq_cons_iff.1 h3
  cases h5
  exact ⟨pr, e, po, by rw [h1, h4], h2.symm, h6.symm, rfl, rfl⟩
theorem sents_length (es : List SE) : (sents es).length = es.length := by simp [sents]
theorem iter_lt {w : World} {r m : Nat} {kvs rem : List (ByteArray × Value)} (h : IterAt sEnc w r m kvs rem) : r < w.heap.size := by
  obtain ⟨es, clock, since, seen, last, h1, h2, h3, h4, h5, _⟩ := h
  exact (Array.getElem?_eq_some_iff.1 h5).1
section
variable {w : World} {B s : Nat} {most : Int} {l : List SV} {F : List Nat}
set_option maxHeartbeats 4000000 in
set_option maxRecDepth 100000 in
theorem scopy_any (h : StIs w B s most l F) (hu : Uniq l) (hm : 0 ≤ most) :
    Calls Try.prog 31 #[.pointer (some ⟨s, 0, none⟩)] w (SCopy w most l) := by
  obtain ⟨M, es, h1, rfl, rfl⟩ := h
  have c0 := h1.c0
  have HU := Lib.hid hu
  have H1 := Lib.hid h1
  have hmm : max most 0 = most := by omega
  have HN := Lib.hid (snew_any w w.heap.size (Nat.le_refl _) most)
  have HMM := Lib.hid hmm
  clear h1 hu hmm
  go_enter Try.func31, Try.ntmps31
  go_wp2_with fail
  refine HN.out.mono ?_
  rintro e w1 ⟨o, F1, rfl, ⟨M1, es1, hst1, he1, hf1⟩, hb1, -⟩
  rw [HMM.out] at hst1
  obtain rfl : es1 = [] := by cases es1 with | nil => rfl | cons a b => cases he1
  have hs1 := H1.out.below hb1 (Nat.le_refl _)
  have cm := hs1.c1
  have HMA := Lib.hid hs1.2.1
  have HO := Lib.hid hst1
  have HS1 := Lib.hid hs1
  have HB1 := Lib.hid hb1
  clear he1 hf1 hst1 hs1 hb1 c0 HN
  go_wp2_with (first
    | (with_reducible refine step_range rfl _ _ rfl Try.underlying78 rfl HMA.out ?_)
    | fail)
  intro wx hit hbx hsx
  have HJ := Lib.hid (show CopL w B s M most es w.heap.size o most w1.heap.size (sents es).length wx from
    ⟨es, M1, [], by rw [sents_length], hit, HS1.out.below hbx (Nat.le_refl _), HO.out.below hbx (Nat.le_refl _), by simp, HB1.out.trans (hbx.mono HB1.out.size), HB1.out.size, fun hk => by have := HO.out.lt _ hk; omega, fun _ h => h⟩)
  clear hit hbx hsx HMA HS1 HO cm
  obtain ⟨r, hr⟩ : ∃ r, r = w1.heap.size := ⟨_, rfl⟩
  rw [← hr] at HJ
  go_wp2
  rw [← hr]
  clear hr HB1
  go_loopg [19] (sents es).length (fun g _ wy => CopL w B s M most es w.heap.size o most r g wy)
  case atStart => exact HJ.out
  case round =>
    obtain ⟨remE, M', es', hgk, hit, hst, ho, hpm, hbl, hDr, hrn, hsub⟩ := hrel
    have HGK := Lib.hid hgk
    have HIT := Lib.hid hit
    have HST := Lib.hid hst
    have HO := Lib.hid ho
    have HPM := Lib.hid hpm
    have HBL := Lib.hid hbl
    have HDR := Lib.hid hDr
    have HRN := Lib.hid hrn
    have HSUB := Lib.hid hsub
    clear hgk hit hst ho hpm hbl hDr hrn hsub HJ
    go_wp2_with (first
      | (with_reducible refine step_next sKey rfl _ rfl rfl HIT.out ?hdone ?hK)
      | fail)
    case hdone =>
      intro hrem
      have hre : remE = [] := by cases remE with | nil => rfl | cons a b => cases hrem
      subst hre
      have HF := Lib.hid (show SCopy w most (es.map (·.1)) (.returned (.pointer (some ⟨o, 0, none⟩))) wr from ⟨o, _, _, rfl, ⟨M', es', HO.out, rfl, rfl⟩, by have := HPM.out; simpa using this, HBL.out, HO.out.2.2.2.2⟩)
      clear hrem
      go_wp2
      go_ret
      exact HF.out
    case hK =>
      intro w2 pre x v post hrem hmem hit2 ho2 hs2 hent
      obtain ⟨pr, ⟨sv, cb⟩, po, rfl, rfl, rfl, hn, rfl⟩ := sents_split hrem
      simp only at hn
      have he : ((sv, cb) : SE) ∈ es := HSUB.out _ (by simp)
      have hDs : ∀ k ∈ sfoot s M es, k < w.heap.size := H1.out.lt
      have hcb : cb < w.heap.size := hDs cb (by simp only [sfoot, List.mem_cons, List.mem_map]; exact .inr (.inr ⟨_, he, rfl⟩))
      have hMw : M < w.heap.size := hDs M (by simp [sfoot])
      have hoM := HO.out.2.2.2.2
      have hM' : w.heap.size ≤ M' := hoM M' (by simp [sfoot])
      have hrM : r ≠ M' := fun e => HRN.out (by rw [e]; simp [sfoot])
      have hst2 : StAt w2 B s M most es := HST.out.only ho2 (fun k hk e => by have e : k = r := e; have := hDs k hk; have := HDR.out; omega)
      have hos2 : StAt w2 w.heap.size o M' most es' := HO.out.only ho2 (fun k hk e => by have e : k = r := e; exact HRN.out (e ▸ hk))
      have hbl2 : Below w.heap.size w w2 := HBL.out.trans (ho2.below HBL.out.size (fun k e => by have e : k = r := e; rw [e]; exact HDR.out))
      have hlast := hst2.2.2.1 (sv, cb) he
      have hmg : mget x (sents es') = none := by
        have hnd : Uniq (es'.map (·.1) ++ (pr ++ (sv, cb) :: po).map (·.1)) := Uniq.perm HU.out HPM.out.symm
        unfold Uniq at hnd
        rw [List.map_append] at hnd
        have hx : x ∉ (sents es').map (·.1) := fun hx => by
          refine (List.nodup_append.1 hnd).2.2 x ?_ x ?_ rfl
          · unfold sents at hx
            simp only [List.map_map] at hx ⊢
            exact hx
          · simp only [List.map_append, List.map_cons, List.mem_append, List.mem_cons]
            exact .inr (.inl hn.symm)
        cases hg : mget x (sents es') with
        | none => rfl
        | some u => exact absurd ((mget_mem x _).1 (by rw [hg]; rfl)) hx
      have hpm2 : ((es' ++ [(sv, w2.heap.size)]).map (·.1) ++ (pr ++ po).map (·.1)).Perm (es.map (·.1)) := by
        refine List.Perm.trans ?_ HPM.out
        simp only [List.map_append, List.map_cons, List.map_nil, List.append_assoc]
        exact List.Perm.append_left _ (show (sv :: (pr.map (·.1) ++ po.map (·.1))).Perm _ from List.perm_middle.symm)
      obtain ⟨⟨n', v', t', c'⟩, live, ow⟩ := sv
      simp only at hn
      subst hn
      have b0 : w2.cell? ⟨cb, 0, none⟩ = some (.string n') := by rw [cell_of_row _ _ _ _ _ _ hlast]; rfl
      have b1 : w2.cell? ⟨cb, 1, none⟩ = some (.int .i64 v') := by rw [cell_of_row _ _ _ _ _ _ hlast]; rfl
      have b2 : w2.cell? ⟨cb, 2, none⟩ = some (.int .i64 t') := by rw [cell_of_row _ _ _ _ _ _ hlast]; rfl
      have b3 : w2.cell? ⟨cb, 3, none⟩ = some (.bool c') := by rw [cell_of_row _ _ _ _ _ _ hlast]; rfl
      have b4 : w2.cell? ⟨cb, 4, none⟩ = some (.bool live) := by rw [cell_of_row _ _ _ _ _ _ hlast]; rfl
      have b5 : w2.cell? ⟨cb, 5, none⟩ = some (.int .i64 ow) := by rw [cell_of_row _ _ _ _ _ _ hlast]; rfl
      have co := hos2.c1
      have hol : o < w2.heap.size := hos2.lt o (by simp [sfoot])
      have hent2 : Sem.run Try.prog (Instr.entry (Value.pointer (some ⟨r, 0, none⟩))) w2 = .ok (.tuple #[.string n', .pointer (some ⟨cb, 0, none⟩)]) w2 := hent
      have hma : MapAt sEnc (w2.alloc (.cells #[.string n', .int .i64 v', .int .i64 t', .bool c', .bool live, .int .i64 ow] 88)) M' (sents es') := hos2.2.1.only (F := fun _ => False) (Only.of_new ((Below.refl _ _).alloc (Nat.le_refl _) _)) (fun h => h)
      have HMA := Lib.hid hma
      have HLT := Lib.hid (show (pr ++ po).length < gk from by rw [HGK.out]; simp)
      have HFIN := Lib.hid (fun w3 (hm3 : MapAt sEnc w3 M' (mput n' (.pointer (some ⟨w2.heap.size, 0, none⟩)) (sents es'))) (ho3 : Only (· = M') (w2.alloc (.cells #[.string n', .int .i64 v', .int .i64 t', .bool c', .bool live, .int .i64 ow] 88)) w3) => (show CopL w B s M most es w.heap.size o most r (pr ++ po).length w3 from by
        have hal : Only (fun _ => False) w2 (w2.alloc (.cells #[.string n', .int .i64 v', .int .i64 t', .bool c', .bool live, .int .i64 ow] 88)) := (Only.refl _ _).alloc _
        have hal2 := hal.mono (G := (· = M')) (fun _ _ h => h.elim)
        have ho23 : Only (· = M') w2 w3 := hal2.trans ho3 (fun _ _ h => h)
        refine ⟨pr ++ po, M', es' ++ [(⟨⟨n', v', t', c'⟩, live, ow⟩, w2.heap.size)], rfl, ?_, hst2.only ho23 (fun k hk e => by have := hDs k hk; omega), ?_, hpm2, hbl2.trans (ho23.below hbl2.size (fun k e => by have e : k = M' := e; rw [e]; exact hM')), HDR.out, ?_, fun e he => HSUB.out e (by simp only [List.mem_append, List.mem_cons] at he ⊢; rcases he with h | h; exact .inl h; exact .inr (.inr h))⟩
        · have : sents (pr ++ po) = sents pr ++ sents po := by simp [sents]
          rw [this]
          exact hit2.only ho23 (fun e => by have e : M = M' := e; omega) (fun e => hrM e)
        · exact StAt.added hos2 hbl2.size hmg ⟨⟨n', v', t', c'⟩, live, ow⟩ rfl hm3 ⟨ho3.os, ho3.tape, ho3.output, ho3.size, ho3.block⟩
        · intro hk
          have : sfoot o M' (es' ++ [(⟨⟨n', v', t', c'⟩, live, ow⟩, w2.heap.size)]) = sfoot o M' es' ++ [w2.heap.size] := by simp [sfoot]
          rw [this] at hk
          rcases List.mem_append.1 hk with hk | hk
          · exact HRN.out hk
          · simp at hk
            have := iter_lt hit2
            omega))
      clear hrem hmem hit2 ho2 hs2 hent he hDs hcb hMw hoM hM' hrM hst2 hos2 hbl2 hlast hmg hpm2 hma HGK HIT HST HO HPM HBL HSUB
      go_wp2_with (first
        | (with_reducible refine step_update sKey rfl _ _ _ _ rfl Try.underlying78 rfl HMA.out n' rfl _ rfl ?_)
        | fail)
      intro w3 hg3 ho3 hs3
      have HJ3 := Lib.hid (HFIN.out w3 hg3 ho3)
      clear hg3 ho3 hs3 HFIN
      go_wp2
      go_roundg (pr ++ po).length
      case measure => exact HLT.out
      case rel => exact HJ3.out
/-- The program's store's length. -/
theorem slen_any (h : StIs w B s most l F) (hl : l.length ≤ 1000000) : Calls Try.prog 18 #[.pointer (some ⟨s, 0, none⟩)] w fun e w' => e = .returned (.int .i64 l.length) ∧ w = w' := by
  obtain ⟨M, es, h1, rfl, rfl⟩ := h
  have hlen := K.run_len_map (P := Try.prog) h1.2.1 Try.underlying78 3
  have c1 := h1.c1
  rw [sents_length] at hlen
  rw [List.length_map] at hl ⊢
  generalize es.length = ln at hlen hl
  clear h1
  go_enter Try.func18, Try.ntmps18
  go_wp2
  go_ret
  exact ⟨rfl, rfl⟩
theorem mstore_any {m : Nat} {tal : Tal} (h : MIs w B m s most l F tal) (hu : Uniq l) (hm : 0 ≤ most) :
    Calls Try.prog 17 #[.pointer (some ⟨m, 0, none⟩)] w (SCopy w most l) := by
  have HC := Lib.hid (scopy_any h.2.1 hu hm)
  have c0 : w.cell? ⟨m, 0, none⟩ = some (.pointer (some ⟨s, 0, none⟩)) := by rw [cell_of_row _ _ _ _ _ _ h.1]; rfl
  clear h hu hm
  go_enter Try.func17, Try.ntmps17
  go_wp2_with fail
  refine HC.out.mono ?_
  intro e w1 hp
  have hq := hp
  obtain ⟨s', F', l', rfl, -⟩ := hp
  have HQ := Lib.hid hq
  clear hq
  go_wp2
  go_ret
  exact HQ.out
end
end Go.Proofs.Ythademifhnkbiaa
