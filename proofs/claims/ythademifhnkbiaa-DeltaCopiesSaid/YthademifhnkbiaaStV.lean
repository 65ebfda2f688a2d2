/- The walk over (*store.Store).Put. -/
import Derived.Test.YthademifhnkbiaaStW
namespace Go.Proofs.Ythademifhnkbiaa
open Go.RowKit K
section
variable {w : World} {B s : Nat} {most : Int} {l : List SV} {F : List Nat}
/-- What lies apart from what. -/
structure Apt (D r s M : Nat) (es : List SE) (v : Value) : Prop where
  dr : D < r
  df : D ∉ sfoot s M es
  rf : r ∉ sfoot s M es
  vf : ∀ b, v.ownBlock = some b → b ∉ sfoot s M es
  vr : ∀ b, v.ownBlock = some b → b ≠ r
/-- The second loop of Put. -/
def PutJ (w : World) (B s M : Nat) (most owner : Int) (es : List SE) (F : List Nat) (v : Value) (n : Nat) (outs : List Value) (r g : Nat) (wr : World) : Prop :=
  ∃ rem gk, g = rem.length ∧ IterAt sEnc wr r M (sents es) rem ∧ MapAt sEnc wr w.heap.size gk ∧ StAt wr B s M most es ∧ wr.ownsRow (w.heap.size + 1) 68 7 v n outs ∧ Only (· ∈ F) w wr ∧ GoneOk owner es rem gk
theorem PutJ.turn {D r M : Nat} {es : List SE} {v : Value} {n : Nat} {outs : List Value} {wr w' : World} (hA : Apt w.heap.size r s M es v) (hst : StAt wr B s M most es) (hown : wr.ownsRow (w.heap.size + 1) 68 7 v n outs) (hon : Only (· ∈ F) w wr)
    (ho : Only (· = D) wr w') (hD : D = r ∨ D = w.heap.size) : StAt w' B s M most es ∧ w'.ownsRow (w.heap.size + 1) 68 7 v n outs ∧ Only (· ∈ F) w w' := by
  have hvD := hown.lt
  have hDn : w.heap.size ≤ D := by have := hA.dr; omega
  refine ⟨hst.only ho (fun k hk e => ?_), ho.own hown (fun k hk e => ?_), hon.trans ho (fun k hk e => by omega)⟩
  · rcases hD with rfl | rfl
    · exact hA.rf (e ▸ hk)
    · exact hA.df (e ▸ hk)
  · rcases hD with rfl | rfl
    · exact hA.vr k hk e
    · have := (hvD k hk).1; omega
/-- The third loop of Put. -/
def PutK (w : World) (B s M : Nat) (most owner : Int) (es : List SE) (F : List Nat) (v : Value) (n : Nat) (outs : List Value) (names : List ByteArray) (wr : World) : Prop :=
  ∃ gk, MapAt sEnc wr w.heap.size gk ∧ GoneTo owner (es.map (·.1)) names gk ∧ StAt wr B s M most es ∧ wr.ownsRow (w.heap.size + 1) 68 7 v n outs ∧ Only (· ∈ F) w wr
theorem PutK.alloc {M : Nat} {owner : Int} {es : List SE} {v : Value} {n : Nat} {outs : List Value} {names : List ByteArray} {wr : World} (h : PutK w B s M most owner es F v n outs names wr) (o : Obj) : PutK w B s M most owner es F v n outs names (wr.alloc o) := by
  obtain ⟨gk, h1, h2, h3, h4, h5⟩ := h
  have ho : Only (fun _ => False) wr (wr.alloc o) := (Only.refl _ _).alloc o
  exact ⟨gk, h1.only ho (fun h => h), h2, h3.only ho (fun _ _ h => h), ho.own h4 (fun _ _ h => h), h5.alloc o⟩
/-- The fourth loop of Put: 'dn' are turned off. -/
def PutM (w : World) (B s M : Nat) (most : Int) (es : List SE) (F : List Nat) (v : Value) (n : Nat) (outs : List Value) (gk : List (ByteArray × Value)) (r g : Nat) (wr : World) : Prop :=
  ∃ rem dn es', g = rem.length ∧ IterAt sEnc wr r w.heap.size gk rem ∧ StAt wr B s M most es' ∧ sfoot s M es' = sfoot s M es ∧ es'.map (·.1) = offL dn (es.map (·.1)) ∧ (dn ++ rem.map (·.1)).Nodup ∧ (∀ x, x ∈ dn ++ rem.map (·.1) ↔ x ∈ gk.map (·.1)) ∧
    wr.ownsRow (w.heap.size + 1) 68 7 v n outs ∧ Only (· ∈ F) w wr
def PutPost (w : World) (B s : Nat) (most owner : Int) (l : List SV) (F : List Nat) (xs : List Smp) (e : Ending) (w' : World) : Prop :=
  ∃ v F', e = .returned v ∧ w'.ownsRow (w.heap.size + 1) 68 7 v xs.length (snf (putS most owner l xs)) ∧ StIs w' B s most (goneL owner (xs.map (·.name)) (putL most owner l xs)) F' ∧ Only (· ∈ F) w w' ∧ (∀ b ∈ F', b ∈ F ∨ w.heap.size ≤ b) ∧ ∀ b, v.ownBlock = some b → b ∉ F'
theorem ent_of {es : List SE} {x : ByteArray} {v : Value} (h : (x, v) ∈ sents es) : ∃ e ∈ es, e.1.x.name = x ∧ v = .pointer (some ⟨e.2, 0, none⟩) := by
  obtain ⟨e, he, hxv⟩ := List.mem_map.1 h
  cases hxv
  exact ⟨e, he, rfl, rfl⟩
theorem StAt.last {w : World} {M : Nat} {es : List SE} (h : StAt w B s M most es) {e : SE} (he : e ∈ es) : w.cell? ⟨e.2, 4, none⟩ = some (.bool e.1.live) ∧ w.cell? ⟨e.2, 5, none⟩ = some (.int .i64 e.1.owner) := by
  have hc := h.2.2.1 e he
  exact ⟨by rw [cell_of_row _ _ _ _ _ _ hc]; rfl, by rw [cell_of_row _ _ _ _ _ _ hc]; rfl⟩
theorem same_of {w : World} {M : Nat} {es : List SE} (h : StAt w B s M most es) {e e' : SE} (he : e ∈ es) (he' : e' ∈ es) (h2 : e'.2 = e.2) : e'.1.owner = e.1.owner ∧ e'.1.live = e.1.live := by
  have h3 := h.last he
  have h4 := h.last he'
  rw [h2] at h4
  have a := h3.1.symm.trans h4.1
  have b := h3.2.symm.trans h4.2
  simp at a b
  exact ⟨b.symm, a.symm⟩
set_option maxHeartbeats 4000000 in
set_option maxRecDepth 100000 in
theorem put_any (h : StIs w B s most l F) (hB : B ≤ w.heap.size) (owner : Int) (a : Option Addr) (c : Nat) (xs : List Smp) (hr : Rd w a (smf xs)) (hx : xs.length ≤ 100000) (hna : ∀ ad, a = some ad → xs ≠ [] → ad.block ∉ F) (hu : Uniq l) :
    Calls Try.prog 24 #[.pointer (some ⟨s, 0, none⟩), .int .i64 owner, .slice a xs.length c] w (PutPost w B s most owner l F xs) := by
  have HU := Lib.hid hu
  clear hu
  obtain ⟨i0, hi, hz0, hz1, hz2⟩ := info_parts info_seen
  have H := Lib.hid h
  have HR := Lib.hid hr
  clear h hr
  have hmm := @run_makeMap Try.prog
  go_enter Try.func24, Try.ntmps24
  go_wp2
  go_loopw [6, 20] (fun v i wr => ∃ k : Nat, k ≤ xs.length ∧ i = .int .i64 k ∧ PutI w B s most owner l F xs k v wr) (fun _ i _ => xs.length - (intOf i).toNat)
  case atStart =>
    refine ⟨0, by omega, rfl, F, World.ownsRow_nil _ _ _ _, ?_, (Only.refl _ _).alloc _, fun b hb => .inl hb, H.out.lt, MapAt.new sEnc w, fun b hb => by simp [Value.ownBlock] at hb⟩
    exact H.out.alloc _
  case round =>
    obtain ⟨k, hk, rfl, F', hp⟩ := hrel
    have HP := Lib.hid hp
    clear hp
    by_cases hlt : k < xs.length
    · obtain ⟨hown, hst, hon, hF', hF2, hg, hnb⟩ := HP.out
      have hrd := hon.rd HR.out (fun ad e => hna ad e (fun h => by rw [h] at hlt; simp at hlt))
      obtain ⟨b, off, rfl, hb, q0, q1, q2, q3⟩ := smp_cells hrd hlt
      have hsz := hon.size
      have HST := Lib.hid hst
      have HOWN := Lib.hid hown
      clear hown hst hon hF' hF2 hg hrd
      have HONE := Lib.hid (fun F' (hh : StIs (wr.alloc (.cells #[.string xs[k].name, .int .i64 xs[k].val, .int .i64 xs[k].time, .bool xs[k].counts] 31)) B s most (putL most owner l (xs.take k)) F') => one_any hh (by rw [World.size_alloc]; omega) owner xs[k])
      have HSTEP := Lib.hid (fun (v' : Value) (w5 w' : World) (Z Y : Obj) => PutI.step (v' := v') (w5 := w5) (w' := w') (Z := Z) (Y := Y) HP.out hlt)
      have HNB := Lib.hid hnb
      clear hnb
      have HL := Lib.hid (putS_length most owner (xs.take k) l)
      generalize xs[k] = x at q0 q1 q2 q3 HONE HSTEP
      obtain ⟨n, v, t, cc⟩ := x
      simp only [] at q0 q1 q2 q3 HONE
      go_wp2_with fail
      refine (HONE.out F' (HST.out.alloc _)).mono ?_
      rintro e w5 ⟨rfl, hto⟩
      have HTO := Lib.hid hto
      clear hto
      generalize oneV most (putL most owner l (xs.take k)) ⟨n, v, t, cc⟩ = rr at HSTEP HTO
      generalize oneL most owner (putL most owner l (xs.take k)) ⟨n, v, t, cc⟩ = ll at HSTEP HTO
      obtain ⟨⟨n2, v2, t2, c2⟩, vd, ch, ahd⟩ := rr
      have hs5 : wr.heap.size + 1 ≤ w5.heap.size := by obtain ⟨_, _, g2, _⟩ := HTO.out; have := g2.size; rw [World.size_alloc] at this; exact this
      have HO6 := Lib.hid (fun Y => by
        obtain ⟨_, _, g2, _⟩ := HTO.out
        exact ((((Only.refl (· ∈ F') wr).alloc _).trans' g2).alloc Y).own HOWN.out HNB.out)
      simp only [Sn.cells]
      go_wp2_with (first
        | (at_builtin; refine step_append_at _ rfl _ _ 26 rfl (w.heap.size + 1) 68 i0 _ 7 64 Try.underlying26 hi hz0 hz1 hz2 rfl (by decide) _ _ _ rfl (HO6.out _) ⟨w5.heap.size, 0, none⟩ 1 1 _ rfl ?g0 (row_new _ _ _ _) ?g1 ?g2 ?g3 ?g4 ?_)
        | fail)

      case g1 => simp [Value.oneCell']
      case g2 => simp only [maxLen]; omega
      case g3 => omega
      case g4 => rw [World.size_alloc]; have := hsz; omega
      intro v' w' hown' hgr hnil hv'
      have HN := Lib.hid (HSTEP.out v' w5 w' _ _ HTO.out hown' hgr (by rw [World.size_alloc]; exact hv'))
      clear hown' hgr hnil hv'
      go_wp2
      go_roundw
      case rel => exact ⟨k + 1, by omega, by go_num, HN.out⟩
      case measure => simp [intOf]; omega
    · obtain rfl : k = xs.length := by omega
      have hp := HP.out
      unfold PutF at hp
      rw [List.take_length] at hp
      obtain ⟨hown, ⟨M, es, hst, hes, rfl⟩, hon, hF', hF2, hg, hnb⟩ := hp
      have ca := hst.c1
      have HES := Lib.hid hes
      have HFF := Lib.hid hF'
      have HA0 : Hid (∀ r, wr.heap.size ≤ r → Apt w.heap.size r s M es u6) := Lib.hid fun r hr => ⟨by have := hg.lt; omega, fun hm => by
          rcases hF' _ hm with h | h
          · have := hF2 _ h; omega
          · omega, fun hm => by have := hst.lt _ hm; omega, hnb, fun b hb e => by have := (hown.lt b hb).2; omega⟩
      have HJ0 := Lib.hid (show ∀ wx, Below wr.heap.size wr wx → MapAt sEnc wx w.heap.size [] ∧ StAt wx B s M most es ∧ wx.ownsRow (w.heap.size + 1) 68 7 u6 xs.length (snf (putS most owner l xs)) ∧ Only (· ∈ F) w wx from fun wx hb => by
        have ho : Only (fun _ => False) wr wx := Only.of_new hb
        exact ⟨hg.only ho (fun h => h), hst.only ho (fun _ _ h => h), ho.own hown (fun _ _ h => h), hon.trans ho (fun _ _ h => h.elim)⟩)
      have hma := hst.2.1
      have HMA := Lib.hid hma
      clear hma hown hst hes hon hF' hF2 hg hnb HP hmm
      go_wp2_with (first
        | (with_reducible refine step_range rfl _ _ rfl Try.underlying78 rfl HMA.out ?_)
        | fail)
      intro wx hit hbx hsx
      have HA := Lib.hid (HA0.out wr.heap.size (Nat.le_refl _))
      have HJ := Lib.hid (show PutJ w B s M most owner es F u6 xs.length (snf (putS most owner l xs)) wr.heap.size (sents es).length wx from by
        obtain ⟨j1, j2, j3, j4⟩ := HJ0.out wx hbx
        exact ⟨_, _, rfl, hit, j1, j2, j3, j4, GoneOk.start owner es⟩)
      clear hit hbx hsx HA0 HJ0 HMA
      obtain ⟨r, hrr⟩ : ∃ r, r = wr.heap.size := ⟨_, rfl⟩
      rw [← hrr] at HA HJ
      go_wp2
      rw [← hrr]
      clear hrr ca
      generalize hout : snf (putS most owner l xs) = outs at HJ
      have HOUT := Lib.hid hout
      clear hout
      go_loopg [37] (sents es).length (fun g _ wy => PutJ w B s M most owner es F u6 xs.length outs r g wy)
      case atStart => exact HJ.out
      case round =>
        obtain ⟨rem, gm, hgk, hit, hg, hst, hown, hon, hok⟩ := hrel
        have HIT := Lib.hid hit
        have HG := Lib.hid hg
        have HST := Lib.hid hst
        have HOWN := Lib.hid hown
        have HON := Lib.hid hon
        have HOK := Lib.hid hok
        have HGK := Lib.hid hgk
        clear hit hg hst hown hon hok hgk
        go_wp2_with (first
          | (with_reducible refine step_next sKey rfl _ rfl rfl HIT.out ?hdone ?hK)
          | fail)
        case hdone =>
          intro hrem
          have HK := Lib.hid (show PutK w B s M most owner es F u6 xs.length outs ((xs.take 0).map (·.name)) wr from by
            have hok := HOK.out
            rw [hrem] at hok
            exact ⟨gm, HG.out, hok.done, HST.out, HOWN.out, HON.out⟩)
          clear HIT HG HST HOWN HON HOK HGK hrem HJ
          go_wp2
          go_loopw [59] (fun i wr => ∃ k : Nat, k ≤ xs.length ∧ i = .int .i64 k ∧ PutK w B s M most owner es F u6 xs.length outs ((xs.take k).map (·.name)) wr) (fun i _ => xs.length - (intOf i).toNat)
          case atStart => exact ⟨0, by omega, rfl, HK.out⟩
          case round =>
            obtain ⟨k, hk, rfl, hp⟩ := hrel
            have HP := Lib.hid hp
            clear hp HK
            by_cases hlt : k < xs.length
            · have hon := HP.out
              obtain ⟨_, _, _, _, _, hon⟩ := hon
              obtain ⟨b, off, rfl, hb, q0, q1, q2, q3⟩ := smp_cells (hon.rd HR.out (fun ad e => hna ad e (fun h => by rw [h] at hlt; simp at hlt))) hlt
              clear hon
              have HTK := Lib.hid (take_succ xs k hlt)
              generalize xs[k] = x at q0 q1 q2 q3 HTK
              obtain ⟨n, v, t, cc⟩ := x
              simp only [] at q0 q1 q2 q3
              have HPA := Lib.hid (HP.out.alloc (.cells #[.string n, .int .i64 v, .int .i64 t, .bool cc] 31))
              clear HP
              obtain ⟨gk3, g1, g2, g3, g4, g5⟩ := HPA.out
              have HG1 := Lib.hid g1
              have HG2 := Lib.hid g2
              have HG3 := Lib.hid g3
              have HG4 := Lib.hid g4
              have HG5 := Lib.hid g5
              clear HPA g1 g2 g3 g4 g5
              go_wp2_with (first
                | (with_reducible refine step_delete sKey rfl _ _ _ _ rfl Try.underlying84 rfl HG1.out n rfl ?_)
                | fail)
              intro w3 d1 d2 d3
              have HK3 := Lib.hid (show PutK w B s M most owner es F u6 xs.length outs ((xs.take (k + 1)).map (·.name)) w3 from by
                obtain ⟨k1, k2, k3⟩ := PutJ.turn HA.out HG3.out HG4.out HG5.out d2 (.inr rfl)
                refine ⟨_, d1, ?_, k1, k2, k3⟩
                rw [HTK.out, List.map_append]
                exact HG2.out.del n)
              clear d1 d2 d3
              go_wp2
              go_roundw
              case rel => exact ⟨k + 1, by omega, by go_num, HK3.out⟩
              case measure => simp [intOf]; omega
            · obtain rfl : k = xs.length := by omega
              have hp := HP.out
              rw [List.take_length] at hp
              obtain ⟨gk3, g1, g2, g3, g4, g5⟩ := hp
              have HG1 := Lib.hid g1
              have HG2 := Lib.hid g2
              have HM0 := Lib.hid (fun (wx : World) (hb : Below wr.heap.size wr wx) (hit : IterAt sEnc wx wr.heap.size w.heap.size gk3 gk3) => show PutM w B s M most es F u6 xs.length outs gk3 wr.heap.size gk3.length wx from by
                have ho : Only (fun _ => False) wr wx := Only.of_new hb
                exact ⟨_, [], es, rfl, hit, g3.only ho (fun _ _ h => h), rfl, (offL_nil _).symm, by simpa using g2.1, fun x => by simp, ho.own g4 (fun _ _ h => h), g5.trans ho (fun _ _ h => h.elim)⟩)
              have HR2 := Lib.hid (show w.heap.size < wr.heap.size ∧ (∀ k ∈ sfoot s M es, k < wr.heap.size) ∧ ∀ b, u6.ownBlock = some b → b < wr.heap.size from ⟨g1.lt, g3.lt, fun b hb => (g4.lt b hb).2⟩)
              clear g1 g2 g3 g4 g5 HP
              go_wp2_with (first
                | (with_reducible refine step_range rfl _ _ rfl Try.underlying84 rfl HG1.out ?_)
                | fail)
              intro wx hit hbx hsx
              have HM := Lib.hid (HM0.out wx hbx hit)
              clear hit hbx hsx HM0
              obtain ⟨r2, hr2⟩ : ∃ r, r = wr.heap.size := ⟨_, rfl⟩
              rw [← hr2] at HM HR2
              go_wp2
              rw [← hr2]
              clear hr2
              go_loopg [69] gk3.length (fun g _ wy => PutM w B s M most es F u6 xs.length outs gk3 r2 g wy)
              case atStart => exact HM.out
              case round =>
                obtain ⟨rem, dn, es', hgk, hit, hst, hft, hes', hnd, hmm, hown, hon⟩ := hrel
                have HGK := Lib.hid hgk
                have HIT := Lib.hid hit
                have HST := Lib.hid hst
                have HFT := Lib.hid hft
                have HES' := Lib.hid hes'
                have HND := Lib.hid hnd
                have HMM := Lib.hid hmm
                have HOWN := Lib.hid hown
                have HON := Lib.hid hon
                clear hgk hit hst hft hes' hnd hmm hown hon HM
                go_wp2_with (first
                  | (with_reducible refine step_next sKey rfl _ rfl rfl HIT.out ?hdone4 ?hK4)
                  | fail)
                case hdone4 =>
                  intro hrem
                  have HP := Lib.hid (show PutPost w B s most owner l F xs (.returned u6) wr from by
                    have e1 : es'.map (·.1) = goneL owner (xs.map (·.name)) (putL most owner l xs) := by
                      rw [HES'.out, HES.out, ← goneL_is HG2.out (by rw [← HES.out]; exact HU.out.putL xs)]
                      refine offL_congr (fun x => ?_) _
                      have := HMM.out x
                      rw [hrem] at this
                      simpa using this
                    refine ⟨u6, sfoot s M es, rfl, by rw [HOUT.out]; exact HOWN.out, ⟨M, es', HST.out, e1.symm, HFT.out.symm⟩, HON.out, fun b hb => (HFF.out b hb).imp id (fun h => by omega), HA.out.vf⟩)
                  clear hrem
                  go_wp2
                  go_ret
                  exact HP.out
                case hK4 =>
                  intro w2 pre x v post hrem hmem hit2 ho2 hs2 hent
                  have hxk : x ∈ gk3.map (·.1) := List.mem_map.2 ⟨_, hmem, rfl⟩
                  obtain ⟨_, v1, hv1, hn1, _, _⟩ := (HG2.out.2 x).1 hxk
                  have hnd := HND.out
                  rw [hrem] at hnd
                  have hpm : (dn ++ (pre ++ (x, v) :: post).map (·.1)).Perm ((dn ++ [x]) ++ (pre ++ post).map (·.1)) := by
                    simp only [List.map_append, List.map_cons, List.append_assoc]
                    refine List.Perm.append_left dn ?_
                    exact List.perm_middle
                  have hxd : x ∉ dn := fun hd => by
                    have := (List.nodup_append.1 hnd).2.2 x hd x (by simp)
                    exact this rfl
                  have hst2 : StAt w2 B s M most es' := HST.out.only ho2 (fun k hk e => by
                    rw [HFT.out] at hk
                    have := HR2.out.2.1 k hk
                    omega)
                  have hown2 := ho2.own HOWN.out (fun k hk e => by have := HR2.out.2.2 k hk; omega)
                  have hon2 : Only (· ∈ F) w w2 := HON.out.trans ho2 (fun k hk e => by have := HR2.out.1; omega)
                  have hex : ∃ u ∈ es'.map (·.1), u.x.name = x := by
                    have : x ∈ (es'.map (·.1)).map (fun v => v.x.name) := by
                      rw [HES'.out, offL_names]
                      exact List.mem_map.2 ⟨v1, hv1, hn1⟩
                    obtain ⟨u, hu, hn⟩ := List.mem_map.1 this
                    exact ⟨u, hu, hn⟩
                  obtain ⟨⟨u, cb⟩, hef⟩ := efind_of hex
                  obtain ⟨pr, po, hsp, hun, _⟩ := efind_split hef
                  have hcb := hst2.2.2.1 (u, cb) (by rw [hsp]; simp)
                  have hlk := run_lookup sKey hst2.2.1 Try.underlying78 (.pointer none) (by kernel_rfl) x false
                  rw [mget_sents, hef] at hlk
                  have hlk2 : Sem.run Try.prog (Instr.lookup 78 (.map (some M)) (.string x) false) w2 = .ok (.pointer (some ⟨cb, 0, none⟩)) w2 := hlk
                  have hent2 : Sem.run Try.prog (Instr.entry (Value.pointer (some ⟨r2, 0, none⟩))) w2 = .ok (.tuple #[.string x, v]) w2 := hent
                  have cm := hst2.c1
                  have c4 : w2.cell? ⟨cb, 4, none⟩ = some (.bool u.live) := by rw [cell_of_row _ _ _ _ _ _ hcb]; rfl
                  have f4 : w2.frozen? ⟨cb, 4, none⟩ = false := frozen_of_row _ _ _ _ _ hcb
                  have hof : Only (· = cb) w2 (w2.setCell ⟨cb, 4, none⟩ (.bool false)) := (Only.refl _ _).setCell _ _ (fun _ => rfl)
                  have hcn : (w2.setCell ⟨cb, 4, none⟩ (.bool false)).heap[cb]? = some (.cells u.off.cells 88 (0, 0)) := by
                    rw [heap_setCell_same _ _ _ _ _ _ hcb]
                    rfl
                  have hcf : cb ∈ sfoot s M es := by rw [← HFT.out, hsp]; simp [sfoot]
                  have HMX := Lib.hid (show PutM w B s M most es F u6 xs.length outs gk3 r2 (pre ++ post).length (w2.setCell ⟨cb, 4, none⟩ (.bool false)) from by
                    rw [hsp] at hst2
                    refine ⟨_, dn ++ [x], pr ++ (u.off, cb) :: po, rfl, hit2.only hof (fun h => HA.out.df (h ▸ hcf)) (fun h => by have := HR2.out.2.1 cb hcf; omega), hst2.turned (v' := u.off) hof rfl hcn, ?_, ?_, hpm.nodup_iff.1 hnd, ?_, hof.own hown2 (fun k hk e => HA.out.vf k hk (e ▸ hcf)), hon2.trans hof (fun k hk e => (HFF.out k (e ▸ hcf)).resolve_right (by omega))⟩
                    · rw [← HFT.out, hsp]
                      simp [sfoot]
                    · rw [offL_add hxd, ← HES'.out, hsp]
                      have hu2 : Uniq ((pr ++ (u, cb) :: po).map (·.1)) := by
                        rw [← hsp, HES'.out]
                        exact Uniq.off (by rw [← HES.out]; exact HU.out.putL xs) dn
                      simp only [List.map_append, List.map_cons] at hu2 ⊢
                      have := off_split hu2 hun
                      simp only [List.map_append, List.map_cons] at this
                      exact this.symm
                    · intro y
                      rw [← hpm.mem_iff, ← hrem]
                      exact HMM.out y)
                  have HLT := Lib.hid (show (pre ++ post).length < gk from by rw [HGK.out, hrem]; simp)
                  clear hrem hmem hit2 ho2 hs2 hent hxk hv1 hn1 hnd hpm hxd hst2 hown2 hon2 hex hef hsp hun hcb hlk hof hcn hcf
                  go_wp2
                  go_roundg (pre ++ post).length
                  case measure => exact HLT.out
                  case rel => exact HMX.out
        case hK =>
          intro w2 pre x v post hrem hmem hit2 ho2 hs2 hent
          obtain ⟨e, he, hn, rfl⟩ := ent_of hmem
          obtain ⟨k1, k2, k3⟩ := PutJ.turn HA.out HST.out HOWN.out HON.out ho2 (.inl rfl)
          have hg2 : MapAt sEnc w2 w.heap.size gm := HG.out.only ho2 (fun h => by have := HA.out.dr; omega)
          obtain ⟨c4, c5⟩ := k1.last he
          have HIT2 := Lib.hid hit2
          have HG2 := Lib.hid hg2
          have HST2 := Lib.hid k1
          have HOWN2 := Lib.hid k2
          have HON2 := Lib.hid k3
          have HGK2 := Lib.hid (show (pre ++ post).length < gk from by rw [HGK.out, hrem]; simp)
          have HOK1 := Lib.hid (show GoneOk owner es (pre ++ (x, .pointer (some ⟨e.2, 0, none⟩)) :: post) gm from by rw [← hrem]; exact HOK.out)
          have hent2 : Sem.run Try.prog (Instr.entry (Value.pointer (some ⟨r, 0, none⟩))) w2 = .ok (.tuple #[.string x, .pointer (some ⟨e.2, 0, none⟩)]) w2 := hent
          have HE := Lib.hid he
          have HN := Lib.hid hn
          clear hrem hmem hit2 ho2 hs2 hent k1 k2 k3 hg2 he hn HIT HG HST HOWN HON HGK HOK
          by_cases hown : e.1.owner = owner
          · have hoo : (e.1.owner == owner) = true := by simp [hown]
            have HOO := Lib.hid hown
            cases hlv : e.1.live with
            | true =>
              have HLV := Lib.hid hlv
              rw [hlv] at c4
              clear hlv hown
              generalize e.1.owner = ow at c5 hoo
              go_wp2_with (first
                | (with_reducible refine step_update sKey rfl _ _ _ _ rfl Try.underlying84 rfl HG2.out x rfl _ rfl ?_)
                | fail)
              intro w3 hg3 ho3 hs3
              obtain ⟨k1, k2, k3⟩ := PutJ.turn HA.out HST2.out HOWN2.out HON2.out ho3 (.inr rfl)
              have hit3 := HIT2.out.only ho3 (fun h => HA.out.df (by rw [← h]; simp [sfoot])) (fun h => by have := HA.out.dr; omega)
              have HJ3 := Lib.hid (show PutJ w B s M most owner es F u6 xs.length outs r (pre ++ post).length w3 from ⟨_, _, rfl, hit3, hg3, k1, k2, k3, HOK1.out.put HE.out HN.out HOO.out HLV.out⟩)
              clear hg3 ho3 hs3 k1 k2 k3 hit3
              go_wp2
              go_roundg (pre ++ post).length
              case measure => exact HGK2.out
              case rel => exact HJ3.out
            | false =>
              have HJ3 := Lib.hid (show PutJ w B s M most owner es F u6 xs.length outs r (pre ++ post).length w2 from ⟨_, _, rfl, HIT2.out, HG2.out, HST2.out, HOWN2.out, HON2.out, HOK1.out.skip (fun e' he' h _ hl' => by
                have h2 := (Prod.mk.inj h).2
                simp only [Value.pointer.injEq, Option.some.injEq, Addr.mk.injEq] at h2
                have := (same_of HST2.out HE.out he' h2.1).2
                rw [hl', hlv] at this
                cases this)⟩)
              rw [hlv] at c4
              clear hlv hown
              generalize e.1.owner = ow at c5 hoo
              go_wp2
              go_roundg (pre ++ post).length
              case measure => exact HGK2.out
              case rel => exact HJ3.out
          · have hoo : (e.1.owner == owner) = false := by simp [hown]
            have HJ3 := Lib.hid (show PutJ w B s M most owner es F u6 xs.length outs r (pre ++ post).length w2 from ⟨_, _, rfl, HIT2.out, HG2.out, HST2.out, HOWN2.out, HON2.out, HOK1.out.skip (fun e' he' h ho' _ => by
                have h2 := (Prod.mk.inj h).2
                simp only [Value.pointer.injEq, Option.some.injEq, Addr.mk.injEq] at h2
                have := (same_of HST2.out HE.out he' h2.1).1
                rw [ho'] at this
                exact hown this.symm)⟩)
            clear hown c4
            generalize e.1.owner = ow at c5 hoo
            go_wp2
            go_roundg (pre ++ post).length
            case measure => exact HGK2.out
            case rel => exact HJ3.out
end
end Go.Proofs.Ythademifhnkbiaa
