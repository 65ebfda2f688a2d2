/- The walk over the reference's (*Store).Put. -/
import Derived.Test.YthademifhnkbiaaDpG
import Derived.Test.YthademifhnkbiaaDlP
namespace Go.Proofs.Ythademifhnkbiaa
open Go.RowKit K
/-- The first so many series gone over. -/
def goneK (owner : Int) (names : List ByteArray) (L : List SV) (i : Nat) : List SV := goneL owner names (L.take i) ++ L.drop i
theorem goneK_zero (owner : Int) (names : List ByteArray) (L : List SV) : goneK owner names L 0 = L := by simp [goneK, goneL]
theorem goneK_all (owner : Int) (names : List ByteArray) (L : List SV) : goneK owner names L L.length = goneL owner names L := by simp [goneK]
theorem goneK_len (owner : Int) (names : List ByteArray) (L : List SV) (i : Nat) (hi : i ≤ L.length) : (goneK owner names L i).length = L.length := by
  simp [goneK, goneL]
  omega
theorem goneK_at {owner : Int} {names : List ByteArray} {L : List SV} {i : Nat} {u : SV} (hu : L[i]? = some u) : goneK owner names L i = goneL owner names (L.take i) ++ u :: L.drop (i + 1) ∧ (goneL owner names (L.take i)).length = i ∧ ∀ h : i < (goneK owner names L i).length, (goneK owner names L i)[i] = u := by
  obtain ⟨hi, rfl⟩ := List.getElem?_eq_some_iff.1 hu
  have e : goneK owner names L i = goneL owner names (L.take i) ++ L[i] :: L.drop (i + 1) := by unfold goneK; rw [List.getElem_cons_drop]
  have hl : (goneL owner names (L.take i)).length = i := by simp [goneL]; omega
  refine ⟨e, hl, fun h => ?_⟩
  simp only [e]
  rw [List.getElem_append_right (by omega)]
  simp [hl]
theorem goneK_succ {owner : Int} {names : List ByteArray} {L : List SV} {i : Nat} {u : SV} (hu : L[i]? = some u) : goneK owner names L (i + 1) = goneL owner names (L.take i) ++ (if u.owner = owner ∧ inN u.x.name names = false then u.off else u) :: L.drop (i + 1) := by
  obtain ⟨hi, rfl⟩ := List.getElem?_eq_some_iff.1 hu
  unfold goneK goneL
  rw [List.take_succ_eq_append_getElem hi, List.map_append]
  simp
theorem inN_succ (x : ByteArray) (xs : List Smp) (k : Nat) (h : k < xs.length) : inN x ((xs.map (·.name)).take (k + 1)) = (inN x ((xs.map (·.name)).take k) || decide (x = xs[k].name)) := by
  rw [List.take_succ_eq_append_getElem (by simpa using h)]
  simp [inN]
section
variable {w : World} {B r : Nat} {most : Int} {L : List SV} {G : Nat → Prop}
/-- The first loop of Put. -/
def RPutF (w : World) (B r : Nat) (most owner : Int) (L : List SV) (G : Nat → Prop) (xs : List Smp) (k : Nat) (v : Value) (wr : World) : Prop :=
  wr.ownsRow w.heap.size 68 7 v k (snf (rputS most owner L (xs.take k))) ∧ ∃ G', RsIs wr B r most (rputL most owner L (xs.take k)) G' ∧ Only G w wr ∧ (∀ b, G' b → G b ∨ w.heap.size ≤ b) ∧ ∀ b, v.ownBlock = some b → ¬ G' b
def RPut16 (w : World) (B r : Nat) (most owner : Int) (L : List SV) (G : Nat → Prop) (xs : List Smp) (e : Ending) (w' : World) : Prop :=
  ∃ v G', e = .returned v ∧ w'.ownsRow w.heap.size 68 7 v xs.length (snf (rputS most owner L xs)) ∧ RsIs w' B r most (goneL owner (xs.map (·.name)) (rputL most owner L xs)) G' ∧ Only G w w' ∧ (∀ b, G' b → G b ∨ w.heap.size ≤ b) ∧ ∀ b, v.ownBlock = some b → ¬ G' b
theorem rputL_len {most owner : Int} : ∀ (xs : List Smp) (L : List SV), (rputL most owner L xs).length ≤ L.length + xs.length
  | [], L => Nat.le_refl _
  | x :: r, L => by
    have h1 := rputL_len (most := most) (owner := owner) r (roneL most owner L x)
    have h2 : (roneL most owner L x).length ≤ L.length + 1 := by
      unfold roneL
      cases sfind x.name L with
      | none => simp only; split <;> simp [rins_length]
      | some v =>
        simp only
        split
        · omega
        · have : ∀ l : List SV, (sset x.name ⟨x, true, owner⟩ l).length = l.length := fun l => by
            have := congrArg List.length (sset_names (x := x.name) (v' := ⟨x, true, owner⟩) rfl l)
            simpa using this
          rw [this]
          omega
    show (rputL most owner (roneL most owner L x) r).length ≤ _
    simp only [List.length_cons]
    omega
theorem RPutF.step {most owner : Int} {L : List SV} {xs : List Smp} {k : Nat} {v v' : Value} {wr w5 w' : World} {Y : Obj} {x : Smp} {G' : Nat → Prop} (hk : xs.take (k + 1) = xs.take k ++ [x])
    (hown : wr.ownsRow w.heap.size 68 7 v k (snf (rputS most owner L (xs.take k)))) (hon : Only G w wr) (hG : ∀ b, G' b → G b ∨ w.heap.size ≤ b) (hv : ∀ b, v.ownBlock = some b → ¬ G' b)
    (hone : RsTo wr B r most (roneL most owner (rputL most owner L (xs.take k)) x) G' w5)
    (happ : AppTo (w5.alloc Y) w.heap.size 68 7 v (k + 1) (snf (rputS most owner L (xs.take k)) ++ (oneV most (rputL most owner L (xs.take k)) x).cells.toList) v' w') : RPutF w B r most owner L G xs (k + 1) v' w' := by
  obtain ⟨G2, g1, g2, g3⟩ := hone
  obtain ⟨a1, a2, a3⟩ := happ
  have hvl := hown.lt
  have hs0 := hon.size
  have hs5 := g2.size
  have hvG2 : ∀ b, v.ownBlock = some b → ¬ G2 b := fun b hb hg => by
    rcases g3 b hg with h | h
    · exact hv b hb h
    · have := (hvl b hb).2; omega
  refine ⟨?_, G2, ?_, ?_, ?_, ?_⟩
  · rw [hk, rputS_add]
    simp only [snf, List.flatMap_append, List.flatMap_cons, List.flatMap_nil, List.append_nil]
    exact a1
  · rw [hk, rputL_add]
    exact ((g1.new ((Below.refl _ _).alloc (Nat.le_refl _) Y)).only (F := fun b => v.ownBlock = some b) ((Only.refl _ _).grown a2 (fun b hb _ => hb)) (fun b hb hv' => hvG2 b hv' hb))
  · refine ((hon.trans g2 (fun b hb hg => ?_)).alloc Y).grown a2 (fun b hb hlt => ?_)
    · rcases hG b hg with h | h
      · exact h
      · omega
    · have := (hvl b hb).1; omega
  · intro b hb
    rcases g3 b hb with h | h
    · exact hG b h
    · exact .inr (by omega)
  · intro b hb hg
    rcases a3 with e | e
    · exact hvG2 b (e ▸ hb) hg
    · rw [e] at hb
      cases hb
      have := g1.lt _ hg
      rw [World.size_alloc] at this
      omega
/-- The live cell of a series turned off. -/
theorem own_off {w : World} {B g cap n k : Nat} {pre post : List SV} {u : SV} (h : w.ownsRow B 95 7 (.slice (some ⟨g, 0, none⟩) n cap) n (onf (pre ++ u :: post))) (hk : k = pre.length) :
    (w.setCell ⟨g, k * 7 + 1 + 4, none⟩ (.bool false)).ownsRow B 95 7 (.slice (some ⟨g, 0, none⟩) n cap) n (onf (pre ++ u.off :: post)) := by
  have h6 := own_set h (k * 7 + 1 + 4) (.bool false)
  rw [onf_mid, set_onf (j := 5) hk] at h6
  rw [onf_mid]
  simp only [onc, List.cons_append, List.nil_append, List.set_cons_succ, List.set_cons_zero] at h6 ⊢
  exact h6
theorem rs_off {wr : World} {pre post : List SV} {u : SV} {g c k : Nat} (h : RsIs wr B r most (pre ++ u :: post) G) (hbx : wr.heap[r]? = some (.cells #[.slice (some ⟨g, 0, none⟩) (pre ++ u :: post).length c, .int .i64 most] 54 (0, 0)))
    (ho : wr.ownsRow B 95 7 (.slice (some ⟨g, 0, none⟩) (pre ++ u :: post).length c) (pre ++ u :: post).length (onf (pre ++ u :: post))) (hg : G g) (hgr : g ≠ r) (hk : k = pre.length) : RsIs (wr.setCell ⟨g, k * 7 + 1 + 4, none⟩ (.bool false)) B r most (pre ++ u.off :: post) G := by
  have hl : (pre ++ u.off :: post).length = (pre ++ u :: post).length := by simp
  have hon : Only (· = g) wr (wr.setCell ⟨g, k * 7 + 1 + 4, none⟩ (.bool false)) := (Only.refl (· = g) wr).setCell _ _ (fun _ => rfl)
  refine ⟨.slice (some ⟨g, 0, none⟩) (pre ++ u :: post).length c, hon.heap hbx (fun e => hgr e.symm), ?_, fun b e => ?_, h.mem, fun b hb => ⟨h.ge b hb, Nat.lt_of_lt_of_le (h.lt b hb) hon.size⟩⟩
  · rw [hl]; exact own_off ho hk
  · cases e; exact ⟨hg, hgr⟩
set_option maxHeartbeats 4000000 in
set_option maxRecDepth 100000 in
theorem rput16_any (h : RsIs w B r most L G) (hB : B ≤ w.heap.size) (owner : Int) (a : Option Addr) (c : Nat) (xs : List Smp) (hr : Rd w a (smf xs)) (hx : xs.length ≤ 10000) (hl : L.length ≤ 10000) (hna : ∀ ad, a = some ad → xs ≠ [] → ¬ G ad.block) :
    Calls Try.prog 36 #[.pointer (some ⟨r, 0, none⟩), .int .i64 owner, .slice a xs.length c] w (RPut16 w B r most owner L G xs) := by
  obtain ⟨i0, hi, hz0, hz1, hz2⟩ := info_parts info_seen
  have HR := Lib.hid hr
  have HNA := Lib.hid hna
  have HB := Lib.hid hB
  have HRG := Lib.hid h.mem
  have H0 := Lib.hid (show RPutF w B r most owner L G xs 0 (.slice none 0 0) w from ⟨World.ownsRow_nil _ _ _ _, G, h, Only.refl _ _, fun _ h => .inl h, fun b e => by simp [Value.ownBlock] at e⟩)
  clear h hr hna hB
  go_enter Try.func36, Try.ntmps36
  go_wp2
  go_loopw [7, 8] (fun v i wr => ∃ k : Nat, k ≤ xs.length ∧ i = .int .i64 k ∧ RPutF w B r most owner L G xs k v wr) (fun _ i _ => xs.length - (intOf i).toNat)
  case atStart => exact ⟨0, by omega, rfl, H0.out⟩
  case round =>
    obtain ⟨k, hk, rfl, hp⟩ := hrel
    have HP := Lib.hid hp
    clear hp H0
    by_cases hlt : k < xs.length
    · obtain ⟨hown, G', hrs, hon, hG, hv⟩ := HP.out
      have hs0 := hon.size
      have hrd := hon.rd HR.out (fun ad e => HNA.out ad e (fun h => by rw [h] at hlt; simp at hlt))
      obtain ⟨b, off, rfl, hb, q0, q1, q2, q3⟩ := smp_cells hrd hlt
      have HT := Lib.hid (take_succ xs k hlt)
      have hLL := rputL_len (most := most) (owner := owner) (xs.take k) L
      have hkt : (xs.take k).length = k := by simp; omega
      have HONE := Lib.hid (rone_any hrs (by have := HB.out; omega) owner xs[k] (by omega))
      have HL := Lib.hid (rputS_length most owner (xs.take k) L)
      have HSTEP := Lib.hid (fun (v' : Value) (w5 w' : World) (Y : Obj) => RPutF.step (B := B) (r := r) (v' := v') (w5 := w5) (w' := w') (Y := Y) (take_succ xs k hlt) hown hon hG hv)
      generalize hgx : xs[k] = x at q0 q1 q2 q3 HONE HSTEP
      have HOWN := Lib.hid hown
      have HV := Lib.hid hv
      clear hown hrs hon hG hv hrd HP hgx hLL hkt
      obtain ⟨n, vv, t, cc⟩ := x
      simp only [] at q0 q1 q2 q3 HONE
      go_wp2_with fail
      refine HONE.out.mono ?_
      rintro e w5 ⟨rfl, h5⟩
      have H5 := Lib.hid h5
      clear h5
      generalize oneV most (rputL most owner L (xs.take k)) ⟨n, vv, t, cc⟩ = rr at HSTEP
      generalize roneL most owner (rputL most owner L (xs.take k)) ⟨n, vv, t, cc⟩ = ll at HSTEP H5
      obtain ⟨⟨n2, v2, t2, c2⟩, vd, ch, ahd⟩ := rr
      have hs5 : w.heap.size ≤ w5.heap.size := by obtain ⟨_, _, g2, _⟩ := H5.out; have := g2.size; omega
      have HO6 := Lib.hid (fun Y => by
        obtain ⟨_, _, g2, _⟩ := H5.out
        exact (g2.alloc Y).own HOWN.out HV.out)
      simp only [Sn.cells]
      go_wp2_with (first
        | (at_builtin; refine step_append_at _ rfl _ _ 26 rfl w.heap.size 68 i0 _ 7 64 Try.underlying26 hi hz0 hz1 hz2 rfl (by decide) _ _ _ rfl (HO6.out _) ⟨w5.heap.size, 0, none⟩ 1 1 _ rfl ?g0 (row_new _ _ _ _) ?g1 ?g2 ?g3 ?g4 ?_)
        | fail)
      case g1 => simp [Value.oneCell']
      case g2 => simp only [maxLen]; omega
      case g3 => omega
      case g4 => rw [World.size_alloc]; omega
      intro v' w' hown' hgr hnil hv'
      have HN := Lib.hid (HSTEP.out v' w5 w' _ H5.out ⟨hown', hgr, by rw [World.size_alloc]; exact hv'⟩)
      clear hown' hgr hnil hv'
      go_wp2
      go_roundw
      case rel => exact ⟨k + 1, by omega, by go_num, HN.out⟩
      case measure => simp [intOf]; omega
    · obtain rfl : k = xs.length := by omega
      have hp := HP.out
      unfold RPutF at hp
      rw [List.take_length] at hp
      obtain ⟨hown, G', hrs, hon, hG, hv⟩ := hp
      have hLL := rputL_len (most := most) (owner := owner) xs L
      generalize hL1 : rputL most owner L xs = L1 at hrs hLL
      have HL1 := Lib.hid hL1
      have HOWN := Lib.hid hown
      have HON := Lib.hid hon
      have HG := Lib.hid hG
      have HV := Lib.hid hv
      have HRS := Lib.hid (show RsIs wr B r most (goneK owner (xs.map (·.name)) L1 0) G' by rw [goneK_zero]; exact hrs)
      clear hown hrs hon hG hv HP hL1
      obtain ⟨w1, hw1⟩ : ∃ w1, w1 = wr := ⟨_, rfl⟩
      subst hw1
      go_wp2
      go_loopw [9, 10, 11] (fun iv av kv wz => ∃ i : Nat, iv = .int .i64 i ∧ i ≤ L1.length ∧ RsIs wz B r most (goneK owner (xs.map (·.name)) L1 i) G' ∧ Only G' w1 wz) (fun iv _ _ _ => L1.length - (intOf iv).toNat)
      case atStart => exact ⟨0, rfl, Nat.zero_le _, HRS.out, Only.refl _ _⟩
      case round =>
        obtain ⟨i, rfl, hi1, hrs, hoz⟩ := hrel
        obtain ⟨wz, hwz⟩ : ∃ wz, wz = wr := ⟨_, rfl⟩
        subst hwz
        have HRI := Lib.hid hrs
        have HOZ := Lib.hid hoz
        obtain ⟨ra, rc, hbx, hrc, hrr, hrg⟩ := hrs.shape
        rw [goneK_len _ _ _ _ hi1] at hbx hrc
        have c0 : wz.cell? ⟨r, 0, none⟩ = some (.slice ra L1.length rc) := by rw [cell_of_row _ _ _ _ _ _ hbx]; rfl
        clear hrs hoz HRS
        by_cases hil : i < L1.length
        · obtain ⟨u, hu⟩ : ∃ u, L1[i]? = some u := ⟨_, List.getElem?_eq_getElem hil⟩
          obtain ⟨ga, gl, gi⟩ := goneK_at (owner := owner) (names := xs.map (·.name)) hu
          have HSUC := Lib.hid (goneK_succ (owner := owner) (names := xs.map (·.name)) hu)
          have hlen : (goneK owner (xs.map (·.name)) L1 i).length = L1.length := goneK_len _ _ _ _ hi1
          obtain ⟨g, gc, hbx2, hgo, -, hGg, hgr, ⟨cur, hcur⟩, -, -⟩ := HRI.out.shape2 (by omega)
          rw [hlen, hbx] at hbx2
          simp only [Option.some.injEq, Obj.cells.injEq, Array.mk.injEq, List.cons.injEq, Value.slice.injEq, and_true, true_and] at hbx2
          obtain ⟨rfl, rfl⟩ := hbx2
          obtain ⟨b', off', e0, -, hq⟩ := on_cells hrr (show i < _ by omega)
          cases e0
          rw [gi (by omega)] at hq
          have p0 := hq 0 _ (by omega) rfl
          have p5 : wz.cell? ⟨g, 0 + i * 7 + 1 + 4, none⟩ = _ := hq 5 _ (by omega) rfl
          have p6 : wz.cell? ⟨g, 0 + i * 7 + 1 + 5, none⟩ = _ := hq 6 _ (by omega) rfl
          simp only [Nat.zero_add, Nat.add_zero] at p0 p5 p6
          have f5 : wz.frozen? ⟨g, i * 7 + 1 + 4, none⟩ = false := frozen_of_row wz g _ _ _ hcur
          have HRW := Lib.hid (fun (hne : xs ≠ []) => (HON.out.trans HOZ.out (fun b hb hg => (HG.out b hg).resolve_right (by omega))).rd HR.out (fun ad e => HNA.out ad e hne))
          have HBX := Lib.hid hbx
          have HGO := Lib.hid hgo
          have HGG := Lib.hid hGg
          have HGR := Lib.hid hgr
          have HGA := Lib.hid ga
          have HGL := Lib.hid gl
          have HLE := Lib.hid hlen
          clear hbx hgo hGg hgr ga gl gi hrr hrg hq hcur hlen hu
          go_wp2
          go_loopw [10, 11] (fun av kv w3 => ∃ k m : Nat, kv = .int .i64 k ∧ k ≤ xs.length ∧ av = .bool (inN u.x.name ((xs.map (·.name)).take k)) ∧ w3 = wz.drewN m) (fun _ kv _ => xs.length - (intOf kv).toNat)
          case atStart => exact ⟨0, 0, rfl, Nat.zero_le _, rfl, rfl⟩
          case round =>
            obtain ⟨k, m, rfl, hk, rfl, rfl⟩ := hrel
            by_cases hk2 : k < xs.length
            · obtain ⟨b, off, rfl, hb, q0, -, -, -⟩ := smp_cells (HRW.out (fun h => by rw [h] at hk2; simp at hk2)) hk2
              have HIS := Lib.hid (inN_succ u.x.name xs k hk2)
              generalize xs[k].name = nm at q0 HIS
              generalize inN u.x.name ((xs.map (·.name)).take k) = am at HIS
              cases am with
              | true =>
                go_wp2_with fail
                go_quiet (fail)
                go_wp2
                go_roundw
                case rel => exact ⟨k + 1, _, by go_num, by omega, by rw [HIS.out]; rfl, rfl⟩
                case measure => simp [intOf]; omega
              | false =>
                by_cases he : nm = u.x.name
                · have HIT := Lib.hid (show inN u.x.name ((xs.map (·.name)).take (k + 1)) = true by rw [HIS.out, he]; simp)
                  rw [he] at q0
                  clear HIS he
                  go_wp2_with fail
                  go_quiet (fail)
                  go_wp2
                  go_roundw
                  case rel => exact ⟨k + 1, _, by go_num, by omega, by rw [HIT.out], rfl⟩
                  case measure => simp [intOf]; omega
                · have hne := tl_ne he
                  have HIT := Lib.hid (show inN u.x.name ((xs.map (·.name)).take (k + 1)) = false by rw [HIS.out]; simp; exact fun e => he e.symm)
                  clear HIS he
                  go_wp2_with fail
                  go_quiet (fail)
                  go_wp2
                  go_roundw
                  case rel => exact ⟨k + 1, _, by go_num, by omega, by rw [HIT.out], rfl⟩
                  case measure => simp [intOf]; omega
            · obtain rfl : k = xs.length := by omega
              have hnt : (xs.map (·.name)).take xs.length = xs.map (·.name) := List.take_of_length_le (by simp)
              rw [hnt]
              clear hnt
              generalize ham : inN u.x.name (xs.map (·.name)) = am at HSUC
              clear ham
              have hbd : Below wz.heap.size wz (wz.drewN m) := ⟨rfl, rfl, rfl, Nat.le_refl _, fun _ _ => rfl⟩
              have HOM := Lib.hid (HOZ.out.drewN m)
              by_cases ho : u.owner = owner
              · have hob : (u.owner == owner) = true := by rw [beq_iff_eq]; exact ho
                cases am with
                | true =>
                  have HN := Lib.hid (show RsIs (wz.drewN m) B r most (goneK owner (xs.map (·.name)) L1 (i + 1)) G' by rw [HSUC.out, if_neg (by simp), ← HGA.out]; exact HRI.out.new hbd)
                  clear ho hbd HSUC
                  go_wp2
                  go_roundw
                  case rel => exact ⟨i + 1, by go_num, by omega, HN.out, HOM.out⟩
                  case measure => simp [intOf]; omega
                | false =>
                  have HN := Lib.hid (show RsIs ((wz.drewN m).setCell ⟨g, i * 7 + 1 + 4, none⟩ (.bool false)) B r most (goneK owner (xs.map (·.name)) L1 (i + 1)) G' by
                    rw [HSUC.out, if_pos ⟨ho, rfl⟩]
                    have hri : RsIs (wz.drewN m) B r most _ G' := HRI.out.new hbd
                    have hgo' := (Only.of_new (F := fun _ => False) hbd).own HGO.out (fun _ _ h => h)
                    rw [HGA.out] at hri hgo'
                    exact rs_off hri (by rw [← HGA.out, HLE.out]; exact HBX.out) hgo' HGG.out HGR.out HGL.out.symm)
                  have HON2 := Lib.hid (HOM.out.setCell ⟨g, i * 7 + 1 + 4, none⟩ (.bool false) (fun _ => HGG.out))
                  clear ho hbd HSUC
                  go_wp2
                  go_roundw
                  case rel => exact ⟨i + 1, by go_num, by omega, HN.out, HON2.out⟩
                  case measure => simp [intOf]; omega
              · have hob : (u.owner == owner) = false := by rw [beq_eq_false_iff_ne]; exact ho
                have HN := Lib.hid (show RsIs (wz.drewN m) B r most (goneK owner (xs.map (·.name)) L1 (i + 1)) G' by rw [HSUC.out, if_neg (fun h => ho h.1), ← HGA.out]; exact HRI.out.new hbd)
                clear hbd HSUC
                go_wp2
                go_roundw
                case rel => exact ⟨i + 1, by go_num, by omega, HN.out, HOM.out⟩
                case measure => simp [intOf]; omega
        · obtain rfl : i = L1.length := by omega
          clear hbx hrr hrg
          have HF := Lib.hid (show RPut16 w B r most owner L G xs (.returned u7) wz from ⟨u7, G', rfl, HOZ.out.own HOWN.out HV.out, by rw [HL1.out, ← goneK_all]; exact HRI.out, HON.out.trans HOZ.out (fun b hb hg => (HG.out b hg).resolve_right (by omega)), HG.out, HV.out⟩)
          go_wp2
          go_ret
          exact HF.out
end
end Go.Proofs.Ythademifhnkbiaa
