/- 'do' of a scrape: the walk. -/
import Derived.Test.YthademifhnkbiaaDpL
namespace Go.Proofs.Ythademifhnkbiaa
open Go.RowKit K
theorem MIs.only {w w' : World} {m s : Nat} {most : Int} {l : List SV} {tal : Tal} {B : Nat} {F : List Nat} {P : Nat → Prop} (h : MIs w B m s most l F tal) (ho : Only P w w') (hm : ¬ P m) (hd : ∀ k ∈ F, ¬ P k) : MIs w' B m s most l F tal := by
  obtain ⟨h1, h2, h3, h4, h5⟩ := h
  exact ⟨ho.heap h1 hm, h2.only ho hd, h3, h4, h5⟩
set_option maxHeartbeats 2000000 in
set_option maxRecDepth 100000 in
theorem do17_foot {w0 w : World} {m s rm r : Nat} {most : Int} {l L : List SV} {tal : Tal} {n : Nat} {F : List Nat} {G : Nat → Prop} (h : TwF w0 m s rm r most l L tal F G w) (hi : DInv most l L tal n) (hn : n ≤ 1000) (owner : Int) (a : Option Addr) (c : Nat) (xs : List Smp) (hr : Rd w0 a (smf xs)) (hx : xs.length ≤ 1000) (hxo : ∀ x ∈ xs, I64 x.val) :
    Calls Try.prog 15 #[.pointer (some ⟨m, 0, none⟩), .pointer (some ⟨rm, 0, none⟩), .agg #[.int .i64 owner, .slice a xs.length c]] w fun e w' => e = .returned (.bool true) ∧ ∃ F' G', TwF w0 m s rm r most (goneL owner (xs.map (·.name)) (putL most owner l xs)) (goneL owner (xs.map (·.name)) (rputL most owner L xs)) ((putS most owner l xs).foldl tadd tal) F' G' w' ∧ Only (twfoot m rm F G) w w' ∧ ∀ k, twfoot m rm F' G' k → twfoot m rm F G k ∨ w.heap.size ≤ k := by
  obtain ⟨h1, h2, h3, h4, h5, h6⟩ := h
  obtain ⟨hpe, hi2⟩ := hi.put owner xs hxo
  obtain ⟨-, hok⟩ := putL_ok (most := most) (owner := owner) xs hi.ok hxo
  have hch := putS_chain (most := most) (owner := owner) xs l
  have hlen := hi.len
  have hL : L.length = l.length := hi.rel.perm.length_eq.symm
  have hsz0 := h6.size
  have hFB : ∀ k ∈ F, w0.heap.size ≤ k := h1.2.2.2.2
  have hFl : ∀ k ∈ F, k < w.heap.size := h1.2.1.lt
  have hml : m < w.heap.size := (Array.getElem?_eq_some_iff.1 h1.1).1
  have hmB : w0.heap.size ≤ m := h1.2.2.2.1
  have hGB : ∀ k, G k → w0.heap.size ≤ k := h2.2.1.ge
  have hGl : ∀ k, G k → k < w.heap.size := h2.2.1.lt
  have hrl : rm < w.heap.size := (Array.getElem?_eq_some_iff.1 h2.1).1
  have hrB : w0.heap.size ≤ rm := h2.2.2.2
  obtain ⟨w1, hw1⟩ : ∃ w1, w1 = w.alloc (.cells #[.int .i64 owner, .slice a xs.length c] 45) := ⟨_, rfl⟩
  have hb1 : Below w.heap.size w w1 := by rw [hw1]; exact (Below.refl _ w).alloc (Nat.le_refl _) _
  have hs1 : w1.heap.size = w.heap.size + 1 := by rw [hw1]; simp
  have hbx : w1.heap[w.heap.size]? = some (.cells #[.int .i64 owner, .slice a xs.length c] 45 (0, 0)) := by rw [hw1]; exact heap_alloc_new w _
  have hb01 : Below w0.heap.size w0 w1 := h6.trans (hb1.mono h6.size)
  have hnb : ∀ ad, a = some ad → xs ≠ [] → ad.block < w0.heap.size := fun ad e hne => by
    obtain ⟨x, t, hxt⟩ : ∃ x t, xs = x :: t := by cases xs with | nil => exact absurd rfl hne | cons x t => exact ⟨x, t, rfl⟩
    obtain ⟨b, off, e2, hb, -⟩ := hr.at (k := 0) (v := .string x.name) (by rw [hxt]; rfl)
    rw [e] at e2
    cases e2
    exact hb
  have HP := Lib.hid (mput_any (h1.new hb1) hb01.size owner a c xs (hr.below hb01 (Nat.le_refl _)) (by omega) (fun ad e hne hm => by have := hnb ad e hne; have := hFB _ hm; omega) hi.rel.uniq hok n hi.tb (by omega))
  have H2 := Lib.hid h2
  have HR := Lib.hid (fun W (hb : Below w0.heap.size w0 W) => hr.below hb (Nat.le_refl _))
  have HNB := Lib.hid hnb
  have HOK := Lib.hid (show ∀ x ∈ rputS most owner L xs, I64 x.ahead ∧ I64 x.x.val ∧ 1 ≤ x.verdict ∧ x.verdict ≤ 4 ∧ (x.chain = true → x.verdict = 1) from fun x hx => by rw [hpe] at hx; exact ⟨(hok x hx).1, (hok x hx).2.1, (hok x hx).2.2.1, (hok x hx).2.2.2, hch x hx⟩)
  have HTB := Lib.hid hi.tb
  have HPE := Lib.hid hpe
  have HBX := Lib.hid hbx
  have HB1 := Lib.hid hb1
  have HO1 := Lib.hid (show Only (twfoot m rm F G) w w1 from Only.of_new hb1)
  have HB01 := Lib.hid hb01
  have H3 := Lib.hid h3
  have H4 := Lib.hid h4
  have H5 := Lib.hid h5
  have HFB := Lib.hid hFB
  have HFL := Lib.hid hFl
  have HGB := Lib.hid hGB
  have HGL := Lib.hid hGl
  have HN := Lib.hid (show m < w.heap.size ∧ w0.heap.size ≤ m ∧ rm < w.heap.size ∧ w0.heap.size ≤ rm ∧ w1.heap.size = w.heap.size + 1 ∧ w0.heap.size ≤ w.heap.size from ⟨hml, hmB, hrl, hrB, hs1, hsz0⟩)
  have HW1 := Lib.hid hw1
  have HSL := Lib.hid (putS_length most owner xs l)
  clear h1 h2 h3 h4 h5 h6 hpe hi2 hok hch hi hsz0 hFB hFl hml hmB hGB hGl hrl hrB hw1 hb1 hs1 hbx hb01 hnb hr hxo
  go_enter Try.func15, Try.ntmps15
  go_wp2_with fail
  rw [← HW1.out]
  refine HP.out.mono ?_
  rintro e w2 ⟨v, gv, F', rfl, p1, p2, p3, p4, p5⟩
  obtain ⟨n1, n2, n3, n4, n5, n6⟩ := HN.out
  have hbx2 := p4.heap HBX.out (fun hb => by
    rcases hb with h | h
    · omega
    · have := HFL.out _ h; omega)
  have q0 : w2.cell? ⟨w.heap.size, 0, none⟩ = some (.int .i64 owner) := by rw [cell_of_row _ _ _ _ _ _ hbx2]; rfl
  have q1 : w2.cell? ⟨w.heap.size, 1, none⟩ = some (.slice a xs.length c) := by rw [cell_of_row _ _ _ _ _ _ hbx2]; rfl
  have hb02 : Below w0.heap.size w0 w2 := HB01.out.trans (p4.below HB01.out.size (fun k hk => by
    rcases hk with h | h
    · omega
    · exact HFB.out k h))
  have hr2 : RmIs w2 w0.heap.size rm r most L G tal := (H2.out.only (F := fun _ => False) (Only.of_new HB1.out) (fun h => h) (fun _ _ h => h)).only p4 (fun h => by
    rcases h with h | h
    · exact H5.out h.symm
    · exact (H3.out _ h).2 rfl) (fun k hk h => by
    rcases h with h | h
    · exact H4.out (h ▸ hk)
    · exact (H3.out k h).1 hk)
  have hs2 := p4.size
  have HPR := Lib.hid (rmput_any hr2 hb02.size owner a c xs (HR.out _ hb02) (by omega) (by omega) (fun ad e hne hg => by have := HNB.out ad e hne; have := HGB.out _ hg; omega) HOK.out n HTB.out (by omega))
  have P1 := Lib.hid p1
  have P2 := Lib.hid p2
  have P3 := Lib.hid p3
  have P4 := Lib.hid p4
  have P5 := Lib.hid p5
  have HB02 := Lib.hid hb02
  have HS2 := Lib.hid hs2
  have HNN := Lib.hid (show m < w.heap.size ∧ w0.heap.size ≤ m ∧ rm < w.heap.size ∧ w0.heap.size ≤ rm ∧ w1.heap.size = w.heap.size + 1 ∧ w0.heap.size ≤ w.heap.size from ⟨n1, n2, n3, n4, n5, n6⟩)
  clear p1 p2 p3 p4 p5 hbx2 hb02 hr2 hs2 n1 n2 n3 n4 n5 n6 HP HBX HB01 H2
  obtain ⟨a1, c1, rfl, -, -, -⟩ := own_cells P1.out
  obtain ⟨a2, c2, rfl, -, -, -⟩ := own_cells P2.out
  go_wp2_with fail
  refine HPR.out.mono ?_
  rintro e w3 ⟨v', gv', G', rfl, r1, r2, r3, r4, r5⟩
  rw [HPE.out] at r1 r2 r3
  obtain ⟨n1, n2, n3, n4, n5, n6⟩ := HNN.out
  have hs2 := HS2.out
  have p1 := r4.own P1.out (fun b hb hg => by
    have := (P1.out.lt b hb).1
    rcases hg with h | h
    · omega
    · have := HGL.out _ h; omega)
  have p2 := r4.own P2.out (fun b hb hg => by
    have := (P2.out.lt b hb).1
    rcases hg with h | h
    · omega
    · have := HGL.out _ h; omega)
  have hFl2 : ∀ k ∈ F', k < w2.heap.size := P3.out.2.1.lt
  have hm3 : MIs w3 w0.heap.size m s most (goneL owner (xs.map (·.name)) (putL most owner l xs)) F' ((putS most owner l xs).foldl tadd tal) := P3.out.only r4 (fun h => by
    rcases h with h | h
    · exact H5.out h
    · exact H4.out h) (fun k hk h => by
    rcases P5.out k hk with hf | hf
    · rcases h with h | h
      · exact (H3.out k hf).2 h
      · exact (H3.out k hf).1 h
    · rcases h with h | h
      · omega
      · have := HGL.out k h; omega)
  have hfo : Only (twfoot m rm F G) w w3 ∧ ∀ k, twfoot m rm F' G' k → twfoot m rm F G k ∨ w.heap.size ≤ k := by
    refine ⟨((HO1.out.trans P4.out (fun _ _ h => h.elim .inl fun h => .inr (.inl h))).trans r4 (fun _ _ h => h.elim (fun h => .inr (.inr (.inl h))) fun h => .inr (.inr (.inr h)))), fun k hk => ?_⟩
    rcases hk with h | h | h | h
    · exact .inl (.inl h)
    · rcases P5.out k h with h | h
      · exact .inl (.inr (.inl h))
      · exact .inr (by omega)
    · exact .inl (.inr (.inr (.inl h)))
    · rcases r5 k h with h | h
      · exact .inl (.inr (.inr (.inr h)))
      · exact .inr (by omega)
  have ht3 : TwF w0 m s rm r most (goneL owner (xs.map (·.name)) (putL most owner l xs)) (goneL owner (xs.map (·.name)) (rputL most owner L xs)) ((putS most owner l xs).foldl tadd tal) F' G' w3 := by
    refine ⟨hm3, r3, fun k hk => ⟨fun hg => ?_, fun e => ?_⟩, fun hg => ?_, H5.out, HB02.out.trans (r4.below HB02.out.size (fun k hk => by
      rcases hk with h | h
      · omega
      · exact HGB.out k h))⟩
    · have hk2 := hFl2 k hk
      rcases r5 k hg with h | h
      · rcases P5.out k hk with hf | hf
        · exact (H3.out k hf).1 h
        · have := HGL.out k h; omega
      · omega
    · rcases P5.out k hk with hf | hf
      · exact (H3.out k hf).2 e
      · omega
    · rcases r5 m hg with h | h
      · exact H4.out h
      · omega
  obtain ⟨a3, c3, rfl, -, hr3, -⟩ := own_cells r1
  obtain ⟨a4, c4, rfl, -, hr4, -⟩ := own_cells r2
  obtain ⟨_, _, e1, -, hr1, -⟩ := own_cells p1
  cases e1
  obtain ⟨_, _, e2, -, hr2, -⟩ := own_cells p2
  cases e2
  have hgl := gainsL_le (putS most owner l xs)
  have hsl := HSL.out
  have HSS := Lib.hid (fun W (hb : Below w3.heap.size w3 W) => (show Calls Try.prog 29 #[.slice a1 xs.length c1, .slice a3 xs.length c3] W fun e w' => e = .returned (.bool true) ∧ ∃ n, w' = W.drewN n from by
    have := sameSeen_any W a1 a3 c1 c3 (putS most owner l xs) (by omega) (hr1.below hb (Nat.le_refl _)) (hr3.below hb (Nat.le_refl _))
    rw [hsl] at this
    exact this))
  have HSG := Lib.hid (fun W (hb : Below w3.heap.size w3 W) => sameGains_any W a2 a4 c2 c4 (gainsL (putS most owner l xs)) (by omega) (hr2.below hb (Nat.le_refl _)) (hr4.below hb (Nat.le_refl _)))
  have HTL := Lib.hid (fun W (hb : Below w3.heap.size w3 W) => tally_any (hm3.new hb))
  have HFIN := Lib.hid (fun W (hb : Below w3.heap.size w3 W) => show ∃ F' G', TwF w0 m s rm r most (goneL owner (xs.map (·.name)) (putL most owner l xs)) (goneL owner (xs.map (·.name)) (rputL most owner L xs)) ((putS most owner l xs).foldl tadd tal) F' G' W ∧ Only (twfoot m rm F G) w W ∧ ∀ k, twfoot m rm F' G' k → twfoot m rm F G k ∨ w.heap.size ≤ k from ⟨F', G', ht3.new hb, hfo.1.trans (G := fun _ => False) (Only.of_new hb) (fun _ _ h => h.elim), hfo.2⟩)
  generalize htz : (putS most owner l xs).foldl tadd tal = tz at HTL HFIN r3
  have HTZ := Lib.hid htz
  clear htz
  generalize (gainsL (putS most owner l xs)).length = gn at HSG
  have hrm := r3.1
  have D1 := Lib.hid (show w3.cell? ⟨rm, 1, none⟩ = some (.int .i64 tz.p) by rw [cell_of_row _ _ _ _ _ _ hrm]; rfl)
  have D2 := Lib.hid (show w3.cell? ⟨rm, 2, none⟩ = some (.int .i64 tz.a) by rw [cell_of_row _ _ _ _ _ _ hrm]; rfl)
  have D3 := Lib.hid (show w3.cell? ⟨rm, 3, none⟩ = some (.int .i64 tz.o) by rw [cell_of_row _ _ _ _ _ _ hrm]; rfl)
  have D4 := Lib.hid (show w3.cell? ⟨rm, 4, none⟩ = some (.int .i64 tz.t) by rw [cell_of_row _ _ _ _ _ _ hrm]; rfl)
  have D5 := Lib.hid (show w3.cell? ⟨rm, 5, none⟩ = some (.int .i64 tz.f) by rw [cell_of_row _ _ _ _ _ _ hrm]; rfl)
  have D6 := Lib.hid (show w3.cell? ⟨rm, 6, none⟩ = some (.int .i64 tz.g) by rw [cell_of_row _ _ _ _ _ _ hrm]; rfl)
  have D7 := Lib.hid (show w3.cell? ⟨rm, 7, none⟩ = some (.int .i64 tz.r) by rw [cell_of_row _ _ _ _ _ _ hrm]; rfl)
  clear r1 r2 r3 r4 r5 p1 p2 hFl2 hm3 ht3 hfo hr1 hr2 hr3 hr4 hgl hsl hrm n1 n2 n3 n4 n5 n6 hs2 q0 q1 HPR P1 P2 P3 P4 HO1 P5 HB02 HNN HS2 HR HOK HTB HPE HN HFB HFL HGB HGL
  obtain ⟨tp, ta, t0, tt', tf, tg, tr⟩ := tz
  simp only [] at D1 D2 D3 D4 D5 D6 D7 HTL
  go_wp2_with fail
  refine wp_region_noPanic ?_
  refine wp_region_held_drew (S := (fun w' => Below w3.heap.size w3 w')) (by kernel_rfl) ?_ (fun hHeld => ?_)
  · exact drew_below _
  refine wpAnyH_take (i := 0) (oi := _) (v := ?_) rfl (by kernel_rfl) (by kernel_rfl) (by kernel_rfl) (fun _ _ _ h => h) (Or.inl ⟨by rfl, ?_⟩) (by assumption) ?_
  rotate_left 1
  · (intro w hSw; (try dsimp only at hSw); go_simp; (try with_reducible rfl))
  try simp only [Act.put, List.getElem_toArray, List.getElem_cons_zero, List.setIfInBounds_toArray, List.set_cons_zero, List.set_cons_succ]
  refine wpAnyH_take (i := 1) (oi := _) (v := ?_) rfl (by kernel_rfl) (by kernel_rfl) (by kernel_rfl) (fun _ _ _ h => h) (Or.inl ⟨by rfl, ?_⟩) (by assumption) ?_
  rotate_left 1
  · (intro w hSw; (try dsimp only at hSw); go_simp; (try with_reducible rfl))
  try simp only [Act.put, List.getElem_toArray, List.getElem_cons_succ, List.getElem_cons_zero, List.setIfInBounds_toArray, List.set_cons_zero, List.set_cons_succ]
  refine wpAnyH_ready (rs := [2]) (by kernel_rfl) (by simp) ?_
  refine AllReadyH.cons (o := _) rfl (fun K hK => ?_) AllReadyH.nil
  go_simp
  refine (HSS.out _ hHeld).mono ?_
  rintro e w5 ⟨rfl, k5, rfl⟩
  go_wp2_with fail
  refine hK.out _ _ ?_ (fun hHeld2 => ?_)
  · exact below_drewN (Below.refl _ _) _
  clear hK K
  try simp only [Act.put, List.getElem_toArray, List.getElem_cons_succ, List.getElem_cons_zero, List.setIfInBounds_toArray, List.set_cons_zero, List.set_cons_succ]
  refine wpAnyH_take (i := 3) (oi := _) (v := ?_) rfl (by kernel_rfl) (by kernel_rfl) (by kernel_rfl) (fun _ _ _ h => h) (Or.inl ⟨by rfl, ?_⟩) (by assumption) ?_
  rotate_left 1
  · (intro w hSw; (try dsimp only at hSw); go_simp; (try with_reducible rfl))
  try simp only [Act.put, List.getElem_toArray, List.getElem_cons_succ, List.getElem_cons_zero, List.setIfInBounds_toArray, List.set_cons_zero, List.set_cons_succ]
  refine wpAnyH_take (i := 4) (oi := _) (v := ?_) rfl (by kernel_rfl) (by kernel_rfl) (by kernel_rfl) (fun _ _ _ h => h) (Or.inl ⟨by rfl, ?_⟩) (by assumption) ?_
  rotate_left 1
  · (intro w hSw; (try dsimp only at hSw); go_simp; (try with_reducible rfl))
  try simp only [Act.put, List.getElem_toArray, List.getElem_cons_succ, List.getElem_cons_zero, List.setIfInBounds_toArray, List.set_cons_zero, List.set_cons_succ]
  refine wpAnyH_take (i := 5) (oi := _) (v := ?_) rfl (by kernel_rfl) (by kernel_rfl) (by kernel_rfl) (fun _ _ _ h => h) (Or.inl ⟨by rfl, ?_⟩) (by assumption) ?_
  rotate_left 1
  · (intro w hSw; (try dsimp only at hSw); go_simp; (try with_reducible rfl))
  try simp only [Act.put, List.getElem_toArray, List.getElem_cons_succ, List.getElem_cons_zero, List.setIfInBounds_toArray, List.set_cons_zero, List.set_cons_succ]
  refine wpAnyH_ready (rs := [6]) (by kernel_rfl) (by simp) ?_
  refine AllReadyH.cons (o := _) rfl (fun K hK => ?_) AllReadyH.nil
  go_simp
  refine (HSG.out _ hHeld2).mono ?_
  rintro e w6 ⟨rfl, k6, rfl⟩
  go_wp2_with fail
  refine hK.out _ _ ?_ (fun hHeld6 => ?_)
  · exact below_drewN (Below.refl _ _) _
  clear hK K
  try simp only [Act.put, List.getElem_toArray, List.getElem_cons_succ, List.getElem_cons_zero, List.setIfInBounds_toArray, List.set_cons_zero, List.set_cons_succ]
  refine wpAnyH_take (i := 7) (oi := _) (v := ?_) rfl (by kernel_rfl) (by kernel_rfl) (by kernel_rfl) (fun _ _ _ h => h) (Or.inl ⟨by rfl, ?_⟩) (by assumption) ?_
  rotate_left 1
  · (intro w hSw; (try dsimp only at hSw); go_simp; (try with_reducible rfl))
  try simp only [Act.put, List.getElem_toArray, List.getElem_cons_succ, List.getElem_cons_zero, List.setIfInBounds_toArray, List.set_cons_zero, List.set_cons_succ]
  refine wpAnyH_take (i := 8) (oi := _) (v := ?_) rfl (by kernel_rfl) (by kernel_rfl) (by kernel_rfl) (fun _ _ _ h => h) (Or.inl ⟨by rfl, ?_⟩) (by assumption) ?_
  rotate_left 1
  · (intro w hSw; (try dsimp only at hSw); go_simp; (try with_reducible rfl))
  try simp only [Act.put, List.getElem_toArray, List.getElem_cons_succ, List.getElem_cons_zero, List.setIfInBounds_toArray, List.set_cons_zero, List.set_cons_succ]
  refine wpAnyH_take (i := 9) (oi := _) (v := ?_) rfl (by kernel_rfl) (by kernel_rfl) (by kernel_rfl) (fun _ _ _ h => h) (Or.inl ⟨by rfl, ?_⟩) (by assumption) ?_
  rotate_left 1
  · (intro w hSw; (try dsimp only at hSw); go_simp; (try with_reducible rfl))
  try simp only [Act.put, List.getElem_toArray, List.getElem_cons_succ, List.getElem_cons_zero, List.setIfInBounds_toArray, List.set_cons_zero, List.set_cons_succ]
  refine wpAnyH_take (i := 11) (oi := _) (v := ?_) rfl (by kernel_rfl) (by kernel_rfl) (by kernel_rfl) (fun _ _ _ h => h) (Or.inl ⟨by rfl, ?_⟩) (by assumption) ?_
  rotate_left 1
  · (intro w hSw; (try dsimp only at hSw); go_simp; (try with_reducible rfl))
  try simp only [Act.put, List.getElem_toArray, List.getElem_cons_succ, List.getElem_cons_zero, List.setIfInBounds_toArray, List.set_cons_zero, List.set_cons_succ]
  refine wpAnyH_take (i := 12) (oi := _) (v := ?_) rfl (by kernel_rfl) (by kernel_rfl) (by kernel_rfl) (fun _ _ _ h => h) (Or.inl ⟨by rfl, ?_⟩) (by assumption) ?_
  rotate_left 1
  · (intro w hSw; (try dsimp only at hSw); go_simp; (try with_reducible rfl))
  try simp only [Act.put, List.getElem_toArray, List.getElem_cons_succ, List.getElem_cons_zero, List.setIfInBounds_toArray, List.set_cons_zero, List.set_cons_succ]
  refine wpAnyH_take (i := 13) (oi := _) (v := ?_) rfl (by kernel_rfl) (by kernel_rfl) (by kernel_rfl) (fun _ _ _ h => h) (Or.inl ⟨by rfl, ?_⟩) (by assumption) ?_
  rotate_left 1
  · (intro w hSw; (try dsimp only at hSw); go_simp; (try with_reducible rfl))
  try simp only [Act.put, List.getElem_toArray, List.getElem_cons_succ, List.getElem_cons_zero, List.setIfInBounds_toArray, List.set_cons_zero, List.set_cons_succ]
  refine wpAnyH_take (i := 14) (oi := _) (v := ?_) rfl (by kernel_rfl) (by kernel_rfl) (by kernel_rfl) (fun _ _ _ h => h) (Or.inl ⟨by rfl, ?_⟩) (by assumption) ?_
  rotate_left 1
  · (intro w hSw; (try dsimp only at hSw); (have d1 := keepc hSw D1.out; have d2 := keepc hSw D2.out; have d3 := keepc hSw D3.out; have d4 := keepc hSw D4.out; have d5 := keepc hSw D5.out; have d6 := keepc hSw D6.out; have d7 := keepc hSw D7.out; go_simp); (try with_reducible rfl))
  try simp only [Act.put, List.getElem_toArray, List.getElem_cons_succ, List.getElem_cons_zero, List.setIfInBounds_toArray, List.set_cons_zero, List.set_cons_succ]
  refine wpAnyH_ready (rs := [10]) (by kernel_rfl) (by simp) ?_
  refine AllReadyH.cons (o := _) rfl (fun K hK => ?_) AllReadyH.nil
  go_simp
  refine (HTL.out _ hHeld6).mono ?_
  rintro e w7 ⟨rfl, hb7⟩
  go_wp2_with fail
  refine hK.out _ _ ?_ (fun hHeld10 => ?_)
  · exact hHeld6.trans (hb7.mono hHeld6.size)
  clear hK K
  try simp only [Act.put, List.getElem_toArray, List.getElem_cons_succ, List.getElem_cons_zero, List.setIfInBounds_toArray, List.set_cons_zero, List.set_cons_succ]
  refine wpAnyH_take (i := 15) (oi := _) (v := ?_) rfl (by kernel_rfl) (by kernel_rfl) (by kernel_rfl) (fun _ _ _ h => h) (Or.inl ⟨by rfl, ?_⟩) (by assumption) ?_
  rotate_left 1
  · (intro w hSw; (try dsimp only at hSw); go_simp; (try with_reducible rfl))
  try simp only [Act.put, List.getElem_toArray, List.getElem_cons_succ, List.getElem_cons_zero, List.setIfInBounds_toArray, List.set_cons_zero, List.set_cons_succ]
  refine wpAnyH_take (i := 16) (oi := _) (v := ?_) rfl (by kernel_rfl) (by kernel_rfl) (by kernel_rfl) (fun _ _ _ h => h) (Or.inl ⟨by rfl, ?_⟩) (by assumption) ?_
  rotate_left 1
  · (intro w hSw; (try dsimp only at hSw); go_simp; (try with_reducible rfl))
  try simp only [Act.put, List.getElem_toArray, List.getElem_cons_succ, List.getElem_cons_zero, List.setIfInBounds_toArray, List.set_cons_zero, List.set_cons_succ]
  refine wpAnyH_take (i := 17) (oi := _) (v := ?_) rfl (by kernel_rfl) (by kernel_rfl) (by kernel_rfl) (fun _ _ _ h => h) (Or.inl ⟨by rfl, ?_⟩) (by assumption) ?_
  rotate_left 1
  · (intro w hSw; (try dsimp only at hSw); go_simp; (try with_reducible rfl))
  try simp only [Act.put, List.getElem_toArray, List.getElem_cons_succ, List.getElem_cons_zero, List.setIfInBounds_toArray, List.set_cons_zero, List.set_cons_succ]
  refine wpAnyH_done (by kernel_rfl) ?_ _
  refine NoPanic.normal ?_
  go_wp2
  go_ret
  exact ⟨rfl, by rw [HTZ.out]; exact HFIN.out _ hHeld10⟩
theorem do17_any {w0 w : World} {m s rm r : Nat} {most : Int} {l L : List SV} {tal : Tal} {n : Nat} (h : TwM w0 m s rm r most l L tal w) (hi : DInv most l L tal n) (hn : n ≤ 1000) (owner : Int) (a : Option Addr) (c : Nat) (xs : List Smp) (hr : Rd w0 a (smf xs)) (hx : xs.length ≤ 1000) (hxo : ∀ x ∈ xs, I64 x.val) :
    Calls Try.prog 15 #[.pointer (some ⟨m, 0, none⟩), .pointer (some ⟨rm, 0, none⟩), .agg #[.int .i64 owner, .slice a xs.length c]] w fun e w' => e = .returned (.bool true) ∧ TwM w0 m s rm r most (goneL owner (xs.map (·.name)) (putL most owner l xs)) (goneL owner (xs.map (·.name)) (rputL most owner L xs)) ((putS most owner l xs).foldl tadd tal) w' := by
  obtain ⟨F, G, h⟩ := h
  refine (do17_foot h hi hn owner a c xs hr hx hxo).mono ?_
  rintro e w' ⟨rfl, F', G', h', -⟩
  exact ⟨rfl, F', G', h'⟩
theorem RsIs.base {w : World} {B B' r : Nat} {most : Int} {L : List SV} {G : Nat → Prop} (h : RsIs w B r most L G) (hB : B' ≤ B) : RsIs w B' r most L G := by
  obtain ⟨v, h1, h2, h3, h4, h5⟩ := h
  exact ⟨v, h1, own_base h2 hB, h3, h4, fun k hk => ⟨Nat.le_trans hB (h5 k hk).1, (h5 k hk).2⟩⟩
theorem RmIs.base {w : World} {B B' m r : Nat} {most : Int} {L : List SV} {G : Nat → Prop} {tal : Tal} (h : RmIs w B m r most L G tal) (hB : B' ≤ B) : RmIs w B' m r most L G tal :=
  ⟨h.1, h.2.1.base hB, h.2.2.1, Nat.le_trans hB h.2.2.2⟩
theorem tf_new (w : World) (x : Int) {w2 w3 : World} {mb s rm r : Nat} {F : List Nat} {G : Nat → Prop} (h1 : MIs w2 w.heap.size mb s (max x 0) [] F tal0) (hb1 : Below w.heap.size w w2) (h2 : RmIs w3 w2.heap.size rm r (max x 0) [] G tal0) (hb2 : Below w2.heap.size w2 w3) : TwF w mb s rm r (max x 0) [] [] tal0 F G w3 := by
  have hF : ∀ k ∈ F, k < w2.heap.size := h1.2.1.lt
  have hm : mb < w2.heap.size := (Array.getElem?_eq_some_iff.1 h1.1).1
  have hG : ∀ k, G k → w2.heap.size ≤ k := h2.2.1.ge
  have hr := h2.2.2.2
  exact ⟨h1.new hb2, h2.base hb1.size, fun k hk => ⟨fun hg => by have := hF k hk; have := hG k hg; omega, fun e => by have := hF k hk; omega⟩, fun hg => by have := hG _ hg; omega, by omega, hb1.trans (hb2.mono hb1.size)⟩
theorem tm_new (w : World) (x : Int) {w2 w3 : World} {mb s rm r : Nat} {F : List Nat} {G : Nat → Prop} (h1 : MIs w2 w.heap.size mb s (max x 0) [] F tal0) (hb1 : Below w.heap.size w w2) (h2 : RmIs w3 w2.heap.size rm r (max x 0) [] G tal0) (hb2 : Below w2.heap.size w2 w3) : TwM w mb s rm r (max x 0) [] [] tal0 w3 :=
  ⟨F, G, tf_new w x h1 hb1 h2 hb2⟩
end Go.Proofs.Ythademifhnkbiaa
