/- The reference's net: the walks that turn one connection in its row. -/
import Derived.Test.YtepdnmpcccgcaaaNtE
import Derived.Test.YtepdnmpcccgcaaaApp6
import Derived.Deep.RegionHeld3
namespace Go.Proofs.Ytepdnmpcccgcaaa
open Go.RowKit K
theorem flat_set {α : Type} (f : α → List Value) (n : Nat) (hn : ∀ x, (f x).length = n) {j : Nat} {x : Value} {v' : α} (hj : j < n) : ∀ {L : List α} {k : Nat} (h : k < L.length), f v' = (f L[k]).set j x → (L.flatMap f).set (k * n + j) x = (L.set k v').flatMap f
  | [], _, h, _ => by simp at h
  | y :: t, 0, _, e => by
    simp only [List.getElem_cons_zero] at e
    rw [List.flatMap_cons, List.set_cons_zero, List.flatMap_cons, Nat.zero_mul, Nat.zero_add, List.set_append_left _ _ (by rw [hn]; exact hj), e]
  | y :: t, k + 1, h, e => by
    simp only [List.getElem_cons_succ] at e
    have ih := flat_set f n hn hj (L := t) (k := k) (by simpa using h) e
    rw [List.flatMap_cons, List.set_cons_succ, List.flatMap_cons, List.set_append_right _ _ (by rw [hn, Nat.add_mul]; omega), hn, ← ih]
    congr 2
    rw [Nat.add_mul]
    omega
section
variable {w : World} {B r : Nat} {most dial : Int} {L : List RC} {G : Nat → Prop} {k : Nat}
theorem RfIs.row (h : RfIs w B r most dial L G) (hk : k < L.length) :
    ∃ g c, w.heap[r]? = some (.cells #[.slice (some ⟨g, 0, none⟩) L.length c, .int .i64 most, .int .i64 dial] 66 (0, 0)) ∧ g ≠ r ∧ g < w.heap.size ∧ (∀ j v, j < 6 → (rcc L[k])[j]? = some v → w.cell? ⟨g, k * 6 + j, none⟩ = some v) ∧ (∀ i, w.frozen? ⟨g, i, none⟩ = false) ∧ L.length ≤ c ∧
      ∀ W, Below w.heap.size w W → ∀ (j : Nat) (x : Value) (v' : RC), j < 6 → rcc v' = (rcc L[k]).set j x → RfTo w B r most dial (L.set k v') G (W.setCell ⟨g, k * 6 + j, none⟩ x) := by
  have H := h
  obtain ⟨v, h1, h2, h3, h4, h5⟩ := h
  rcases h2.2 with ⟨-, e⟩ | ⟨g, cap, cur, rfl, hB, hg, hn, rest⟩
  · omega
  · have hrd : Rd w (some ⟨g, 0, none⟩) (rcf L) := by
      obtain ⟨a, c, e, -, hr, -⟩ := own_cells h2
      cases e
      exact hr
    obtain ⟨b, off, e, hb, hq⟩ := rc_cells hrd hk
    cases e
    have hgr : g ≠ r := (h3 g rfl).2
    refine ⟨g, cap, h1, hgr, hb, fun j v hj hv => by have := hq j v hj hv; rwa [Nat.zero_add] at this, fun i => frozen_of_row _ _ _ _ _ hg, hn, fun W hW j x v' hj e => ?_⟩
    have hW2 := H.new hW
    obtain ⟨v2, k1, k2, k3, k4, k5⟩ := hW2
    have hh : W.heap[r]? = w.heap[r]? := hW.block r (h5 r h4).2
    rw [hh, h1] at k1
    cases k1
    have hset : (rcf L).set (k * 6 + j) x = rcf (L.set k v') := flat_set rcc 6 (fun _ => rfl) hj hk e
    have ho := own_set k2 (k * 6 + j) x
    rw [hset] at ho
    have hgG := (h3 g rfl).1
    refine ⟨G, ⟨_, ((Only.refl (· = g) W).setCell ⟨g, k * 6 + j, none⟩ x (fun _ => rfl)).heap (hh.trans h1) (fun e => hgr e.symm), by rw [List.length_set]; exact ho, k3, k4, fun i hi => by rw [World.size_setCell]; exact k5 i hi⟩, (Only.of_new hW).setCell _ _ (fun _ => hgG), fun _ hi => .inl hi⟩
/-- The first connection of a number. -/
def FirstAt (x : Int) (L : List RC) (k : Nat) : Prop := ∃ h : k < L.length, L[k].id = x ∧ ∀ u ∈ L.take k, u.id ≠ x
theorem ofR_first {x i : Int} (hf : FirstAt x L k) (ho : OfR x L i) : i = k := by
  obtain ⟨hk, hid, hn⟩ := hf
  rcases ho with ⟨-, h⟩ | ⟨k', hk', rfl, hid', hn', -⟩
  · exfalso
    have := List.find?_eq_none.1 h L[k] (List.getElem_mem hk)
    simp [hid] at this
  · have h1 : ¬ k < k' := fun hlt => hn' L[k] (List.mem_take_iff_getElem.2 ⟨k, by omega, rfl⟩) hid
    have h2 : ¬ k' < k := fun hlt => hn L[k'] (List.mem_take_iff_getElem.2 ⟨k', by omega, rfl⟩) hid'
    omega
theorem rof_at (h : RfIs w B r most dial L G) {x : Int} (hf : FirstAt x L k) (hl : L.length ≤ 1000000) :
    Calls Try.prog 53 #[.pointer (some ⟨r, 0, none⟩), .int .i64 x] w fun e w' => e = .returned (.int .i64 (k : Int)) ∧ w = w' := by
  refine (rof_any h x hl).mono ?_
  rintro e w' ⟨i, rfl, ho, rfl⟩
  rw [ofR_first hf ho]
  exact ⟨rfl, rfl⟩
theorem rfind_first {x : Int} : ∀ {L : List RC} {v : RC}, rfind x L = some v → ∃ k, ∃ h : FirstAt x L k, L[k]'h.1 = v ∧ ∀ v', rset x v' L = L.set k v'
  | [], _, h => by cases h
  | y :: t, v, h => by
    by_cases hx : x = y.id
    · have : y = v := by simpa [rfind, hx] using h
      subst this
      exact ⟨0, ⟨by simp, hx.symm, by simp⟩, rfl, fun v' => by simp [rset, hx]⟩
    · have h' : rfind x t = some v := by simpa [rfind, hx] using h
      obtain ⟨k, ⟨hk, hid, hn⟩, he, hs⟩ := rfind_first h'
      refine ⟨k + 1, ⟨by simpa using hk, by simpa using hid, fun u hu => ?_⟩, by simpa using he, fun v' => by simp only [rset, if_neg hx, hs, List.set_cons_succ]⟩
      rw [List.take_succ_cons] at hu
      rcases List.mem_cons.1 hu with rfl | hu
      · exact fun e => hx e.symm
      · exact hn u hu
def rupd (id : Int) (f : RC → RC) (L : List RC) : List RC := match rfind id L with
  | none => L
  | some v => rset id (f v) L
def ract (id st : Int) (f : RC → RC) (L : List RC) : List RC := if rmust id st L = 0 then rupd id f L else L
theorem rmust_zero {id st : Int} (h : rmust id st L = 0) : ∃ k, ∃ hf : FirstAt id L k, (L[k]'hf.1).st = st ∧ ∀ f : RC → RC, ract id st f L = L.set k (f (L[k]'hf.1)) := by
  unfold rmust at h
  cases hr : rfind id L with
  | none => rw [hr] at h; cases h
  | some v =>
    rw [hr] at h
    obtain ⟨k, hf, rfl, hs⟩ := rfind_first hr
    refine ⟨k, hf, ?_, fun f => ?_⟩
    · by_cases he : (L[k]'hf.1).st = st
      · exact he
      · simp only at h
        rw [if_neg he] at h
        cases h
    · unfold ract rupd
      rw [if_pos (by unfold rmust; rw [hr]; exact h), hr]
      exact hs _
set_option maxHeartbeats 2000000 in
set_option maxRecDepth 100000 in
theorem rturn_any (h : RfIs w B r most dial L G) (x st to : Int) (hl : L.length ≤ 1000000) :
    Calls Try.prog 52 #[.pointer (some ⟨r, 0, none⟩), .int .i64 x, .int .i64 st, .int .i64 to] w fun e w' => e = .returned (.int .i64 (rmust x st L)) ∧ RfTo w B r most dial (ract x st (fun v => { v with st := to }) L) G w' := by
  have HM := Lib.hid (rmust_any h x st hl)
  by_cases hm : rmust x st L = 0
  · obtain ⟨k, hf, -, hact⟩ := rmust_zero hm
    rw [hm] at HM ⊢
    replace hact := hact (fun v => { v with st := to })
    obtain ⟨g, c, hb, hgr, hgl, hq, hfz, hlc, hset⟩ := h.row hf.1
    have C0 := Lib.hid (show w.cell? ⟨r, 0, none⟩ = some (.slice (some ⟨g, 0, none⟩) L.length c) by rw [cell_of_row _ _ _ _ _ _ hb]; rfl)
    have HGR := Lib.hid hgr
    have HFZ := Lib.hid hfz
    have HSET := Lib.hid hset
    have HK := Lib.hid hf.1
    have HOF := Lib.hid (fun W (hb : Below w.heap.size w W) => rof_at (h.new hb) hf hl)
    have hkl := hf.1
    obtain ⟨v, hv⟩ : ∃ v, v = L[k]'hf.1 := ⟨_, rfl⟩
    rw [← hv] at hq hset HSET hact
    have HV := Lib.hid hv
    have Q2 := Lib.hid (hq 2 (.int .i64 v.st) (by omega) rfl)
    clear hq hset hfz hb hv hgr
    rw [hact]
    have HFIN := Lib.hid (fun W (hb : Below w.heap.size w W) => HSET.out W hb 2 (.int .i64 to) { v with st := to } (by omega) rfl)
    clear HV HSET hact h hm hf
    go_enter Try.func52, Try.ntmps52
    go_wp2_with fail
    refine HM.out.mono ?_
    rintro e wb ⟨rfl, rfl⟩
    go_wp2_with fail
    refine wp_region_noPanic ?_
    refine wp_region_held_drew (S := (fun w' => ∀ (p : Addr) (v : Value), p ≠ ⟨g, k * 6 + 2, none⟩ → w.cell? p = some v → w'.cell? p = some v)) (by kernel_rfl) ?_ (fun hHeld => ?_)
    · exact fun _ _ _ h => h
    refine wpAnyH_take (i := 0) (oi := _) (v := ?_) rfl (by kernel_rfl) (by kernel_rfl) (by kernel_rfl) (fun _ _ _ h => h) (Or.inl ⟨by rfl, ?_⟩) (by assumption) ?_
    rotate_left 1
    · (intro w hSw; (try dsimp only at hSw); go_simp; (try with_reducible rfl))
    try simp only [Act.put, List.getElem_toArray, List.getElem_cons_zero, List.setIfInBounds_toArray, List.set_cons_zero, List.set_cons_succ]
    refine wpAnyH_take (i := 1) (oi := _) (v := ?_) rfl (by kernel_rfl) (by kernel_rfl) (by kernel_rfl) (fun _ _ _ h => h) (Or.inl ⟨by rfl, ?_⟩) (by assumption) ?_
    rotate_left 1
    · (intro w hSw; (try dsimp only at hSw); go_simp; (try with_reducible rfl))
    try simp only [Act.put, List.getElem_toArray, List.getElem_cons_succ, List.getElem_cons_zero, List.setIfInBounds_toArray, List.set_cons_zero, List.set_cons_succ]
    refine wpAnyH_take (i := 2) (oi := _) (v := ?_) rfl (by kernel_rfl) (by kernel_rfl) (by kernel_rfl) (fun _ _ _ h => h) (Or.inl ⟨by rfl, ?_⟩) (by assumption) ?_
    rotate_left 1
    · (intro w hSw; (try dsimp only at hSw); go_simp; (try with_reducible rfl))
    try simp only [Act.put, List.getElem_toArray, List.getElem_cons_succ, List.getElem_cons_zero, List.setIfInBounds_toArray, List.set_cons_zero, List.set_cons_succ]
    refine wpAnyH_take (i := 3) (oi := _) (v := ?_) rfl (by kernel_rfl) (by kernel_rfl) (by kernel_rfl) (fun _ _ _ h => h) (Or.inl ⟨by rfl, ?_⟩) (by assumption) ?_
    rotate_left 1
    · (intro w hSw; (try dsimp only at hSw); (have q := hSw ⟨r, 0, none⟩ _ (by intro e; cases e) C0.out; go_simp); (try with_reducible rfl))
    try simp only [Act.put, List.getElem_toArray, List.getElem_cons_succ, List.getElem_cons_zero, List.setIfInBounds_toArray, List.set_cons_zero, List.set_cons_succ]
    refine wpAnyH_take (i := 4) (oi := _) (v := ?_) rfl (by kernel_rfl) (by kernel_rfl) (by kernel_rfl) (fun _ _ _ h => h) (Or.inl ⟨by rfl, ?_⟩) (by assumption) ?_
    rotate_left 1
    · (intro w hSw; (try dsimp only at hSw); go_simp; (try with_reducible rfl))
    try simp only [Act.put, List.getElem_toArray, List.getElem_cons_succ, List.getElem_cons_zero, List.setIfInBounds_toArray, List.set_cons_zero, List.set_cons_succ]
    refine wpAnyH_take (i := 5) (oi := _) (v := ?_) rfl (by kernel_rfl) (by kernel_rfl) (by kernel_rfl) (fun _ _ _ h => h) (Or.inl ⟨by rfl, ?_⟩) (by assumption) ?_
    rotate_left 1
    · (intro w hSw; (try dsimp only at hSw); go_simp; (try with_reducible rfl))
    try simp only [Act.put, List.getElem_toArray, List.getElem_cons_succ, List.getElem_cons_zero, List.setIfInBounds_toArray, List.set_cons_zero, List.set_cons_succ]
    refine wpAnyH_take (i := 7) (oi := _) (v := ?_) rfl (by kernel_rfl) (by kernel_rfl) (by kernel_rfl) (fun _ _ _ h => h) (Or.inl ⟨by rfl, ?_⟩) (by assumption) ?_
    rotate_left 1
    · (intro w hSw; (try dsimp only at hSw); go_simp; (try with_reducible rfl))
    try simp only [Act.put, List.getElem_toArray, List.getElem_cons_succ, List.getElem_cons_zero, List.setIfInBounds_toArray, List.set_cons_zero, List.set_cons_succ]
    refine wpAnyH_ready (rs := [6]) (by kernel_rfl) (by simp) ?_
    refine AllReadyH.cons (o := _) rfl (fun K hK => ?_) AllReadyH.nil
    go_simp
    refine (HOF.out _ (drew_below _)).mono ?_
    rintro e w2 ⟨rfl, rfl⟩
    go_wp2_with fail
    refine hK.out _ _ ?_ (fun hHeld6 => ?_)
    · exact fun _ _ _ h => h
    clear hK K
    try simp only [Act.put, List.getElem_toArray, List.getElem_cons_succ, List.getElem_cons_zero, List.setIfInBounds_toArray, List.set_cons_zero, List.set_cons_succ]
    refine wpAnyH_take (i := 8) (oi := _) (v := ?_) rfl (by kernel_rfl) (by kernel_rfl) (by kernel_rfl) (fun _ _ _ h => h) (Or.inl ⟨by rfl, ?_⟩) (by assumption) ?_
    rotate_left 1
    · (intro w hSw; (try dsimp only at hSw); (have hkl := HK.out; go_simp); (try with_reducible rfl))
    try simp only [Act.put, List.getElem_toArray, List.getElem_cons_succ, List.getElem_cons_zero, List.setIfInBounds_toArray, List.set_cons_zero, List.set_cons_succ]
    refine wpAnyH_take (i := 9) (oi := _) (v := ?_) rfl (by kernel_rfl) (by kernel_rfl) (by kernel_rfl) (fun _ _ _ h => h) (Or.inl ⟨by rfl, ?_⟩) (by assumption) ?_
    rotate_left 1
    · (intro w hSw; (try dsimp only at hSw); go_simp; (try with_reducible rfl))
    try simp only [Act.put, List.getElem_toArray, List.getElem_cons_succ, List.getElem_cons_zero, List.setIfInBounds_toArray, List.set_cons_zero, List.set_cons_succ]
    refine wpAnyH_ready (rs := [10]) (by kernel_rfl) (by simp) ?_
    refine AllReadyH.cons (o := _) rfl (fun K hK => ?_) AllReadyH.nil
    have fz := HFZ.out (k * 6 + 2)
    have q := Q2.out
    go_simp
    refine hK.out _ _ ?_ (fun _ => ?_)
    · intro p u hp hu
      exact (World.cell?_setCell_other _ _ _ _ (Ne.symm hp)).trans hu
    clear hK K
    try simp only [Act.put, List.getElem_toArray, List.getElem_cons_succ, List.getElem_cons_zero, List.setIfInBounds_toArray, List.set_cons_zero, List.set_cons_succ]
    refine wpAnyH_done (by kernel_rfl) ?_ _
    refine NoPanic.normal ?_
    go_wp2
    go_ret
    exact ⟨rfl, HFIN.out _ (drew_below _)⟩
  · have hrest : ract x st (fun v => { v with st := to }) L = L := by unfold ract; rw [if_neg hm]
    rw [hrest]
    generalize rmust x st L = c at HM hm
    have hb : (c == 0) = false := by rw [beq_eq_false_iff_ne]; exact hm
    go_enter Try.func52, Try.ntmps52
    go_wp2_with fail
    refine HM.out.mono ?_
    rintro e wb ⟨rfl, rfl⟩
    go_wp2
    go_ret
    exact ⟨rfl, RfTo.same h (Below.refl _ _)⟩
set_option maxHeartbeats 400000 in
theorem raccept_any (h : RfIs w B r most dial L G) (x : Int) (hl : L.length ≤ 1000000) :
    Calls Try.prog 34 #[.pointer (some ⟨r, 0, none⟩), .int .i64 x] w fun e w' => e = .returned (.int .i64 (rmust x 1 L)) ∧ RfTo w B r most dial (ract x 1 (fun v => { v with st := 2 }) L) G w' := by
  have HT := Lib.hid (rturn_any h x 1 2 hl)
  clear h
  go_enter Try.func34, Try.ntmps34
  go_wp2_with fail
  refine HT.out.mono ?_
  rintro e w' ⟨rfl, ht⟩
  have HX := Lib.hid ht
  clear ht
  go_wp2
  go_ret
  exact ⟨rfl, HX.out⟩
set_option maxHeartbeats 400000 in
theorem rrefuse_any (h : RfIs w B r most dial L G) (x : Int) (hl : L.length ≤ 1000000) :
    Calls Try.prog 35 #[.pointer (some ⟨r, 0, none⟩), .int .i64 x] w fun e w' => e = .returned (.int .i64 (rmust x 1 L)) ∧ RfTo w B r most dial (ract x 1 (fun v => { v with st := 4 }) L) G w' := by
  have HT := Lib.hid (rturn_any h x 1 4 hl)
  clear h
  go_enter Try.func35, Try.ntmps35
  go_wp2_with fail
  refine HT.out.mono ?_
  rintro e w' ⟨rfl, ht⟩
  have HX := Lib.hid ht
  clear ht
  go_wp2
  go_ret
  exact ⟨rfl, HX.out⟩
set_option maxHeartbeats 400000 in
theorem rend_any (h : RfIs w B r most dial L G) (x : Int) (hl : L.length ≤ 1000000) :
    Calls Try.prog 37 #[.pointer (some ⟨r, 0, none⟩), .int .i64 x] w fun e w' => e = .returned (.int .i64 (rmust x 2 L)) ∧ RfTo w B r most dial (ract x 2 (fun v => { v with st := 3 }) L) G w' := by
  have HT := Lib.hid (rturn_any h x 2 3 hl)
  clear h
  go_enter Try.func37, Try.ntmps37
  go_wp2_with fail
  refine HT.out.mono ?_
  rintro e w' ⟨rfl, ht⟩
  have HX := Lib.hid ht
  clear ht
  go_wp2
  go_ret
  exact ⟨rfl, HX.out⟩
theorem RfTo.trans {w1 w2 : World} {L2 : List RC} {d2 : Int} {G1 : Nat → Prop} (a : Only G w w1) (b : ∀ k, G1 k → G k ∨ w.heap.size ≤ k) (c : RfTo w1 B r most d2 L2 G1 w2) : RfTo w B r most d2 L2 G w2 := by
  obtain ⟨G2, h1, h2, h3⟩ := c
  refine ⟨G2, h1, a.trans h2 (fun k hk h => (b k h).elim id fun h => by omega), fun k hk => ?_⟩
  rcases h3 k hk with h | h
  · exact b k h
  · exact .inr (Nat.le_trans a.size h)
theorem firstAt_set {x : Int} {v' : RC} (hf : FirstAt x L k) (hid : v'.id = x) : FirstAt x (L.set k v') k := by
  obtain ⟨h1, h2, h3⟩ := hf
  refine ⟨by rw [List.length_set]; exact h1, by rw [List.getElem_set_self]; exact hid, fun u hu => h3 u ?_⟩
  rwa [List.take_set_of_le (Nat.le_refl k)] at hu
/-- What 'Reset' asks for. -/
def rfrom (x : Int) (L : List RC) : Int := if rst x L = 3 then 3 else 2
set_option maxHeartbeats 4000000 in
set_option maxRecDepth 100000 in
theorem rreset_any (h : RfIs w B r most dial L G) (x : Int) (hl : L.length ≤ 1000000) (hs : ∀ v ∈ L, v.inn.size ≤ 1000000) :
    Calls Try.prog 36 #[.pointer (some ⟨r, 0, none⟩), .int .i64 x] w fun e w' => e = .returned (.int .i64 (rmust x (rfrom x L) L)) ∧ RfTo w B r most dial (ract x (rfrom x L) (fun v => { v with st := 5, pos := v.inn.size }) L) G w' := by
  have HS := Lib.hid (rstate_any h x hl)
  have HT := Lib.hid (rturn_any h x (rfrom x L) 5 hl)
  obtain ⟨sv, hsv⟩ : ∃ sv, sv = rst x L := ⟨_, rfl⟩
  rw [← hsv] at HS
  have hfr : rfrom x L = if sv = 3 then 3 else 2 := by unfold rfrom; rw [← hsv]
  clear hsv
  by_cases hm : rmust x (rfrom x L) L = 0
  · obtain ⟨k, hf, -, hact⟩ := rmust_zero hm
    rw [hm] at HT ⊢
    rw [hact] at HT ⊢
    obtain ⟨v, hv⟩ : ∃ v, v = L[k]'hf.1 := ⟨_, rfl⟩
    rw [← hv] at HT ⊢
    have hvid : v.id = x := by rw [hv]; exact hf.2.1
    have hvs : v.inn.size ≤ 1000000 := by rw [hv]; exact hs _ (List.getElem_mem _)
    have HF1 := Lib.hid (firstAt_set (v' := { v with st := 5 }) hf hvid)
    have HK1 := Lib.hid hf.1
    have HVS := Lib.hid hvs
    clear hact hv hvid hvs hs hm
    generalize rfrom x L = fr at HT hfr
    clear hf
    by_cases h3 : sv = 3
    rotate_left 1
    all_goals rw [show fr = _ from hfr.trans (by first | exact if_pos h3 | exact if_neg h3)] at HT
    ·
      have hbq : (sv == 3) = false := by rw [beq_eq_false_iff_ne]; exact h3
      clear hfr h3
      go_enter Try.func36, Try.ntmps36
      go_wp2_with fail
      refine HS.out.mono ?_
      rintro e w1 ⟨rfl, rfl⟩
      go_wp2_with fail
      refine HT.out.mono ?_
      rintro e wb ⟨rfl, G1, g1, g2, g3⟩
      have hl1 : (L.set k { v with st := 5 }).length ≤ 1000000 := by rw [List.length_set]; exact hl
      have HOF := Lib.hid (rof_at g1 HF1.out hl1)
      obtain ⟨g, c, hb, hgr, hgl, hq, hfz, hlc, hset⟩ := g1.row HF1.out.1
      rw [List.getElem_set_self] at hq hset
      have C0 := Lib.hid (show wb.cell? ⟨r, 0, none⟩ = some (.slice (some ⟨g, 0, none⟩) L.length c) by rw [cell_of_row _ _ _ _ _ _ hb, List.length_set]; rfl)
      have HFZ := Lib.hid hfz
      have HK := Lib.hid (show k < L.length ∧ L.length ≤ c from ⟨HK1.out, by rw [List.length_set] at hlc; exact hlc⟩)
      have Q3 := Lib.hid (hq 3 (.string v.inn) (by omega) rfl)
      have Q4 := Lib.hid (hq 4 (.int .i64 (v.pos : Int)) (by omega) rfl)
      have HFIN := Lib.hid (fun W (hb : Below wb.heap.size wb W) => (show RfTo w B r most dial (L.set k { v with st := 5, pos := v.inn.size }) G (W.setCell ⟨g, k * 6 + 4, none⟩ (.int .i64 (v.inn.size : Int))) from by
        have hh := hset W hb 4 (.int .i64 (v.inn.size : Int)) { v with st := 5, pos := v.inn.size } (by omega) rfl
        rw [List.set_set] at hh
        exact RfTo.trans g2 g3 hh))
      clear hq hset hfz hb hgr hlc g1 g2 g3 hl1 HS HT HF1
      go_wp2_with fail
      refine HOF.out.mono ?_
      rintro e w2 ⟨rfl, rfl⟩
      clear HOF
      go_wp2_with fail
      refine wp_region_noPanic ?_
      refine wp_region_held_drew (S := (fun w' => ∀ (p : Addr) (v : Value), p ≠ ⟨g, k * 6 + 4, none⟩ → wb.cell? p = some v → w'.cell? p = some v)) (by kernel_rfl) ?_ (fun hHeld => ?_)
      · exact fun _ _ _ h => h
      refine wpAnyH_take (i := 0) (oi := _) (v := ?_) rfl (by kernel_rfl) (by kernel_rfl) (by kernel_rfl) (fun _ _ _ h => h) (Or.inl ⟨by rfl, ?_⟩) (by assumption) ?_
      rotate_left 1
      · (intro w hSw; (try dsimp only at hSw); go_simp; (try with_reducible rfl))
      try simp only [Act.put, List.getElem_toArray, List.getElem_cons_zero, List.setIfInBounds_toArray, List.set_cons_zero, List.set_cons_succ]
      refine wpAnyH_take (i := 1) (oi := _) (v := ?_) rfl (by kernel_rfl) (by kernel_rfl) (by kernel_rfl) (fun _ _ _ h => h) (Or.inl ⟨by rfl, ?_⟩) (by assumption) ?_
      rotate_left 1
      · (intro w hSw; (try dsimp only at hSw); go_simp; (try with_reducible rfl))
      try simp only [Act.put, List.getElem_toArray, List.getElem_cons_succ, List.getElem_cons_zero, List.setIfInBounds_toArray, List.set_cons_zero, List.set_cons_succ]
      refine wpAnyH_take (i := 2) (oi := _) (v := ?_) rfl (by kernel_rfl) (by kernel_rfl) (by kernel_rfl) (fun _ _ _ h => h) (Or.inl ⟨by rfl, ?_⟩) (by assumption) ?_
      rotate_left 1
      · (intro w hSw; (try dsimp only at hSw); go_simp; (try with_reducible rfl))
      try simp only [Act.put, List.getElem_toArray, List.getElem_cons_succ, List.getElem_cons_zero, List.setIfInBounds_toArray, List.set_cons_zero, List.set_cons_succ]
      refine wpAnyH_take (i := 3) (oi := _) (v := ?_) rfl (by kernel_rfl) (by kernel_rfl) (by kernel_rfl) (fun _ _ _ h => h) (Or.inl ⟨by rfl, ?_⟩) (by assumption) ?_
      rotate_left 1
      · (intro w hSw; (try dsimp only at hSw); (have q := hSw ⟨r, 0, none⟩ _ (by intro e; cases e) C0.out; go_simp); (try with_reducible rfl))
      try simp only [Act.put, List.getElem_toArray, List.getElem_cons_succ, List.getElem_cons_zero, List.setIfInBounds_toArray, List.set_cons_zero, List.set_cons_succ]
      refine wpAnyH_take (i := 4) (oi := _) (v := ?_) rfl (by kernel_rfl) (by kernel_rfl) (by kernel_rfl) (fun _ _ _ h => h) (Or.inl ⟨by rfl, ?_⟩) (by assumption) ?_
      rotate_left 1
      · (intro w hSw; (try dsimp only at hSw); go_simp; (try with_reducible rfl))
      try simp only [Act.put, List.getElem_toArray, List.getElem_cons_succ, List.getElem_cons_zero, List.setIfInBounds_toArray, List.set_cons_zero, List.set_cons_succ]
      refine wpAnyH_take (i := 5) (oi := _) (v := ?_) rfl (by kernel_rfl) (by kernel_rfl) (by kernel_rfl) (fun _ _ _ h => h) (Or.inl ⟨by rfl, ?_⟩) (by assumption) ?_
      rotate_left 1
      · (intro w hSw; (try dsimp only at hSw); go_simp; (try with_reducible rfl))
      try simp only [Act.put, List.getElem_toArray, List.getElem_cons_succ, List.getElem_cons_zero, List.setIfInBounds_toArray, List.set_cons_zero, List.set_cons_succ]
      refine wpAnyH_take (i := 6) (oi := _) (v := ?_) rfl (by kernel_rfl) (by kernel_rfl) (by kernel_rfl) (fun _ _ _ h => h) (Or.inl ⟨by rfl, ?_⟩) (by assumption) ?_
      rotate_left 1
      · (intro w hSw; (try dsimp only at hSw); go_simp; (try with_reducible rfl))
      try simp only [Act.put, List.getElem_toArray, List.getElem_cons_succ, List.getElem_cons_zero, List.setIfInBounds_toArray, List.set_cons_zero, List.set_cons_succ]
      refine wpAnyH_take (i := 7) (oi := _) (v := ?_) rfl (by kernel_rfl) (by kernel_rfl) (by kernel_rfl) (fun _ _ _ h => h) (Or.inl ⟨by rfl, ?_⟩) (by assumption) ?_
      rotate_left 1
      · (intro w hSw; (try dsimp only at hSw); go_simp; (try with_reducible rfl))
      try simp only [Act.put, List.getElem_toArray, List.getElem_cons_succ, List.getElem_cons_zero, List.setIfInBounds_toArray, List.set_cons_zero, List.set_cons_succ]
      refine wpAnyH_take (i := 8) (oi := _) (v := ?_) rfl (by kernel_rfl) (by kernel_rfl) (by kernel_rfl) (fun _ _ _ h => h) (Or.inl ⟨by rfl, ?_⟩) (by assumption) ?_
      rotate_left 1
      · (intro w hSw; (try dsimp only at hSw); (have q := hSw ⟨r, 0, none⟩ _ (by intro e; cases e) C0.out; go_simp); (try with_reducible rfl))
      try simp only [Act.put, List.getElem_toArray, List.getElem_cons_succ, List.getElem_cons_zero, List.setIfInBounds_toArray, List.set_cons_zero, List.set_cons_succ]
      refine wpAnyH_take (i := 9) (oi := _) (v := ?_) rfl (by kernel_rfl) (by kernel_rfl) (by kernel_rfl) (fun _ _ _ h => h) (Or.inl ⟨by rfl, ?_⟩) (by assumption) ?_
      rotate_left 1
      · (intro w hSw; (try dsimp only at hSw); go_simp; (try with_reducible rfl))
      try simp only [Act.put, List.getElem_toArray, List.getElem_cons_succ, List.getElem_cons_zero, List.setIfInBounds_toArray, List.set_cons_zero, List.set_cons_succ]
      refine wpAnyH_take (i := 10) (oi := _) (v := ?_) rfl (by kernel_rfl) (by kernel_rfl) (by kernel_rfl) (fun _ _ _ h => h) (Or.inl ⟨by rfl, ?_⟩) (by assumption) ?_
      rotate_left 1
      · (intro w hSw; (try dsimp only at hSw); (have hkl := HK.out; go_simp); (try with_reducible rfl))
      try simp only [Act.put, List.getElem_toArray, List.getElem_cons_succ, List.getElem_cons_zero, List.setIfInBounds_toArray, List.set_cons_zero, List.set_cons_succ]
      refine wpAnyH_take (i := 11) (oi := _) (v := ?_) rfl (by kernel_rfl) (by kernel_rfl) (by kernel_rfl) (fun _ _ _ h => h) (Or.inl ⟨by rfl, ?_⟩) (by assumption) ?_
      rotate_left 1
      · (intro w hSw; (try dsimp only at hSw); go_simp; (try with_reducible rfl))
      try simp only [Act.put, List.getElem_toArray, List.getElem_cons_succ, List.getElem_cons_zero, List.setIfInBounds_toArray, List.set_cons_zero, List.set_cons_succ]
      refine wpAnyH_take (i := 12) (oi := _) (v := ?_) rfl (by kernel_rfl) (by kernel_rfl) (by kernel_rfl) (fun _ _ _ h => h) (Or.inl ⟨by rfl, ?_⟩) (by assumption) ?_
      rotate_left 1
      · (intro w hSw; (try dsimp only at hSw); (have q := hSw ⟨g, k * 6 + 3, none⟩ _ (by intro e; simp at e) Q3.out; go_simp); (try with_reducible rfl))
      try simp only [Act.put, List.getElem_toArray, List.getElem_cons_succ, List.getElem_cons_zero, List.setIfInBounds_toArray, List.set_cons_zero, List.set_cons_succ]
      refine wpAnyH_take (i := 13) (oi := _) (v := ?_) rfl (by kernel_rfl) (by kernel_rfl) (by kernel_rfl) (fun _ _ _ h => h) (Or.inl ⟨by rfl, ?_⟩) (by assumption) ?_
      rotate_left 1
      · (intro w hSw; (try dsimp only at hSw); go_simp; (try with_reducible rfl))
      try simp only [Act.put, List.getElem_toArray, List.getElem_cons_succ, List.getElem_cons_zero, List.setIfInBounds_toArray, List.set_cons_zero, List.set_cons_succ]
      refine wpAnyH_take (i := 14) (oi := _) (v := ?_) rfl (by kernel_rfl) (by kernel_rfl) (by kernel_rfl) (fun _ _ _ h => h) (Or.inl ⟨by rfl, ?_⟩) (by assumption) ?_
      rotate_left 1
      · (intro w hSw; (try dsimp only at hSw); (have hkl := HK.out; go_simp); (try with_reducible rfl))
      try simp only [Act.put, List.getElem_toArray, List.getElem_cons_succ, List.getElem_cons_zero, List.setIfInBounds_toArray, List.set_cons_zero, List.set_cons_succ]
      refine wpAnyH_take (i := 15) (oi := _) (v := ?_) rfl (by kernel_rfl) (by kernel_rfl) (by kernel_rfl) (fun _ _ _ h => h) (Or.inl ⟨by rfl, ?_⟩) (by assumption) ?_
      rotate_left 1
      · (intro w hSw; (try dsimp only at hSw); go_simp; (try with_reducible rfl))
      try simp only [Act.put, List.getElem_toArray, List.getElem_cons_succ, List.getElem_cons_zero, List.setIfInBounds_toArray, List.set_cons_zero, List.set_cons_succ]
      refine wpAnyH_ready (rs := [16]) (by kernel_rfl) (by simp) ?_
      refine AllReadyH.cons (o := _) rfl (fun K hK => ?_) AllReadyH.nil
      have fz := HFZ.out (k * 6 + 4)
      have q := Q4.out
      go_simp
      refine hK.out _ _ ?_ (fun _ => ?_)
      · intro p u hp hu
        exact (World.cell?_setCell_other _ _ _ _ (Ne.symm hp)).trans hu
      clear hK K
      try simp only [Act.put, List.getElem_toArray, List.getElem_cons_succ, List.getElem_cons_zero, List.setIfInBounds_toArray, List.set_cons_zero, List.set_cons_succ]
      refine wpAnyH_done (by kernel_rfl) ?_ _
      refine NoPanic.normal ?_
      go_wp2
      go_ret
      exact ⟨rfl, HFIN.out _ (drew_below _)⟩
    ·
      have hbq : (sv == 3) = true := by rw [beq_iff_eq]; exact h3
      clear hfr h3
      go_enter Try.func36, Try.ntmps36
      go_wp2_with fail
      refine HS.out.mono ?_
      rintro e w1 ⟨rfl, rfl⟩
      go_wp2_with fail
      refine HT.out.mono ?_
      rintro e wb ⟨rfl, G1, g1, g2, g3⟩
      have hl1 : (L.set k { v with st := 5 }).length ≤ 1000000 := by rw [List.length_set]; exact hl
      have HOF := Lib.hid (rof_at g1 HF1.out hl1)
      obtain ⟨g, c, hb, hgr, hgl, hq, hfz, hlc, hset⟩ := g1.row HF1.out.1
      rw [List.getElem_set_self] at hq hset
      have C0 := Lib.hid (show wb.cell? ⟨r, 0, none⟩ = some (.slice (some ⟨g, 0, none⟩) L.length c) by rw [cell_of_row _ _ _ _ _ _ hb, List.length_set]; rfl)
      have HFZ := Lib.hid hfz
      have HK := Lib.hid (show k < L.length ∧ L.length ≤ c from ⟨HK1.out, by rw [List.length_set] at hlc; exact hlc⟩)
      have Q3 := Lib.hid (hq 3 (.string v.inn) (by omega) rfl)
      have Q4 := Lib.hid (hq 4 (.int .i64 (v.pos : Int)) (by omega) rfl)
      have HFIN := Lib.hid (fun W (hb : Below wb.heap.size wb W) => (show RfTo w B r most dial (L.set k { v with st := 5, pos := v.inn.size }) G (W.setCell ⟨g, k * 6 + 4, none⟩ (.int .i64 (v.inn.size : Int))) from by
        have hh := hset W hb 4 (.int .i64 (v.inn.size : Int)) { v with st := 5, pos := v.inn.size } (by omega) rfl
        rw [List.set_set] at hh
        exact RfTo.trans g2 g3 hh))
      clear hq hset hfz hb hgr hlc g1 g2 g3 hl1 HS HT HF1
      go_wp2_with fail
      refine HOF.out.mono ?_
      rintro e w2 ⟨rfl, rfl⟩
      clear HOF
      go_wp2_with fail
      refine wp_region_noPanic ?_
      refine wp_region_held_drew (S := (fun w' => ∀ (p : Addr) (v : Value), p ≠ ⟨g, k * 6 + 4, none⟩ → wb.cell? p = some v → w'.cell? p = some v)) (by kernel_rfl) ?_ (fun hHeld => ?_)
      · exact fun _ _ _ h => h
      refine wpAnyH_take (i := 0) (oi := _) (v := ?_) rfl (by kernel_rfl) (by kernel_rfl) (by kernel_rfl) (fun _ _ _ h => h) (Or.inl ⟨by rfl, ?_⟩) (by assumption) ?_
      rotate_left 1
      · (intro w hSw; (try dsimp only at hSw); go_simp; (try with_reducible rfl))
      try simp only [Act.put, List.getElem_toArray, List.getElem_cons_zero, List.setIfInBounds_toArray, List.set_cons_zero, List.set_cons_succ]
      refine wpAnyH_take (i := 1) (oi := _) (v := ?_) rfl (by kernel_rfl) (by kernel_rfl) (by kernel_rfl) (fun _ _ _ h => h) (Or.inl ⟨by rfl, ?_⟩) (by assumption) ?_
      rotate_left 1
      · (intro w hSw; (try dsimp only at hSw); go_simp; (try with_reducible rfl))
      try simp only [Act.put, List.getElem_toArray, List.getElem_cons_succ, List.getElem_cons_zero, List.setIfInBounds_toArray, List.set_cons_zero, List.set_cons_succ]
      refine wpAnyH_take (i := 2) (oi := _) (v := ?_) rfl (by kernel_rfl) (by kernel_rfl) (by kernel_rfl) (fun _ _ _ h => h) (Or.inl ⟨by rfl, ?_⟩) (by assumption) ?_
      rotate_left 1
      · (intro w hSw; (try dsimp only at hSw); go_simp; (try with_reducible rfl))
      try simp only [Act.put, List.getElem_toArray, List.getElem_cons_succ, List.getElem_cons_zero, List.setIfInBounds_toArray, List.set_cons_zero, List.set_cons_succ]
      refine wpAnyH_take (i := 3) (oi := _) (v := ?_) rfl (by kernel_rfl) (by kernel_rfl) (by kernel_rfl) (fun _ _ _ h => h) (Or.inl ⟨by rfl, ?_⟩) (by assumption) ?_
      rotate_left 1
      · (intro w hSw; (try dsimp only at hSw); (have q := hSw ⟨r, 0, none⟩ _ (by intro e; cases e) C0.out; go_simp); (try with_reducible rfl))
      try simp only [Act.put, List.getElem_toArray, List.getElem_cons_succ, List.getElem_cons_zero, List.setIfInBounds_toArray, List.set_cons_zero, List.set_cons_succ]
      refine wpAnyH_take (i := 4) (oi := _) (v := ?_) rfl (by kernel_rfl) (by kernel_rfl) (by kernel_rfl) (fun _ _ _ h => h) (Or.inl ⟨by rfl, ?_⟩) (by assumption) ?_
      rotate_left 1
      · (intro w hSw; (try dsimp only at hSw); go_simp; (try with_reducible rfl))
      try simp only [Act.put, List.getElem_toArray, List.getElem_cons_succ, List.getElem_cons_zero, List.setIfInBounds_toArray, List.set_cons_zero, List.set_cons_succ]
      refine wpAnyH_take (i := 5) (oi := _) (v := ?_) rfl (by kernel_rfl) (by kernel_rfl) (by kernel_rfl) (fun _ _ _ h => h) (Or.inl ⟨by rfl, ?_⟩) (by assumption) ?_
      rotate_left 1
      · (intro w hSw; (try dsimp only at hSw); go_simp; (try with_reducible rfl))
      try simp only [Act.put, List.getElem_toArray, List.getElem_cons_succ, List.getElem_cons_zero, List.setIfInBounds_toArray, List.set_cons_zero, List.set_cons_succ]
      refine wpAnyH_take (i := 6) (oi := _) (v := ?_) rfl (by kernel_rfl) (by kernel_rfl) (by kernel_rfl) (fun _ _ _ h => h) (Or.inl ⟨by rfl, ?_⟩) (by assumption) ?_
      rotate_left 1
      · (intro w hSw; (try dsimp only at hSw); go_simp; (try with_reducible rfl))
      try simp only [Act.put, List.getElem_toArray, List.getElem_cons_succ, List.getElem_cons_zero, List.setIfInBounds_toArray, List.set_cons_zero, List.set_cons_succ]
      refine wpAnyH_take (i := 7) (oi := _) (v := ?_) rfl (by kernel_rfl) (by kernel_rfl) (by kernel_rfl) (fun _ _ _ h => h) (Or.inl ⟨by rfl, ?_⟩) (by assumption) ?_
      rotate_left 1
      · (intro w hSw; (try dsimp only at hSw); go_simp; (try with_reducible rfl))
      try simp only [Act.put, List.getElem_toArray, List.getElem_cons_succ, List.getElem_cons_zero, List.setIfInBounds_toArray, List.set_cons_zero, List.set_cons_succ]
      refine wpAnyH_take (i := 8) (oi := _) (v := ?_) rfl (by kernel_rfl) (by kernel_rfl) (by kernel_rfl) (fun _ _ _ h => h) (Or.inl ⟨by rfl, ?_⟩) (by assumption) ?_
      rotate_left 1
      · (intro w hSw; (try dsimp only at hSw); (have q := hSw ⟨r, 0, none⟩ _ (by intro e; cases e) C0.out; go_simp); (try with_reducible rfl))
      try simp only [Act.put, List.getElem_toArray, List.getElem_cons_succ, List.getElem_cons_zero, List.setIfInBounds_toArray, List.set_cons_zero, List.set_cons_succ]
      refine wpAnyH_take (i := 9) (oi := _) (v := ?_) rfl (by kernel_rfl) (by kernel_rfl) (by kernel_rfl) (fun _ _ _ h => h) (Or.inl ⟨by rfl, ?_⟩) (by assumption) ?_
      rotate_left 1
      · (intro w hSw; (try dsimp only at hSw); go_simp; (try with_reducible rfl))
      try simp only [Act.put, List.getElem_toArray, List.getElem_cons_succ, List.getElem_cons_zero, List.setIfInBounds_toArray, List.set_cons_zero, List.set_cons_succ]
      refine wpAnyH_take (i := 10) (oi := _) (v := ?_) rfl (by kernel_rfl) (by kernel_rfl) (by kernel_rfl) (fun _ _ _ h => h) (Or.inl ⟨by rfl, ?_⟩) (by assumption) ?_
      rotate_left 1
      · (intro w hSw; (try dsimp only at hSw); (have hkl := HK.out; go_simp); (try with_reducible rfl))
      try simp only [Act.put, List.getElem_toArray, List.getElem_cons_succ, List.getElem_cons_zero, List.setIfInBounds_toArray, List.set_cons_zero, List.set_cons_succ]
      refine wpAnyH_take (i := 11) (oi := _) (v := ?_) rfl (by kernel_rfl) (by kernel_rfl) (by kernel_rfl) (fun _ _ _ h => h) (Or.inl ⟨by rfl, ?_⟩) (by assumption) ?_
      rotate_left 1
      · (intro w hSw; (try dsimp only at hSw); go_simp; (try with_reducible rfl))
      try simp only [Act.put, List.getElem_toArray, List.getElem_cons_succ, List.getElem_cons_zero, List.setIfInBounds_toArray, List.set_cons_zero, List.set_cons_succ]
      refine wpAnyH_take (i := 12) (oi := _) (v := ?_) rfl (by kernel_rfl) (by kernel_rfl) (by kernel_rfl) (fun _ _ _ h => h) (Or.inl ⟨by rfl, ?_⟩) (by assumption) ?_
      rotate_left 1
      · (intro w hSw; (try dsimp only at hSw); (have q := hSw ⟨g, k * 6 + 3, none⟩ _ (by intro e; simp at e) Q3.out; go_simp); (try with_reducible rfl))
      try simp only [Act.put, List.getElem_toArray, List.getElem_cons_succ, List.getElem_cons_zero, List.setIfInBounds_toArray, List.set_cons_zero, List.set_cons_succ]
      refine wpAnyH_take (i := 13) (oi := _) (v := ?_) rfl (by kernel_rfl) (by kernel_rfl) (by kernel_rfl) (fun _ _ _ h => h) (Or.inl ⟨by rfl, ?_⟩) (by assumption) ?_
      rotate_left 1
      · (intro w hSw; (try dsimp only at hSw); go_simp; (try with_reducible rfl))
      try simp only [Act.put, List.getElem_toArray, List.getElem_cons_succ, List.getElem_cons_zero, List.setIfInBounds_toArray, List.set_cons_zero, List.set_cons_succ]
      refine wpAnyH_take (i := 14) (oi := _) (v := ?_) rfl (by kernel_rfl) (by kernel_rfl) (by kernel_rfl) (fun _ _ _ h => h) (Or.inl ⟨by rfl, ?_⟩) (by assumption) ?_
      rotate_left 1
      · (intro w hSw; (try dsimp only at hSw); (have hkl := HK.out; go_simp); (try with_reducible rfl))
      try simp only [Act.put, List.getElem_toArray, List.getElem_cons_succ, List.getElem_cons_zero, List.setIfInBounds_toArray, List.set_cons_zero, List.set_cons_succ]
      refine wpAnyH_take (i := 15) (oi := _) (v := ?_) rfl (by kernel_rfl) (by kernel_rfl) (by kernel_rfl) (fun _ _ _ h => h) (Or.inl ⟨by rfl, ?_⟩) (by assumption) ?_
      rotate_left 1
      · (intro w hSw; (try dsimp only at hSw); go_simp; (try with_reducible rfl))
      try simp only [Act.put, List.getElem_toArray, List.getElem_cons_succ, List.getElem_cons_zero, List.setIfInBounds_toArray, List.set_cons_zero, List.set_cons_succ]
      refine wpAnyH_ready (rs := [16]) (by kernel_rfl) (by simp) ?_
      refine AllReadyH.cons (o := _) rfl (fun K hK => ?_) AllReadyH.nil
      have fz := HFZ.out (k * 6 + 4)
      have q := Q4.out
      go_simp
      refine hK.out _ _ ?_ (fun _ => ?_)
      · intro p u hp hu
        exact (World.cell?_setCell_other _ _ _ _ (Ne.symm hp)).trans hu
      clear hK K
      try simp only [Act.put, List.getElem_toArray, List.getElem_cons_succ, List.getElem_cons_zero, List.setIfInBounds_toArray, List.set_cons_zero, List.set_cons_succ]
      refine wpAnyH_done (by kernel_rfl) ?_ _
      refine NoPanic.normal ?_
      go_wp2
      go_ret
      exact ⟨rfl, HFIN.out _ (drew_below _)⟩
  · have hrest : ∀ f, ract x (rfrom x L) f L = L := fun f => by unfold ract; rw [if_neg hm]
    rw [hrest] at HT ⊢
    generalize rmust x (rfrom x L) L = c at HT hm
    generalize rfrom x L = fr at HT hfr
    have hb : (c == 0) = false := by rw [beq_eq_false_iff_ne]; exact hm
    clear hrest hs
    by_cases h3 : sv = 3
    rotate_left 1
    all_goals rw [show fr = _ from hfr.trans (by first | exact if_pos h3 | exact if_neg h3)] at HT
    ·
      have hbq : (sv == 3) = false := by rw [beq_eq_false_iff_ne]; exact h3
      clear hfr h3
      go_enter Try.func36, Try.ntmps36
      go_wp2_with fail
      refine HS.out.mono ?_
      rintro e w1 ⟨rfl, rfl⟩
      go_wp2_with fail
      refine HT.out.mono ?_
      rintro e wb ⟨rfl, ht⟩
      have HX := Lib.hid ht
      clear ht
      go_wp2
      go_ret
      exact ⟨rfl, HX.out⟩
    ·
      have hbq : (sv == 3) = true := by rw [beq_iff_eq]; exact h3
      clear hfr h3
      go_enter Try.func36, Try.ntmps36
      go_wp2_with fail
      refine HS.out.mono ?_
      rintro e w1 ⟨rfl, rfl⟩
      go_wp2_with fail
      refine HT.out.mono ?_
      rintro e wb ⟨rfl, ht⟩
      have HX := Lib.hid ht
      clear ht
      go_wp2
      go_ret
      exact ⟨rfl, HX.out⟩
end
end Go.Proofs.Ytepdnmpcccgcaaa
