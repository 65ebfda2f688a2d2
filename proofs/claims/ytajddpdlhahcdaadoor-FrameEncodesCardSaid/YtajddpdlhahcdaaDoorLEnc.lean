/- The walk over the law FrameEncodes: it answers true, and turns nothing that was there. -/
import Derived.Test.YtajddpdlhahcdaaDoorFrU
import Derived.Test.YtajddpdlhahcdaaDoorFrX
import Derived.Test.YtajddpdlhahcdaaDoorFrL
namespace Go.Proofs.YtajddpdlhahcdaaDoor
open Go.RowKit K
theorem recs_refl : ∀ xs : List Rec, recsEq xs xs = true
  | [] => rfl
  | x :: xs => by simp [recsEq, recEq, recs_refl xs]
theorem fr_refl (q win : Int) (xs : List Rec) : frEq q win xs q win xs = true := by simp [frEq, recs_refl]
theorem rcf_len (xs : List Rec) : (rcf xs).length = xs.length * 5 := by
  rw [Nat.mul_comm]
  exact flat_length _ 5 (fun _ => rfl) xs
theorem rcf_one (xs : List Rec) : ∀ v ∈ rcf xs, v.oneCell' = true := by
  intro v hv
  unfold rcf at hv
  obtain ⟨x, _, hx⟩ := List.mem_flatMap.1 hv
  exact rec5_one _ _ _ _ _ v hx
theorem step_recs {ops : Array Oper} {rest : List Oper} {o : Oper} {ac : Act} {w : World} {Q : Exit → Act → World → Prop} (hgd : o.guard = none) (s x : Operand)
    (ho : o.op = .call { callee := .builtin .append, args := #[s, x], argTypes := #[23, 23] })
    (hs : ac.eval s = .slice none 0 0) (ad : Option Addr) (c m : Nat) (xs : List Rec) (hx : ac.eval x = .slice ad m c) (hmm : m = xs.length) (hr : Rd w ad (rcf xs)) (hl : xs.length ≤ 60)
    (h : ∀ a' c' w', Rd w' a' (rcf xs) → Below w.heap.size w w' → (∀ ad, a' = some ad → w.heap.size ≤ ad.block) → wpList Tryd.prog ops Q rest (ac.put o.dst (.slice a' xs.length c')) w') : wpList Tryd.prog ops Q (o :: rest) ac w := by
  subst hmm
  obtain ⟨ri, hri, hrz, hrs, hrb⟩ := rec_parts
  by_cases hz : xs.length = 0
  · have : xs = [] := List.eq_nil_of_length_eq_zero hz
    subst this
    refine step_val hgd (.slice none 0 0) w ?_ (h none 0 w (Rd.nil _ _) (Below.refl _ _) (fun _ h => by cases h))
    unfold execOp
    simp only [ho, resolve, invoke, builtin, Sem.run_bind, Sem.run_pure, Result.andThen_ok, List.map_toArray, List.map_cons, List.map_nil, hs, hx]
    have := run_append_zero (P := Tryd.prog) w 23 o.type 40 ri Tryd.underlying23 hri none 0 0 (Nat.le_refl _) ad c
    simp only [List.length_nil, this, Result.andThen_ok]
  · obtain ⟨b, off, rfl, _⟩ := hr 0 ((rcf xs)[0]'(by rw [rcf_len]; omega)) (List.getElem?_eq_getElem _)
    refine step_append_at (P := Tryd.prog) w hgd s x 23 ho w.heap.size 40 ri (.agg zrec) 5 48 Tryd.underlying23 hri hrz hrs hrb rfl (by decide) (.slice none 0 0) 0 [] hs (World.ownsRow_nil _ _ _ _) ⟨b, off, none⟩ xs.length c (rcf xs) hx (rcf_len xs) (fun j u hu => by
      obtain ⟨b', off', he, hc⟩ := hr j u hu
      cases he
      rw [Addr.add_lit]
      exact hc) (rcf_one xs) (by unfold maxLen; omega) (by omega) (Nat.le_refl _) ?_
    intro v' w' hown hg _ _
    rw [Nat.zero_add, List.nil_append] at hown
    obtain ⟨a', c', rfl, hr'⟩ := own_slice5 hown
    exact h a' c' w' hr' ((Below.refl _ w).grown hg (Nat.le_refl _) (fun k hk => by cases hk)) (fun ad e => by subst e; exact (hown.lt ad.block rfl).1)
/-- A frame's bytes and the error, of one that may be and of one that may not. -/
def lbOf (q win : Int) (xs : List Rec) : List UInt8 := if mayB q win xs = true then encB q win xs else []
def kOf (q win : Int) (xs : List Rec) : Int := if mayB q win xs = true then 0 else 2
def EncAny (w : World) (lb : List UInt8) (k : Int) (e : Ending) (w' : World) : Prop :=
  ∃ ab cb, e = .returned (.tuple #[.slice ab lb.length cb, .int .i64 k]) ∧ lb.length ≤ cb ∧ cb ≤ 9223372036854775807 ∧ Rd w' ab (bv lb) ∧ Below w.heap.size w w'
theorem enc_any (w : World) (q win : Int) (a : Option Addr) (c : Nat) (xs : List Rec) (hq : 0 ≤ q) (hq2 : q < 18446744073709551616) (hw1 : -9223372036854775808 ≤ win) (hw2 : win ≤ 9223372036854775807) (hl : xs.length ≤ 60) (hs : ∀ x ∈ xs, RecFit x) (hr : Rd w a (rcf xs)) :
    Calls Tryd.prog 8 #[frv q win (.slice a xs.length c)] w (EncAny w (lbOf q win xs) (kOf q win xs)) := by
  by_cases hm : mayB q win xs = true
  · obtain ⟨_, _, hp3, hp4⟩ := may_parts hm
    refine (encode_yes w q win a c xs hq hq2 hw1 hw2 hp3 hs (fun x hx => (hp4 x hx).2) hr hm).mono ?_
    rintro e w' ⟨v, rfl, ho, hb⟩
    obtain ⟨ab, cb, rfl, h1, h2, _, h3⟩ := own_slice ho
    simp only [lbOf, kOf, hm, if_true]
    exact ⟨ab, cb, rfl, h1, h2, h3, hb⟩
  · have hm : mayB q win xs = false := by simpa using hm
    refine (encode_no w q win a c xs (by omega) (fun x hx => (hs x hx).1) hr hm).mono ?_
    rintro e w' ⟨rfl, hb⟩
    simp only [lbOf, kOf, hm]
    exact ⟨none, 0, rfl, Nat.le_refl _, by omega, Rd.nil _ _, hb⟩
theorem renc_any (w : World) (q win : Int) (a : Option Addr) (c : Nat) (xs : List Rec) (hq : 0 ≤ q) (hq2 : q < 18446744073709551616) (hw1 : -9223372036854775808 ≤ win) (hw2 : win ≤ 9223372036854775807) (hl : xs.length ≤ 60) (hs : ∀ x ∈ xs, RecFit x) (hr : Rd w a (rcf xs)) :
    Calls Tryd.prog 9 #[frv q win (.slice a xs.length c)] w (EncAny w (lbOf q win xs) (kOf q win xs)) := by
  by_cases hm : mayB q win xs = true
  · obtain ⟨_, _, hp3, hp4⟩ := may_parts hm
    refine (rencode_yes w q win a c xs hq hq2 hw1 hw2 hp3 hs (fun x hx => (hp4 x hx).2) hr hm).mono ?_
    rintro e w' ⟨v, rfl, ho, hb⟩
    obtain ⟨ab, cb, rfl, h1, h2, _, h3⟩ := own_slice ho
    simp only [lbOf, kOf, hm, if_true]
    exact ⟨ab, cb, rfl, h1, h2, h3, hb⟩
  · have hm : mayB q win xs = false := by simpa using hm
    refine (rencode_no w q win a c xs hq (by omega) (fun x hx => (hs x hx).1) hr hm).mono ?_
    rintro e w' ⟨rfl, hb⟩
    simp only [lbOf, kOf, hm]
    exact ⟨none, 0, rfl, Nat.le_refl _, by omega, Rd.nil _ _, hb⟩
/-- Both frames, and both rows of bytes. -/
def ES (w : World) (O F : Nat) (q win : Int) (a2 : Option Addr) (c2 : Nat) (a : Option Addr) (c n : Nat) (ab aw : Option Addr) (lb : List UInt8) : Prop :=
  FBox w O q win (.slice a2 n c2) ∧ FBox w F q win (.slice a n c) ∧ Rd w ab (bv lb) ∧ Rd w aw (bv lb)
section
variable {w w' : World} {O F : Nat} {q win : Int} {a2 a ab aw : Option Addr} {c2 c n : Nat} {lb : List UInt8}
theorem ES.o0 (h : ES w O F q win a2 c2 a c n ab aw lb) : w.cell? ⟨O, 0, none⟩ = some (.int .u64 q) := h.1.c0
theorem ES.o1 (h : ES w O F q win a2 c2 a c n ab aw lb) : w.cell? ⟨O, 1, none⟩ = some (.int .i64 win) := h.1.c1
theorem ES.o2 (h : ES w O F q win a2 c2 a c n ab aw lb) : w.cell? ⟨O, 2, none⟩ = some (.slice a2 n c2) := h.1.c2
theorem ES.f0 (h : ES w O F q win a2 c2 a c n ab aw lb) : w.cell? ⟨F, 0, none⟩ = some (.int .u64 q) := h.2.1.c0
theorem ES.f1 (h : ES w O F q win a2 c2 a c n ab aw lb) : w.cell? ⟨F, 1, none⟩ = some (.int .i64 win) := h.2.1.c1
theorem ES.f2 (h : ES w O F q win a2 c2 a c n ab aw lb) : w.cell? ⟨F, 2, none⟩ = some (.slice a n c) := h.2.1.c2
theorem ES.keep (h : ES w O F q win a2 c2 a c n ab aw lb) (hb : Below w.heap.size w w') : ES w' O F q win a2 c2 a c n ab aw lb :=
  ⟨below_keep hb h.1, below_keep hb h.2.1, h.2.2.1.below hb (Nat.le_refl _), h.2.2.2.below hb (Nat.le_refl _)⟩
theorem ES.drew (h : ES w O F q win a2 c2 a c n ab aw lb) : ES w.drew O F q win a2 c2 a c n ab aw lb := h.keep (Below.refl _ _).drew
end
set_option maxHeartbeats 1000000 in
theorem frameEncodes_much (w : World) (q win : Int) (a : Option Addr) (c : Nat) (xs : List Rec) (hl : xs.length ≤ 9223372036854775807) (hs : ∀ x ∈ xs, RecFit x) (hr : Rd w a (rcf xs)) (hm : muchB xs = true) :
    Calls Tryd.prog 3 #[frv q win (.slice a xs.length c)] w fun e w' => e = .returned (.bool true) ∧ Below w.heap.size w w' := by
  have hb0 : ∀ o, Below w.heap.size w (w.alloc o) := fun o => (Below.refl _ _).alloc (Nat.le_refl _) _
  have h1 := fun o => much_any (w.alloc o) q win a c xs hl (fun x hx => (hs x hx).1) (hr.below (hb0 o) (Nat.le_refl _))
  unfold frv at *
  rw [hm] at h1
  have H1 := Lib.hid h1
  clear h1 hr hs hl hm
  go_enter Tryd.func3, Tryd.ntmps3
  go_wp2_with fail
  refine (H1.out _).mono ?_
  rintro e w1 ⟨rfl, hb1⟩
  have HB := Lib.hid ((hb0 _).trans (hb1.mono (by simp)))
  clear hb1 hb0
  go_wp2_with fail
  refine (known_any _).mono ?_
  rintro e w2 ⟨rfl, hb2⟩
  go_wp2
  go_ret
  exact ⟨rfl, HB.out.trans (hb2.mono HB.out.size)⟩
set_option maxHeartbeats 4000000 in
set_option maxRecDepth 100000 in
theorem frameEncodes_go (w : World) (q win : Int) (a : Option Addr) (c : Nat) (xs : List Rec) (hq : 0 ≤ q) (hq2 : q < 18446744073709551616) (hw1 : -9223372036854775808 ≤ win) (hw2 : win ≤ 9223372036854775807) (hl : xs.length ≤ 60) (hs : ∀ x ∈ xs, RecFit x) (hr : Rd w a (rcf xs)) (hmu : muchB xs = false) (hg : GErr w) :
    Calls Tryd.prog 3 #[frv q win (.slice a xs.length c)] w fun e w' => e = .returned (.bool true) ∧ Below w.heap.size w w' := by
  have hb0 : ∀ o, Below w.heap.size w (w.alloc o) := fun o => (Below.refl _ _).alloc (Nat.le_refl _) _
  have h1 := fun o => much_any (w.alloc o) q win a c xs (by omega) (fun x hx => (hs x hx).1) (hr.below (hb0 o) (Nat.le_refl _))
  rw [hmu] at h1
  have hmb := fun W (hb : Below w.heap.size w W) => rmay_any W q win a c xs (by omega) (fun x hx => (hs x hx).1) (hr.below hb (Nat.le_refl _)) hq
  have hwe := fun W (hb : Below w.heap.size w W) => renc_any W q win a c xs hq hq2 hw1 hw2 hl hs (hr.below hb (Nat.le_refl _))
  have hoe := fun W a2 c2 (h : Rd W a2 (rcf xs)) => enc_any W q win a2 c2 xs hq hq2 hw1 hw2 hl hs h
  have hma := fun W a2 c2 (h : Rd W a2 (rcf xs)) => may_any W q win a2 c2 xs (by omega) (fun x hx => (hs x hx).1) h
  have hsm := fun W a2 c2 (h2 : Rd W a2 (rcf xs)) (hb : Below w.heap.size w W) => rfsame_any W q win q win a2 a c2 c xs xs (by omega) (by omega) h2 (hr.below hb (Nat.le_refl _))
  rw [fr_refl] at hsm
  have hde := fun W ab cb (hm : mayB q win xs = true) (h1 : (lbOf q win xs).length ≤ cb) (h2 : cb ≤ 9223372036854775807) (h3 : Rd W ab (bv (lbOf q win xs))) (hg : GErr W) => decode_ok W q.toNat win ab cb xs (lbOf q win xs) (by rw [Int.toNat_of_nonneg hq]; simp [lbOf, hm]) (by omega) hw1 hw2 hs (by rw [Int.toNat_of_nonneg hq]; exact hm) h1 h2 h3 hg
  rw [Int.toNat_of_nonneg hq] at hde
  have HK := Lib.hid (show kOf q win xs = if mayB q win xs = true then 0 else 2 from rfl)
  obtain ⟨lb, hlb⟩ : ∃ l, l = lbOf q win xs := ⟨_, rfl⟩
  obtain ⟨k, hk⟩ : ∃ k, k = kOf q win xs := ⟨_, rfl⟩
  obtain ⟨m, hmm⟩ : ∃ m, m = mayB q win xs := ⟨_, rfl⟩
  rw [← hlb] at hwe hoe hde
  rw [← hk] at hwe hoe HK
  rw [← hmm] at hma hmb hde HK
  have H1 := Lib.hid h1
  have HMB := Lib.hid hmb
  have HWE := Lib.hid hwe
  have HOE := Lib.hid hoe
  have HMA' := Lib.hid hma
  have HSM' := Lib.hid hsm
  have HDE := Lib.hid hde
  have HR := Lib.hid hr
  have HG := Lib.hid hg
  have hgl := hg.lt
  clear h1 hmb hwe hoe hma hsm hde hr hs hmu hlb hk hmm hg hw1 hw2 hq2 hq
  unfold frv at *
  go_enter Tryd.func3, Tryd.ntmps3
  go_wp2_with fail
  refine (H1.out _).mono ?_
  rintro e w1 ⟨rfl, hb1⟩
  have hfF : FBox w1 w.heap.size q win (.slice a xs.length c) := (hb1.block w.heap.size (by simp)).trans (heap_alloc_new w _)
  have HB1 := Lib.hid ((hb0 _).trans (hb1.mono (by simp)))
  have f0 := hfF.c0
  have f1 := hfF.c1
  have f2 := hfF.c2
  have HFF := Lib.hid hfF
  have f2a : (w1.alloc (.cells #[.int .u64 q, .int .i64 win, .slice a xs.length c] 25)).cell? ⟨w.heap.size, 2, none⟩ = some (.slice a xs.length c) := FBox.c2 (blk_alloc hfF)
  clear hb1 hb0 hfF H1
  have hRa := HR.out.below (HB1.out.alloc HB1.out.size (.cells #[.int .u64 q, .int .i64 win, .slice a xs.length c] 25)) (Nat.le_refl _)
  go_wp2_with (first
    | (at_builtin; refine step_recs rfl _ _ rfl rfl a c xs.length xs rfl rfl hRa hl ?_)
    | fail)
  intro a2 c2 w3 hr3 hb3 hba
  have hsz1 : ∀ o, (w1.alloc o).heap.size = w1.heap.size + 1 := fun o => by simp
  have hO3 : FBox w3 w1.heap.size q win (.slice a xs.length c) := (hb3.block w1.heap.size (by simp)).trans (heap_alloc_new w1 _)
  have hF3 : FBox w3 w.heap.size q win (.slice a xs.length c) := (hb3.block w.heap.size (by have := (Array.getElem?_eq_some_iff.1 HFF.out).1; simp; omega)).trans (blk_alloc HFF.out)
  have hFO : w.heap.size < w1.heap.size := (Array.getElem?_eq_some_iff.1 HFF.out).1
  have hB3 : Below w.heap.size w w3 := (HB1.out.alloc HB1.out.size (.cells #[.int .u64 q, .int .i64 win, .slice a xs.length c] 25)).trans (hb3.mono (by have h1 := HB1.out.size; have h2 := hsz1 (.cells #[.int .u64 q, .int .i64 win, .slice a xs.length c] 25); omega))
  have o2 := hO3.c2
  have fo2 : w3.frozen? ⟨w1.heap.size, 2, none⟩ = false := frozen_of_row w3 _ 2 _ _ hO3
  have o0 := hO3.c0
  have o1 := hO3.c1
  have hone : Only (fun k => k = w1.heap.size) w3 (w3.setCell ⟨w1.heap.size, 2, none⟩ (.slice a2 xs.length c2)) := (Only.refl (fun k => k = w1.heap.size) w3).setCell ⟨w1.heap.size, 2, none⟩ (.slice a2 xs.length c2) (fun _ => rfl)
  have hr4 := hone.rd hr3 (fun ad e h => by have h1 := hba ad e; have h : ad.block = w1.heap.size := h; have h2 := hsz1 (.cells #[.int .u64 q, .int .i64 win, .slice a xs.length c] 25); omega)
  have hO4 : FBox (w3.setCell ⟨w1.heap.size, 2, none⟩ (.slice a2 xs.length c2)) w1.heap.size q win (.slice a2 xs.length c2) := by unfold FBox; rw [heap_setCell_same _ _ _ _ _ _ hO3]; rfl
  have hF4 : FBox (w3.setCell ⟨w1.heap.size, 2, none⟩ (.slice a2 xs.length c2)) w.heap.size q win (.slice a xs.length c) := hone.heap hF3 (by omega)
  have hB4 : Below w.heap.size w (w3.setCell ⟨w1.heap.size, 2, none⟩ (.slice a2 xs.length c2)) := hB3.setCell (p := ⟨w1.heap.size, 2, none⟩) (Nat.le_of_lt hFO) _
  have HR4 := Lib.hid hr4
  have HO4 := Lib.hid hO4
  have HF4 := Lib.hid hF4
  have HB4 := Lib.hid hB4
  clear hsz1 hr3 hb3 hba hO3 hF3 hB3 hone hr4 hO4 hF4 hB4 hRa f0 f1 f2 f2a HFF
  go_wp2_with fail
  refine (HOE.out _ a2 c2 HR4.out).mono ?_
  rintro e w5 ⟨ab, cb, rfl, hlc, hcm, hrb, hb5⟩
  have HF5 := Lib.hid (below_keep hb5 HF4.out)
  have HO5 := Lib.hid (below_keep hb5 HO4.out)
  have HR5 := Lib.hid (HR4.out.below hb5 (Nat.le_refl _))
  have HB5 := Lib.hid (HB4.out.trans (hb5.mono HB4.out.size))
  have f0 := FBox.c0 HF5.out
  have f1 := FBox.c1 HF5.out
  have f2 := FBox.c2 HF5.out
  have HRB := Lib.hid hrb
  clear hb5 hrb HF4 HO4 HR4 HB4 o0 o1 o2 fo2
  go_wp2_with fail
  refine (HWE.out _ HB5.out).mono ?_
  rintro e w6 ⟨aw, cw, rfl, _, _, hrw, hb6⟩
  have HES := Lib.hid (show ES w6 w1.heap.size w.heap.size q win a2 c2 a c xs.length ab aw lb from ⟨below_keep hb6 HO5.out, below_keep hb6 HF5.out, HRB.out.below hb6 (Nat.le_refl _), hrw⟩)
  have HR6 := Lib.hid (HR5.out.below hb6 (Nat.le_refl _))
  have HB6 := Lib.hid (HB5.out.trans (hb6.mono HB5.out.size))
  have HLC := Lib.hid hlc
  have HCM := Lib.hid hcm
  have HMA := Lib.hid (fun W (h : Below w6.heap.size w6 W) => HMA'.out W a2 c2 (HR6.out.below h (Nat.le_refl _)))
  have HMW := Lib.hid (fun W (h : Below w6.heap.size w6 W) => HMB.out W (HB6.out.trans (h.mono HB6.out.size)))
  have HSM := Lib.hid (fun W (h : Below w6.heap.size w6 W) => HSM'.out W a2 c2 (HR6.out.below h (Nat.le_refl _)) (HB6.out.trans (h.mono HB6.out.size)))
  have HWs := Lib.hid ((Below.refl w6.heap.size w6).drew)
  obtain ⟨sb, hsb⟩ : ∃ sb : ByteArray, sb = ⟨lb.toArray⟩ := ⟨_, rfl⟩
  have HSB := Lib.hid hsb
  clear hb6 hrw hlc hcm hsb f0 f1 f2 HF5 HO5 HR5 HB5 HRB HMB HMA' HWE HOE
  go_wp2_with fail
  refine wp_region_noPanic ?_
  refine wp_region_held_drew (S := (fun w' => ES w' w1.heap.size w.heap.size q win a2 c2 a c xs.length ab aw lb)) (by kernel_rfl) ?_ (fun hHeld => ?_)
  · exact HES.out.drew
  refine wpAnyH_take (i := 0) (oi := _) (v := ?_) rfl (by kernel_rfl) (by kernel_rfl) (by kernel_rfl) (fun _ _ _ h => h) (Or.inl ⟨by rfl, ?_⟩) (by assumption) ?_
  rotate_left 1
  · (intro w hSw; (try dsimp only at hSw); (have o0 := hSw.o0; have o1 := hSw.o1; have o2 := hSw.o2; have f0 := hSw.f0; have f1 := hSw.f1; have f2 := hSw.f2; go_simp); (try with_reducible rfl))
  try simp only [Act.put, List.getElem_toArray, List.getElem_cons_succ, List.getElem_cons_zero, List.setIfInBounds_toArray, List.set_cons_zero, List.set_cons_succ]
  refine wpAnyH_take (i := 2) (oi := _) (v := ?_) rfl (by kernel_rfl) (by kernel_rfl) (by kernel_rfl) (fun _ _ _ h => h) (Or.inl ⟨by rfl, ?_⟩) (by assumption) ?_
  rotate_left 1
  · (intro w hSw; (try dsimp only at hSw); (have o0 := hSw.o0; have o1 := hSw.o1; have o2 := hSw.o2; have f0 := hSw.f0; have f1 := hSw.f1; have f2 := hSw.f2; go_simp); (try with_reducible rfl))
  try simp only [Act.put, List.getElem_toArray, List.getElem_cons_succ, List.getElem_cons_zero, List.setIfInBounds_toArray, List.set_cons_zero, List.set_cons_succ]
  refine wpAnyH_ready (rs := [1]) (by kernel_rfl) (by simp) ?_
  refine AllReadyH.cons (o := _) rfl (fun K hK => ?_) AllReadyH.nil
  go_simp
  refine (HMA.out _ (by exact HWs.out)).mono ?_
  rintro e w' ⟨rfl, hbk⟩
  have HWa := Lib.hid (HWs.out.trans (hbk.mono HWs.out.size))
  go_wp2_with fail
  refine hK.out _ _ ?_ (fun hHeld1 => ?_)
  · exact hHeld.keep hbk
  clear hK K
  try simp only [Act.put, List.getElem_toArray, List.getElem_cons_succ, List.getElem_cons_zero, List.setIfInBounds_toArray, List.set_cons_zero, List.set_cons_succ]
  refine wpAnyH_ready (rs := [3]) (by kernel_rfl) (by simp) ?_
  refine AllReadyH.cons (o := _) rfl (fun K hK => ?_) AllReadyH.nil
  go_simp
  refine (HMW.out _ (by exact HWa.out)).mono ?_
  rintro e w' ⟨rfl, hbk⟩
  have HWb := Lib.hid (HWa.out.trans (hbk.mono HWa.out.size))
  go_wp2_with fail
  refine hK.out _ _ ?_ (fun hHeld3 => ?_)
  · exact hHeld1.keep hbk
  clear hK K
  try simp only [Act.put, List.getElem_toArray, List.getElem_cons_succ, List.getElem_cons_zero, List.setIfInBounds_toArray, List.set_cons_zero, List.set_cons_succ]
  refine wpAnyH_take (i := 4) (oi := _) (v := ?_) rfl (by kernel_rfl) (by kernel_rfl) (by kernel_rfl) (fun _ _ _ h => h) (Or.inl ⟨by rfl, ?_⟩) (by assumption) ?_
  rotate_left 1
  · (intro w hSw; (try dsimp only at hSw); (have o0 := hSw.o0; have o1 := hSw.o1; have o2 := hSw.o2; have f0 := hSw.f0; have f1 := hSw.f1; have f2 := hSw.f2; go_simp); (try with_reducible rfl))
  try simp only [Act.put, List.getElem_toArray, List.getElem_cons_succ, List.getElem_cons_zero, List.setIfInBounds_toArray, List.set_cons_zero, List.set_cons_succ]
  refine wpAnyH_take (i := 5) (oi := _) (v := ?_) rfl (by kernel_rfl) (by kernel_rfl) (by kernel_rfl) (fun _ _ _ h => h) (Or.inl ⟨by rfl, ?_⟩) (by assumption) ?_
  rotate_left 1
  · (intro w hSw; (try dsimp only at hSw); (have o0 := hSw.o0; have o1 := hSw.o1; have o2 := hSw.o2; have f0 := hSw.f0; have f1 := hSw.f1; have f2 := hSw.f2; go_simp); (try with_reducible rfl))
  try simp only [Act.put, List.getElem_toArray, List.getElem_cons_succ, List.getElem_cons_zero, List.setIfInBounds_toArray, List.set_cons_zero, List.set_cons_succ]
  refine wpAnyH_take (i := 6) (oi := _) (v := ?_) rfl (by kernel_rfl) (by kernel_rfl) (by kernel_rfl) (fun _ _ _ h => h) (Or.inl ⟨by rfl, ?_⟩) (by assumption) ?_
  rotate_left 1
  · (intro w hSw; (try dsimp only at hSw); (have o0 := hSw.o0; have o1 := hSw.o1; have o2 := hSw.o2; have f0 := hSw.f0; have f1 := hSw.f1; have f2 := hSw.f2; go_simp); (try with_reducible rfl))
  try simp only [Act.put, List.getElem_toArray, List.getElem_cons_succ, List.getElem_cons_zero, List.setIfInBounds_toArray, List.set_cons_zero, List.set_cons_succ]
  refine wpAnyH_take (i := 8) (oi := _) (v := ?_) rfl (by kernel_rfl) (by kernel_rfl) (by kernel_rfl) (fun _ _ _ h => h) (Or.inl ⟨by rfl, ?_⟩) (by assumption) ?_
  rotate_left 1
  · (intro w hSw; (try dsimp only at hSw); (have o0 := hSw.o0; have o1 := hSw.o1; have o2 := hSw.o2; have f0 := hSw.f0; have f1 := hSw.f1; have f2 := hSw.f2; go_simp); (try with_reducible rfl))
  try simp only [Act.put, List.getElem_toArray, List.getElem_cons_succ, List.getElem_cons_zero, List.setIfInBounds_toArray, List.set_cons_zero, List.set_cons_succ]
  refine wpAnyH_take (i := 7) (oi := _) (v := ?_) rfl (by kernel_rfl) (by kernel_rfl) (by kernel_rfl) (fun _ _ _ h => h) (Or.inl ⟨by rfl, ?_⟩) (by assumption) ?_
  rotate_left 1
  · (intro w hSw; (try dsimp only at hSw); (have hcv := run_bytes_string (P := Tryd.prog) _ 28 9 5 Tryd.underlying28 Tryd.underlying5 Tryd.underlying9 ab cb lb hSw.2.2.1; rw [← HSB.out] at hcv; go_simp); (try with_reducible rfl))
  try simp only [Act.put, List.getElem_toArray, List.getElem_cons_succ, List.getElem_cons_zero, List.setIfInBounds_toArray, List.set_cons_zero, List.set_cons_succ]
  refine wpAnyH_take (i := 9) (oi := _) (v := ?_) rfl (by kernel_rfl) (by kernel_rfl) (by kernel_rfl) (fun _ _ _ h => h) (Or.inl ⟨by rfl, ?_⟩) (by assumption) ?_
  rotate_left 1
  · (intro w hSw; (try dsimp only at hSw); (have hcv := run_bytes_string (P := Tryd.prog) _ 28 9 5 Tryd.underlying28 Tryd.underlying5 Tryd.underlying9 aw cw lb hSw.2.2.2; rw [← HSB.out] at hcv; go_simp); (try with_reducible rfl))
  try simp only [Act.put, List.getElem_toArray, List.getElem_cons_succ, List.getElem_cons_zero, List.setIfInBounds_toArray, List.set_cons_zero, List.set_cons_succ]
  refine wpAnyH_take (i := 10) (oi := _) (v := ?_) rfl (by kernel_rfl) (by kernel_rfl) (by kernel_rfl) (fun _ _ _ h => h) (Or.inl ⟨by rfl, ?_⟩) (by assumption) ?_
  rotate_left 1
  · (intro w hSw; (try dsimp only at hSw); (have o0 := hSw.o0; have o1 := hSw.o1; have o2 := hSw.o2; have f0 := hSw.f0; have f1 := hSw.f1; have f2 := hSw.f2; go_simp); (try with_reducible rfl))
  try simp only [Act.put, List.getElem_toArray, List.getElem_cons_succ, List.getElem_cons_zero, List.setIfInBounds_toArray, List.set_cons_zero, List.set_cons_succ]
  refine wpAnyH_take (i := 11) (oi := _) (v := ?_) rfl (by kernel_rfl) (by kernel_rfl) (by kernel_rfl) (fun _ _ _ h => h) (Or.inl ⟨by rfl, ?_⟩) (by assumption) ?_
  rotate_left 1
  · (intro w hSw; (try dsimp only at hSw); (have o0 := hSw.o0; have o1 := hSw.o1; have o2 := hSw.o2; have f0 := hSw.f0; have f1 := hSw.f1; have f2 := hSw.f2; go_simp); (try with_reducible rfl))
  try simp only [Act.put, List.getElem_toArray, List.getElem_cons_succ, List.getElem_cons_zero, List.setIfInBounds_toArray, List.set_cons_zero, List.set_cons_succ]
  refine wpAnyH_take (i := 12) (oi := _) (v := ?_) rfl (by kernel_rfl) (by kernel_rfl) (by kernel_rfl) (fun _ _ _ h => h) (Or.inl ⟨by rfl, ?_⟩) (by assumption) ?_
  rotate_left 1
  · (intro w hSw; (try dsimp only at hSw); (have o0 := hSw.o0; have o1 := hSw.o1; have o2 := hSw.o2; have f0 := hSw.f0; have f1 := hSw.f1; have f2 := hSw.f2; go_simp); (try with_reducible rfl))
  try simp only [Act.put, List.getElem_toArray, List.getElem_cons_succ, List.getElem_cons_zero, List.setIfInBounds_toArray, List.set_cons_zero, List.set_cons_succ]
  refine wpAnyH_take (i := 13) (oi := _) (v := ?_) rfl (by kernel_rfl) (by kernel_rfl) (by kernel_rfl) (fun _ _ _ h => h) (Or.inl ⟨by rfl, ?_⟩) (by assumption) ?_
  rotate_left 1
  · (intro w hSw; (try dsimp only at hSw); (have o0 := hSw.o0; have o1 := hSw.o1; have o2 := hSw.o2; have f0 := hSw.f0; have f1 := hSw.f1; have f2 := hSw.f2; go_simp); (try with_reducible rfl))
  try simp only [Act.put, List.getElem_toArray, List.getElem_cons_succ, List.getElem_cons_zero, List.setIfInBounds_toArray, List.set_cons_zero, List.set_cons_succ]
  refine wpAnyH_take (i := 14) (oi := _) (v := ?_) rfl (by kernel_rfl) (by kernel_rfl) (by kernel_rfl) (fun _ _ _ h => h) (Or.inl ⟨by rfl, ?_⟩) (by assumption) ?_
  rotate_left 1
  · (intro w hSw; (try dsimp only at hSw); (have o0 := hSw.o0; have o1 := hSw.o1; have o2 := hSw.o2; have f0 := hSw.f0; have f1 := hSw.f1; have f2 := hSw.f2; go_simp); (try with_reducible rfl))
  try simp only [Act.put, List.getElem_toArray, List.getElem_cons_succ, List.getElem_cons_zero, List.setIfInBounds_toArray, List.set_cons_zero, List.set_cons_succ]
  refine wpAnyH_take (i := 15) (oi := _) (v := ?_) rfl (by kernel_rfl) (by kernel_rfl) (by kernel_rfl) (fun _ _ _ h => h) (Or.inl ⟨by rfl, ?_⟩) (by assumption) ?_
  rotate_left 1
  · (intro w hSw; (try dsimp only at hSw); (have o0 := hSw.o0; have o1 := hSw.o1; have o2 := hSw.o2; have f0 := hSw.f0; have f1 := hSw.f1; have f2 := hSw.f2; go_simp); (try with_reducible rfl))
  try simp only [Act.put, List.getElem_toArray, List.getElem_cons_succ, List.getElem_cons_zero, List.setIfInBounds_toArray, List.set_cons_zero, List.set_cons_succ]
  refine wpAnyH_take (i := 16) (oi := _) (v := ?_) rfl (by kernel_rfl) (by kernel_rfl) (by kernel_rfl) (fun _ _ _ h => h) (Or.inl ⟨by rfl, ?_⟩) (by assumption) ?_
  rotate_left 1
  · (intro w hSw; (try dsimp only at hSw); (have o0 := hSw.o0; have o1 := hSw.o1; have o2 := hSw.o2; have f0 := hSw.f0; have f1 := hSw.f1; have f2 := hSw.f2; go_simp); (try with_reducible rfl))
  try simp only [Act.put, List.getElem_toArray, List.getElem_cons_succ, List.getElem_cons_zero, List.setIfInBounds_toArray, List.set_cons_zero, List.set_cons_succ]
  refine wpAnyH_take (i := 17) (oi := _) (v := ?_) rfl (by kernel_rfl) (by kernel_rfl) (by kernel_rfl) (fun _ _ _ h => h) (Or.inl ⟨by rfl, ?_⟩) (by assumption) ?_
  rotate_left 1
  · (intro w hSw; (try dsimp only at hSw); (have o0 := hSw.o0; have o1 := hSw.o1; have o2 := hSw.o2; have f0 := hSw.f0; have f1 := hSw.f1; have f2 := hSw.f2; go_simp); (try with_reducible rfl))
  try simp only [Act.put, List.getElem_toArray, List.getElem_cons_succ, List.getElem_cons_zero, List.setIfInBounds_toArray, List.set_cons_zero, List.set_cons_succ]
  refine wpAnyH_take (i := 18) (oi := _) (v := ?_) rfl (by kernel_rfl) (by kernel_rfl) (by kernel_rfl) (fun _ _ _ h => h) (Or.inl ⟨by rfl, ?_⟩) (by assumption) ?_
  rotate_left 1
  · (intro w hSw; (try dsimp only at hSw); (have o0 := hSw.o0; have o1 := hSw.o1; have o2 := hSw.o2; have f0 := hSw.f0; have f1 := hSw.f1; have f2 := hSw.f2; go_simp); (try with_reducible rfl))
  try simp only [Act.put, List.getElem_toArray, List.getElem_cons_succ, List.getElem_cons_zero, List.setIfInBounds_toArray, List.set_cons_zero, List.set_cons_succ]
  refine wpAnyH_take (i := 19) (oi := _) (v := ?_) rfl (by kernel_rfl) (by kernel_rfl) (by kernel_rfl) (fun _ _ _ h => h) (Or.inl ⟨by rfl, ?_⟩) (by assumption) ?_
  rotate_left 1
  · (intro w hSw; (try dsimp only at hSw); (have o0 := hSw.o0; have o1 := hSw.o1; have o2 := hSw.o2; have f0 := hSw.f0; have f1 := hSw.f1; have f2 := hSw.f2; go_simp); (try with_reducible rfl))
  try simp only [Act.put, List.getElem_toArray, List.getElem_cons_succ, List.getElem_cons_zero, List.setIfInBounds_toArray, List.set_cons_zero, List.set_cons_succ]
  refine wpAnyH_ready (rs := [20]) (by kernel_rfl) (by simp) ?_
  refine AllReadyH.cons (o := _) rfl (fun K hK => ?_) AllReadyH.nil
  go_simp
  refine (HSM.out _ (by exact HWb.out)).mono ?_
  rintro e w' ⟨rfl, hbk⟩
  have HWc := Lib.hid (HWb.out.trans (hbk.mono HWb.out.size))
  go_wp2_with fail
  refine hK.out _ _ ?_ (fun hHeld20 => ?_)
  · exact hHeld3.keep hbk
  clear hK K
  try simp only [Act.put, List.getElem_toArray, List.getElem_cons_succ, List.getElem_cons_zero, List.setIfInBounds_toArray, List.set_cons_zero, List.set_cons_succ]
  refine wpAnyH_take (i := 21) (oi := _) (v := ?_) rfl (by kernel_rfl) (by kernel_rfl) (by kernel_rfl) (fun _ _ _ h => h) (Or.inl ⟨by rfl, ?_⟩) (by assumption) ?_
  rotate_left 1
  · (intro w hSw; (try dsimp only at hSw); (have o0 := hSw.o0; have o1 := hSw.o1; have o2 := hSw.o2; have f0 := hSw.f0; have f1 := hSw.f1; have f2 := hSw.f2; go_simp); (try with_reducible rfl))
  try simp only [Act.put, List.getElem_toArray, List.getElem_cons_succ, List.getElem_cons_zero, List.setIfInBounds_toArray, List.set_cons_zero, List.set_cons_succ]
  refine wpAnyH_take (i := 22) (oi := _) (v := ?_) rfl (by kernel_rfl) (by kernel_rfl) (by kernel_rfl) (fun _ _ _ h => h) (Or.inl ⟨by rfl, ?_⟩) (by assumption) ?_
  rotate_left 1
  · (intro w hSw; (try dsimp only at hSw); (have o0 := hSw.o0; have o1 := hSw.o1; have o2 := hSw.o2; have f0 := hSw.f0; have f1 := hSw.f1; have f2 := hSw.f2; go_simp); (try with_reducible rfl))
  try simp only [Act.put, List.getElem_toArray, List.getElem_cons_succ, List.getElem_cons_zero, List.setIfInBounds_toArray, List.set_cons_zero, List.set_cons_succ]
  refine wpAnyH_done (by kernel_rfl) ?_ _
  refine NoPanic.normal ?_
  have HES2 := Lib.hid hHeld20
  clear hHeld hHeld1 hHeld3 hHeld20
  have f0 := HES2.out.f0
  have f1 := HES2.out.f1
  have f2 := HES2.out.f2
  have HBc := Lib.hid (HB6.out.trans (HWc.out.mono HB6.out.size))
  cases m with
  | false =>
    obtain rfl : k = 2 := by simpa using HK.out
    go_wp2_with fail
    refine (known_any _).mono ?_
    rintro e w9 ⟨rfl, hb9⟩
    go_wp2
    go_ret
    exact ⟨rfl, HBc.out.trans (hb9.mono HBc.out.size)⟩
  | true =>
    obtain rfl : k = 0 := by simpa using HK.out
    have hdc := HDE.out w' ab cb rfl HLC.out HCM.out HES2.out.2.2.1 (HG.out.below HBc.out hgl)
    have HDC := Lib.hid hdc
    clear hdc HDE
    go_wp2_with fail
    refine HDC.out.mono ?_
    rintro e w8 ⟨a8, c8, rfl, hr8, hb8⟩
    have HB8 := Lib.hid (HBc.out.trans (hb8.mono HBc.out.size))
    have g0 := keepc hb8 f0
    have g1 := keepc hb8 f1
    have g2 := keepc hb8 f2
    have hFw : w.heap.size < w8.heap.size := World.block_lt_of_cell? _ _ g0
    have hsame := fun o => HSM'.out (w8.alloc o) a8 c8 (hr8.below ((Below.refl _ _).alloc (Nat.le_refl _) o) (Nat.le_refl _)) (HB8.out.alloc HB8.out.size o)
    have HSA := Lib.hid hsame
    clear hsame hr8 hb8 f0 f1 f2 HDC
    unfold frv at *
    go_wp2_with fail
    refine (HSA.out _).mono ?_
    rintro e w9 ⟨rfl, hb9⟩
    have HB9 := Lib.hid ((HB8.out.alloc HB8.out.size _).trans (hb9.mono (by have := HB8.out.size; simp; omega)))
    clear hb9
    go_wp2_with fail
    refine (known_any _).mono ?_
    rintro e w10 ⟨rfl, hb10⟩
    go_wp2
    go_ret
    exact ⟨rfl, HB9.out.trans (hb10.mono HB9.out.size)⟩
theorem frameEncodes_any (w : World) (q win : Int) (a : Option Addr) (c : Nat) (xs : List Rec) (hq : 0 ≤ q) (hq2 : q < 18446744073709551616) (hw1 : -9223372036854775808 ≤ win) (hw2 : win ≤ 9223372036854775807) (hl : xs.length ≤ 9223372036854775807) (hs : ∀ x ∈ xs, RecFit x) (hr : Rd w a (rcf xs)) (hg : GErr w) :
    Calls Tryd.prog 3 #[frv q win (.slice a xs.length c)] w fun e w' => e = .returned (.bool true) ∧ Below w.heap.size w w' := by
  by_cases hmu : muchB xs = true
  · exact frameEncodes_much w q win a c xs hl hs hr hmu
  have hmu : muchB xs = false := by simpa using hmu
  have h60 : xs.length ≤ 60 := by
    unfold muchB at hmu
    simp only [Bool.or_eq_false_iff, decide_eq_false_iff_not] at hmu
    omega
  exact frameEncodes_go w q win a c xs hq hq2 hw1 hw2 h60 hs hr hmu hg
end Go.Proofs.YtajddpdlhahcdaaDoor
