/- The walk over the law PackPuts. -/
import Derived.Test.YtocnjejolamdlaaDoorUy
import Derived.Test.YtocnjejolamdlaaDoorPutO
import Derived.Test.YtocnjejolamdlaaDoorKnown
import Derived.Test.YtocnjejolamdlaaDoorApp2
import Derived.Deep.RegionHeld3
import Derived.Laws.MakeOwn
namespace Go.Proofs.YtocnjejolamdlaaDoor
open Go.RowKit K
/-- Five rows of bytes. -/
def P5 (a2 a0 ax ay az : Option Addr) (lb lx ly lz : List UInt8) (w : World) : Prop := Rd w a2 (bv lb) ∧ Rd w a0 (bv lb) ∧ Rd w ax (bv lx) ∧ Rd w ay (bv ly) ∧ Rd w az (bv lz)
theorem P5.drew {a2 a0 ax ay az : Option Addr} {lb lx ly lz : List UInt8} {w : World} (h : P5 a2 a0 ax ay az lb lx ly lz w) : P5 a2 a0 ax ay az lb lx ly lz w.drew := h
theorem P5.keep {a2 a0 ax ay az : Option Addr} {lb lx ly lz : List UInt8} {w w' : World} (h : P5 a2 a0 ax ay az lb lx ly lz w) (hb : Below w.heap.size w w') : P5 a2 a0 ax ay az lb lx ly lz w' :=
  ⟨h.1.below hb (Nat.le_refl _), h.2.1.below hb (Nat.le_refl _), h.2.2.1.below hb (Nat.le_refl _), h.2.2.2.1.below hb (Nat.le_refl _), h.2.2.2.2.below hb (Nat.le_refl _)⟩
theorem exec_cat {P : Program} (o : Oper) (a : Act) (w : World) (t u : TypeId) (x y : Operand) (ho : o.op = .binOp .add t x y u) (p q r : ByteArray) (hx : a.eval x = .string p) (hy : a.eval y = .string q) (h : r = p ++ q) (hs : p.size + q.size ≤ 9223372036854775807) :
    (execOp a.eval o).run P w = .ok (.value (.string r)) w := by
  subst h
  unfold execOp
  simp [ho, hx, hy, eqGuard, binOp, Op.stringOp]
  omega
theorem str_append (l r : List UInt8) : (⟨(l ++ r).toArray⟩ : ByteArray) = ⟨l.toArray⟩ ++ ⟨r.toArray⟩ := by
  apply ByteArray.ext
  simp
set_option maxHeartbeats 1000000 in
set_option maxRecDepth 100000 in
theorem packPuts_long (w : World) (a0 : Option Addr) (c0 : Nat) (lb : List UInt8) (n : Nat) (m : Int) (s : ByteArray) (h : 400 < lb.length ∨ ¬ 400 < lb.length ∧ 400 < s.size) :
    Calls Tryd.prog 4 #[.slice a0 lb.length c0, .int .u64 n, .int .i64 m, .string s] w fun e w' => e = .returned (.bool true) ∧ Below w.heap.size w w' := by
  rcases h with h | ⟨h, h2⟩
  · go_enter Tryd.func4, Tryd.ntmps4
    go_wp2_with fail
    refine (known_any w).mono ?_
    rintro e w1 ⟨rfl, hb⟩
    go_wp2
    go_ret
    exact ⟨rfl, hb⟩
  · go_enter Tryd.func4, Tryd.ntmps4
    go_wp2_with fail
    refine (known_any w).mono ?_
    rintro e w1 ⟨rfl, hb⟩
    go_wp2
    go_ret
    exact ⟨rfl, hb⟩
set_option maxHeartbeats 8000000 in
set_option maxRecDepth 100000 in
theorem packPuts_any (w : World) (a0 : Option Addr) (c0 : Nat) (lb : List UInt8) (n : Nat) (m : Int) (s : ByteArray) (hn : n < 18446744073709551616) (hm1 : -9223372036854775808 ≤ m) (hm2 : m ≤ 9223372036854775807) (hr : Rd w a0 (bv lb)) (hg : GErr w) :
    Calls Tryd.prog 4 #[.slice a0 lb.length c0, .int .u64 n, .int .i64 m, .string s] w fun e w' => e = .returned (.bool true) ∧ Below w.heap.size w w' := by
  by_cases h1 : 400 < lb.length
  · exact packPuts_long w a0 c0 lb n m s (.inl h1)
  by_cases h2 : 400 < s.size
  · exact packPuts_long w a0 c0 lb n m s (.inr ⟨h1, h2⟩)
  · have hlt := hg.lt
    have HG := Lib.hid hg
    have HR := Lib.hid hr
    clear hg hr
    obtain ⟨i0, hi0, hz0, hz1, hz2⟩ := info_parts info_byte
    have hzm := zig_lt m hm1 hm2
    have hss : s.size < 18446744073709551616 := by omega
    have hmk : ∀ W : World, (Instr.makeSlice 26 (.int .i64 0) (.int .i64 ((lb.length : Int) + 30))).run Tryd.prog W = .ok (.slice (some ⟨W.heap.size, 0, none⟩) 0 (lb.length + 30)) (W.alloc (.cells (madeCells #[.int .u8 0] (lb.length + 30)) 5)) := fun W => by
      have := run_make (P := Tryd.prog) W 26 5 i0 (.int .u8 0) Tryd.underlying26 hi0 hz0 .i64 .i64 0 ((lb.length : Int) + 30) (by omega) (by omega) (by rw [hz2]; omega) (by omega)
      rw [hz1] at this
      have e : ((lb.length : Int) + 30).toNat = lb.length + 30 := by omega
      simpa [e, Value.cells] using this
    go_enter Tryd.func4, Tryd.ntmps4
    go_wp2_with (first
      | (at_builtin; refine step_append_row _ rfl _ _ 26 rfl w.heap.size 5 i0 (.int .u8 0) 1 Tryd.underlying26 hi0 hz0 hz1 hz2 rfl _ 0 [] rfl (World.ownsRow_made w _ (lb.length + 30) (Nat.le_refl _) ?g1 ?g6) a0 lb.length c0 (bv lb) rfl ?g2 (HR.out.below ((Below.refl _ _).alloc (Nat.le_refl _) _) (Nat.le_refl _)) (bv_one lb) ?g3 ?g4 ?g5 ?_)
      | fail)
    case g1 => unfold maxLen; omega
    case g2 => simp [bv]
    case g3 => unfold maxLen; omega
    case g4 => omega
    case g5 => simp
    case g6 => rw [size_madeCells, Nat.mul_one]
    intro v2 w2 hown2 hgr2 _ _
    have hb2 : Below w.heap.size w w2 := (((Below.refl _ w).alloc (Nat.le_refl _) _).grown hgr2 (by simp) (fun k hk => by simp [Value.ownBlock] at hk; omega))
    have e2 : (0 : Nat) + lb.length = lb.length := Nat.zero_add _
    obtain ⟨a2, c2, rfl, hc2, hm2', ha2, hr2⟩ := own_slice hown2
    have HB2 := Lib.hid hb2
    have HR2 := Lib.hid hr2
    clear hown2 hgr2 hb2 hr2 hmk e2
    obtain ⟨ln, hln⟩ : ∃ l, l = putU n := ⟨_, rfl⟩
    obtain ⟨lm, hlm⟩ : ∃ l, l = putU (zig m) := ⟨_, rfl⟩
    obtain ⟨ls, hls⟩ : ∃ l, l = putU s.size := ⟨_, rfl⟩
    obtain ⟨lx, hlx⟩ : ∃ l, l = lb ++ putU n := ⟨_, rfl⟩
    obtain ⟨ly, hly⟩ : ∃ l, l = lb ++ putU (zig m) := ⟨_, rfl⟩
    obtain ⟨lz, hlz⟩ : ∃ l, l = lb ++ putU s.size ++ s.data.toList := ⟨_, rfl⟩
    have HLN := Lib.hid hln
    have HLM := Lib.hid hlm
    have HLS := Lib.hid hls
    have HLX := Lib.hid hlx
    have HLY := Lib.hid hly
    have HLZ := Lib.hid hlz
    clear hln hlm hls hlx hly hlz
    go_wp2_with fail
    refine (putU_to a2 c2 lb n lx HLX.out _ hn hc2 hm2' (by omega) ha2 HR2.out).mono ?_
    rintro e w3 ⟨ax, cx, rfl, hcx, hmx, hax, hrx, hox, hbx⟩
    have HB3 := Lib.hid (HB2.out.trans (hbx.mono HB2.out.size))
    have HR3 := Lib.hid (HR2.out.below hbx (Nat.le_refl _))
    have HX3 := Lib.hid hrx
    clear hcx hmx hax hrx hox hbx
    go_wp2_with fail
    refine (putV_to a2 c2 lb m ly HLY.out _ hm1 hm2 hc2 hm2' (by omega) ha2 HR3.out).mono ?_
    rintro e w4 ⟨ay, cy, rfl, hcy, hmy, hay, hry, hoy, hby⟩
    have HB4 := Lib.hid (HB3.out.trans (hby.mono HB3.out.size))
    have HR4 := Lib.hid (HR3.out.below hby (Nat.le_refl _))
    have HX4 := Lib.hid (HX3.out.below hby (Nat.le_refl _))
    have HY4 := Lib.hid hry
    clear hcy hmy hay hry hoy hby
    go_wp2_with fail
    refine (putT_to a2 c2 lb s lz HLZ.out _ (by omega) hc2 hm2' (by omega) ha2 HR4.out).mono ?_
    rintro e w5 ⟨az, cz, rfl, hcz, hmz, haz, hrz, hoz, hbz⟩
    have HB5 := Lib.hid (HB4.out.trans (hbz.mono HB4.out.size))
    have H5 := Lib.hid (show P5 a2 a0 ax ay az lb lx ly lz w5 from ⟨HR4.out.below hbz (Nat.le_refl _), HR.out.below HB5.out (Nat.le_refl _), HX4.out.below hbz (Nat.le_refl _), HY4.out.below hbz (Nat.le_refl _), hrz⟩)
    clear hcz hmz haz hrz hoz hbz
    obtain ⟨sb, hsb⟩ : ∃ x : ByteArray, x = ⟨lb.toArray⟩ := ⟨_, rfl⟩
    obtain ⟨sn, hsn⟩ : ∃ x : ByteArray, x = ⟨ln.toArray⟩ := ⟨_, rfl⟩
    obtain ⟨sm, hsm⟩ : ∃ x : ByteArray, x = ⟨lm.toArray⟩ := ⟨_, rfl⟩
    obtain ⟨ss, hss2⟩ : ∃ x : ByteArray, x = ⟨ls.toArray⟩ := ⟨_, rfl⟩
    obtain ⟨sx, hsx⟩ : ∃ x : ByteArray, x = ⟨lx.toArray⟩ := ⟨_, rfl⟩
    obtain ⟨sy, hsy⟩ : ∃ x : ByteArray, x = ⟨ly.toArray⟩ := ⟨_, rfl⟩
    obtain ⟨sz, hsz⟩ : ∃ x : ByteArray, x = ⟨lz.toArray⟩ := ⟨_, rfl⟩
    obtain ⟨sq, hsq⟩ : ∃ x : ByteArray, x = sb ++ ss := ⟨_, rfl⟩
    have hbs : sb.size = lb.length := by rw [hsb]; simp [ByteArray.size]
    have hns : sn.size ≤ 10 := by rw [hsn, HLN.out]; show (putU n).toArray.size ≤ 10; rw [List.size_toArray]; exact putF_length 9 _
    have hms : sm.size ≤ 10 := by rw [hsm, HLM.out]; show (putU (zig m)).toArray.size ≤ 10; rw [List.size_toArray]; exact putF_length 9 _
    have hs2 : ss.size ≤ 10 := by rw [hss2, HLS.out]; show (putU s.size).toArray.size ≤ 10; rw [List.size_toArray]; exact putF_length 9 _
    have hq1 := Lib.hid (show sx = sb ++ sn by rw [hsx, hsb, hsn, HLX.out, HLN.out, str_append])
    have hq2 := Lib.hid (show sy = sb ++ sm by rw [hsy, hsb, hsm, HLY.out, HLM.out, str_append])
    have hq3 := Lib.hid hsq
    have hq4 := Lib.hid (show sz = sq ++ s by rw [hsz, hsq, hsb, hss2, HLZ.out, HLS.out, str_append, str_append])
    have hz1 : sb.size + sn.size ≤ 9223372036854775807 := by omega
    have hz2' : sb.size + sm.size ≤ 9223372036854775807 := by omega
    have hz3 : sb.size + ss.size ≤ 9223372036854775807 := by omega
    have hz4 : sq.size + s.size ≤ 9223372036854775807 := by rw [hsq]; simp; omega
    have hws : IntKind.u64.wrap ((s.size : Nat) : Int) = ((s.size : Nat) : Int) := by rw [IntKind.wrap_u64]; omega
    have HSB := Lib.hid hsb
    have HSN := Lib.hid hsn
    have HSM := Lib.hid hsm
    have HSS := Lib.hid hss2
    have HSX := Lib.hid hsx
    have HSY := Lib.hid hsy
    have HSZ := Lib.hid hsz
    have HBprev := Lib.hid HB5.out.drew
    clear hsb hsn hsm hss2 hsx hsy hsz hsq hbs hns hms hs2
    go_wp2_with fail
    refine wp_region_noPanic ?_
    refine wp_region_held_drew (S := (P5 a2 a0 ax ay az lb lx ly lz)) (by kernel_rfl) ?_ (fun hHeld => ?_)
    · exact H5.out.drew
    refine wpAnyH_take (i := 0) (oi := _) (v := ?_) rfl (by kernel_rfl) (by kernel_rfl) (by kernel_rfl) (fun _ _ _ h => h) (Or.inl ⟨by rfl, ?_⟩) (by assumption) ?_
    rotate_left 1
    · (intro w hSw; (try dsimp only at hSw); go_simp; (try with_reducible rfl))
    try simp only [Act.put, List.getElem_toArray, List.getElem_cons_succ, List.getElem_cons_zero, List.setIfInBounds_toArray, List.set_cons_zero, List.set_cons_succ]
    refine wpAnyH_take (i := 1) (oi := _) (v := ?_) rfl (by kernel_rfl) (by kernel_rfl) (by kernel_rfl) (fun _ _ _ h => h) (Or.inl ⟨by rfl, ?_⟩) (by assumption) ?_
    rotate_left 1
    · (intro w hSw; (try dsimp only at hSw); (have hcv1 := run_bytes_string (P := Tryd.prog) _ 26 9 5 Tryd.underlying26 Tryd.underlying5 Tryd.underlying9 a2 c2 lb hSw.1; rw [← HSB.out] at hcv1; go_simp); (try with_reducible rfl))
    try simp only [Act.put, List.getElem_toArray, List.getElem_cons_succ, List.getElem_cons_zero, List.setIfInBounds_toArray, List.set_cons_zero, List.set_cons_succ]
    refine wpAnyH_take (i := 2) (oi := _) (v := ?_) rfl (by kernel_rfl) (by kernel_rfl) (by kernel_rfl) (fun _ _ _ h => h) (Or.inl ⟨by rfl, ?_⟩) (by assumption) ?_
    rotate_left 1
    · (intro w hSw; (try dsimp only at hSw); go_simp; (try with_reducible rfl))
    try simp only [Act.put, List.getElem_toArray, List.getElem_cons_succ, List.getElem_cons_zero, List.setIfInBounds_toArray, List.set_cons_zero, List.set_cons_succ]
    refine wpAnyH_take (i := 3) (oi := _) (v := ?_) rfl (by kernel_rfl) (by kernel_rfl) (by kernel_rfl) (fun _ _ _ h => h) (Or.inl ⟨by rfl, ?_⟩) (by assumption) ?_
    rotate_left 1
    · (intro w hSw; (try dsimp only at hSw); (have hcv3 := run_bytes_string (P := Tryd.prog) _ 26 9 5 Tryd.underlying26 Tryd.underlying5 Tryd.underlying9 a0 c0 lb hSw.2.1; rw [← HSB.out] at hcv3; go_simp); (try with_reducible rfl))
    try simp only [Act.put, List.getElem_toArray, List.getElem_cons_succ, List.getElem_cons_zero, List.setIfInBounds_toArray, List.set_cons_zero, List.set_cons_succ]
    refine wpAnyH_take (i := 4) (oi := _) (v := ?_) rfl (by kernel_rfl) (by kernel_rfl) (by kernel_rfl) (fun _ _ _ h => h) (Or.inl ⟨by rfl, ?_⟩) (by assumption) ?_
    rotate_left 1
    · (intro w hSw; (try dsimp only at hSw); go_simp; (try with_reducible rfl))
    try simp only [Act.put, List.getElem_toArray, List.getElem_cons_succ, List.getElem_cons_zero, List.setIfInBounds_toArray, List.set_cons_zero, List.set_cons_succ]
    refine wpAnyH_take (i := 5) (oi := _) (v := ?_) rfl (by kernel_rfl) (by kernel_rfl) (by kernel_rfl) (fun _ _ _ h => h) (Or.inl ⟨by rfl, ?_⟩) (by assumption) ?_
    rotate_left 1
    · (intro w hSw; (try dsimp only at hSw); go_simp; (try with_reducible rfl))
    try simp only [Act.put, List.getElem_toArray, List.getElem_cons_succ, List.getElem_cons_zero, List.setIfInBounds_toArray, List.set_cons_zero, List.set_cons_succ]
    refine wpAnyH_take (i := 6) (oi := _) (v := ?_) rfl (by kernel_rfl) (by kernel_rfl) (by kernel_rfl) (fun _ _ _ h => h) (Or.inl ⟨by rfl, ?_⟩) (by assumption) ?_
    rotate_left 1
    · (intro w hSw; (try dsimp only at hSw); go_simp; (try with_reducible rfl))
    try simp only [Act.put, List.getElem_toArray, List.getElem_cons_succ, List.getElem_cons_zero, List.setIfInBounds_toArray, List.set_cons_zero, List.set_cons_succ]
    refine wpAnyH_take (i := 7) (oi := _) (v := ?_) rfl (by kernel_rfl) (by kernel_rfl) (by kernel_rfl) (fun _ _ _ h => h) (Or.inl ⟨by rfl, ?_⟩) (by assumption) ?_
    rotate_left 1
    · (intro w hSw; (try dsimp only at hSw); (have hcv7 := run_bytes_string (P := Tryd.prog) _ 26 9 5 Tryd.underlying26 Tryd.underlying5 Tryd.underlying9 ax cx lx hSw.2.2.1; rw [← HSX.out] at hcv7; go_simp); (try with_reducible rfl))
    try simp only [Act.put, List.getElem_toArray, List.getElem_cons_succ, List.getElem_cons_zero, List.setIfInBounds_toArray, List.set_cons_zero, List.set_cons_succ]
    refine wpAnyH_take (i := 8) (oi := _) (v := ?_) rfl (by kernel_rfl) (by kernel_rfl) (by kernel_rfl) (fun _ _ _ h => h) (Or.inl ⟨by rfl, ?_⟩) (by assumption) ?_
    rotate_left 1
    · (intro w hSw; (try dsimp only at hSw); go_simp; (try with_reducible rfl))
    try simp only [Act.put, List.getElem_toArray, List.getElem_cons_succ, List.getElem_cons_zero, List.setIfInBounds_toArray, List.set_cons_zero, List.set_cons_succ]
    refine wpAnyH_take (i := 9) (oi := _) (v := ?_) rfl (by kernel_rfl) (by kernel_rfl) (by kernel_rfl) (fun _ _ _ h => h) (Or.inl ⟨by rfl, ?_⟩) (by assumption) ?_
    rotate_left 1
    · (intro w hSw; (try dsimp only at hSw); (have hcv9 := run_bytes_string (P := Tryd.prog) _ 26 9 5 Tryd.underlying26 Tryd.underlying5 Tryd.underlying9 a0 c0 lb hSw.2.1; rw [← HSB.out] at hcv9; go_simp); (try with_reducible rfl))
    try simp only [Act.put, List.getElem_toArray, List.getElem_cons_succ, List.getElem_cons_zero, List.setIfInBounds_toArray, List.set_cons_zero, List.set_cons_succ]
    refine wpAnyH_take (i := 10) (oi := _) (v := ?_) rfl (by kernel_rfl) (by kernel_rfl) (by kernel_rfl) (fun _ _ _ h => h) (Or.inl ⟨by rfl, ?_⟩) (by assumption) ?_
    rotate_left 1
    · (intro w hSw; (try dsimp only at hSw); go_simp; (try with_reducible rfl))
    try simp only [Act.put, List.getElem_toArray, List.getElem_cons_succ, List.getElem_cons_zero, List.setIfInBounds_toArray, List.set_cons_zero, List.set_cons_succ]
    refine wpAnyH_ready (rs := [11]) (by kernel_rfl) (by simp) ?_
    refine AllReadyH.cons (o := _) rfl (fun K hK => ?_) AllReadyH.nil
    go_simp
    refine (rput_to n ln _ HLN.out hn).mono ?_
    rintro e w' ⟨an, cn, rfl, hcn, hmn, han, hrn, hon, hbkn⟩
    have HBn := Lib.hid (HBprev.out.trans (hbkn.mono HBprev.out.size))
    have HBprev := HBn
    clear hcn hmn han hon
    go_wp2_with fail
    refine hK.out _ _ ?_ (fun hHeld11 => ?_)
    · exact hHeld.keep hbkn
    clear hK K
    try simp only [Act.put, List.getElem_toArray, List.getElem_cons_succ, List.getElem_cons_zero, List.setIfInBounds_toArray, List.set_cons_zero, List.set_cons_succ]
    refine wpAnyH_ready (rs := [12]) (by kernel_rfl) (by simp) ?_
    refine AllReadyH.cons (o := _) rfl (fun K hK => ?_) AllReadyH.nil
    have hcv12 := run_bytes_string (P := Tryd.prog) _ 26 9 5 Tryd.underlying26 Tryd.underlying5 Tryd.underlying9 an cn ln hrn
    rw [← HSN.out] at hcv12
    go_simp
    clear hcv12
    refine hK.out _ _ ?_ (fun hHeld12 => ?_)
    · exact hHeld11
    clear hK K
    try simp only [Act.put, List.getElem_toArray, List.getElem_cons_succ, List.getElem_cons_zero, List.setIfInBounds_toArray, List.set_cons_zero, List.set_cons_succ]
    refine wpAnyH_take (i := 13) (oi := _) (v := ?_) rfl (by kernel_rfl) (by kernel_rfl) (by kernel_rfl) (fun _ _ _ h => h) (Or.inl ⟨by rfl, ?_⟩) (by assumption) ?_
    rotate_left 1
    · (intro w hSw; (try dsimp only at hSw); refine exec_cat (P := Tryd.prog) _ _ _ 9 9 (.tmp 55) (.tmp 58) ?_ sb sn sx ?_ ?_ hq1.out hz1 <;> rfl; (try with_reducible rfl))
    try simp only [Act.put, List.getElem_toArray, List.getElem_cons_succ, List.getElem_cons_zero, List.setIfInBounds_toArray, List.set_cons_zero, List.set_cons_succ]
    refine wpAnyH_take (i := 14) (oi := _) (v := ?_) rfl (by kernel_rfl) (by kernel_rfl) (by kernel_rfl) (fun _ _ _ h => h) (Or.inl ⟨by rfl, ?_⟩) (by assumption) ?_
    rotate_left 1
    · (intro w hSw; (try dsimp only at hSw); go_simp; (try with_reducible rfl))
    try simp only [Act.put, List.getElem_toArray, List.getElem_cons_succ, List.getElem_cons_zero, List.setIfInBounds_toArray, List.set_cons_zero, List.set_cons_succ]
    refine wpAnyH_take (i := 15) (oi := _) (v := ?_) rfl (by kernel_rfl) (by kernel_rfl) (by kernel_rfl) (fun _ _ _ h => h) (Or.inl ⟨by rfl, ?_⟩) (by assumption) ?_
    rotate_left 1
    · (intro w hSw; (try dsimp only at hSw); go_simp; (try with_reducible rfl))
    try simp only [Act.put, List.getElem_toArray, List.getElem_cons_succ, List.getElem_cons_zero, List.setIfInBounds_toArray, List.set_cons_zero, List.set_cons_succ]
    refine wpAnyH_take (i := 16) (oi := _) (v := ?_) rfl (by kernel_rfl) (by kernel_rfl) (by kernel_rfl) (fun _ _ _ h => h) (Or.inl ⟨by rfl, ?_⟩) (by assumption) ?_
    rotate_left 1
    · (intro w hSw; (try dsimp only at hSw); go_simp; (try with_reducible rfl))
    try simp only [Act.put, List.getElem_toArray, List.getElem_cons_succ, List.getElem_cons_zero, List.setIfInBounds_toArray, List.set_cons_zero, List.set_cons_succ]
    refine wpAnyH_take (i := 17) (oi := _) (v := ?_) rfl (by kernel_rfl) (by kernel_rfl) (by kernel_rfl) (fun _ _ _ h => h) (Or.inl ⟨by rfl, ?_⟩) (by assumption) ?_
    rotate_left 1
    · (intro w hSw; (try dsimp only at hSw); go_simp; (try with_reducible rfl))
    try simp only [Act.put, List.getElem_toArray, List.getElem_cons_succ, List.getElem_cons_zero, List.setIfInBounds_toArray, List.set_cons_zero, List.set_cons_succ]
    refine wpAnyH_take (i := 18) (oi := _) (v := ?_) rfl (by kernel_rfl) (by kernel_rfl) (by kernel_rfl) (fun _ _ _ h => h) (Or.inl ⟨by rfl, ?_⟩) (by assumption) ?_
    rotate_left 1
    · (intro w hSw; (try dsimp only at hSw); (have hcv18 := run_bytes_string (P := Tryd.prog) _ 26 9 5 Tryd.underlying26 Tryd.underlying5 Tryd.underlying9 ay cy ly hSw.2.2.2.1; rw [← HSY.out] at hcv18; go_simp); (try with_reducible rfl))
    try simp only [Act.put, List.getElem_toArray, List.getElem_cons_succ, List.getElem_cons_zero, List.setIfInBounds_toArray, List.set_cons_zero, List.set_cons_succ]
    refine wpAnyH_take (i := 19) (oi := _) (v := ?_) rfl (by kernel_rfl) (by kernel_rfl) (by kernel_rfl) (fun _ _ _ h => h) (Or.inl ⟨by rfl, ?_⟩) (by assumption) ?_
    rotate_left 1
    · (intro w hSw; (try dsimp only at hSw); go_simp; (try with_reducible rfl))
    try simp only [Act.put, List.getElem_toArray, List.getElem_cons_succ, List.getElem_cons_zero, List.setIfInBounds_toArray, List.set_cons_zero, List.set_cons_succ]
    refine wpAnyH_take (i := 20) (oi := _) (v := ?_) rfl (by kernel_rfl) (by kernel_rfl) (by kernel_rfl) (fun _ _ _ h => h) (Or.inl ⟨by rfl, ?_⟩) (by assumption) ?_
    rotate_left 1
    · (intro w hSw; (try dsimp only at hSw); (have hcv20 := run_bytes_string (P := Tryd.prog) _ 26 9 5 Tryd.underlying26 Tryd.underlying5 Tryd.underlying9 a0 c0 lb hSw.2.1; rw [← HSB.out] at hcv20; go_simp); (try with_reducible rfl))
    try simp only [Act.put, List.getElem_toArray, List.getElem_cons_succ, List.getElem_cons_zero, List.setIfInBounds_toArray, List.set_cons_zero, List.set_cons_succ]
    refine wpAnyH_take (i := 21) (oi := _) (v := ?_) rfl (by kernel_rfl) (by kernel_rfl) (by kernel_rfl) (fun _ _ _ h => h) (Or.inl ⟨by rfl, ?_⟩) (by assumption) ?_
    rotate_left 1
    · (intro w hSw; (try dsimp only at hSw); go_simp; (try with_reducible rfl))
    try simp only [Act.put, List.getElem_toArray, List.getElem_cons_succ, List.getElem_cons_zero, List.setIfInBounds_toArray, List.set_cons_zero, List.set_cons_succ]
    refine wpAnyH_ready (rs := [22]) (by kernel_rfl) (by simp) ?_
    refine AllReadyH.cons (o := _) rfl (fun K hK => ?_) AllReadyH.nil
    go_simp
    refine (rsigned_any m _ hm1 hm2).mono ?_
    rintro e w' ⟨rfl, rfl⟩
    go_wp2_with fail
    refine hK.out _ _ ?_ (fun hHeld22 => ?_)
    · exact hHeld12
    clear hK K
    try simp only [Act.put, List.getElem_toArray, List.getElem_cons_succ, List.getElem_cons_zero, List.setIfInBounds_toArray, List.set_cons_zero, List.set_cons_succ]
    refine wpAnyH_ready (rs := [23]) (by kernel_rfl) (by simp) ?_
    refine AllReadyH.cons (o := _) rfl (fun K hK => ?_) AllReadyH.nil
    go_simp
    refine (rput_to (zig m) lm _ HLM.out hzm).mono ?_
    rintro e w' ⟨am, cm, rfl, hcm, hmm, ham, hrm, hom, hbkm⟩
    have HBm := Lib.hid (HBprev.out.trans (hbkm.mono HBprev.out.size))
    have HBprev := HBm
    clear hcm hmm ham hom
    go_wp2_with fail
    refine hK.out _ _ ?_ (fun hHeld23 => ?_)
    · exact hHeld22.keep hbkm
    clear hK K
    try simp only [Act.put, List.getElem_toArray, List.getElem_cons_succ, List.getElem_cons_zero, List.setIfInBounds_toArray, List.set_cons_zero, List.set_cons_succ]
    refine wpAnyH_ready (rs := [24]) (by kernel_rfl) (by simp) ?_
    refine AllReadyH.cons (o := _) rfl (fun K hK => ?_) AllReadyH.nil
    have hcv24 := run_bytes_string (P := Tryd.prog) _ 26 9 5 Tryd.underlying26 Tryd.underlying5 Tryd.underlying9 am cm lm hrm
    rw [← HSM.out] at hcv24
    go_simp
    clear hcv24
    refine hK.out _ _ ?_ (fun hHeld24 => ?_)
    · exact hHeld23
    clear hK K
    try simp only [Act.put, List.getElem_toArray, List.getElem_cons_succ, List.getElem_cons_zero, List.setIfInBounds_toArray, List.set_cons_zero, List.set_cons_succ]
    refine wpAnyH_take (i := 25) (oi := _) (v := ?_) rfl (by kernel_rfl) (by kernel_rfl) (by kernel_rfl) (fun _ _ _ h => h) (Or.inl ⟨by rfl, ?_⟩) (by assumption) ?_
    rotate_left 1
    · (intro w hSw; (try dsimp only at hSw); refine exec_cat (P := Tryd.prog) _ _ _ 9 9 (.tmp 66) (.tmp 70) ?_ sb sm sy ?_ ?_ hq2.out hz2' <;> rfl; (try with_reducible rfl))
    try simp only [Act.put, List.getElem_toArray, List.getElem_cons_succ, List.getElem_cons_zero, List.setIfInBounds_toArray, List.set_cons_zero, List.set_cons_succ]
    refine wpAnyH_take (i := 26) (oi := _) (v := ?_) rfl (by kernel_rfl) (by kernel_rfl) (by kernel_rfl) (fun _ _ _ h => h) (Or.inl ⟨by rfl, ?_⟩) (by assumption) ?_
    rotate_left 1
    · (intro w hSw; (try dsimp only at hSw); go_simp; (try with_reducible rfl))
    try simp only [Act.put, List.getElem_toArray, List.getElem_cons_succ, List.getElem_cons_zero, List.setIfInBounds_toArray, List.set_cons_zero, List.set_cons_succ]
    refine wpAnyH_take (i := 27) (oi := _) (v := ?_) rfl (by kernel_rfl) (by kernel_rfl) (by kernel_rfl) (fun _ _ _ h => h) (Or.inl ⟨by rfl, ?_⟩) (by assumption) ?_
    rotate_left 1
    · (intro w hSw; (try dsimp only at hSw); go_simp; (try with_reducible rfl))
    try simp only [Act.put, List.getElem_toArray, List.getElem_cons_succ, List.getElem_cons_zero, List.setIfInBounds_toArray, List.set_cons_zero, List.set_cons_succ]
    refine wpAnyH_take (i := 28) (oi := _) (v := ?_) rfl (by kernel_rfl) (by kernel_rfl) (by kernel_rfl) (fun _ _ _ h => h) (Or.inl ⟨by rfl, ?_⟩) (by assumption) ?_
    rotate_left 1
    · (intro w hSw; (try dsimp only at hSw); go_simp; (try with_reducible rfl))
    try simp only [Act.put, List.getElem_toArray, List.getElem_cons_succ, List.getElem_cons_zero, List.setIfInBounds_toArray, List.set_cons_zero, List.set_cons_succ]
    refine wpAnyH_take (i := 29) (oi := _) (v := ?_) rfl (by kernel_rfl) (by kernel_rfl) (by kernel_rfl) (fun _ _ _ h => h) (Or.inl ⟨by rfl, ?_⟩) (by assumption) ?_
    rotate_left 1
    · (intro w hSw; (try dsimp only at hSw); go_simp; (try with_reducible rfl))
    try simp only [Act.put, List.getElem_toArray, List.getElem_cons_succ, List.getElem_cons_zero, List.setIfInBounds_toArray, List.set_cons_zero, List.set_cons_succ]
    refine wpAnyH_take (i := 30) (oi := _) (v := ?_) rfl (by kernel_rfl) (by kernel_rfl) (by kernel_rfl) (fun _ _ _ h => h) (Or.inl ⟨by rfl, ?_⟩) (by assumption) ?_
    rotate_left 1
    · (intro w hSw; (try dsimp only at hSw); (have hcv30 := run_bytes_string (P := Tryd.prog) _ 26 9 5 Tryd.underlying26 Tryd.underlying5 Tryd.underlying9 az cz lz hSw.2.2.2.2; rw [← HSZ.out] at hcv30; go_simp); (try with_reducible rfl))
    try simp only [Act.put, List.getElem_toArray, List.getElem_cons_succ, List.getElem_cons_zero, List.setIfInBounds_toArray, List.set_cons_zero, List.set_cons_succ]
    refine wpAnyH_take (i := 31) (oi := _) (v := ?_) rfl (by kernel_rfl) (by kernel_rfl) (by kernel_rfl) (fun _ _ _ h => h) (Or.inl ⟨by rfl, ?_⟩) (by assumption) ?_
    rotate_left 1
    · (intro w hSw; (try dsimp only at hSw); go_simp; (try with_reducible rfl))
    try simp only [Act.put, List.getElem_toArray, List.getElem_cons_succ, List.getElem_cons_zero, List.setIfInBounds_toArray, List.set_cons_zero, List.set_cons_succ]
    refine wpAnyH_take (i := 32) (oi := _) (v := ?_) rfl (by kernel_rfl) (by kernel_rfl) (by kernel_rfl) (fun _ _ _ h => h) (Or.inl ⟨by rfl, ?_⟩) (by assumption) ?_
    rotate_left 1
    · (intro w hSw; (try dsimp only at hSw); (have hcv32 := run_bytes_string (P := Tryd.prog) _ 26 9 5 Tryd.underlying26 Tryd.underlying5 Tryd.underlying9 a0 c0 lb hSw.2.1; rw [← HSB.out] at hcv32; go_simp); (try with_reducible rfl))
    try simp only [Act.put, List.getElem_toArray, List.getElem_cons_succ, List.getElem_cons_zero, List.setIfInBounds_toArray, List.set_cons_zero, List.set_cons_succ]
    refine wpAnyH_take (i := 33) (oi := _) (v := ?_) rfl (by kernel_rfl) (by kernel_rfl) (by kernel_rfl) (fun _ _ _ h => h) (Or.inl ⟨by rfl, ?_⟩) (by assumption) ?_
    rotate_left 1
    · (intro w hSw; (try dsimp only at hSw); go_simp; (try with_reducible rfl))
    try simp only [Act.put, List.getElem_toArray, List.getElem_cons_succ, List.getElem_cons_zero, List.setIfInBounds_toArray, List.set_cons_zero, List.set_cons_succ]
    refine wpAnyH_take (i := 34) (oi := _) (v := ?_) rfl (by kernel_rfl) (by kernel_rfl) (by kernel_rfl) (fun _ _ _ h => h) (Or.inl ⟨by rfl, ?_⟩) (by assumption) ?_
    rotate_left 1
    · (intro w hSw; (try dsimp only at hSw); go_simp; (try with_reducible rfl))
    try simp only [Act.put, List.getElem_toArray, List.getElem_cons_succ, List.getElem_cons_zero, List.setIfInBounds_toArray, List.set_cons_zero, List.set_cons_succ]
    refine wpAnyH_take (i := 35) (oi := _) (v := ?_) rfl (by kernel_rfl) (by kernel_rfl) (by kernel_rfl) (fun _ _ _ h => h) (Or.inl ⟨by rfl, ?_⟩) (by assumption) ?_
    rotate_left 1
    · (intro w hSw; (try dsimp only at hSw); go_simp; (try with_reducible rfl))
    try simp only [Act.put, List.getElem_toArray, List.getElem_cons_succ, List.getElem_cons_zero, List.setIfInBounds_toArray, List.set_cons_zero, List.set_cons_succ]
    refine wpAnyH_take (i := 39) (oi := _) (v := ?_) rfl (by kernel_rfl) (by kernel_rfl) (by kernel_rfl) (fun _ _ _ h => h) (Or.inl ⟨by rfl, ?_⟩) (by assumption) ?_
    rotate_left 1
    · (intro w hSw; (try dsimp only at hSw); go_simp; (try with_reducible rfl))
    try simp only [Act.put, List.getElem_toArray, List.getElem_cons_succ, List.getElem_cons_zero, List.setIfInBounds_toArray, List.set_cons_zero, List.set_cons_succ]
    refine wpAnyH_ready (rs := [36]) (by kernel_rfl) (by simp) ?_
    refine AllReadyH.cons (o := _) rfl (fun K hK => ?_) AllReadyH.nil
    go_simp
    refine (rput_to s.size ls _ HLS.out hss).mono ?_
    rintro e w' ⟨as_, cs_, rfl, hcs, hms, has, hrs, hos, hbks⟩
    have HBs := Lib.hid (HBprev.out.trans (hbks.mono HBprev.out.size))
    have HBprev := HBs
    clear hcs hms has hos
    go_wp2_with fail
    refine hK.out _ _ ?_ (fun hHeld36 => ?_)
    · exact hHeld24.keep hbks
    clear hK K
    try simp only [Act.put, List.getElem_toArray, List.getElem_cons_succ, List.getElem_cons_zero, List.setIfInBounds_toArray, List.set_cons_zero, List.set_cons_succ]
    refine wpAnyH_ready (rs := [37]) (by kernel_rfl) (by simp) ?_
    refine AllReadyH.cons (o := _) rfl (fun K hK => ?_) AllReadyH.nil
    have hcv37 := run_bytes_string (P := Tryd.prog) _ 26 9 5 Tryd.underlying26 Tryd.underlying5 Tryd.underlying9 as_ cs_ ls hrs
    rw [← HSS.out] at hcv37
    go_simp
    clear hcv37
    refine hK.out _ _ ?_ (fun hHeld37 => ?_)
    · exact hHeld36
    clear hK K
    try simp only [Act.put, List.getElem_toArray, List.getElem_cons_succ, List.getElem_cons_zero, List.setIfInBounds_toArray, List.set_cons_zero, List.set_cons_succ]
    refine wpAnyH_take (i := 38) (oi := _) (v := ?_) rfl (by kernel_rfl) (by kernel_rfl) (by kernel_rfl) (fun _ _ _ h => h) (Or.inl ⟨by rfl, ?_⟩) (by assumption) ?_
    rotate_left 1
    · (intro w hSw; (try dsimp only at hSw); refine exec_cat (P := Tryd.prog) _ _ _ 9 9 (.tmp 78) (.tmp 83) ?_ sb ss sq ?_ ?_ hq3.out hz3 <;> rfl; (try with_reducible rfl))
    try simp only [Act.put, List.getElem_toArray, List.getElem_cons_succ, List.getElem_cons_zero, List.setIfInBounds_toArray, List.set_cons_zero, List.set_cons_succ]
    refine wpAnyH_take (i := 40) (oi := _) (v := ?_) rfl (by kernel_rfl) (by kernel_rfl) (by kernel_rfl) (fun _ _ _ h => h) (Or.inl ⟨by rfl, ?_⟩) (by assumption) ?_
    rotate_left 1
    · (intro w hSw; (try dsimp only at hSw); refine exec_cat (P := Tryd.prog) _ _ _ 9 9 (.tmp 84) (.tmp 85) ?_ sq s sz ?_ ?_ hq4.out hz4 <;> rfl; (try with_reducible rfl))
    try simp only [Act.put, List.getElem_toArray, List.getElem_cons_succ, List.getElem_cons_zero, List.setIfInBounds_toArray, List.set_cons_zero, List.set_cons_succ]
    refine wpAnyH_take (i := 41) (oi := _) (v := ?_) rfl (by kernel_rfl) (by kernel_rfl) (by kernel_rfl) (fun _ _ _ h => h) (Or.inl ⟨by rfl, ?_⟩) (by assumption) ?_
    rotate_left 1
    · (intro w hSw; (try dsimp only at hSw); go_simp; (try with_reducible rfl))
    try simp only [Act.put, List.getElem_toArray, List.getElem_cons_succ, List.getElem_cons_zero, List.setIfInBounds_toArray, List.set_cons_zero, List.set_cons_succ]
    refine wpAnyH_take (i := 42) (oi := _) (v := ?_) rfl (by kernel_rfl) (by kernel_rfl) (by kernel_rfl) (fun _ _ _ h => h) (Or.inl ⟨by rfl, ?_⟩) (by assumption) ?_
    rotate_left 1
    · (intro w hSw; (try dsimp only at hSw); go_simp; (try with_reducible rfl))
    try simp only [Act.put, List.getElem_toArray, List.getElem_cons_succ, List.getElem_cons_zero, List.setIfInBounds_toArray, List.set_cons_zero, List.set_cons_succ]
    refine wpAnyH_done (by kernel_rfl) ?_ _
    refine NoPanic.normal ?_
    clear hws hz1 hz2' hz3 hz4 hq1 hq2 hq3 hq4 hrn hrm hrs hHeld hHeld11 hHeld12 hHeld22 hHeld23 hHeld24 hHeld36 hHeld37 HSB HSN HSM HSS HSX HSY HSZ H5 HX4 HX3 HY4 HR2 HR3 HR4
    have HG6 := Lib.hid (HG.out.below HBprev.out hlt)
    have HR6 := Lib.hid (HR.out.below HBprev.out (Nat.le_refl _))
    have HB6 := HBprev
    clear hbkn hbkm hbks HB2 HB3 HB4 HB5 HBn HBm HBs HBprev
    go_wp2_with fail
    -- region 7
    refine (rput_to n ln _ HLN.out hn).mono ?_
    rintro e w7 ⟨a7, c7, rfl, hc7, hm7, ha7, hr7, ho7, hb7⟩
    have HB7 := Lib.hid (HB6.out.trans (hb7.mono HB6.out.size))
    have HR7 := Lib.hid (HR6.out.below hb7 (Nat.le_refl _))
    have HO7 := Lib.hid ho7
    have hs7 := hb7.size
    have hl7 : ln.length ≤ 10 := by rw [HLN.out]; exact putF_length 9 n
    clear hc7 hm7 ha7 hr7 ho7 hb7 HR6
    go_wp2_with (first
      | (at_builtin; refine step_append_row _ rfl _ _ 26 rfl w'.heap.size 5 i0 (.int .u8 0) 1 Tryd.underlying26 hi0 hz0 hz1 hz2 rfl _ ln.length (bv ln) rfl HO7.out a0 lb.length c0 (bv lb) rfl ?j2 HR7.out (bv_one lb) ?j3 ?j4 ?j5 ?_)
      | fail)
    case j2 => simp [bv]
    case j3 => unfold maxLen; omega
    case j4 => omega
    case j5 => exact hs7
    intro v8 w8 hown8 hgr8 _ _
    have hb8 : Below w'.heap.size w7 w8 := (Below.refl _ w7).grown hgr8 hs7 (fun k hk => by have := (HO7.out.lt k hk).1; omega)
    have HB8 := Lib.hid (HB7.out.trans (hb8.mono HB6.out.size))
    obtain ⟨l8, hl8⟩ : ∃ l, l = ln ++ lb := ⟨_, rfl⟩
    have hown8' : w8.ownsRow w'.heap.size 5 1 v8 l8.length (bv l8) := by rw [hl8, List.length_append, bv_append]; exact hown8
    have hu8 : readU l8 = (n, ln.length, 0) := by rw [hl8, HLN.out]; exact readU_putU n lb hn
    have hl8n : l8.length ≤ 410 := by rw [hl8, List.length_append]; omega
    obtain ⟨a8, c8, rfl, hc8, -, -, hr8⟩ := own_slice hown8'
    have h8 := uvarint_any a8 c8 l8 w8 (by omega) hr8 (HG.out.below HB8.out hlt)
    rw [hu8] at h8
    have H8 := Lib.hid h8
    have HR8 := Lib.hid (HR.out.below HB8.out (Nat.le_refl _))
    clear hown8 hgr8 hb8 hown8' hu8 hr8 h8 hl8 HO7 HR7 hs7
    go_wp2_with fail
    refine H8.out.mono ?_
    rintro e w9 ⟨rfl, hb9⟩
    have HB9 := Lib.hid (HB8.out.trans (hb9.mono HB8.out.size))
    have HR9 := Lib.hid (HR8.out.below hb9 (Nat.le_refl _))
    clear hb9 H8 HR8 hc8 hl8n
    -- region 8
    go_wp2_with fail
    refine (rsigned_any m _ hm1 hm2).mono ?_
    rintro e w' ⟨rfl, rfl⟩
    go_wp2_with fail
    refine (rput_to (zig m) lm _ HLM.out hzm).mono ?_
    rintro e w10 ⟨a10, c10, rfl, hc10, hm10, ha10, hr10, ho10, hb10⟩
    have HB10 := Lib.hid (HB9.out.trans (hb10.mono HB9.out.size))
    have HR10 := Lib.hid (HR9.out.below hb10 (Nat.le_refl _))
    have HO10 := Lib.hid ho10
    have hs10 := hb10.size
    have hl10 : lm.length ≤ 10 := by rw [HLM.out]; exact putF_length 9 (zig m)
    clear hc10 hm10 ha10 hr10 ho10 hb10 HR9
    go_wp2_with (first
      | (at_builtin; refine step_append_row _ rfl _ _ 26 rfl w9.heap.size 5 i0 (.int .u8 0) 1 Tryd.underlying26 hi0 hz0 hz1 hz2 rfl _ lm.length (bv lm) rfl HO10.out a0 lb.length c0 (bv lb) rfl ?k2 HR10.out (bv_one lb) ?k3 ?k4 ?k5 ?_)
      | fail)
    case k2 => simp [bv]
    case k3 => unfold maxLen; omega
    case k4 => omega
    case k5 => exact hs10
    intro v11 w11 hown11 hgr11 _ _
    have hb11 : Below w9.heap.size w10 w11 := (Below.refl _ w10).grown hgr11 hs10 (fun k hk => by have := (HO10.out.lt k hk).1; omega)
    have HB11 := Lib.hid (HB10.out.trans (hb11.mono HB9.out.size))
    obtain ⟨l11, hl11⟩ : ∃ l, l = lm ++ lb := ⟨_, rfl⟩
    have hown11' : w11.ownsRow w9.heap.size 5 1 v11 l11.length (bv l11) := by rw [hl11, List.length_append, bv_append]; exact hown11
    have hu11 : readU l11 = (zig m, lm.length, 0) := by rw [hl11, HLM.out]; exact readU_putU (zig m) lb hzm
    have hl11n : l11.length ≤ 410 := by rw [hl11, List.length_append]; omega
    obtain ⟨a11, c11, rfl, hc11, -, -, hr11⟩ := own_slice hown11'
    have h11 := varint_any a11 c11 l11 w11 (by omega) hr11 (HG.out.below HB11.out hlt)
    rw [hu11] at h11
    simp only [zag_zig] at h11
    have H11 := Lib.hid h11
    have HR11 := Lib.hid (HR.out.below HB11.out (Nat.le_refl _))
    clear hown11 hgr11 hb11 hown11' hu11 hr11 h11 hl11 HO10 HR10 hs10
    go_wp2_with fail
    refine H11.out.mono ?_
    rintro e w12 ⟨rfl, hb12⟩
    have HB12 := Lib.hid (HB11.out.trans (hb12.mono HB11.out.size))
    have HR12 := Lib.hid (HR11.out.below hb12 (Nat.le_refl _))
    clear hb12 H11 HR11 hc11 hl11n
    -- region 9
    go_wp2_with fail
    refine (rput_to s.size ls _ HLS.out hss).mono ?_
    rintro e w13 ⟨a13, c13, rfl, hc13, hm13, ha13, hr13, ho13, hb13⟩
    have HB13 := Lib.hid (HB12.out.trans (hb13.mono HB12.out.size))
    have HR13 := Lib.hid (HR12.out.below hb13 (Nat.le_refl _))
    have HO13 := Lib.hid ho13
    have hs13 := hb13.size
    have hl13 : ls.length ≤ 10 := by rw [HLS.out]; exact putF_length 9 s.size
    clear hc13 hm13 ha13 hr13 ho13 hb13 HR12
    obtain ⟨l14, hl14⟩ : ∃ l, l = ls ++ s.data.toList := ⟨_, rfl⟩
    have hl14n : l14.length = ls.length + s.size := by rw [hl14, List.length_append]; rfl
    have HL14 := Lib.hid hl14n
    have hl14m : l14.length ≤ 410 := by omega
    clear hl14n
    go_wp2_with (first
      | (at_builtin; refine Lib.wpList_append_own_string _ rfl _ _ 26 9 rfl w12.heap.size 5 i0 Tryd.underlying26 Tryd.underlying9 hi0 hz0 hz1 hz2 _ _ _ rfl HO13.out s rfl ?m1 ?m2 hs13 ?_)
      | fail)
    case m1 => unfold maxLen; omega
    case m2 => omega
    intro v14 w14 hown14 hg14 _
    have hb14 : Below w12.heap.size w13 w14 := (Below.refl _ w13).grown hg14 hs13 (fun k hk => by have := (HO13.out.lt k hk).1; omega)
    have HB14 := Lib.hid (HB13.out.trans (hb14.mono HB12.out.size))
    have hown14' : w14.ownsRow w12.heap.size 5 1 v14 l14.length (bv l14) := by rw [HL14.out, hl14, bv_append]; exact hown14
    have HO14 := Lib.hid hown14'
    have hs14 : w12.heap.size ≤ w14.heap.size := Nat.le_trans hs13 hb14.size
    have HR14 := Lib.hid (HR.out.below HB14.out (Nat.le_refl _))
    have HL14b := Lib.hid hl14
    clear hown14 hg14 hb14 hown14' HO13 HR13 hs13 hl14
    go_wp2_with (first
      | (at_builtin; refine step_append_row _ rfl _ _ 26 rfl w12.heap.size 5 i0 (.int .u8 0) 1 Tryd.underlying26 hi0 hz0 hz1 hz2 rfl _ l14.length (bv l14) rfl HO14.out a0 lb.length c0 (bv lb) rfl ?n2 HR14.out (bv_one lb) ?n3 ?n4 ?n5 ?_)
      | fail)
    case n2 => simp [bv]
    case n3 => unfold maxLen; omega
    case n4 => omega
    case n5 => exact hs14
    intro v15 w15 hown15 hgr15 _ _
    have hb15 : Below w12.heap.size w14 w15 := (Below.refl _ w14).grown hgr15 hs14 (fun k hk => by have := (HO14.out.lt k hk).1; omega)
    have HB15 := Lib.hid (HB14.out.trans (hb15.mono HB12.out.size))
    obtain ⟨l15, hl15⟩ : ∃ l, l = l14 ++ lb := ⟨_, rfl⟩
    have hown15' : w15.ownsRow w12.heap.size 5 1 v15 l15.length (bv l15) := by rw [hl15, List.length_append, bv_append]; exact hown15
    have ht15 : textU l15 400 = (s.data.toList, ls.length + s.size, 0) := by rw [hl15, HL14b.out, HLS.out]; exact textU_put s lb 400 (by omega) (by omega)
    have hl15n : l15.length ≤ 820 := by rw [hl15, List.length_append]; omega
    obtain ⟨a15, c15, rfl, hc15, -, -, hr15⟩ := own_slice hown15'
    have h15 := text_any a15 c15 l15 400 w15 (by omega) hc15 (by omega) (by omega) hr15 (HG.out.below HB15.out hlt)
    rw [ht15] at h15
    have es : (⟨s.data.toList.toArray⟩ : ByteArray) = s := by simp
    have ek : ((ls.length + s.size : Nat) : Int) = (ls.length : Int) + (s.size : Int) := by omega
    simp only [es, ek] at h15
    have H15 := Lib.hid h15
    clear hown15 hgr15 hb15 hown15' ht15 hr15 h15 hl15 HO14 HR14 hs14 es ek HL14b HL14
    go_wp2_with fail
    refine H15.out.mono ?_
    rintro e w16 ⟨rfl, hb16⟩
    have HB16 := Lib.hid (HB15.out.trans (hb16.mono HB15.out.size))
    clear hb16 H15 hc15 hl15n hl14m
    -- region 10
    go_wp2_with fail
    refine (rput_to n ln _ HLN.out hn).mono ?_
    rintro e w17 ⟨a17, c17, rfl, hc17, hm17, ha17, hr17, ho17, hb17⟩
    have HB17 := Lib.hid (HB16.out.trans (hb17.mono HB16.out.size))
    clear hc17 hm17 ha17 hr17 ho17 hb17
    go_wp2_with fail
    refine (rsigned_any m _ hm1 hm2).mono ?_
    rintro e w' ⟨rfl, rfl⟩
    go_wp2_with fail
    refine (rput_to (zig m) lm _ HLM.out hzm).mono ?_
    rintro e w18 ⟨a18, c18, rfl, hc18, hm18, ha18, hr18, ho18, hb18⟩
    have HB18 := Lib.hid (HB17.out.trans (hb18.mono HB17.out.size))
    clear hc18 hm18 ha18 hr18 ho18 hb18
    go_wp2_with fail
    refine (rput_to s.size ls _ HLS.out hss).mono ?_
    rintro e w19 ⟨a19, c19, rfl, hc19, hm19, ha19, hr19, ho19, hb19⟩
    have HB19 := Lib.hid (HB18.out.trans (hb19.mono HB18.out.size))
    clear hc19 hm19 ha19 hr19 ho19 hb19
    go_wp2_with fail
    refine (known_any _).mono ?_
    rintro e w20 ⟨rfl, hb20⟩
    have HB20 := Lib.hid (HB19.out.trans (hb20.mono HB19.out.size))
    clear hb20
    go_wp2
    go_ret
    exact ⟨rfl, HB20.out⟩
end Go.Proofs.YtocnjejolamdlaaDoor
