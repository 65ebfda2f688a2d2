/- Chapter 18, the reference: credit: the walk. -/
import Derived.Test.YtbkpgpaanhfjfaaWiQ
namespace Go.Proofs.Ytbkpgpaanhfjfaa
open Go.RowKit Go.Sort K
def gainO (nm : List UInt8) (time inc : Int) (rst : Bool) : Obj := .cells #[encStr nm, .int .i64 time, .int .i64 inc, .bool rst] 37 (0, 0)
def crO (c : Cr) : Obj := .cells #[encStr c.nm, .int .i64 c.inc, .bool c.over] 34 (0, 0)
/-- Between two rounds of credit. -/
def RcI (w : World) (nm : List UInt8) (time inc : Int) (rst : Bool) (l : List Cr) (ov : Value) (W : World) : Prop :=
  W.ownsRow (w.heap.size + 1) 34 3 ov l.length (crf l) ∧ Below w.heap.size w W ∧ W.heap[w.heap.size]? = some (gainO nm time inc rst)
def RcP (w : World) (l : List Cr) (e : Ending) (w' : World) : Prop := ∃ a c, e = .returned (.slice a l.length c) ∧ Rd w' a (crf l) ∧ (∀ ad, a = some ad → w.heap.size ≤ ad.block ∧ ad.block < w'.heap.size) ∧ Below w.heap.size w w'
section
variable {w W V U : World} {nm : List UInt8} {time inc : Int} {rst : Bool} {l : List Cr} {ov ov' : Value}
theorem RcI.lt (h : RcI w nm time inc rst l ov W) : w.heap.size + 1 ≤ W.heap.size := (Array.getElem?_eq_some_iff.1 h.2.2).1
theorem RcI.only {P : Nat → Prop} (h : RcI w nm time inc rst l ov W) (ho : Only P W V) (hP : ∀ q, P q → W.heap.size ≤ q) : RcI w nm time inc rst l ov V := by
  have h9 := h.lt
  refine ⟨ho.own h.1 (fun q hq hPq => ?_), h.2.1.trans (ho.below (by omega) (fun q hq => by have := hP q hq; omega)), ho.heap h.2.2 (fun h => by have := hP _ h; omega)⟩
  have h1 := (h.1.lt q hq).2
  have h2 := hP q hPq
  omega
theorem RcI.two (h : RcI w nm time inc rst l ov W) (O : Obj) (c : Cr) : ((W.alloc O).alloc (.cells #[.string ⟨c.nm.toArray⟩, .int .i64 c.inc, .bool c.over] 34)).ownsRow (w.heap.size + 1) 34 3 ov l.length (crf l) ∧ Rd ((W.alloc O).alloc (.cells #[.string ⟨c.nm.toArray⟩, .int .i64 c.inc, .bool c.over] 34)) (some ⟨W.heap.size + 1, 0, none⟩) c.cells ∧ Below W.heap.size W ((W.alloc O).alloc (.cells #[.string ⟨c.nm.toArray⟩, .int .i64 c.inc, .bool c.over] 34)) ∧ w.heap.size + 1 ≤ ((W.alloc O).alloc (.cells #[.string ⟨c.nm.toArray⟩, .int .i64 c.inc, .bool c.over] 34)).heap.size := by
  have hb : Below W.heap.size W ((W.alloc O).alloc (.cells #[.string ⟨c.nm.toArray⟩, .int .i64 c.inc, .bool c.over] 34)) := ((Below.refl _ W).alloc (Nat.le_refl _) _).alloc (by simp) _
  refine ⟨(Only.of_new (F := fun _ => False) hb).own h.1 (fun _ _ h => h), ?_, hb, Nat.le_trans h.lt hb.size⟩
  have h1 := Rd.new (W.alloc O) #[.string ⟨c.nm.toArray⟩, .int .i64 c.inc, .bool c.over] 34 (0, 0) c.cells (fun j u hu => by simpa [Cr.cells, encStr] using hu)
  rw [World.size_alloc] at h1
  exact h1
theorem RcI.one (h : RcI w nm time inc rst l ov W) (c : Cr) : (W.alloc (.cells #[.string ⟨c.nm.toArray⟩, .int .i64 c.inc, .bool c.over] 34)).ownsRow (w.heap.size + 1) 34 3 ov l.length (crf l) ∧ Rd (W.alloc (.cells #[.string ⟨c.nm.toArray⟩, .int .i64 c.inc, .bool c.over] 34)) (some ⟨W.heap.size, 0, none⟩) c.cells ∧ Below W.heap.size W (W.alloc (.cells #[.string ⟨c.nm.toArray⟩, .int .i64 c.inc, .bool c.over] 34)) ∧ w.heap.size + 1 ≤ (W.alloc (.cells #[.string ⟨c.nm.toArray⟩, .int .i64 c.inc, .bool c.over] 34)).heap.size := by
  have hb : Below W.heap.size W (W.alloc (.cells #[.string ⟨c.nm.toArray⟩, .int .i64 c.inc, .bool c.over] 34)) := (Below.refl _ W).alloc (Nat.le_refl _) _
  refine ⟨(Only.of_new (F := fun _ => False) hb).own h.1 (fun _ _ h => h), ?_, hb, Nat.le_trans h.lt hb.size⟩
  exact Rd.new W #[.string ⟨c.nm.toArray⟩, .int .i64 c.inc, .bool c.over] 34 (0, 0) c.cells (fun j u hu => by simpa [Cr.cells, encStr] using hu)
theorem RcI.app (h : RcI w nm time inc rst l ov W) (hb : Below W.heap.size W V) (c : Cr) (happ : AppTo V (w.heap.size + 1) 34 3 ov (l.length + 1) (crf l ++ c.cells) ov' U) : RcI w nm time inc rst (l ++ [c]) ov' U := by
  obtain ⟨k1, k2, k3⟩ := happ
  have h9 := h.lt
  have hbw := h.2.1.trans (hb.mono h.2.1.size)
  have hot : Only (fun q => ov.ownBlock = some q) V U := (Only.refl _ _).grown k2 (fun q hq _ => hq)
  have hlo : ∀ q, ov.ownBlock = some q → w.heap.size + 1 ≤ q := fun q hq => (h.1.lt q hq).1
  refine ⟨?_, hbw.trans (hot.below hbw.size (fun q hq => by have := hlo q hq; omega)), hot.heap (keeph' hb h.2.2) (fun hq => by have := hlo _ hq; omega)⟩
  rw [List.length_append, crf_app]
  simpa [crf] using k1
theorem RcI.keep (h : RcI w nm time inc rst l ov W) {xs : List Value} {n k : Nat} {o : Obj} (happ : AppTo V (w.heap.size + 1) 34 3 ov n xs ov' U) (hk : W.heap.size ≤ k) (ho : V.heap[k]? = some o) : U.heap[k]? = some o := by
  have hot : Only (fun q => ov.ownBlock = some q) V U := (Only.refl _ _).grown happ.2.1 (fun q hq _ => hq)
  exact hot.heap ho (fun hq => by have := (h.1.lt k hq).2; omega)
theorem RcI.ret (h : RcI w nm time inc rst l ov W) : ∃ a c, ov = .slice a l.length c ∧ RcP w l (.returned (.slice a l.length c)) W := by
  obtain ⟨ho, hb, hg⟩ := h
  obtain ⟨a, c, rfl, -, -, -, hrd⟩ := own_slice3 ho
  exact ⟨a, c, rfl, a, c, rfl, hrd, fun ad e => by subst e; have h9 := ho.lt ad.block rfl; exact ⟨by omega, h9.2⟩, hb⟩
theorem rcrd_len (nm : List UInt8) (inc : Int) (cr : List Cr) : (rcrd nm inc cr).1.length ≤ cr.length + 1 := by
  unfold rcrd
  split
  · exact Nat.le_succ _
  · exact sset_length _ _
theorem crNew_z (nm : List UInt8) {inc : Int} (hi : 0 ≤ inc ∧ inc ≤ 9223372036854775807) : crNew zC nm inc = ⟨nm, inc, false⟩ := by
  unfold crNew zC satI
  have h1 : ¬ 9223372036854775807 < inc := by omega
  simp only [Int.zero_add, if_neg h1, decide_eq_false h1, Bool.or_false]
theorem not_eq_f {a b : List UInt8} (h : ¬ a = b) : (a == b) = false ∧ (a = b) = False := ⟨by rw [beq_eq_false_iff_ne]; exact h, by rw [eq_iff_iff, iff_false]; exact h⟩
end

set_option maxHeartbeats 4000000 in
set_option maxRecDepth 100000 in
theorem rcredit_any {w : World} {a : Option Addr} {c : Nat} {cr : List Cr} (hr : Rd w a (crf cr)) (hs : CS cr) (hl : cr.length ≤ 1000) (hB : ∀ c ∈ cr, CrB c) (nm : List UInt8) (time inc : Int) (rst : Bool) (hi : 0 ≤ inc ∧ inc ≤ 9223372036854775807) :
    Calls Try.prog 45 #[.slice a cr.length c, .agg #[encStr nm, .int .i64 time, .int .i64 inc, .bool rst]] w (RcP w (crPut nm inc cr)) := by
  have HR := Lib.hid hr
  have HS := Lib.hid hs
  have HB := Lib.hid hB
  obtain ⟨i0, hi0, hz0, hz1, hz2⟩ := info_parts info_cr
  clear hr hs hB
  go_enter Try.func45, Try.ntmps45
  go_wp2_with fail
  obtain ⟨V, hV⟩ : ∃ V, V = w.alloc (.cells #[encStr nm, .int .i64 time, .int .i64 inc, .bool rst] 37) := ⟨_, rfl⟩
  have HV := Lib.hid (show RcI w nm time inc rst (rcrd nm inc (cr.take 0)).1 (.slice none 0 0) V from by
    rw [List.take_zero, rcrd_nil, hV]
    exact ⟨World.ownsRow_nil _ _ _ _, (Below.refl _ _).alloc (Nat.le_refl _) _, heap_alloc_new w _⟩)
  rw [← hV]
  clear hV
  go_loopw [5, 6, 7] (fun ov dv iv wr => ∃ k : Nat, iv = .int .i64 k ∧ k ≤ cr.length ∧ dv = .bool (rcrd nm inc (cr.take k)).2 ∧ RcI w nm time inc rst (rcrd nm inc (cr.take k)).1 ov wr) (fun _ _ iv _ => cr.length - (intOf iv).toNat)
  case atStart => exact ⟨0, rfl, Nat.zero_le _, by rw [List.take_zero, rcrd_nil], HV.out⟩
  case round =>
    obtain ⟨k, rfl, hk, rfl, hI⟩ := hrel
    obtain ⟨wz, hwz⟩ : ∃ wz, wz = wr := ⟨_, rfl⟩
    subst hwz
    by_cases hc : k < cr.length
    · obtain ⟨b, off, rfl, hb, d0, d1, d2⟩ := crs_all HR.out hc
      have hbw := hI.2.1
      obtain ⟨x, hx⟩ : ∃ x, x = cr[k] := ⟨_, rfl⟩
      have hxm : x ∈ cr := by rw [hx]; exact List.getElem_mem hc
      have htk : cr.take (k + 1) = cr.take k ++ [x] := by rw [List.take_add_one, List.getElem?_eq_getElem hc, hx]; rfl
      have hsk : CS (cr.take k ++ [x]) := by
        have h9 := HS.out
        unfold CS at h9 ⊢
        rw [← htk]
        exact h9.sublist ((List.take_sublist _ cr).map _)
      have hxb := HB.out x hxm
      rw [← hx] at d0 d1 d2
      clear hx
      obtain ⟨xn, xi, xo⟩ := x
      have hxi : 0 ≤ xi ∧ xi ≤ 9223372036854775807 := ⟨hxb.1, hxb.2.1⟩
      have e0 : wz.cell? ⟨b, off + k * 3, none⟩ = some (.string ⟨xn.toArray⟩) := keepc hbw d0
      have e1 : wz.cell? ⟨b, off + k * 3 + 1, none⟩ = some (.int .i64 xi) := keepc hbw d1
      have e2 : wz.cell? ⟨b, off + k * 3 + 2, none⟩ = some (.bool xo) := keepc hbw d2
      have hG := hI.2.2
      have g0 : wz.cell? ⟨w.heap.size, 0, none⟩ = some (.string ⟨nm.toArray⟩) := by rw [cell_of_row _ _ _ _ _ _ hG]; rfl
      have g2 : wz.cell? ⟨w.heap.size, 2, none⟩ = some (.int .i64 inc) := by rw [cell_of_row _ _ _ _ _ _ hG]; rfl
      have hwl : w.heap.size < wz.heap.size := hI.lt
      have hb2 : b < wz.heap.size := Nat.lt_of_lt_of_le hb hbw.size
      have hln : (rcrd nm inc (cr.take k)).1.length ≤ 1001 := by
        have h1 := rcrd_len nm inc (cr.take k)
        rw [List.length_take] at h1
        omega
      have HTK := Lib.hid htk
      have HSK := Lib.hid hsk
      have HI := Lib.hid hI
      clear d0 d1 d2 hb hbw hG htk hsk hxm hxb hI

      by_cases hdn : ∀ c ∈ cr.take k, c.nm < nm
      · have e0k : rcrd nm inc (cr.take k) = (cr.take k, false) := by unfold rcrd; rw [if_pos hdn]
        rw [e0k] at HI hln ⊢
        simp only at HI hln ⊢
        rcases ordN.tri xn nm with hlt | heq | hgt
        · have HRC := Lib.hid (show rcrd nm inc (cr.take (k + 1)) = (cr.take k ++ [⟨xn, xi, xo⟩], false) by rw [HTK.out]; exact rcrd_lt hdn hlt)
          obtain ⟨hbq, hbq2⟩ := not_eq_f (fun e : xn = nm => ordN.irr nm (by rwa [e] at hlt))
          have hbl : Op.bytesLess xn nm = true := by rw [bytesLess_eq]; exact decide_eq_true hlt
          generalize cr.take k = ll at HI hln HRC
          obtain ⟨sa, sc, hsv, -, -, -, -⟩ := own_slice3 HI.out.1
          subst hsv
          clear hdn hlt e0k HTK HSK
          go_wp2_with (first
            | (with_reducible refine step_append_any (.inl rfl) _ _ 30 rfl (w.heap.size + 1) 34 i0 _ 3 32 Try.underlying30 hi0 hz0 hz1 hz2 rfl (by decide) (.slice sa ll.length sc) ll.length _ rfl (HI.out.two _ (Cr.mk xn xi xo)).1 (some ⟨wz.heap.size + 1, 0, none⟩) 1 1 (Cr.cells (Cr.mk xn xi xo)) rfl rfl (HI.out.two _ (Cr.mk xn xi xo)).2.1 (crf_one' _) (by unfold maxLen; omega) (by omega) (HI.out.two _ (Cr.mk xn xi xo)).2.2.2 ?_)
            | fail)
          intro sv' w6 happ
          have hI6 := HI.out.app (HI.out.two _ (Cr.mk xn xi xo)).2.2.1 (Cr.mk xn xi xo) happ
          obtain ⟨va, vc, hsv, -, -, -, -⟩ := own_slice3 hI6.1
          subst hsv
          have HREL := Lib.hid (show Value.bool false = .bool (rcrd nm inc (cr.take (k + 1))).2 ∧ RcI w nm time inc rst (rcrd nm inc (cr.take (k + 1))).1 (.slice va (ll ++ [(Cr.mk xn xi xo)]).length vc) w6 from by
            rw [HRC.out]
            exact ⟨rfl, hI6⟩)
          clear happ hI6
          go_wp2
          go_roundw
          case rel => exact ⟨k + 1, by go_num, by omega, HREL.out.1, HREL.out.2⟩
          case measure => simp [intOf]; omega
        · have hbq : (xn == nm) = true := by rw [beq_iff_eq]; exact heq
          have hbq2 : (xn = nm) = True := by rw [eq_iff_iff, iff_true]; exact heq
          by_cases hov : 9223372036854775807 < xi + inc
          · have hwr : IntKind.wrap .i64 (xi + inc) = xi + inc - 18446744073709551616 := by rw [IntKind.wrap_i64]; omega
            have HNEW := Lib.hid (show crNew (Cr.mk xn xi xo) nm inc = Cr.mk xn 9223372036854775807 true by unfold crNew satI; simp only [if_pos hov, decide_eq_true hov, Bool.or_true, heq])
            cases xo
            · have HRC := Lib.hid (show rcrd nm inc (cr.take (k + 1)) = (cr.take k ++ [(Cr.mk xn 9223372036854775807 true)], true) by rw [HTK.out, rcrd_eq hdn heq, HNEW.out])
              generalize cr.take k = ll at HI hln HRC
              obtain ⟨sa, sc, hsv, -, -, -, -⟩ := own_slice3 HI.out.1
              subst hsv
              clear hdn heq e0k HTK HSK HNEW
              go_wp2_with (first
                | (with_reducible refine step_append_any (.inl rfl) _ _ 30 rfl (w.heap.size + 1) 34 i0 _ 3 32 Try.underlying30 hi0 hz0 hz1 hz2 rfl (by decide) (.slice sa ll.length sc) ll.length _ rfl (HI.out.two _ (Cr.mk xn 9223372036854775807 true)).1 (some ⟨wz.heap.size + 1, 0, none⟩) 1 1 (Cr.cells (Cr.mk xn 9223372036854775807 true)) rfl rfl (HI.out.two _ (Cr.mk xn 9223372036854775807 true)).2.1 (crf_one' _) (by unfold maxLen; omega) (by omega) (HI.out.two _ (Cr.mk xn 9223372036854775807 true)).2.2.2 ?_)
                | fail)
              intro sv' w6 happ
              have hI6 := HI.out.app (HI.out.two _ (Cr.mk xn 9223372036854775807 true)).2.2.1 (Cr.mk xn 9223372036854775807 true) happ
              obtain ⟨va, vc, hsv, -, -, -, -⟩ := own_slice3 hI6.1
              subst hsv
              have HREL := Lib.hid (show Value.bool true = .bool (rcrd nm inc (cr.take (k + 1))).2 ∧ RcI w nm time inc rst (rcrd nm inc (cr.take (k + 1))).1 (.slice va (ll ++ [(Cr.mk xn 9223372036854775807 true)]).length vc) w6 from by
                rw [HRC.out]
                exact ⟨rfl, hI6⟩)
              clear happ hI6
              go_wp2
              go_roundw
              case rel => exact ⟨k + 1, by go_num, by omega, HREL.out.1, HREL.out.2⟩
              case measure => simp [intOf]; omega
            · have HRC := Lib.hid (show rcrd nm inc (cr.take (k + 1)) = (cr.take k ++ [(Cr.mk xn 9223372036854775807 true)], true) by rw [HTK.out, rcrd_eq hdn heq, HNEW.out])
              generalize cr.take k = ll at HI hln HRC
              obtain ⟨sa, sc, hsv, -, -, -, -⟩ := own_slice3 HI.out.1
              subst hsv
              clear hdn heq e0k HTK HSK HNEW
              go_wp2_with (first
                | (with_reducible refine step_append_any (.inl rfl) _ _ 30 rfl (w.heap.size + 1) 34 i0 _ 3 32 Try.underlying30 hi0 hz0 hz1 hz2 rfl (by decide) (.slice sa ll.length sc) ll.length _ rfl (HI.out.two _ (Cr.mk xn 9223372036854775807 true)).1 (some ⟨wz.heap.size + 1, 0, none⟩) 1 1 (Cr.cells (Cr.mk xn 9223372036854775807 true)) rfl rfl (HI.out.two _ (Cr.mk xn 9223372036854775807 true)).2.1 (crf_one' _) (by unfold maxLen; omega) (by omega) (HI.out.two _ (Cr.mk xn 9223372036854775807 true)).2.2.2 ?_)
                | fail)
              intro sv' w6 happ
              have hI6 := HI.out.app (HI.out.two _ (Cr.mk xn 9223372036854775807 true)).2.2.1 (Cr.mk xn 9223372036854775807 true) happ
              obtain ⟨va, vc, hsv, -, -, -, -⟩ := own_slice3 hI6.1
              subst hsv
              have HREL := Lib.hid (show Value.bool true = .bool (rcrd nm inc (cr.take (k + 1))).2 ∧ RcI w nm time inc rst (rcrd nm inc (cr.take (k + 1))).1 (.slice va (ll ++ [(Cr.mk xn 9223372036854775807 true)]).length vc) w6 from by
                rw [HRC.out]
                exact ⟨rfl, hI6⟩)
              clear happ hI6
              go_wp2
              go_roundw
              case rel => exact ⟨k + 1, by go_num, by omega, HREL.out.1, HREL.out.2⟩
              case measure => simp [intOf]; omega
          · have hwr : IntKind.wrap .i64 (xi + inc) = xi + inc := by rw [IntKind.wrap_i64]; omega
            have hnn : (xi + inc < 0) = False := by rw [eq_iff_iff, iff_false]; omega
            have HNEW := Lib.hid (show crNew (Cr.mk xn xi xo) nm inc = Cr.mk xn (xi + inc) xo by unfold crNew satI; simp only [if_neg hov, decide_eq_false hov, Bool.or_false, heq])
            cases xo
            · have HRC := Lib.hid (show rcrd nm inc (cr.take (k + 1)) = (cr.take k ++ [(Cr.mk xn (xi + inc) false)], true) by rw [HTK.out, rcrd_eq hdn heq, HNEW.out])
              generalize cr.take k = ll at HI hln HRC
              obtain ⟨sa, sc, hsv, -, -, -, -⟩ := own_slice3 HI.out.1
              subst hsv
              clear hdn heq e0k HTK HSK HNEW
              go_wp2_with (first
                | (with_reducible refine step_append_any (.inl rfl) _ _ 30 rfl (w.heap.size + 1) 34 i0 _ 3 32 Try.underlying30 hi0 hz0 hz1 hz2 rfl (by decide) (.slice sa ll.length sc) ll.length _ rfl (HI.out.two _ (Cr.mk xn (xi + inc) false)).1 (some ⟨wz.heap.size + 1, 0, none⟩) 1 1 (Cr.cells (Cr.mk xn (xi + inc) false)) rfl rfl (HI.out.two _ (Cr.mk xn (xi + inc) false)).2.1 (crf_one' _) (by unfold maxLen; omega) (by omega) (HI.out.two _ (Cr.mk xn (xi + inc) false)).2.2.2 ?_)
                | fail)
              intro sv' w6 happ
              have hI6 := HI.out.app (HI.out.two _ (Cr.mk xn (xi + inc) false)).2.2.1 (Cr.mk xn (xi + inc) false) happ
              obtain ⟨va, vc, hsv, -, -, -, -⟩ := own_slice3 hI6.1
              subst hsv
              have HREL := Lib.hid (show Value.bool true = .bool (rcrd nm inc (cr.take (k + 1))).2 ∧ RcI w nm time inc rst (rcrd nm inc (cr.take (k + 1))).1 (.slice va (ll ++ [(Cr.mk xn (xi + inc) false)]).length vc) w6 from by
                rw [HRC.out]
                exact ⟨rfl, hI6⟩)
              clear happ hI6
              go_wp2
              go_roundw
              case rel => exact ⟨k + 1, by go_num, by omega, HREL.out.1, HREL.out.2⟩
              case measure => simp [intOf]; omega
            · have HRC := Lib.hid (show rcrd nm inc (cr.take (k + 1)) = (cr.take k ++ [(Cr.mk xn (xi + inc) true)], true) by rw [HTK.out, rcrd_eq hdn heq, HNEW.out])
              generalize cr.take k = ll at HI hln HRC
              obtain ⟨sa, sc, hsv, -, -, -, -⟩ := own_slice3 HI.out.1
              subst hsv
              clear hdn heq e0k HTK HSK HNEW
              go_wp2_with (first
                | (with_reducible refine step_append_any (.inl rfl) _ _ 30 rfl (w.heap.size + 1) 34 i0 _ 3 32 Try.underlying30 hi0 hz0 hz1 hz2 rfl (by decide) (.slice sa ll.length sc) ll.length _ rfl (HI.out.two _ (Cr.mk xn (xi + inc) true)).1 (some ⟨wz.heap.size + 1, 0, none⟩) 1 1 (Cr.cells (Cr.mk xn (xi + inc) true)) rfl rfl (HI.out.two _ (Cr.mk xn (xi + inc) true)).2.1 (crf_one' _) (by unfold maxLen; omega) (by omega) (HI.out.two _ (Cr.mk xn (xi + inc) true)).2.2.2 ?_)
                | fail)
              intro sv' w6 happ
              have hI6 := HI.out.app (HI.out.two _ (Cr.mk xn (xi + inc) true)).2.2.1 (Cr.mk xn (xi + inc) true) happ
              obtain ⟨va, vc, hsv, -, -, -, -⟩ := own_slice3 hI6.1
              subst hsv
              have HREL := Lib.hid (show Value.bool true = .bool (rcrd nm inc (cr.take (k + 1))).2 ∧ RcI w nm time inc rst (rcrd nm inc (cr.take (k + 1))).1 (.slice va (ll ++ [(Cr.mk xn (xi + inc) true)]).length vc) w6 from by
                rw [HRC.out]
                exact ⟨rfl, hI6⟩)
              clear happ hI6
              go_wp2
              go_roundw
              case rel => exact ⟨k + 1, by go_num, by omega, HREL.out.1, HREL.out.2⟩
              case measure => simp [intOf]; omega
        · have HRC := Lib.hid (show rcrd nm inc (cr.take (k + 1)) = ((cr.take k ++ [Cr.mk nm inc false]) ++ [Cr.mk xn xi xo], true) by rw [HTK.out, rcrd_gt hdn hgt, crNew_z nm hi]; simp)
          obtain ⟨hbq, hbq2⟩ := not_eq_f (fun e : xn = nm => ordN.irr nm (by rwa [e] at hgt))
          have hbl : Op.bytesLess xn nm = false := by rw [bytesLess_eq]; exact decide_eq_false (fun h => ordN.irr _ (ordN.tr _ _ _ h hgt))
          generalize cr.take k = ll at HI hln HRC
          obtain ⟨sa, sc, hsv, -, -, -, -⟩ := own_slice3 HI.out.1
          subst hsv
          clear hdn hgt e0k HTK HSK
          go_wp2_with (first
            | (with_reducible refine step_append_any (.inl rfl) _ _ 30 rfl (w.heap.size + 1) 34 i0 _ 3 32 Try.underlying30 hi0 hz0 hz1 hz2 rfl (by decide) (.slice sa ll.length sc) ll.length _ rfl (HI.out.two _ (Cr.mk nm inc false)).1 (some ⟨wz.heap.size + 1, 0, none⟩) 1 1 (Cr.cells (Cr.mk nm inc false)) rfl rfl (HI.out.two _ (Cr.mk nm inc false)).2.1 (crf_one' _) (by unfold maxLen; omega) (by omega) (HI.out.two _ (Cr.mk nm inc false)).2.2.2 ?_)
            | fail)
          intro sv' w6 happ
          have hI6 := HI.out.app (HI.out.two _ (Cr.mk nm inc false)).2.2.1 (Cr.mk nm inc false) happ
          have hbox : w6.heap[wz.heap.size]? = some (crO (Cr.mk xn xi xo)) := HI.out.keep happ (Nat.le_refl _) (keeph' ((Below.refl _ _).alloc (Nat.le_refl _) _) (heap_alloc_new wz _))
          have hlm : (ll ++ [Cr.mk nm inc false]).length ≤ 1002 := by simp; omega
          generalize ll ++ [Cr.mk nm inc false] = lm at hI6 HRC hlm
          obtain ⟨sa6, sc6, hsv, -, -, -, -⟩ := own_slice3 hI6.1
          subst hsv
          have b0 : w6.cell? ⟨wz.heap.size, 0, none⟩ = some (.string ⟨xn.toArray⟩) := by rw [cell_of_row _ _ _ _ _ _ hbox]; rfl
          have b1 : w6.cell? ⟨wz.heap.size, 1, none⟩ = some (.int .i64 xi) := by rw [cell_of_row _ _ _ _ _ _ hbox]; rfl
          have b2 : w6.cell? ⟨wz.heap.size, 2, none⟩ = some (.bool xo) := by rw [cell_of_row _ _ _ _ _ _ hbox]; rfl
          have hbx : wz.heap.size < w6.heap.size := (Array.getElem?_eq_some_iff.1 hbox).1
          have HJ := Lib.hid hI6
          clear happ hI6 hbox HI
          go_wp2_with (first
            | (with_reducible refine step_append_any (.inl rfl) _ _ 30 rfl (w.heap.size + 1) 34 i0 _ 3 32 Try.underlying30 hi0 hz0 hz1 hz2 rfl (by decide) (.slice sa6 lm.length sc6) lm.length _ rfl (HJ.out.one (Cr.mk xn xi xo)).1 (some ⟨w6.heap.size, 0, none⟩) 1 1 (Cr.cells (Cr.mk xn xi xo)) rfl rfl (HJ.out.one (Cr.mk xn xi xo)).2.1 (crf_one' _) (by unfold maxLen; omega) (by omega) (HJ.out.one (Cr.mk xn xi xo)).2.2.2 ?_)
            | fail)
          intro sv' w6 happ
          have hI6 := HJ.out.app (HJ.out.one (Cr.mk xn xi xo)).2.2.1 (Cr.mk xn xi xo) happ
          obtain ⟨va, vc, hsv, -, -, -, -⟩ := own_slice3 hI6.1
          subst hsv
          have HREL := Lib.hid (show Value.bool true = .bool (rcrd nm inc (cr.take (k + 1))).2 ∧ RcI w nm time inc rst (rcrd nm inc (cr.take (k + 1))).1 (.slice va (lm ++ [(Cr.mk xn xi xo)]).length vc) w6 from by
            rw [HRC.out]
            exact ⟨rfl, hI6⟩)
          clear happ hI6
          go_wp2
          go_roundw
          case rel => exact ⟨k + 1, by go_num, by omega, HREL.out.1, HREL.out.2⟩
          case measure => simp [intOf]; omega
      · have hrc : rcrd nm inc (cr.take (k + 1)) = ((rcrd nm inc (cr.take k)).1 ++ [⟨xn, xi, xo⟩], true) := by rw [HTK.out]; exact rcrd_in hdn HSK.out
        have hdt : (rcrd nm inc (cr.take k)).2 = true := by unfold rcrd; rw [if_neg hdn]
        have hne : ¬ xn = nm := fun e => by
          refine hdn (fun c hc => ?_)
          have h9 := HSK.out
          unfold CS at h9
          rw [List.map_append, List.pairwise_append] at h9
          have h8 := h9.2.2 c.nm (List.mem_map.2 ⟨c, hc, rfl⟩) xn (by simp)
          rwa [e] at h8
        obtain ⟨hbq, hbq2⟩ := not_eq_f hne
        have HRC := Lib.hid hrc
        rw [hdt]
        clear hrc hdt hdn hne HTK HSK
        generalize (rcrd nm inc (cr.take k)).1 = ll at HI hln HRC
        obtain ⟨sa, sc, hsv, -, -, -, -⟩ := own_slice3 HI.out.1
        subst hsv
        go_wp2_with (first
          | (with_reducible refine step_append_any (.inl rfl) _ _ 30 rfl (w.heap.size + 1) 34 i0 _ 3 32 Try.underlying30 hi0 hz0 hz1 hz2 rfl (by decide) (.slice sa ll.length sc) ll.length _ rfl (HI.out.two _ (Cr.mk xn xi xo)).1 (some ⟨wz.heap.size + 1, 0, none⟩) 1 1 (Cr.cells (Cr.mk xn xi xo)) rfl rfl (HI.out.two _ (Cr.mk xn xi xo)).2.1 (crf_one' _) (by unfold maxLen; omega) (by omega) (HI.out.two _ (Cr.mk xn xi xo)).2.2.2 ?_)
          | fail)
        intro sv' w6 happ
        have hI6 := HI.out.app (HI.out.two _ (Cr.mk xn xi xo)).2.2.1 (Cr.mk xn xi xo) happ
        obtain ⟨va, vc, hsv, -, -, -, -⟩ := own_slice3 hI6.1
        subst hsv
        have HREL := Lib.hid (show Value.bool true = .bool (rcrd nm inc (cr.take (k + 1))).2 ∧ RcI w nm time inc rst (rcrd nm inc (cr.take (k + 1))).1 (.slice va (ll ++ [(Cr.mk xn xi xo)]).length vc) w6 from by
          rw [HRC.out]
          exact ⟨rfl, hI6⟩)
        clear happ hI6
        go_wp2
        go_roundw
        case rel => exact ⟨k + 1, by go_num, by omega, HREL.out.1, HREL.out.2⟩
        case measure => simp [intOf]; omega
    · obtain rfl : k = cr.length := by omega
      rw [List.take_length] at hI ⊢
      by_cases hall : ∀ c ∈ cr, c.nm < nm
      · have e : rcrd nm inc cr = (cr, false) := by unfold rcrd; rw [if_pos hall]
        have hp : crPut nm inc cr = cr ++ [Cr.mk nm inc false] := by
          have h9 := rcrd_done (nm := nm) (inc := inc) (cr := cr)
          rw [e, crNew_z nm hi] at h9
          exact h9.symm
        rw [e] at hI ⊢
        simp only at hI ⊢
        have HPP := Lib.hid hp
        obtain ⟨sa, sc, hsv, -, -, -, -⟩ := own_slice3 hI.1
        subst hsv
        have hG := hI.2.2
        have g0 : wz.cell? ⟨w.heap.size, 0, none⟩ = some (.string ⟨nm.toArray⟩) := by rw [cell_of_row _ _ _ _ _ _ hG]; rfl
        have g2 : wz.cell? ⟨w.heap.size, 2, none⟩ = some (.int .i64 inc) := by rw [cell_of_row _ _ _ _ _ _ hG]; rfl
        have hwl : w.heap.size < wz.heap.size := hI.lt
        have HI := Lib.hid hI
        clear hI hG hall e hp
        go_wp2_with (first
          | (with_reducible refine step_append_any (.inl rfl) _ _ 30 rfl (w.heap.size + 1) 34 i0 _ 3 32 Try.underlying30 hi0 hz0 hz1 hz2 rfl (by decide) (.slice sa cr.length sc) cr.length _ rfl (HI.out.one (Cr.mk nm inc false)).1 (some ⟨wz.heap.size, 0, none⟩) 1 1 (Cr.cells (Cr.mk nm inc false)) rfl rfl (HI.out.one (Cr.mk nm inc false)).2.1 (crf_one' _) (by unfold maxLen; omega) (by omega) (HI.out.one (Cr.mk nm inc false)).2.2.2 ?_)
          | fail)
        intro sv' w6 happ
        obtain ⟨va, vc, hsv, HF⟩ := (HI.out.app (HI.out.one (Cr.mk nm inc false)).2.2.1 (Cr.mk nm inc false) happ).ret
        subst hsv
        have HF := Lib.hid HF
        clear happ
        go_wp2
        go_ret
        rw [HPP.out]
        exact HF.out
      · have e : rcrd nm inc cr = (crPut nm inc cr, true) := by unfold rcrd; rw [if_neg hall]
        rw [e] at hI ⊢
        obtain ⟨va, vc, hsv, HF⟩ := hI.ret
        subst hsv
        have HF := Lib.hid HF
        clear hI e
        go_wp2
        go_ret
        exact HF.out
end Go.Proofs.Ytbkpgpaanhfjfaa
