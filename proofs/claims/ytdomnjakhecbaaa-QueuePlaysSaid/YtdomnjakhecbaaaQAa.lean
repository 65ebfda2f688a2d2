/- Acts in memory; are there few: the walk. -/
import Derived.Test.YtdomnjakhecbaaaQuW
import Derived.Test.YtdomnjakhecbaaaFrM
import Derived.Test.YtdomnjakhecbaaaFrQ
import Derived.Test.YtdomnjakhecbaaaQuP
import Derived.Test.YtdomnjakhecbaaaFrR
import Derived.Deep.QuietTactic
import Derived.BigQuiet
import Derived.Deep.CutRange
namespace Go.Proofs.Ytdomnjakhecbaaa
open Go.RowKit K
/-- An act. -/
structure ActR where
  kind : Int
  at_ : Int
  recs : List Rec
  ok : Bool
def ActV (w : World) (x : ActR) (cs : List Value) : Prop :=
  ∃ a c, cs = [.int .i64 x.kind, .int .i64 x.at_, .slice a x.recs.length c, .bool x.ok] ∧ (x.recs.length ≤ c ∧ c ≤ 9223372036854775807 ∧ (a = none → c = 0)) ∧ Rd w a (rcf x.recs)
def Acts (w : World) : List ActR → List Value → Prop
  | [], xs => xs = []
  | x :: l, xs => ∃ cs rest, xs = cs ++ rest ∧ ActV w x cs ∧ Acts w l rest
theorem ActV.below {w w' : World} {x : ActR} {cs : List Value} (h : ActV w x cs) (hb : Below w.heap.size w w') : ActV w' x cs := by
  obtain ⟨a, c, h1, h2, h3⟩ := h
  exact ⟨a, c, h1, h2, h3.below hb (Nat.le_refl _)⟩
theorem Acts.below {w w' : World} (hb : Below w.heap.size w w') : ∀ {l : List ActR} {xs : List Value}, Acts w l xs → Acts w' l xs
  | [], _, h => h
  | _ :: _, _, ⟨cs, rest, h1, h2, h3⟩ => ⟨cs, rest, h1, h2.below hb, Acts.below hb h3⟩
theorem Acts.at {w : World} : ∀ {l : List ActR} {xs : List Value}, Acts w l xs → ∀ (k : Nat) (x : ActR), l[k]? = some x → ∃ cs, ActV w x cs ∧ ∀ j, j < 4 → xs[4 * k + j]? = cs[j]?
  | [], _, _, k, x, hk => by simp at hk
  | y :: l, _, ⟨cs, rest, h1, ⟨a, c, e, h2⟩, h3⟩, 0, x, hk => by
    simp at hk
    subst hk
    exact ⟨cs, ⟨a, c, e, h2⟩, fun j hj => by rw [h1, List.getElem?_append_left (by rw [e]; simpa using hj)]; simp⟩
  | y :: l, _, ⟨cs, rest, h1, ⟨a, c, e, h2⟩, h3⟩, k + 1, x, hk => by
    obtain ⟨cs', h4, h5⟩ := Acts.at h3 k x (by simpa using hk)
    refine ⟨cs', h4, fun j hj => ?_⟩
    rw [h1, List.getElem?_append_right (by rw [e]; simp; omega), ← h5 j hj, e]
    congr 1
    simp
    omega
theorem acts_cells {w : World} {l : List ActR} {a : Option Addr} {xs : List Value} (h : Acts w l xs) (hr : Rd w a xs) (k : Nat) (x : ActR) (hk : l[k]? = some x) :
    ∃ b off ra rc, a = some ⟨b, off, none⟩ ∧ w.cell? ⟨b, off + k * 4, none⟩ = some (.int .i64 x.kind) ∧ w.cell? ⟨b, off + k * 4 + 1, none⟩ = some (.int .i64 x.at_) ∧ w.cell? ⟨b, off + k * 4 + 2, none⟩ = some (.slice ra x.recs.length rc) ∧ w.cell? ⟨b, off + k * 4 + 3, none⟩ = some (.bool x.ok) ∧
      (x.recs.length ≤ rc ∧ rc ≤ 9223372036854775807 ∧ (ra = none → rc = 0)) ∧ Rd w ra (rcf x.recs) := by
  obtain ⟨cs, ⟨ra, rc, rfl, h2, h3⟩, h5⟩ := h.at k x hk
  have e0 := h5 0 (by omega)
  have e1 := h5 1 (by omega)
  have e2 := h5 2 (by omega)
  have e3 := h5 3 (by omega)
  simp only [List.getElem?_cons_zero, List.getElem?_cons_succ, Nat.add_zero] at e0 e1 e2 e3
  obtain ⟨b, off, rfl, -, c0⟩ := hr.at e0
  obtain ⟨b', off', e, -, c1⟩ := hr.at e1
  cases e
  obtain ⟨b', off', e, -, c2⟩ := hr.at e2
  cases e
  obtain ⟨b', off', e, -, c3⟩ := hr.at e3
  cases e
  refine ⟨b, off, ra, rc, rfl, ?_, ?_, ?_, ?_, h2, h3⟩
  · rw [← c0, Nat.mul_comm]
  · rw [← c1, Nat.mul_comm, Nat.add_assoc]
  · rw [← c2, Nat.mul_comm, Nat.add_assoc]
  · rw [← c3, Nat.mul_comm, Nat.add_assoc]
def totR (l : List ActR) : Nat := (l.map fun x => x.recs.length).sum
theorem totR_succ (l : List ActR) (k : Nat) (x : ActR) (h : l[k]? = some x) : totR (l.take (k + 1)) = totR (l.take k) + x.recs.length := by
  obtain ⟨hk, rfl⟩ := List.getElem?_eq_some_iff.1 h
  unfold totR
  rw [List.take_succ_eq_append_getElem hk]
  simp only [List.map_append, List.map_cons, List.map_nil, List.sum_append, List.sum_cons, List.sum_nil, Nat.add_zero]
def FewP (w : World) (l : List ActR) (e : Ending) (w' : World) : Prop :=
  ∃ b, e = .returned (.bool b) ∧ Below w.heap.size w w' ∧ (b = true → l.length ≤ 60 ∧ totR l ≤ 200 ∧ ∀ x ∈ l, x.recs.length ≤ 60)
set_option maxHeartbeats 1000000 in
set_option maxRecDepth 100000 in
theorem few_any (w : World) (a : Option Addr) (c : Nat) (l : List ActR) (xs : List Value) (hx : Acts w l xs) (hr : Rd w a xs) (hl : l.length ≤ 9223372036854775807) (hs : ∀ x ∈ l, x.recs.length ≤ 9223372036854775807 ∧ ∀ r ∈ x.recs, r.name.size ≤ 140737488355328) :
    Calls Try.prog 17 #[.slice a l.length c, .int .i64 60] w (FewP w l) := by
  have HX := Lib.hid hx
  have HR := Lib.hid hr
  have HS := Lib.hid hs
  clear hx hr hs
  go_enter Try.func17, Try.ntmps17
  go_wp2
  go_loopw [5, 6] (fun n i wr => ∃ k : Nat, k ≤ l.length ∧ k ≤ 61 ∧ i = .int .i64 k ∧ n = .int .i64 (totR (l.take k) : Nat) ∧ totR (l.take k) ≤ k * 60 ∧ Below w.heap.size w wr ∧ ∀ x ∈ l.take k, x.recs.length ≤ 60) (fun _ i _ => 61 - (intOf i).toNat)
  case atStart => exact ⟨0, Nat.zero_le _, by omega, rfl, rfl, by simp [totR], Below.refl _ _, by simp⟩
  case round =>
    obtain ⟨k, hk, hk61, rfl, rfl, ht, hb, hall⟩ := hrel
    by_cases hc : k < l.length
    · by_cases hc2 : k ≤ 60
      · obtain ⟨x, hkx⟩ : ∃ x, l[k]? = some x := ⟨_, List.getElem?_eq_getElem hc⟩
        obtain ⟨b, off, ra, rc, rfl, -, -, c2, -, hcc, hrr⟩ := acts_cells (Acts.below hb HX.out) (HR.out.below hb (Nat.le_refl _)) k x hkx
        have HM := Lib.hid (fun W (h : Below wr.heap.size wr W) => much_any W 0 0 ra rc x.recs (HS.out x (List.mem_of_getElem? hkx)).1 (HS.out x (List.mem_of_getElem? hkx)).2 (hrr.below h (Nat.le_refl _)))
        unfold frv at HM
        have HB := Lib.hid hb
        have HSUM := Lib.hid (totR_succ l k x hkx)
        have HALL := Lib.hid hall
        clear hrr hcc hb hall
        go_wp2_with fail
        refine (HM.out wr (Below.refl _ _)).mono ?_
        rintro e w2 ⟨rfl, hb2⟩
        have c22 := keepc hb2 c2
        have HB2 := Lib.hid (HB.out.trans (hb2.mono HB.out.size))
        clear hb2 c2
        cases hm : muchB x.recs with
        | true =>
          go_wp2
          go_ret
          exact ⟨false, rfl, HB2.out, fun h => by cases h⟩
        | false =>
          have hx60 : x.recs.length ≤ 60 := by
            unfold muchB at hm
            rw [Bool.or_eq_false_iff, decide_eq_false_iff_not] at hm
            omega
          clear hm
          go_wp2
          go_roundw
          case rel =>
            refine ⟨k + 1, by omega, by omega, by go_num, ?_, by rw [HSUM.out]; omega, HB2.out, fun y hy => ?_⟩
            · rw [HSUM.out]
              go_num
            · rw [List.take_add_one, List.mem_append] at hy
              rcases hy with hy | hy
              · exact HALL.out y hy
              · rw [hkx] at hy
                simp at hy
                rw [hy]
                exact hx60
          case measure => simp [intOf]; omega
      · have hlt : ¬ l.length ≤ 60 := by omega
        go_wp2
        all_goals
          go_ret
          refine ⟨_, rfl, hb, fun h => ?_⟩
          simp at h
          try omega
    · obtain rfl : k = l.length := by omega
      rw [List.take_length] at ht hall ⊢
      by_cases h60 : l.length ≤ 60
      · have h61 : ¬ 60 < l.length := by omega
        go_wp2
        all_goals
          go_ret
          refine ⟨_, rfl, hb, fun h => ⟨h60, ?_, hall⟩⟩
          simp at h
          omega
      · go_wp2
        all_goals
          go_ret
          refine ⟨_, rfl, hb, fun h => ?_⟩
          simp at h
          try omega
end Go.Proofs.Ytdomnjakhecbaaa
namespace Go.Proofs.Ytdomnjakhecbaaa
open Go.RowKit K
/-- A refusal or an acknowledgement: the same answer, and both stand alike behind it. -/
theorem rel_ans {s : QR} {fs : List Frm} {t : RQ} {L : List Frm} {gn : Nat} (h : QRel s fs t L gn) (hs : t.at_ = true → gn < L.length) (ok : Bool) (now : Int) :
    (ansR s fs ok now).1 = (ransR t ok now).1 ∧ ∃ gn', QRel (ansR s fs ok now).2.1 (ansR s fs ok now).2.2 (ransR t ok now).2 L gn' ∧ (ransR t ok now).2.at_ = false := by
  unfold ansR ransR
  rw [h.sink, h.base, h.longest, h.tries]
  by_cases h0 : t.at_ = false
  · rw [if_pos h0, if_pos h0]
    exact ⟨rfl, gn, h, h0⟩
  · rw [if_neg h0, if_neg h0]
    have h1 : t.at_ = true := by simpa using h0
    have hl := hs h1
    by_cases h2 : ok = true
    · rw [if_pos h2, if_pos h2]
      refine ⟨rfl, gn + 1, ⟨?_, by omega, ?_, h.put, ?_, h.dropped, rfl, rfl, rfl, h.most, rfl, rfl⟩, rfl⟩
      · show t.gone + 1 = ((gn + 1 : Nat) : Int)
        rw [h.gone]
        omega
      · show fs.drop 1 = L.drop (gn + 1)
        rw [h.fr, List.drop_drop]
      · show s.acked + 1 = t.gone + 1
        rw [h.acked]
    · rw [if_neg h2, if_neg h2]
      exact ⟨rfl, gn, ⟨h.gone, h.le, h.fr, h.put, h.acked, h.dropped, rfl, rfl, rfl, h.most, rfl, rfl⟩, rfl⟩
/-- A Put: the same number and error, and both stand alike behind it. -/
theorem rel_put {s : QR} {fs : List Frm} {t : RQ} {L : List Frm} {gn : Nat} (h : QRel s fs t L gn) (win : Int) (xs : List Rec) :
    (putR s fs win xs).1 = (rputR t L win xs).1 ∧ QRel (putR s fs win xs).2.1 (putR s fs win xs).2.2 (rputR t L win xs).2.1 (rputR t L win xs).2.2 gn := by
  unfold putR rputR
  rw [h.put, h.most]
  by_cases h0 : mayB ((L.length : Int) + 1) win xs = false
  · rw [if_pos h0, if_pos h0]
    exact ⟨rfl, h⟩
  · rw [if_neg h0, if_neg h0, ← h.len]
    by_cases h1 : t.most ≤ (fs.length : Int)
    · rw [if_pos h1, if_pos h1]
      exact ⟨rfl, ⟨h.gone, h.le, h.fr, rfl, h.acked, by show s.dropped + 1 = t.drop + 1; rw [h.dropped], h.sink, h.time, h.tries, rfl, h.base, h.longest⟩⟩
    · rw [if_neg h1, if_neg h1]
      refine ⟨rfl, ⟨h.gone, by simp only [List.length_append]; have := h.le; omega, ?_, ?_, h.acked, h.dropped, h.sink, h.time, h.tries, rfl, h.base, h.longest⟩⟩
      · show fs ++ _ = _
        rw [h.fr, List.drop_append_of_le_length h.le]
      · show (L.length : Int) + 1 = _
        simp
/-- Answer, of whatever queue. -/
theorem qans {w : World} {g : Nat} {s : QR} {fs : List Frm} {M : Nat → Prop} (h : QSt w g s fs M) (ok : Bool) (now : Int) (hs : s.sink = true → 0 < fs.length) (hm : fs.length ≤ 1000000) (ha : 0 ≤ s.acked ∧ s.acked ≤ 1000000) (hb : 1 ≤ s.base) (hb2 : s.base ≤ s.longest) (hlg : s.longest ≤ 9223372036854775807) (hnow : -9223372036854775808 ≤ now ∧ now ≤ 9223372036854775807) (htr : 0 ≤ s.tries ∧ s.tries ≤ 1000000) :
    Calls Try.prog 14 #[.pointer (some ⟨g, 0, none⟩), .bool ok, .int .i64 now] w (AnsP w g M (ansR s fs ok now)) := by
  by_cases h0 : s.sink = false
  · exact qanswer_no h ok now h0
  · have h1 : s.sink = true := by simpa using h0
    cases ok with
    | true => exact qanswer_ok h now h1 (hs h1) hm ha
    | false => exact qanswer_off h now h1 hb hb2 hlg hnow s.tries.toNat (by omega) (by omega)
theorem rans {w : World} {g : Nat} {s : RQ} {L : List Frm} {M : Nat → Prop} (h : RSt w g s L M) (ok : Bool) (now : Int) (ha : 0 ≤ s.gone ∧ s.gone ≤ 1000000) (hb : 1 ≤ s.base) (hb2 : s.base ≤ s.longest) (hlg : s.longest ≤ 9223372036854775807) (hnow : -9223372036854775808 ≤ now ∧ now ≤ 9223372036854775807) (htr : 0 ≤ s.tries ∧ s.tries ≤ 1000000) :
    Calls Try.prog 25 #[.pointer (some ⟨g, 0, none⟩), .bool ok, .int .i64 now] w (RAnsP w g L M (ransR s ok now)) := by
  by_cases h0 : s.at_ = false
  · exact ranswer_no h ok now h0
  · have h1 : s.at_ = true := by simpa using h0
    cases ok with
    | true => exact ranswer_ok h now h1 ha
    | false => exact ranswer_off h now h1 hb hb2 hlg hnow s.tries.toNat (by omega) (by omega)
set_option maxHeartbeats 400000 in
set_option maxRecDepth 100000 in
/-- 'do' of an act of another kind does nothing. -/
theorem do_none (w : World) (v1 v2 : Value) (k at_ : Int) (a : Option Addr) (n c : Nat) (ok : Bool) (h1 : k ≠ 1) (h2 : k ≠ 2) (h3 : k ≠ 3) :
    Calls Try.prog 20 #[v1, v2, .agg #[.int .i64 k, .int .i64 at_, .slice a n c, .bool ok]] w fun e w' => e = .returned (.bool true) ∧ Below w.heap.size w w' := by
  go_enter Try.func20, Try.ntmps20
  go_wp2
  go_ret
  exact ⟨rfl, (Below.refl _ _).alloc (Nat.le_refl _) _⟩
theorem ansR_code (s : QR) (fs : List Frm) (ok : Bool) (now : Int) : (ansR s fs ok now).1 = 0 ∨ (ansR s fs ok now).1 = 7 := by
  unfold ansR
  split
  · exact .inr rfl
  · split
    · exact .inl rfl
    · exact .inl rfl
end Go.Proofs.Ytdomnjakhecbaaa
namespace Go.Proofs.Ytdomnjakhecbaaa
open Go.RowKit K
theorem drew_below (W : World) : Below W.heap.size W W.drew := ⟨rfl, rfl, rfl, Nat.le_refl _, fun _ _ => rfl⟩
set_option maxHeartbeats 1000000 in
set_option maxRecDepth 100000 in
/-- 'do' of an answer. -/
theorem do_ans {w : World} {g gr : Nat} {s : QR} {fs : List Frm} {t : RQ} {L : List Frm} {gn : Nat} {M Mr : Nat → Prop} (h1 : QSt w g s fs M) (h2 : RSt w gr t L Mr) (hd : ∀ k, M k → ¬ Mr k) (rel : QRel s fs t L gn) (hs : t.at_ = true → gn < L.length) (hL : L.length ≤ 1000000)
    (hb : 1 ≤ t.base) (hb2 : t.base ≤ t.longest) (hlg : t.longest ≤ 9223372036854775807) (htr : 0 ≤ t.tries ∧ t.tries ≤ 1000000) (at_ : Int) (hat : -9223372036854775808 ≤ at_ ∧ at_ ≤ 9223372036854775807) (a : Option Addr) (n c : Nat) (ok : Bool) :
    Calls Try.prog 20 #[.pointer (some ⟨g, 0, none⟩), .pointer (some ⟨gr, 0, none⟩), .agg #[.int .i64 3, .int .i64 at_, .slice a n c, .bool ok]] w fun e w' => e = .returned (.bool true) ∧ QSt w' g (ansR s fs ok at_).2.1 (ansR s fs ok at_).2.2 M ∧ RSt w' gr (ransR t ok at_).2 L Mr ∧ Only (fun k => M k ∨ Mr k) w w' := by
  have hgn := rel.le
  have hg := rel.gone
  have hac := rel.acked
  have HA := Lib.hid (fun W (hw : QSt W g s fs M ∧ RSt W gr t L Mr) => (show Calls Try.prog 14 #[.pointer (some ⟨g, 0, none⟩), .bool ok, .int .i64 at_] W fun e w' => e = .returned (.int .i64 (ansR s fs ok at_).1) ∧ (QSt w' g (ansR s fs ok at_).2.1 (ansR s fs ok at_).2.2 M ∧ RSt w' gr t L Mr) ∧ Only M W w' from by
    refine (qans hw.1 ok at_ (fun e => by rw [rel.fr, List.length_drop]; have := hs (by rw [← rel.sink]; exact e); omega) (by rw [rel.fr, List.length_drop]; omega) (by omega) (by rw [rel.base]; exact hb) (by rw [rel.base, rel.longest]; exact hb2) (by rw [rel.longest]; exact hlg) hat (by rw [rel.tries]; exact htr)).mono ?_
    rintro e w' ⟨rfl, hq, hon⟩
    exact ⟨rfl, ⟨hq, hw.2.only hon (fun k hk hm => hd k hm hk)⟩, hon⟩))
  have HR := Lib.hid (fun W (hw : QSt W g (ansR s fs ok at_).2.1 (ansR s fs ok at_).2.2 M ∧ RSt W gr t L Mr) => (show Calls Try.prog 25 #[.pointer (some ⟨gr, 0, none⟩), .bool ok, .int .i64 at_] W fun e w' => e = .returned (.int .i64 (ansR s fs ok at_).1) ∧ (QSt w' g (ansR s fs ok at_).2.1 (ansR s fs ok at_).2.2 M ∧ RSt w' gr (ransR t ok at_).2 L Mr) ∧ Only Mr W w' from by
    rw [(rel_ans rel hs ok at_).1]
    refine (rans hw.2 ok at_ (by omega) hb hb2 hlg hat htr).mono ?_
    rintro e w' ⟨rfl, hq, hon⟩
    exact ⟨rfl, ⟨hw.1.only hon (fun k hk hm => hd k hk hm), hq⟩, hon⟩))
  have hnb : Below w.heap.size w (w.alloc (.cells #[.int .i64 3, .int .i64 at_, .slice a n c, .bool ok] 50)).drew := ((Below.refl _ w).alloc (Nat.le_refl _) _).trans ((drew_below _).mono (by simp))
  have H0 := Lib.hid (show QSt (w.alloc (.cells #[.int .i64 3, .int .i64 at_, .slice a n c, .bool ok] 50)).drew g s fs M ∧ RSt (w.alloc (.cells #[.int .i64 3, .int .i64 at_, .slice a n c, .bool ok] 50)).drew gr t L Mr from ⟨h1.new hnb, h2.new hnb⟩)
  have HAB := Lib.hid (show ¬ M w.heap.size ∧ ¬ Mr w.heap.size from ⟨fun h => by have := h1.lt _ h; omega, fun h => by have := h2.lt _ h; omega⟩)
  have HON := Lib.hid (Only.of_new (F := fun k => M k ∨ Mr k) hnb)
  have hcode := ansR_code s fs ok at_
  clear h1 h2 hd rel hs hnb
  rcases hcode with hx | hx
  all_goals
    rw [hx] at HA HR
    clear hx hg hac hgn
    go_enter Try.func20, Try.ntmps20
    go_wp2_with fail
    refine wp_region_noPanic ?_
    refine wp_region_held_drew (S := (fun w' => w'.cell? ⟨w.heap.size, 1, none⟩ = some (.int .i64 at_) ∧ w'.cell? ⟨w.heap.size, 3, none⟩ = some (.bool ok))) (by kernel_rfl) ?_ (fun hHeld => ?_)
    · exact ⟨by rw [show ∀ p, (w.alloc (.cells #[.int .i64 3, .int .i64 at_, .slice a n c, .bool ok] 50)).drew.cell? p = (w.alloc (.cells #[.int .i64 3, .int .i64 at_, .slice a n c, .bool ok] 50)).cell? p from fun _ => rfl, cell_of_row _ _ _ _ _ _ (heap_alloc_new w _)]; rfl, by rw [show ∀ p, (w.alloc (.cells #[.int .i64 3, .int .i64 at_, .slice a n c, .bool ok] 50)).drew.cell? p = (w.alloc (.cells #[.int .i64 3, .int .i64 at_, .slice a n c, .bool ok] 50)).cell? p from fun _ => rfl, cell_of_row _ _ _ _ _ _ (heap_alloc_new w _)]; rfl⟩
    refine wpAnyH_take (i := 0) (oi := _) (v := ?_) rfl (by kernel_rfl) (by kernel_rfl) (by kernel_rfl) (fun _ _ _ h => h) (Or.inl ⟨by rfl, ?_⟩) (by assumption) ?_
    rotate_left 1
    · (intro w hSw; (try dsimp only at hSw); (obtain ⟨q0, q1⟩ := hSw; go_simp); (try with_reducible rfl))
    try simp only [Act.put, List.getElem_toArray, List.getElem_cons_zero, List.setIfInBounds_toArray, List.set_cons_zero, List.set_cons_succ]
    refine wpAnyH_take (i := 1) (oi := _) (v := ?_) rfl (by kernel_rfl) (by kernel_rfl) (by kernel_rfl) (fun _ _ _ h => h) (Or.inl ⟨by rfl, ?_⟩) (by assumption) ?_
    rotate_left 1
    · (intro w hSw; (try dsimp only at hSw); (obtain ⟨q0, q1⟩ := hSw; go_simp); (try with_reducible rfl))
    try simp only [Act.put, List.getElem_toArray, List.getElem_cons_succ, List.getElem_cons_zero, List.setIfInBounds_toArray, List.set_cons_zero, List.set_cons_succ]
    refine wpAnyH_take (i := 2) (oi := _) (v := ?_) rfl (by kernel_rfl) (by kernel_rfl) (by kernel_rfl) (fun _ _ _ h => h) (Or.inl ⟨by rfl, ?_⟩) (by assumption) ?_
    rotate_left 1
    · (intro w hSw; (try dsimp only at hSw); (obtain ⟨q0, q1⟩ := hSw; go_simp); (try with_reducible rfl))
    try simp only [Act.put, List.getElem_toArray, List.getElem_cons_succ, List.getElem_cons_zero, List.setIfInBounds_toArray, List.set_cons_zero, List.set_cons_succ]
    refine wpAnyH_take (i := 3) (oi := _) (v := ?_) rfl (by kernel_rfl) (by kernel_rfl) (by kernel_rfl) (fun _ _ _ h => h) (Or.inl ⟨by rfl, ?_⟩) (by assumption) ?_
    rotate_left 1
    · (intro w hSw; (try dsimp only at hSw); (obtain ⟨q0, q1⟩ := hSw; go_simp); (try with_reducible rfl))
    try simp only [Act.put, List.getElem_toArray, List.getElem_cons_succ, List.getElem_cons_zero, List.setIfInBounds_toArray, List.set_cons_zero, List.set_cons_succ]
    refine wpAnyH_take (i := 4) (oi := _) (v := ?_) rfl (by kernel_rfl) (by kernel_rfl) (by kernel_rfl) (fun _ _ _ h => h) (Or.inl ⟨by rfl, ?_⟩) (by assumption) ?_
    rotate_left 1
    · (intro w hSw; (try dsimp only at hSw); (obtain ⟨q0, q1⟩ := hSw; go_simp); (try with_reducible rfl))
    try simp only [Act.put, List.getElem_toArray, List.getElem_cons_succ, List.getElem_cons_zero, List.setIfInBounds_toArray, List.set_cons_zero, List.set_cons_succ]
    refine wpAnyH_take (i := 6) (oi := _) (v := ?_) rfl (by kernel_rfl) (by kernel_rfl) (by kernel_rfl) (fun _ _ _ h => h) (Or.inl ⟨by rfl, ?_⟩) (by assumption) ?_
    rotate_left 1
    · (intro w hSw; (try dsimp only at hSw); (obtain ⟨q0, q1⟩ := hSw; go_simp); (try with_reducible rfl))
    try simp only [Act.put, List.getElem_toArray, List.getElem_cons_succ, List.getElem_cons_zero, List.setIfInBounds_toArray, List.set_cons_zero, List.set_cons_succ]
    refine wpAnyH_take (i := 7) (oi := _) (v := ?_) rfl (by kernel_rfl) (by kernel_rfl) (by kernel_rfl) (fun _ _ _ h => h) (Or.inl ⟨by rfl, ?_⟩) (by assumption) ?_
    rotate_left 1
    · (intro w hSw; (try dsimp only at hSw); (obtain ⟨q0, q1⟩ := hSw; go_simp); (try with_reducible rfl))
    try simp only [Act.put, List.getElem_toArray, List.getElem_cons_succ, List.getElem_cons_zero, List.setIfInBounds_toArray, List.set_cons_zero, List.set_cons_succ]
    refine wpAnyH_take (i := 8) (oi := _) (v := ?_) rfl (by kernel_rfl) (by kernel_rfl) (by kernel_rfl) (fun _ _ _ h => h) (Or.inl ⟨by rfl, ?_⟩) (by assumption) ?_
    rotate_left 1
    · (intro w hSw; (try dsimp only at hSw); (obtain ⟨q0, q1⟩ := hSw; go_simp); (try with_reducible rfl))
    try simp only [Act.put, List.getElem_toArray, List.getElem_cons_succ, List.getElem_cons_zero, List.setIfInBounds_toArray, List.set_cons_zero, List.set_cons_succ]
    refine wpAnyH_take (i := 9) (oi := _) (v := ?_) rfl (by kernel_rfl) (by kernel_rfl) (by kernel_rfl) (fun _ _ _ h => h) (Or.inl ⟨by rfl, ?_⟩) (by assumption) ?_
    rotate_left 1
    · (intro w hSw; (try dsimp only at hSw); (obtain ⟨q0, q1⟩ := hSw; go_simp); (try with_reducible rfl))
    try simp only [Act.put, List.getElem_toArray, List.getElem_cons_succ, List.getElem_cons_zero, List.setIfInBounds_toArray, List.set_cons_zero, List.set_cons_succ]
    refine wpAnyH_take (i := 10) (oi := _) (v := ?_) rfl (by kernel_rfl) (by kernel_rfl) (by kernel_rfl) (fun _ _ _ h => h) (Or.inl ⟨by rfl, ?_⟩) (by assumption) ?_
    rotate_left 1
    · (intro w hSw; (try dsimp only at hSw); (obtain ⟨q0, q1⟩ := hSw; go_simp); (try with_reducible rfl))
    try simp only [Act.put, List.getElem_toArray, List.getElem_cons_succ, List.getElem_cons_zero, List.setIfInBounds_toArray, List.set_cons_zero, List.set_cons_succ]
    refine wpAnyH_ready (rs := [5]) (by kernel_rfl) (by simp) ?_
    refine AllReadyH.cons (o := _) rfl (fun K hK => ?_) AllReadyH.nil
    go_simp
    refine (HA.out _ H0.out).mono ?_
    rintro e w2 ⟨rfl, h2, ho2⟩
    go_wp2_with fail
    refine hK.out _ _ ?_ (fun hHeld5 => ?_)
    · exact ⟨ho2.cell hHeld.1 HAB.out.1, ho2.cell hHeld.2 HAB.out.1⟩
    clear hK K
    try simp only [Act.put, List.getElem_toArray, List.getElem_cons_succ, List.getElem_cons_zero, List.setIfInBounds_toArray, List.set_cons_zero, List.set_cons_succ]
    refine wpAnyH_ready (rs := [11]) (by kernel_rfl) (by simp) ?_
    refine AllReadyH.cons (o := _) rfl (fun K hK => ?_) AllReadyH.nil
    go_simp
    refine (HR.out _ h2).mono ?_
    rintro e w3 ⟨rfl, h3, ho3⟩
    go_wp2_with fail
    refine hK.out _ _ ?_ (fun hHeld11 => ?_)
    · exact ⟨ho3.cell hHeld5.1 HAB.out.2, ho3.cell hHeld5.2 HAB.out.2⟩
    clear hK K
    try simp only [Act.put, List.getElem_toArray, List.getElem_cons_succ, List.getElem_cons_zero, List.setIfInBounds_toArray, List.set_cons_zero, List.set_cons_succ]
    refine wpAnyH_take (i := 12) (oi := _) (v := ?_) rfl (by kernel_rfl) (by kernel_rfl) (by kernel_rfl) (fun _ _ _ h => h) (Or.inl ⟨by rfl, ?_⟩) (by assumption) ?_
    rotate_left 1
    · (intro w hSw; (try dsimp only at hSw); (obtain ⟨q0, q1⟩ := hSw; go_simp); (try with_reducible rfl))
    try simp only [Act.put, List.getElem_toArray, List.getElem_cons_succ, List.getElem_cons_zero, List.setIfInBounds_toArray, List.set_cons_zero, List.set_cons_succ]
    refine wpAnyH_take (i := 13) (oi := _) (v := ?_) rfl (by kernel_rfl) (by kernel_rfl) (by kernel_rfl) (fun _ _ _ h => h) (Or.inl ⟨by rfl, ?_⟩) (by assumption) ?_
    rotate_left 1
    · (intro w hSw; (try dsimp only at hSw); (obtain ⟨q0, q1⟩ := hSw; go_simp); (try with_reducible rfl))
    try simp only [Act.put, List.getElem_toArray, List.getElem_cons_succ, List.getElem_cons_zero, List.setIfInBounds_toArray, List.set_cons_zero, List.set_cons_succ]
    refine wpAnyH_done (by kernel_rfl) ?_ _
    refine NoPanic.normal ?_
    go_wp2
    go_ret
    exact ⟨rfl, h3.1, h3.2, (HON.out.trans ho2 (fun _ _ h => .inl h)).trans ho3 (fun _ _ h => .inr h)⟩
end Go.Proofs.Ytdomnjakhecbaaa
namespace Go.Proofs.Ytdomnjakhecbaaa
open Go.RowKit K
/-- An act and where its records lie. -/
structure ActC where
  x : ActR
  a : Option Addr
  c : Nat
def ActC.cells (y : ActC) : List Value := [.int .i64 y.x.kind, .int .i64 y.x.at_, .slice y.a y.x.recs.length y.c, .bool y.x.ok]
/-- An act's numbers and records fit. -/
def ActOk (x : ActR) : Prop := (-9223372036854775808 ≤ x.at_ ∧ x.at_ ≤ 9223372036854775807) ∧ x.recs.length ≤ 9223372036854775807 ∧ ∀ r ∈ x.recs, RecFit r
def ActC.Q (w : World) (y : ActC) : Prop := ActOk y.x ∧ (y.x.recs.length ≤ y.c ∧ y.c ≤ 9223372036854775807 ∧ (y.a = none → y.c = 0)) ∧ Rd w y.a (rcf y.x.recs)
theorem acts_of {w : World} : ∀ ys : List ActC, (∀ y ∈ ys, y.Q w) → Acts w (ys.map ActC.x) (ys.flatMap ActC.cells)
  | [], _ => rfl
  | y :: ys, h => ⟨y.cells, ys.flatMap ActC.cells, rfl, ⟨y.a, y.c, rfl, (h y (by simp)).2.1, (h y (by simp)).2.2⟩, acts_of ys fun z hz => h z (by simp [hz])⟩
theorem cAct : Try.prog.cellsOf 50 = 4 := by kernel_rfl
theorem c3_ : Try.prog.cellsOf 3 = 1 := by kernel_rfl
theorem list_four {α : Type} {cs : List α} (h : cs.length = 4) : ∃ a b c d, cs = [a, b, c, d] := by
  match cs, h with
  | [a, b, c, d], _ => exact ⟨a, b, c, d, rfl⟩
theorem fit_act {w : World} {n : Nat} {cs : List Value} (h : Fit Try.prog w n 50 cs) : ∃ y : ActC, cs = y.cells ∧ y.Q w := by
  obtain ⟨m, hl, hf⟩ := fit_struct h Try.underlying50
  rw [cAct] at hl
  obtain ⟨a, b, c, d, rfl⟩ := list_four hl
  have h0 := hf 0 _ rfl
  have h1 := hf 1 _ rfl
  have h2 := hf 2 _ rfl
  have h3 := hf 3 _ rfl
  simp only [List.getElem_toArray, List.getElem_cons_zero, List.getElem_cons_succ, c2_, c3_, c4_, c23, List.drop_zero, List.drop_succ_cons, List.take_succ_cons, List.take_zero] at h0 h1 h2 h3
  obtain ⟨z0, e0, w0⟩ := fit_int h0 Try.underlying3
  obtain ⟨z1, e1, w1⟩ := fit_int h1 Try.underlying2
  obtain ⟨ad, cap, xs, e2, k1, k2, k3, k4, k5, k6⟩ := fit_recs h2
  obtain ⟨b3, e3⟩ := fit_bool h3 Try.underlying4
  simp only [List.cons.injEq, and_true] at e0 e1 e2 e3
  subst e0 e1 e2 e3
  exact ⟨⟨⟨z0, z1, xs, b3⟩, ad, cap⟩, rfl, ⟨wf64 w1, by show xs.length ≤ _; omega, k5⟩, ⟨k1, k2, k3⟩, k6⟩
open Go.WideShapes in
theorem open_acts {W : World} {base n : Nat} {v : Value} (ok : Value.okWide Try.prog W .any base 45 v) (h : Fit Try.prog W n 45 v.cells.toList) :
    ∃ a c l xs, v = .slice a (l : List ActR).length c ∧ Acts W l xs ∧ Rd W a xs ∧ l.length ≤ 9223372036854775807 ∧ ∀ x ∈ l, ActOk x := by
  obtain ⟨a0, len, cap, rfl⟩ := okWide_slice Try.underlying45 ok
  obtain ⟨a, c, ys, e, h1, h2, h3, -, h5, h6⟩ := fit_slice ActC.cells (ActC.Q W) h Try.underlying45 (fun m x _ hx => fit_act hx)
  simp only [Value.cells, List.cons.injEq, and_true, Value.slice.injEq] at e
  obtain ⟨rfl, rfl, rfl⟩ := e
  refine ⟨a0, cap, ys.map ActC.x, _, by rw [List.length_map], acts_of ys h5, h6, by rw [List.length_map]; omega, fun x hx => ?_⟩
  obtain ⟨y, hy, rfl⟩ := List.mem_map.1 hx
  exact (h5 y hy).1
end Go.Proofs.Ytdomnjakhecbaaa
namespace Go.Proofs.Ytdomnjakhecbaaa
open Go.RowKit K
structure QInv (s : QR) (fs : List Frm) (t : RQ) (L : List Frm) (gn n : Nat) : Prop where
  rel : QRel s fs t L gn
  sink : t.at_ = true → gn < L.length
  b1 : 1 ≤ t.base
  b2 : t.base ≤ t.longest
  b3 : t.longest ≤ 9223372036854775807
  tr : 0 ≤ t.tries ∧ t.tries ≤ n
  dr : 0 ≤ t.drop ∧ t.drop ≤ n
  len : L.length ≤ n
  ok : ∀ f ∈ L, FOk f ∧ f.recs.length ≤ 60
  most : (L.length : Int) - t.gone ≤ t.most
/-- May a frame of these be put? -/
def mayP (win : Int) (xs : List Rec) : Bool := mayB 1 win xs
theorem mayB_one (q win : Int) (xs : List Rec) (h : 1 ≤ q) : mayB q win xs = mayP win xs := by
  unfold mayP mayB
  rw [decide_eq_true h]
  rfl
theorem QInv.more {s : QR} {fs : List Frm} {t : RQ} {L : List Frm} {gn n : Nat} (h : QInv s fs t L gn n) : QInv s fs t L gn (n + 1) :=
  ⟨h.rel, h.sink, h.b1, h.b2, h.b3, ⟨h.tr.1, by have := h.tr.2; omega⟩, ⟨h.dr.1, by have := h.dr.2; omega⟩, by have := h.len; omega, h.ok, h.most⟩
theorem QInv.gn0 {s : QR} {fs : List Frm} {t : RQ} {L : List Frm} {gn n : Nat} (h : QInv s fs t L gn n) : 0 ≤ t.gone ∧ t.gone ≤ L.length := by
  have := h.rel.gone
  have := h.rel.le
  omega
/-- Behind an answer. -/
theorem QInv.ans {s : QR} {fs : List Frm} {t : RQ} {L : List Frm} {gn n : Nat} (h : QInv s fs t L gn n) (ok : Bool) (now : Int) :
    ∃ gn', QInv (ansR s fs ok now).2.1 (ansR s fs ok now).2.2 (ransR t ok now).2 L gn' (n + 1) ∧ (ransR t ok now).2.drop = t.drop ∧ (ransR t ok now).2.most = t.most := by
  obtain ⟨_, gn', h1, h2⟩ := rel_ans h.rel h.sink ok now
  have hm := h.more
  have hq : (ransR t ok now).2.drop = t.drop ∧ (ransR t ok now).2.most = t.most ∧ (ransR t ok now).2.base = t.base ∧ (ransR t ok now).2.longest = t.longest ∧ (0 ≤ (ransR t ok now).2.tries ∧ (ransR t ok now).2.tries ≤ ((n + 1 : Nat) : Int)) ∧ t.gone ≤ (ransR t ok now).2.gone := by
    have := h.tr
    unfold ransR
    split
    · exact ⟨rfl, rfl, rfl, rfl, ⟨h.tr.1, by show t.tries ≤ _; omega⟩, Int.le_refl _⟩
    · split
      · exact ⟨rfl, rfl, rfl, rfl, ⟨Int.le_refl 0, by show (0 : Int) ≤ _; omega⟩, by show t.gone ≤ t.gone + 1; omega⟩
      · exact ⟨rfl, rfl, rfl, rfl, ⟨by show 0 ≤ t.tries + 1; omega, by show t.tries + 1 ≤ _; omega⟩, Int.le_refl _⟩
  obtain ⟨e1, e2, e3, e4, e5, e6⟩ := hq
  refine ⟨gn', ⟨h1, fun e => absurd (h2.symm.trans e) (by decide), by rw [e3]; exact hm.b1, by rw [e3, e4]; exact hm.b2, by rw [e4]; exact hm.b3, e5, by rw [e1]; exact hm.dr, hm.len, hm.ok, ?_⟩, e1, e2⟩
  rw [e2]
  have := hm.most
  omega
theorem FOk_put {q win : Int} {xs : List Rec} (hq : q < 18446744073709551616) (hw : -9223372036854775808 ≤ win ∧ win ≤ 9223372036854775807) (hr : ∀ x ∈ xs, RecFit x) (hm : mayB q win xs = true) : FOk ⟨q, win, xs⟩ := ⟨hq, hw, hr, hm⟩
/-- Behind a Put. -/
theorem QInv.put {s : QR} {fs : List Frm} {t : RQ} {L : List Frm} {gn n : Nat} (h : QInv s fs t L gn n) (hn : n ≤ 1000) (win : Int) (xs : List Rec) (hw : -9223372036854775808 ≤ win ∧ win ≤ 9223372036854775807) (hx : xs.length ≤ 60) (hr : ∀ x ∈ xs, RecFit x) :
    (putR s fs win xs).1 = (rputR t L win xs).1 ∧ QInv (putR s fs win xs).2.1 (putR s fs win xs).2.2 (rputR t L win xs).2.1 (rputR t L win xs).2.2 gn (n + 1) ∧ ((rputR t L win xs).2.2.length : Int) + (rputR t L win xs).2.1.drop = (L.length : Int) + t.drop + (if mayP win xs = true then 1 else 0) ∧ (rputR t L win xs).2.1.most = t.most := by
  obtain ⟨h1, h2⟩ := rel_put h.rel win xs
  have hlen := h.len
  have hdr := h.dr
  have htr := h.tr
  have hmost := h.most
  refine ⟨h1, ?_⟩
  have e0 : mayB ((L.length : Int) + 1) win xs = mayP win xs := mayB_one _ _ _ (by omega)
  unfold rputR at h2 ⊢
  rw [e0] at h2 ⊢
  by_cases c0 : mayP win xs = false
  · rw [if_pos c0] at h2 ⊢
    rw [if_neg (by rw [c0]; simp)]
    exact ⟨⟨h2, h.sink, h.b1, h.b2, h.b3, ⟨htr.1, by show t.tries ≤ _; omega⟩, ⟨hdr.1, by show t.drop ≤ _; omega⟩, by show L.length ≤ _; omega, h.ok, hmost⟩, by simp, rfl⟩
  · rw [if_neg c0] at h2 ⊢
    have c1 : mayP win xs = true := by simpa using c0
    rw [if_pos c1]
    by_cases c2 : t.most ≤ (L.length : Int) - t.gone
    · rw [if_pos c2] at h2 ⊢
      exact ⟨⟨h2, h.sink, h.b1, h.b2, h.b3, ⟨htr.1, by show t.tries ≤ _; omega⟩, ⟨by show 0 ≤ t.drop + 1; omega, by show t.drop + 1 ≤ _; omega⟩, by show L.length ≤ _; omega, h.ok, hmost⟩, by show (L.length : Int) + (t.drop + 1) = _; omega, rfl⟩
    · rw [if_neg c2] at h2 ⊢
      refine ⟨⟨h2, fun e => by have := h.sink e; simp; omega, h.b1, h.b2, h.b3, ⟨htr.1, by show t.tries ≤ _; omega⟩, ⟨hdr.1, by show t.drop ≤ _; omega⟩, by simp; omega, fun f hf => ?_, by simp; omega⟩, by simp; omega, rfl⟩
      rcases List.mem_append.1 hf with hf | hf
      · exact h.ok f hf
      · simp at hf
        subst hf
        exact ⟨FOk_put (by omega) hw hr (by rw [e0]; exact c1), hx⟩
/-- At the sink. -/
theorem QInv.hand {s : QR} {fs : List Frm} {t : RQ} {L : List Frm} {gn n : Nat} (h : QInv s fs t L gn n) (hl : gn < L.length) : QInv { s with sink := true } fs { t with at_ := true } L gn (n + 1) :=
  have k := h.rel
  have m := h.more
  ⟨⟨k.gone, k.le, k.fr, k.put, k.acked, k.dropped, rfl, k.time, k.tries, k.most, k.base, k.longest⟩, fun _ => hl, m.b1, m.b2, m.b3, m.tr, m.dr, m.len, m.ok, m.most⟩
/-- Both queues' memories, written together. -/
theorem Two.both {w0 w w' : World} {g gr : Nat} {s' : QR} {fs' : List Frm} {t' : RQ} {L' : List Frm} {M Mr M' Mr' : Nat → Prop} (h4 : ∀ k, M k → w0.heap.size ≤ k) (h5 : ∀ k, Mr k → w0.heap.size ≤ k) (h6 : Below w0.heap.size w0 w)
    (k1 : QSt w' g s' fs' M') (k2 : RSt w' gr t' L' Mr') (ho : Only (fun k => M k ∨ Mr k) w w') (hq : ∀ k, M' k → M k ∨ w.heap.size ≤ k) (hr : ∀ k, Mr' k → Mr k ∨ w.heap.size ≤ k) (hd : ∀ k, M' k → ¬ Mr' k) : Two w0 g gr s' fs' t' L' w' := by
  have hs := h6.size
  refine ⟨M', Mr', k1, k2, hd, fun k hk => ?_, fun k hk => ?_, h6.trans (ho.below hs (fun k hk => hk.elim (h4 k) (h5 k)))⟩
  · rcases hq k hk with h | h
    · exact h4 k h
    · omega
  · rcases hr k hk with h | h
    · exact h5 k h
    · omega
end Go.Proofs.Ytdomnjakhecbaaa
namespace Go.Proofs.Ytdomnjakhecbaaa
open Go.RowKit K
/-- A row of records in new memory, and its block. -/
def NewRecsZ (w : World) (xs : List Rec) (v : Value) (w' : World) : Prop :=
  ∃ a c, v = .slice a xs.length c ∧ Rd w' a (rcf xs) ∧ Below w.heap.size w w' ∧ (xs.length ≤ c ∧ c ≤ 9223372036854775807 ∧ (a = none → c = 0)) ∧ (xs ≠ [] → ∃ b, a = some ⟨b, 0, none⟩ ∧ w.heap.size ≤ b ∧ ∃ cur t, w'.heap[b]? = some (.cells cur t (0, 0)))
theorem run_append_recs_z (w : World) (ty : TypeId) (a : Option Addr) (c : Nat) (xs : List Rec) (hl : xs.length ≤ 1000000) (hr : Rd w a (rcf xs)) :
    ∃ v' w', (Builtin.append_ #[30, 30] ty #[.slice none 0 0, .slice a xs.length c]).run Try.prog w = .ok v' w' ∧ NewRecsZ w xs v' w' := by
  obtain ⟨ri, hri, hrz, hrs, hrb⟩ := recq_parts
  cases xs with
  | nil => exact ⟨_, _, run_append_zero w 30 ty 70 ri Try.underlying30 hri none 0 0 (Nat.le_refl _) a c, none, 0, rfl, Rd.nil _ _, Below.refl _ _, ⟨by simp, by omega, fun _ => rfl⟩, by simp⟩
  | cons x r =>
    obtain ⟨b, off, rfl, hb, hcell⟩ := hr.at (k := 0) (v := .string x.name) (by simp [rcf, Rec.cells])
    obtain ⟨v', w', hrun, h2, h3, _⟩ := run_append_own_at (P := Try.prog) w w.heap.size 30 ty 70 ri zrecQ 5 48 Try.underlying30 hri hrz hrs hrb rfl (by decide) (.slice none 0 0) 0 [] (World.ownsRow_nil _ _ _ _) ⟨b, off, none⟩ (x :: r).length c (rcf (x :: r)) (by rw [rcf_length, Nat.mul_comm]) (rd_cells hr) (rcf_one _) (by unfold maxLen; omega) (by omega) (Nat.le_refl _)
    rw [Nat.zero_add, List.length_cons] at h2
    have hz := own_rowz h2
    obtain ⟨b2, c2, rfl, hb2, hr2, hc3, hc4⟩ := own_rowq h2
    exact ⟨_, w', hrun, some ⟨b2, 0, none⟩, c2, rfl, by simpa using hr2, (Below.refl _ w).grown h3 (Nat.le_refl _) (fun k e => by cases e), ⟨hc3, hc4, fun h => by cases h⟩, fun _ => ⟨b2, rfl, hb2, hz _ _ _ rfl⟩⟩
theorem step_append_recs_z (w : World) {ops : Array Oper} {rest : List Oper} {o : Oper} {a : Act} {Q : Exit → Act → World → Prop} (hgd : o.guard = none) (s x : Operand)
    (ho : o.op = .call { callee := .builtin .append, args := #[s, x], argTypes := #[30, 30] }) (hs : a.eval s = .slice none 0 0) (ad : Option Addr) (c n : Nat) (xs : List Rec) (hx : a.eval x = .slice ad n c) (hn : n = xs.length) (hl : xs.length ≤ 1000000) (hr : Rd w ad (rcf xs))
    (h : ∀ v' w', NewRecsZ w xs v' w' → wpList Try.prog ops Q rest (a.put o.dst v') w') : wpList Try.prog ops Q (o :: rest) a w := by
  subst hn
  obtain ⟨v', w', hrun, h2⟩ := run_append_recs_z w o.type ad c xs hl hr
  refine step_val hgd v' w' ?_ (h v' w' h2)
  unfold execOp
  simp only [ho, resolve, invoke, builtin, Sem.run_bind, Sem.run_pure, Result.andThen_ok, List.map_toArray, List.map_cons, List.map_nil, hs, hx, hrun]
theorem rcf_inc : ∀ (xs : List Rec) (j : Nat), j < xs.length → ∃ r : Int, (rcf xs)[j * 5 + 2]? = some (.int .i64 r)
  | [], j, h => by simp at h
  | x :: xs, 0, _ => ⟨x.inc, by simp [rcf, Rec.cells]⟩
  | x :: xs, j + 1, h => by
    obtain ⟨r, hr⟩ := rcf_inc xs j (by simpa using h)
    refine ⟨r, ?_⟩
    rw [← hr]
    rw [show rcf (x :: xs) = x.cells.toList ++ rcf xs by simp [rcf], List.getElem?_append_right (by simp [Rec.cells]; omega)]
    congr 1
    simp [Rec.cells]
    omega
set_option maxHeartbeats 2000000 in
set_option maxRecDepth 100000 in
/-- 'do' of a Put. -/
theorem do_put {w0 w : World} {g gr : Nat} {s : QR} {fs : List Frm} {t : RQ} {L : List Frm} {gn n : Nat} (h : Two w0 g gr s fs t L w) (hi : QInv s fs t L gn n) (hn : n ≤ 1000) (win : Int) (hwin : -9223372036854775808 ≤ win ∧ win ≤ 9223372036854775807) (a : Option Addr) (c : Nat) (xs : List Rec)
    (hr : Rd w0 a (rcf xs)) (hcc : xs.length ≤ c ∧ c ≤ 9223372036854775807 ∧ (a = none → c = 0)) (hx : xs.length ≤ 60) (hfit : ∀ x ∈ xs, RecFit x) (ok : Bool) :
    Calls Try.prog 20 #[.pointer (some ⟨g, 0, none⟩), .pointer (some ⟨gr, 0, none⟩), .agg #[.int .i64 1, .int .i64 win, .slice a xs.length c, .bool ok]] w fun e w' => e = .returned (.bool true) ∧ Two w0 g gr (putR s fs win xs).2.1 (putR s fs win xs).2.2 (rputR t L win xs).2.1 (rputR t L win xs).2.2 w' := by
  obtain ⟨M, Mr, h1, h2, h3, h4, h5, h6⟩ := h
  have hgn := hi.gn0
  have hlen := hi.len
  have hdr := hi.dr
  have hrel := hi.rel
  have hfl : fs.length ≤ 1000000 := by have := hrel.len; omega
  have heq := (hi.put hn win xs hwin hx hfit).1
  obtain ⟨pn, hpn⟩ : ∃ pn, pn = (putR s fs win xs).1.1 := ⟨_, rfl⟩
  obtain ⟨pe, hpe⟩ : ∃ pe, pe = (putR s fs win xs).1.2 := ⟨_, rfl⟩
  have hq := fun W ao co (hW : QSt W g s fs M) (hro : Rd W ao (rcf xs)) (hco : xs.length ≤ co ∧ co ≤ 9223372036854775807 ∧ (ao = none → co = 0)) => (show Calls Try.prog 9 #[.pointer (some ⟨g, 0, none⟩), .int .i64 win, .slice ao xs.length co] W fun e w' => e = .returned (.tuple #[.int .u64 pn, .int .i64 pe]) ∧ QTo W M g (putR s fs win xs).2.1 (putR s fs win xs).2.2 w' from by rw [hpn, hpe]; exact qput_any hW win ao co xs hco.1 hco.2.1 (by omega) hco.2.2 hro (fun x hx => (hfit x hx).1) ⟨by rw [hrel.put]; omega, by rw [hrel.put]; omega⟩ ⟨by rw [hrel.dropped]; omega, by rw [hrel.dropped]; omega⟩ hfl)
  have hrq := fun W (hW : RSt W gr t L Mr) (hro : Rd W a (rcf xs)) => (show Calls Try.prog 23 #[.pointer (some ⟨gr, 0, none⟩), .int .i64 win, .slice a xs.length c] W fun e w' => e = .returned (.tuple #[.int .u64 pn, .int .i64 pe]) ∧ RTo W Mr gr (rputR t L win xs).2.1 (rputR t L win xs).2.2 w' from by rw [hpn, hpe, heq]; exact rput hW win a c xs hcc.1 hcc.2.1 (by omega) hcc.2.2 hro (fun x hx => (hfit x hx).1) hgn ⟨hdr.1, by omega⟩ (by omega))
  have HQ := Lib.hid hq
  have HRQ := Lib.hid hrq
  have H1 := Lib.hid h1
  have H2 := Lib.hid h2
  have H3 := Lib.hid h3
  have H4 := Lib.hid h4
  have H5 := Lib.hid h5
  have H6 := Lib.hid h6
  have HCC := Lib.hid hcc
  have HR := Lib.hid (fun W (hb : Below w0.heap.size w0 W) => hr.below hb (Nat.le_refl _))
  have hb1 : Below w0.heap.size w0 (w.alloc (.cells #[.int .i64 1, .int .i64 win, .slice a xs.length c, .bool ok] 50)) := h6.trans (((Below.refl _ w).alloc (Nat.le_refl _) _).mono h6.size)
  have HRD := Lib.hid (HR.out _ hb1)
  have HML := Lib.hid h1.lt
  have HRL := Lib.hid h2.lt
  clear hb1 h1 h2 h3 h4 h5 h6 hq hrq hcc hr hpn hpe heq hrel hdr hgn hi hlen hfl hfit
  go_enter Try.func20, Try.ntmps20
  go_wp2_with (first | (at_builtin; refine step_append_recs_z _ rfl _ _ rfl rfl a c xs.length xs rfl rfl (by omega) HRD.out ?_) | fail)
  rintro v2 w2 ⟨a2, c2, rfl, hr2, hb2, hcc2, hn2⟩
  have hbx2 := keeph hb2 (heap_alloc_new w (.cells #[.int .i64 1, .int .i64 win, .slice a xs.length c, .bool ok] 50))
  have hb02 : Below w.heap.size w w2 := ((Below.refl _ w).alloc (Nat.le_refl _) _).trans (hb2.mono (by simp))
  have q1 : w2.cell? ⟨w.heap.size, 1, none⟩ = some (.int .i64 win) := by rw [cell_of_row _ _ _ _ _ _ hbx2]; rfl
  have HBX2 := Lib.hid hbx2
  have HB2 := Lib.hid hb02
  have HR2 := Lib.hid hr2
  have HCC2 := Lib.hid hcc2
  have HN2 := Lib.hid (fun h => (show ∃ b, a2 = some ⟨b, 0, none⟩ ∧ w.heap.size ≤ b ∧ b < w2.heap.size ∧ ∃ cur t, w2.heap[b]? = some (.cells cur t (0, 0)) from by
    obtain ⟨b, e, hb, cur, t, hz⟩ := hn2 h
    exact ⟨b, e, by simp at hb; omega, (Array.getElem?_eq_some_iff.1 hz).1, cur, t, hz⟩))
  have HPQ := Lib.hid (HQ.out w2 a2 c2 (H1.out.new hb02) hr2 hcc2)
  clear hbx2 hb02 hr2 hcc2 hn2 hb2 HRD
  go_wp2_with fail
  refine HPQ.out.mono ?_
  rintro e w3 ⟨rfl, M', k1, k2, k3⟩
  have hbx3 := k2.heap HBX2.out (fun hm => by have := HML.out _ hm; omega)
  have q13 : w3.cell? ⟨w.heap.size, 1, none⟩ = some (.int .i64 win) := by rw [cell_of_row _ _ _ _ _ _ hbx3]; rfl
  have q23 : w3.cell? ⟨w.heap.size, 2, none⟩ = some (.slice a xs.length c) := by rw [cell_of_row _ _ _ _ _ _ hbx3]; rfl
  have hrt : RSt w3 gr t L Mr := (H2.out.new HB2.out).only k2 (fun k hk hm => H3.out k hm hk)
  have hbz3 : Below w0.heap.size w0 w3 := (H6.out.trans (HB2.out.mono H6.out.size)).trans (k2.below (Nat.le_trans H6.out.size HB2.out.size) H4.out)
  have HPR := Lib.hid (HRQ.out w3 hrt (HR.out w3 hbz3))
  have HK1 := Lib.hid k1
  have HK2 := Lib.hid k2
  have HK3 := Lib.hid k3
  have HBX3 := Lib.hid hbx3
  have HBZ3 := Lib.hid hbz3
  have hs23 := k2.size
  have hs02 := HB2.out.size
  have HS := Lib.hid (show w2.heap.size ≤ w3.heap.size ∧ w.heap.size ≤ w2.heap.size from ⟨hs23, hs02⟩)
  clear k1 k2 k3 hbx3 hbz3 hrt q1 HPQ hs23 hs02
  go_wp2_with fail
  refine HPR.out.mono ?_
  rintro e w4 ⟨rfl, Mr', j1, j2, j3⟩
  -- what own's block is apart from
  have hd' : ∀ k, M' k → ¬ Mr k := fun k hk hm => by
    rcases HK3.out k hk with h | h
    · exact H3.out k h hm
    · have := HRL.out k hm; have := HS.out.2; omega
  have HJ1 := Lib.hid j1
  have HJ2 := Lib.hid j2
  have hd2 : ∀ k, M' k → ¬ Mr' k := fun k hk hm => by
    rcases j3 k hm with h | h
    · exact hd' k hk h
    · have := HK1.out.lt k hk; omega
  have HD2 := Lib.hid hd2
  have HJ3 := Lib.hid j3
  have HQ4 := Lib.hid (HK1.out.only j2 hd')
  have hown : ∀ b, w.heap.size ≤ b → b < w2.heap.size → ¬ M' b ∧ ¬ Mr' b := fun b h1 h2 => ⟨fun hm => by
      rcases HK3.out b hm with h | h
      · have := HML.out b h; omega
      · omega, fun hm => by
      rcases j3 b hm with h | h
      · have := HRL.out b h; omega
      · have := HS.out.1; omega⟩
  have HOWN := Lib.hid hown
  have HBZ4 := Lib.hid (HBZ3.out.trans (j2.below HBZ3.out.size H5.out))
  have hz4 : ∀ ad, a2 = some ad → ∀ j, j < xs.length → (∃ r : Int, w4.cell? ⟨ad.block, j * 5 + 2, none⟩ = some (.int .i64 r)) ∧ w4.frozen? ⟨ad.block, j * 5 + 2, none⟩ = false := by
    intro ad e j hj
    obtain ⟨b, e2, hb1, hb2, cur, ty, hz⟩ := HN2.out (fun h => by rw [h] at hj; simp at hj)
    rw [e] at e2
    cases e2
    obtain ⟨r, hr3⟩ := rcf_inc xs j hj
    obtain ⟨b', off, e3, -, hc⟩ := HR2.out.at hr3
    rw [e] at e3
    cases e3
    rw [Nat.zero_add] at hc
    have n1 : ¬ M b := fun hm => by have := HML.out b hm; omega
    have n2 : ¬ Mr b := fun hm => by have := HRL.out b hm; omega
    exact ⟨⟨r, j2.cell (HK2.out.cell hc n1) n2⟩, frozen_of_row w4 _ _ _ _ (j2.heap (HK2.out.heap hz n1) n2)⟩
  have HFN := Lib.hid (fun b (hb : ∃ ad, a2 = some ad ∧ ad.block = b ∧ xs ≠ []) => (show w.heap.size ≤ b ∧ b < w2.heap.size from by
    obtain ⟨ad, e, rfl, hne⟩ := hb
    obtain ⟨b, e2, h1, h2, -⟩ := HN2.out hne
    rw [e] at e2
    cases e2
    exact ⟨h1, h2⟩))
  clear j1 j2 j3 hd' hd2 hown q13 q23 HPR HQ HRQ HBX2 HBX3
  go_wp2_with fail
  go_loopw [12] (fun iv wr => ∃ i : Nat, iv = .int .i64 i ∧ i ≤ xs.length ∧ Only (fun b => ∃ ad, a2 = some ad ∧ ad.block = b ∧ xs ≠ []) w4 wr ∧ ∀ ad, a2 = some ad → ∀ j, j < xs.length → (∃ r : Int, wr.cell? ⟨ad.block, j * 5 + 2, none⟩ = some (.int .i64 r)) ∧ wr.frozen? ⟨ad.block, j * 5 + 2, none⟩ = false) (fun iv _ => xs.length - (intOf iv).toNat)
  case atStart => exact ⟨0, rfl, Nat.zero_le _, Only.refl _ _, hz4⟩
  case round =>
    obtain ⟨i, rfl, hi, hoi, hzi⟩ := hrel
    clear hz4
    by_cases hilt : i < xs.length
    · have hfne : xs ≠ [] := fun e => by rw [e] at hilt; simp at hilt
      obtain ⟨rb, rfl, -⟩ := HN2.out hfne
      obtain ⟨⟨r, hci⟩, hfi⟩ := hzi _ rfl i hilt
      simp only at hci hfi
      go_wp2
      go_roundw
      case rel =>
        refine ⟨i + 1, by go_num, by omega, hoi.setCell _ _ (fun _ => ⟨_, rfl, rfl, hfne⟩), fun ad e j hj => ?_⟩
        cases e
        obtain ⟨⟨r2, hcj⟩, hfj⟩ := hzi _ rfl j hj
        simp only at hcj hfj
        rw [World.frozen?_setCell]
        refine ⟨?_, hfj⟩
        by_cases hji : j = i
        · subst hji
          exact ⟨_, World.cell?_setCell_same' _ _ _ (by rw [hcj]; rfl)⟩
        · exact ⟨r2, (World.cell?_setCell_other (w := wr) (a := ⟨rb, i * 5 + 2, none⟩) (b := ⟨rb, j * 5 + 2, none⟩) (v := .int .i64 (wrap64 (r + 1))) (h := fun e => hji (by injection e with _ e2 _; omega))).trans hcj⟩
      case measure => simp [intOf]; omega
    · obtain rfl : i = xs.length := by omega
      have HOI := Lib.hid hoi
      clear hoi hzi
      have hap : ∀ b, (∃ ad, a2 = some ad ∧ ad.block = b ∧ xs ≠ []) → ¬ M' b ∧ ¬ Mr' b := fun b hb => HOWN.out b (HFN.out b hb).1 (HFN.out b hb).2
      have HT := Lib.hid (show Two w0 g gr (putR s fs win xs).2.1 (putR s fs win xs).2.2 (rputR t L win xs).2.1 (rputR t L win xs).2.2 wr from ⟨M', Mr', HQ4.out.only HOI.out (fun k hk hb => (hap k hb).1 hk), HJ1.out.only HOI.out (fun k hk hb => (hap k hb).2 hk), HD2.out, fun k hk => by
          rcases HK3.out k hk with h | h
          · exact H4.out k h
          · have := H6.out.size; have := HS.out.2; omega, fun k hk => by
          rcases HJ3.out k hk with h | h
          · exact H5.out k h
          · have := HBZ3.out.size; omega, HBZ4.out.trans (HOI.out.below HBZ4.out.size (fun b hb => by have := (HFN.out b hb).1; have := H6.out.size; omega))⟩)
      clear hap
      go_wp2
      go_ret
      exact ⟨rfl, HT.out⟩
end Go.Proofs.Ytdomnjakhecbaaa
namespace Go.Proofs.Ytdomnjakhecbaaa
open Go.RowKit K
theorem own_bytes {w : World} {B e n : Nat} {v : Value} {l : List UInt8} (h : w.ownsRow B e 1 v n (bv l)) : ∃ a c, v = .slice a n c ∧ n ≤ c ∧ c ≤ 9223372036854775807 ∧ Rd w a (bv l) ∧ (0 < n → ∃ b, a = some ⟨b, 0, none⟩ ∧ B ≤ b ∧ ∃ cur t, w.heap[b]? = some (.cells cur t (0, 0))) := by
  obtain ⟨a, c, rfl, h1, h2, h3, h4⟩ := own_slice h
  refine ⟨a, c, rfl, h1, h2, h4, fun hn => ?_⟩
  rcases h.2 with ⟨e, rfl⟩ | ⟨g, cap, cur, e, hB, hg, _⟩
  · omega
  · cases e
    exact ⟨g, rfl, hB, cur, _, hg⟩
/-- Bytes handed out, in new memory. -/
def HandV (w : World) (l : List UInt8) (e : Ending) (w' : World) : Prop :=
  ∃ a c, e = .returned (.tuple #[.slice a l.length c, .bool true]) ∧ l.length ≤ c ∧ c ≤ 9223372036854775807 ∧ Rd w' a (bv l) ∧ (0 < l.length → ∃ b, a = some ⟨b, 0, none⟩ ∧ w.heap.size ≤ b ∧ ∃ cur t, w'.heap[b]? = some (.cells cur t (0, 0)))
section
variable {w : World} {g : Nat} {M : Nat → Prop}
theorem qhand_no {s : QR} {fs : List Frm} (h : QSt w g s fs M) (now : Int) (hf : ∀ f ∈ fs, FOk f) (hm : fs.length ≤ 1000000) (hc : fs = [] ∨ s.sink = true ∨ now < s.time) :
    Calls Try.prog 12 #[.pointer (some ⟨g, 0, none⟩), .int .i64 now] w fun e w' => e = .returned (.tuple #[.slice none 0 0, .bool false]) ∧ w = w' := by
  refine (qhand h now hf hm).mono ?_
  intro e w' hp
  cases fs with
  | nil => exact hp
  | cons f r =>
    change (if _ then _ else _) at hp
    rw [if_pos (hc.resolve_left (by simp))] at hp
    exact hp
theorem qhand_yes {s : QR} {f : Frm} {r : List Frm} (h : QSt w g s (f :: r) M) (now : Int) (hf : ∀ x ∈ f :: r, FOk x) (hm : (f :: r).length ≤ 1000000) (h1 : s.sink = false) (h2 : ¬ now < s.time) :
    Calls Try.prog 12 #[.pointer (some ⟨g, 0, none⟩), .int .i64 now] w fun e w' => HandV w (encB f.seq f.win f.recs) e w' ∧ QSt w' g { s with sink := true } (f :: r) M ∧ Only M w w' := by
  refine (qhand h now hf hm).mono ?_
  intro e w' hp
  change (if _ then _ else _) at hp
  rw [if_neg (by rw [h1]; rintro (h | h); (cases h); exact h2 h)] at hp
  obtain ⟨v, rfl, ho, hq, hon⟩ := hp
  obtain ⟨a, c, rfl, k1, k2, k3, k4⟩ := own_bytes ho
  exact ⟨⟨a, c, rfl, k1, k2, k3, k4⟩, hq, hon⟩
theorem rhand_no {t : RQ} {L : List Frm} {gn : Nat} (h : RSt w g t L M) (now : Int) (hf : ∀ f ∈ L, FOk f) (hm : L.length ≤ 1000000) (hg : t.gone = gn) (hl : gn ≤ L.length) (hc : L.drop gn = [] ∨ t.at_ = true ∨ now < (if t.timed = true then t.when_ else once)) :
    Calls Try.prog 24 #[.pointer (some ⟨g, 0, none⟩), .int .i64 now] w fun e w' => e = .returned (.tuple #[.slice none 0 0, .bool false]) ∧ RSt w' g t L M ∧ Only M w w' := by
  refine (rhand h now hf hm (by omega)).mono ?_
  intro e w' hp
  unfold RHandP at hp
  rw [hg, Int.toNat_natCast] at hp
  cases hd : L.drop gn with
  | nil => rw [hd] at hp; exact hp
  | cons f r =>
    rw [hd] at hp hc
    simp only at hp
    rw [if_pos (hc.resolve_left (by simp))] at hp
    exact hp
theorem rhand_yes {t : RQ} {L : List Frm} {gn : Nat} {f : Frm} {r : List Frm} (h : RSt w g t L M) (now : Int) (hf : ∀ f ∈ L, FOk f) (hm : L.length ≤ 1000000) (hg : t.gone = gn) (hl : gn ≤ L.length) (hd : L.drop gn = f :: r) (h1 : t.at_ = false) (h2 : ¬ now < (if t.timed = true then t.when_ else once)) :
    Calls Try.prog 24 #[.pointer (some ⟨g, 0, none⟩), .int .i64 now] w fun e w' => HandV w (encB f.seq f.win f.recs) e w' ∧ RSt w' g { t with at_ := true } L M ∧ Only M w w' := by
  refine (rhand h now hf hm (by omega)).mono ?_
  intro e w' hp
  unfold RHandP at hp
  rw [hg, Int.toNat_natCast, hd] at hp
  simp only at hp
  rw [if_neg (by rw [h1]; rintro (h | h); (cases h); exact h2 h)] at hp
  obtain ⟨v, rfl, ho, hq, hon⟩ := hp
  rw [← hg] at hq
  obtain ⟨a, c, rfl, k1, k2, k3, k4⟩ := own_bytes ho
  exact ⟨⟨a, c, rfl, k1, k2, k3, k4⟩, hq, hon⟩
end
set_option maxHeartbeats 2000000 in
set_option maxRecDepth 100000 in
/-- 'do' of a Hand that hands nothing. -/
theorem do_hand_no {w0 w : World} {g gr : Nat} {s : QR} {fs : List Frm} {t : RQ} {L : List Frm} {gn n : Nat} (h : Two w0 g gr s fs t L w) (hi : QInv s fs t L gn n) (hn : n ≤ 1000) (now : Int) (a : Option Addr) (m c : Nat) (ok : Bool) (hc : fs = [] ∨ s.sink = true ∨ now < s.time) :
    Calls Try.prog 20 #[.pointer (some ⟨g, 0, none⟩), .pointer (some ⟨gr, 0, none⟩), .agg #[.int .i64 2, .int .i64 now, .slice a m c, .bool ok]] w fun e w' => e = .returned (.bool true) ∧ Two w0 g gr s fs t L w' := by
  obtain ⟨M, Mr, h1, h2, h3, h4, h5, h6⟩ := h
  have hrel := hi.rel
  have hlen := hi.len
  have hfl : fs.length ≤ 1000000 := by have := hrel.len; have := hi.gn0; omega
  have hc2 : L.drop gn = [] ∨ t.at_ = true ∨ now < (if t.timed = true then t.when_ else once) := by
    rw [← hrel.fr, ← hrel.sink, ← hrel.time]
    exact hc
  have HQ := Lib.hid (fun W (hW : QSt W g s fs M) => qhand_no hW now (fun f hf => (hi.ok f (mem_frs hrel.fr hf)).1) hfl hc)
  have HR := Lib.hid (fun W (hW : RSt W gr t L Mr) => rhand_no hW now (fun f hf => (hi.ok f hf).1) (by omega) hrel.gone hrel.le hc2)
  have hb1 : Below w.heap.size w (w.alloc (.cells #[.int .i64 2, .int .i64 now, .slice a m c, .bool ok] 50)) := (Below.refl _ w).alloc (Nat.le_refl _) _
  have HS1 := Lib.hid (h1.new hb1)
  have HS2 := Lib.hid (h2.new hb1)
  have HML := Lib.hid h2.lt
  have HB1 := Lib.hid (h6.trans (hb1.mono h6.size))
  have HF := Lib.hid (show ∀ w', RSt w' gr t L Mr → Only Mr (w.alloc (.cells #[.int .i64 2, .int .i64 now, .slice a m c, .bool ok] 50)) w' → Two w0 g gr s fs t L w' from fun w' k1 k2 => ⟨M, Mr, HS1.out.only k2 (fun k hk hm => h3 k hk hm), k1, h3, h4, h5, HB1.out.trans (k2.below HB1.out.size h5)⟩)
  clear h1 h2 h3 h4 h5 h6 hrel hlen hfl hc2 hc hb1 hi
  go_enter Try.func20, Try.ntmps20
  go_wp2_with fail
  refine (HQ.out _ HS1.out).mono ?_
  rintro e w3 ⟨rfl, rfl⟩
  go_wp2_with fail
  refine (HR.out _ HS2.out).mono ?_
  rintro e w4 ⟨rfl, k1, k2⟩
  have HFF := Lib.hid (HF.out _ k1 k2)
  have hcv := run_bytes_string (P := Try.prog) w4 34 9 5 Try.underlying34 Try.underlying5 Try.underlying9 none 0 [] (Rd.nil _ _)
  simp only [List.length_nil] at hcv
  clear k1 k2 HF
  go_wp2_with fail
  go_loop [18] (fun i => i = .int .i64 0) (fun _ => 0)
  case atStart => rfl
  case round =>
    subst hrel
    go_wp2
    go_ret
    exact ⟨rfl, HFF.out⟩
set_option maxHeartbeats 2000000 in
set_option maxRecDepth 100000 in
/-- 'do' of a Hand that hands the first frame. -/
theorem do_hand_yes {w0 w : World} {g gr : Nat} {s : QR} {f : Frm} {r : List Frm} {t : RQ} {L : List Frm} {gn n : Nat} (h : Two w0 g gr s (f :: r) t L w) (hi : QInv s (f :: r) t L gn n) (hn : n ≤ 1000) (now : Int) (a : Option Addr) (m c : Nat) (ok : Bool) (h1 : s.sink = false) (h2 : ¬ now < s.time) :
    Calls Try.prog 20 #[.pointer (some ⟨g, 0, none⟩), .pointer (some ⟨gr, 0, none⟩), .agg #[.int .i64 2, .int .i64 now, .slice a m c, .bool ok]] w fun e w' => e = .returned (.bool true) ∧ Two w0 g gr { s with sink := true } (f :: r) { t with at_ := true } L w' := by
  obtain ⟨M, Mr, g1, g2, h3, h4, h5, h6⟩ := h
  have hrel := hi.rel
  have hlen := hi.len
  have hfl : (f :: r).length ≤ 1000000 := by have := hrel.len; have := hi.gn0; omega
  obtain ⟨l, hl⟩ : ∃ l, l = encB f.seq f.win f.recs := ⟨_, rfl⟩
  have hq := fun W (hW : QSt W g s (f :: r) M) => qhand_yes hW now (fun x hx => (hi.ok x (mem_frs hrel.fr hx)).1) hfl h1 h2
  have hr := fun W (hW : RSt W gr t L Mr) => rhand_yes hW now (fun x hx => (hi.ok x hx).1) (by omega) hrel.gone hrel.le hrel.fr.symm (by rw [← hrel.sink]; exact h1) (by rw [← hrel.time]; exact h2)
  rw [← hl] at hq hr
  have HQ := Lib.hid hq
  have HR := Lib.hid hr
  have hb1 : Below w.heap.size w (w.alloc (.cells #[.int .i64 2, .int .i64 now, .slice a m c, .bool ok] 50)) := (Below.refl _ w).alloc (Nat.le_refl _) _
  have HS1 := Lib.hid (g1.new hb1)
  have HS2 := Lib.hid (g2.new hb1)
  have HML := Lib.hid g1.lt
  have HMR := Lib.hid g2.lt
  have HBW := Lib.hid hb1
  have HB1 := Lib.hid (h6.trans (hb1.mono h6.size))
  have H3 := Lib.hid h3
  have H4 := Lib.hid h4
  have H5 := Lib.hid h5
  have HSZ := Lib.hid h6.size
  clear g1 g2 h3 h4 h5 h6 hrel hlen hfl hi hl hq hr h1 h2 hb1
  go_enter Try.func20, Try.ntmps20
  obtain ⟨w1, hw1⟩ : ∃ w1, w1 = w.alloc (.cells #[.int .i64 2, .int .i64 now, .slice a m c, .bool ok] 50) := ⟨_, rfl⟩
  have HZ1 := Lib.hid (show w1.heap[w.heap.size]? = some (.cells #[.int .i64 2, .int .i64 now, .slice a m c, .bool ok] 50 (0, 0)) by rw [hw1]; exact heap_alloc_new w _)
  rw [← hw1] at HS1 HS2 HB1 HBW
  have HW1 := Lib.hid hw1
  clear hw1
  go_wp2_with fail
  rw [← HW1.out]
  refine (HQ.out _ HS1.out).mono ?_
  rintro e w3 ⟨⟨b1, c1, rfl, k1, k2, k3, k4⟩, k5, k6⟩
  have q13 : w3.cell? ⟨w.heap.size, 1, none⟩ = some (.int .i64 now) := by rw [cell_of_row _ _ _ _ _ _ (k6.heap HZ1.out (fun hm => by have := HML.out _ hm; omega))]; rfl
  have HC3 := Lib.hid (HR.out _ (HS2.out.only k6 (fun k hk hm => H3.out k hm hk)))
  have HK3 := Lib.hid k3
  have HK4 := Lib.hid k4
  have HK5 := Lib.hid k5
  have HK6 := Lib.hid k6
  clear k3 k4 k5 k6 HR HQ
  go_wp2_with fail
  refine HC3.out.mono ?_
  rintro e w4 ⟨⟨b2, c2, rfl, j1, j2, j3, -⟩, j5, j6⟩
  have hr4 : Rd w4 b1 (bv l) := by
    by_cases h0 : 0 < l.length
    · obtain ⟨b, rfl, hb, -⟩ := HK4.out h0
      exact j6.rd HK3.out (fun ad e hm => by
        cases e
        have hlt : b < w.heap.size := HMR.out _ hm
        have := HBW.out.size
        omega)
    · obtain rfl : l = [] := List.eq_nil_of_length_eq_zero (by omega)
      exact Rd.nil _ _
  have hcv1 := run_bytes_string (P := Try.prog) w4 34 9 5 Try.underlying34 Try.underlying5 Try.underlying9 b1 c1 l hr4
  have hcv2 := run_bytes_string (P := Try.prog) w4 34 9 5 Try.underlying34 Try.underlying5 Try.underlying9 b2 c2 l j3
  have hz4 : ∀ ad, b1 = some ad → ∀ j, j < l.length → (∃ r : Int, w4.cell? ⟨ad.block, j, none⟩ = some (.int .u8 r)) ∧ w4.frozen? ⟨ad.block, j, none⟩ = false := by
    intro ad e j hj
    obtain ⟨b, e2, hb, cur, ty, hz⟩ := HK4.out (by omega)
    rw [e] at e2
    cases e2
    obtain ⟨b', off, e3, -, hc⟩ := hr4.at (bv_get hj)
    rw [e] at e3
    cases e3
    rw [Nat.zero_add] at hc
    have n2 : ¬ Mr b := fun hm => by have := HMR.out b hm; have := HBW.out.size; omega
    exact ⟨⟨_, hc⟩, frozen_of_row w4 _ _ _ _ (j6.heap hz n2)⟩
  have HFN := Lib.hid (fun b (hb : ∃ ad, b1 = some ad ∧ ad.block = b ∧ 0 < l.length) => (show w.heap.size ≤ b ∧ ¬ M b ∧ ¬ Mr b from by
    obtain ⟨ad, e, rfl, hne⟩ := hb
    obtain ⟨b, e2, h1, -⟩ := HK4.out hne
    rw [e] at e2
    cases e2
    have h1 : w1.heap.size ≤ b := h1
    have := HBW.out.size
    exact ⟨by show w.heap.size ≤ b; omega, fun hm => by have := HML.out b hm; omega, fun hm => by have := HMR.out b hm; omega⟩))
  have HQ4 := Lib.hid (HK5.out.only j6 (fun k hk hm => H3.out k hk hm))
  have HR4 := Lib.hid j5
  have HB4 := Lib.hid ((HB1.out.trans (HK6.out.below HB1.out.size H4.out)).trans (j6.below (HB1.out.trans (HK6.out.below HB1.out.size H4.out)).size H5.out))
  have HSL := Lib.hid (show ∀ b, b1 = some b → 0 < l.length → b.off = 0 ∧ b.spot = none from fun b e h => by
    obtain ⟨b', e2, -⟩ := HK4.out h
    rw [e] at e2
    cases e2
    exact ⟨rfl, rfl⟩)
  clear hr4 j3 j5 j6 q13 HC3 HK3 HK5 HK6
  go_wp2_with fail
  go_loopw [18] (fun iv wr => ∃ i : Nat, iv = .int .i64 i ∧ i ≤ l.length ∧ Only (fun b => ∃ ad, b1 = some ad ∧ ad.block = b ∧ 0 < l.length) w4 wr ∧ ∀ ad, b1 = some ad → ∀ j, j < l.length → (∃ r : Int, wr.cell? ⟨ad.block, j, none⟩ = some (.int .u8 r)) ∧ wr.frozen? ⟨ad.block, j, none⟩ = false) (fun iv _ => l.length - (intOf iv).toNat)
  case atStart => exact ⟨0, rfl, Nat.zero_le _, Only.refl _ _, hz4⟩
  case round =>
    obtain ⟨i, rfl, hi, hoi, hzi⟩ := hrel
    clear hz4 hcv1 hcv2
    by_cases hilt : i < l.length
    · obtain ⟨rb, rfl, -⟩ := HK4.out (by omega)
      obtain ⟨⟨z, hci⟩, hfi⟩ := hzi _ rfl i hilt
      simp only at hci hfi
      go_wp2
      go_roundw
      case rel =>
        refine ⟨i + 1, by go_num, by omega, hoi.setCell _ _ (fun _ => ⟨_, rfl, rfl, by omega⟩), fun ad e j hj => ?_⟩
        cases e
        obtain ⟨⟨r2, hcj⟩, hfj⟩ := hzi _ rfl j hj
        simp only at hcj hfj
        rw [World.frozen?_setCell]
        refine ⟨?_, hfj⟩
        by_cases hji : j = i
        · subst hji
          exact ⟨_, World.cell?_setCell_same' _ _ _ (by rw [hcj]; rfl)⟩
        · exact ⟨r2, (World.cell?_setCell_other wr ⟨rb, i, none⟩ ⟨rb, j, none⟩ _ (fun e => hji (by injection e with _ e2 _; omega))).trans hcj⟩
      case measure => simp [intOf]; omega
    · obtain rfl : i = l.length := by omega
      have HOI := Lib.hid hoi
      clear hoi hzi
      have HT := Lib.hid (show Two w0 g gr { s with sink := true } (f :: r) { t with at_ := true } L wr from ⟨M, Mr, HQ4.out.only HOI.out (fun k hk hb => (HFN.out k hb).2.1 hk), HR4.out.only HOI.out (fun k hk hb => (HFN.out k hb).2.2 hk), H3.out, H4.out, H5.out, HB4.out.trans (HOI.out.below HB4.out.size (fun b hb => by have := (HFN.out b hb).1; have := HSZ.out; omega))⟩)
      go_wp2
      go_ret
      exact ⟨rfl, HT.out⟩
end Go.Proofs.Ytdomnjakhecbaaa
namespace Go.Proofs.Ytdomnjakhecbaaa
open Go.RowKit K
def DoP (w0 : World) (g gr : Nat) (p m : Int) (x : ActR) (n : Nat) (w' : World) : Prop :=
  ∃ s' fs' t' L' gn', Two w0 g gr s' fs' t' L' w' ∧ QInv s' fs' t' L' gn' (n + 1) ∧ (L'.length : Int) + t'.drop = p + (if x.kind = 1 ∧ mayP x.at_ x.recs = true then 1 else 0) ∧ t'.most = m
theorem do_any {w0 w : World} {g gr : Nat} {s : QR} {fs : List Frm} {t : RQ} {L : List Frm} {gn n : Nat} (h : Two w0 g gr s fs t L w) (hi : QInv s fs t L gn n) (hn : n ≤ 1000) (x : ActR) (hx : ActOk x) (h60 : x.recs.length ≤ 60) (a : Option Addr) (c : Nat)
    (hcc : x.recs.length ≤ c ∧ c ≤ 9223372036854775807 ∧ (a = none → c = 0)) (hr : Rd w0 a (rcf x.recs)) :
    Calls Try.prog 20 #[.pointer (some ⟨g, 0, none⟩), .pointer (some ⟨gr, 0, none⟩), .agg #[.int .i64 x.kind, .int .i64 x.at_, .slice a x.recs.length c, .bool x.ok]] w fun e w' => e = .returned (.bool true) ∧ DoP w0 g gr ((L.length : Int) + t.drop) t.most x n w' := by
  obtain ⟨kind, at_, recs, ok⟩ := x
  simp only at h60 hcc hr
  by_cases k1 : kind = 1
  · subst k1
    refine (do_put h hi hn at_ hx.1 a c recs hr hcc h60 hx.2.2 ok).mono ?_
    rintro e w' ⟨rfl, ht⟩
    obtain ⟨_, hq, hc, hm⟩ := hi.put hn at_ recs hx.1 h60 hx.2.2
    refine ⟨rfl, _, _, _, _, _, ht, hq, ?_, hm⟩
    rw [hc]
    simp
  · have hz : ∀ b : Prop, ¬ (kind = 1 ∧ b) := fun b hb => k1 hb.1
    by_cases k2 : kind = 2
    · subst k2
      by_cases hc : fs = [] ∨ s.sink = true ∨ at_ < s.time
      · refine (do_hand_no h hi hn at_ a recs.length c ok hc).mono ?_
        rintro e w' ⟨rfl, ht⟩
        exact ⟨rfl, _, _, _, _, _, ht, hi.more, by rw [if_neg (hz _)]; omega, rfl⟩
      · cases fs with
        | nil => exact absurd (.inl rfl) hc
        | cons f r =>
          have hs : s.sink = false := by
            cases hs : s.sink with
            | true => exact absurd (.inr (.inl hs)) hc
            | false => rfl
          refine (do_hand_yes h hi hn at_ a recs.length c ok hs (fun h => hc (.inr (.inr h)))).mono ?_
          rintro e w' ⟨rfl, ht⟩
          have hl : gn < L.length := by
            have h1 := hi.rel.len
            have h2 := hi.rel.gone
            have h3 := hi.rel.le
            simp only [List.length_cons] at h1
            omega
          exact ⟨rfl, _, _, _, _, _, ht, hi.hand hl, by rw [if_neg (hz _)]; show (L.length : Int) + t.drop = _; omega, rfl⟩
    · by_cases k3 : kind = 3
      · subst k3
        obtain ⟨M, Mr, h1, h2, h3, h4, h5, h6⟩ := h
        have hlen := hi.len
        have htr := hi.tr
        refine (do_ans h1 h2 h3 hi.rel hi.sink (by omega) hi.b1 hi.b2 hi.b3 ⟨htr.1, by omega⟩ at_ hx.1 a recs.length c ok).mono ?_
        rintro e w' ⟨rfl, j1, j2, j3⟩
        obtain ⟨gn', hq, hd, hm⟩ := hi.ans ok at_
        exact ⟨rfl, _, _, _, _, _, Two.both h4 h5 h6 j1 j2 j3 (fun _ h => .inl h) (fun _ h => .inl h) h3, hq, by rw [if_neg (hz _), hd]; omega, hm⟩
      · refine (do_none w _ _ kind at_ a recs.length c ok k1 k2 k3).mono ?_
        rintro e w' ⟨rfl, hb⟩
        exact ⟨rfl, _, _, _, _, _, h.new hb, hi.more, by rw [if_neg (hz _)]; omega, rfl⟩
section
variable {w0 w : World} {g gr : Nat} {s : QR} {fs : List Frm} {t : RQ} {L : List Frm} {gn n : Nat}
theorem tsame (h : Two w0 g gr s fs t L w) (hi : QInv s fs t L gn n) (hn : n ≤ 1000) (most : Int) (hm : -9223372036854775808 ≤ most ∧ most ≤ 9223372036854775807) :
    Calls Try.prog 21 #[.pointer (some ⟨g, 0, none⟩), .pointer (some ⟨gr, 0, none⟩), .int .i64 most] w fun e w' => e = .returned (.bool true) ∧ Two w0 g gr s fs t L w' := by
  have H := h
  obtain ⟨M, Mr, h1, h2, _⟩ := h
  have hlen := hi.len
  refine (same_any h1 h2 hi.rel (fun f hf => (hi.ok f hf).1) (by omega) (fun f hf => by have := (hi.ok f hf).2; omega) most hm).mono ?_
  rintro e w' ⟨rfl, hb⟩
  exact ⟨rfl, H.new hb⟩
theorem twaiting (h : Two w0 g gr s fs t L w) : Calls Try.prog 16 #[.pointer (some ⟨g, 0, none⟩)] w fun e w' => e = .returned (.int .i64 fs.length) ∧ w = w' := by
  obtain ⟨M, Mr, h1, _⟩ := h
  exact qwaiting h1
theorem tacked (h : Two w0 g gr s fs t L w) : Calls Try.prog 15 #[.pointer (some ⟨g, 0, none⟩)] w fun e w' => e = .returned (.int .i64 s.acked) ∧ w = w' := by
  obtain ⟨M, Mr, h1, _⟩ := h
  exact qacked h1
theorem tdropped (h : Two w0 g gr s fs t L w) : Calls Try.prog 22 #[.pointer (some ⟨g, 0, none⟩)] w fun e w' => e = .returned (.int .i64 s.dropped) ∧ w = w' := by
  obtain ⟨M, Mr, h1, _⟩ := h
  exact qdropped h1
/-- What both tell, in whole numbers. -/
theorem QInv.sums (hi : QInv s fs t L gn n) (hn : n ≤ 1000) : s.acked + (fs.length : Int) + s.dropped = (L.length : Int) + t.drop ∧ (0 ≤ s.acked ∧ s.acked ≤ 1000) ∧ (0 ≤ s.dropped ∧ s.dropped ≤ 1000) ∧ fs.length ≤ 1000 ∧ (fs.length : Int) ≤ t.most := by
  have h1 := hi.rel.len
  have h2 := hi.gn0
  have h3 := hi.rel.acked
  have h4 := hi.rel.dropped
  have h5 := hi.dr
  have h6 := hi.len
  have h7 := hi.most
  omega
end
theorem QInv.new (most base longest : Int) (hb : base ≤ 9223372036854775807) (hl : longest ≤ 9223372036854775807) :
    QInv (newQ most base longest) [] ⟨0, max most 0, max base 1, max longest (max base 1), 0, false, false, 0, 0⟩ [] 0 0 :=
  ⟨⟨rfl, Nat.le_refl _, rfl, rfl, rfl, rfl, rfl, rfl, rfl, rfl, rfl, rfl⟩, fun e => Bool.noConfusion (show false = true from e), by show 1 ≤ max base 1; omega, by show max base 1 ≤ max longest (max base 1); omega, by show max longest (max base 1) ≤ _; omega, ⟨Int.le_refl 0, Int.le_refl 0⟩, ⟨Int.le_refl 0, Int.le_refl 0⟩, Nat.le_refl _, by simp, by show (0 : Int) - 0 ≤ max most 0; omega⟩
theorem tnew (w : World) (most base longest : Int) : Calls Try.prog 8 #[.int .i64 most, .int .i64 base, .int .i64 longest] w fun e w' => e = .returned (.pointer (some ⟨w.heap.size, 0, none⟩)) ∧ QSt w' w.heap.size (newQ most base longest) [] (· = w.heap.size) ∧ Below w.heap.size w w' := by
  refine (new_any w most base longest).mono ?_
  rintro e w' ⟨rfl, hb, hbl⟩
  refine ⟨rfl, ⟨_, [], fun _ => False, hb, .inl ⟨World.ownsRow_nil _ _ _ _, fun b e => by cases e⟩, rfl, rfl, fun h => h, fun _ h => h.elim, fun k h => by have h : k = w.heap.size := h; rw [h]; exact (Array.getElem?_eq_some_iff.1 hb).1⟩, hbl⟩
theorem step_maxw {P : Program} {w : World} {ops : Array Oper} {rest : List Oper} {o : Oper} {a : Act} {Q : Exit → Act → World → Prop} (hgd : o.guard = none ∨ Region.wanted o (yielded ops a.tmps) = true) (ts : Array TypeId) (x y : Operand) (ho : o.op = .call { callee := .builtin .max, args := #[x, y], argTypes := ts }) (p q : Int) (hx : a.eval x = .int .i64 p) (hy : a.eval y = .int .i64 q) (v : Int) (hv : max p q = v)
    (hK : wpList P ops Q rest (a.put o.dst (.int .i64 v)) w) : wpList P ops Q (o :: rest) a w := by
  refine step_want hgd _ w ?_ hK
  unfold execOp
  have e : (if q > p then q else p) = v := by rw [← hv]; split <;> omega
  simp [ho, resolve, invoke, builtin, hx, hy, Builtin.max_, Builtin.max2, e]
theorem drew_below2 (W : World) (n : Nat) : Below W.heap.size W (W.drewN n) := ⟨rfl, rfl, rfl, Nat.le_refl _, fun _ _ => rfl⟩
end Go.Proofs.Ytdomnjakhecbaaa
