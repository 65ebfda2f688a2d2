/- Windows: room, Note, Floor, Mark, Counts, New: the walks. -/
import Derived.Test.YtbkpgpaanhfjfaaWiC
import Derived.Deep.QuietTactic
import Derived.BigQuiet
namespace Go.Proofs.Ytbkpgpaanhfjfaa
open Go.RowKit Go.Sort K
theorem below_drewN' {n0 : Nat} {w W : World} (h : Below n0 w W) (k : Nat) : Below n0 w (W.drewN k) := by
  obtain ⟨h1, h2, h3, h4, h5⟩ := h
  exact ⟨h1, h2, h3, h4, h5⟩
/-- A list of windows in memory, to be read. -/
structure WC where
  x : WV
  a : Option Addr
  c : Nat
def WC.cells (y : WC) : List Value := [.int .i64 y.x.num, .slice y.a y.x.cr.length y.c]
def wcf (ys : List WC) : List Value := ys.flatMap WC.cells
theorem wcf_length (ys : List WC) : (wcf ys).length = 2 * ys.length := flat_length _ 2 (fun _ => rfl) ys
theorem wcf_app (a b : List WC) : wcf (a ++ b) = wcf a ++ wcf b := by simp [wcf]
theorem wcf_one (l : List WC) : ∀ u ∈ wcf l, u.oneCell' = true := by
  intro u hu
  obtain ⟨v, -, h⟩ := List.mem_flatMap.1 hu
  simp only [WC.cells, List.mem_cons, List.not_mem_nil, or_false] at h
  rcases h with rfl | rfl <;> rfl
theorem wc_one (c : WC) : ∀ u ∈ c.cells, u.oneCell' = true := fun u hu => by
  simp only [WC.cells, List.mem_cons, List.not_mem_nil, or_false] at hu
  rcases hu with rfl | rfl <;> rfl
def WCok (P : Nat → Prop) (w : World) (y : WC) : Prop := Rd w y.a (crf y.x.cr) ∧ ∀ ad, y.a = some ad → P ad.block
def WinsM (P : Nat → Prop) (w : World) (l : List WV) (a : Option Addr) : Prop := ∃ ys : List WC, l = ys.map (·.x) ∧ (∀ y ∈ ys, WCok P w y) ∧ Rd w a (wcf ys) ∧ ∀ ad, a = some ad → P ad.block
theorem WCok.only {P Q : Nat → Prop} {w w' : World} {y : WC} (h : WCok P w y) (ho : Only Q w w') (hd : ∀ k, P k → ¬ Q k) : WCok P w' y := ⟨ho.rd h.1 (fun ad e => hd _ (h.2 ad e)), h.2⟩
theorem WinsM.only {P Q : Nat → Prop} {w w' : World} {l : List WV} {a : Option Addr} (h : WinsM P w l a) (ho : Only Q w w') (hd : ∀ k, P k → ¬ Q k) : WinsM P w' l a := by
  obtain ⟨ys, h1, h2, h3, h4⟩ := h
  exact ⟨ys, h1, fun y hy => (h2 y hy).only ho hd, ho.rd h3 (fun ad e => hd _ (h4 ad e)), h4⟩
theorem WinsM.new {P : Nat → Prop} {w w' : World} {l : List WV} {a : Option Addr} (h : WinsM P w l a) (hb : Below w.heap.size w w') : WinsM P w' l a := h.only (Q := fun _ => False) (Only.of_new hb) (fun _ _ h => h)
theorem WinsM.mono {P Q : Nat → Prop} {w : World} {l : List WV} {a : Option Addr} (h : WinsM P w l a) (hd : ∀ k, P k → Q k) : WinsM Q w l a := by
  obtain ⟨ys, h1, h2, h3, h4⟩ := h
  exact ⟨ys, h1, fun y hy => ⟨(h2 y hy).1, fun ad e => hd _ ((h2 y hy).2 ad e)⟩, h3, fun ad e => hd _ (h4 ad e)⟩
theorem WinsM.nil (P : Nat → Prop) (w : World) : WinsM P w [] none := ⟨[], rfl, (fun y hy => by simp at hy), Rd.nil _ _, (fun ad e => by cases e)⟩
theorem rising_at {w : World} {B g M : Nat} {s : Cfg} {es : List WE} {L : List WV} (h : WinAt w B g M s es) (hp : (es.map WE.vw).Perm L) (hs : WS L) (hb : WBd L) :
    Calls Try.prog 30 #[.map (some M)] w fun e w' => ∃ v, e = .returned v ∧ w'.ownsRow w.heap.size 2 1 v L.length ((L.map (·.num)).map encZ) ∧ Below w.heap.size w w' := by
  have hl : (wents es).length = L.length := by
    have := hp.length_eq
    simpa [wents] using this
  have h1 := rising_c h.2.1 (by rw [wents_fst]; exact es_nums hp hs) (fun p hpm => by
    obtain ⟨e, he, rfl⟩ := List.mem_map.1 hpm
    have h9 := hb.num e.vw (hp.mem_iff.1 (List.mem_map.2 ⟨e, he, rfl⟩))
    show (Lit.int .i64 e.num).wf = true
    have h10 : 0 ≤ e.num ∧ e.num ≤ 1125899906842624 := h9
    simp [Lit.wf, IntKind.min, IntKind.max, IntKind.signed, IntKind.bits]
    omega) (by rw [hl]; have := hb.len; omega)
  rw [wv_sort hp hs, hl] at h1
  exact h1
section
variable {w : World} {B g : Nat} {s : Cfg} {L : List WV} {F : List Nat}
/-- The window is open, or there is room. -/
def RoomY (w : World) (B g : Nat) (s : Cfg) (L : List WV) (F : List Nat) (b : Bool) (e : Ending) (w' : World) : Prop := e = .returned (.tuple #[.bool b, .slice none 0 0]) ∧ Below w.heap.size w w'
theorem mget_wents_iff {es : List WE} (hp : (es.map WE.vw).Perm L) (hs : WS L) (n : Int) : (mget n (wents es)).isSome = decide (n ∈ L.map (·.num)) := by
  have h1 : (es.map (·.num)).Perm (L.map (·.num)) := by
    have := hp.map (·.num)
    rwa [List.map_map] at this
  by_cases hn : n ∈ L.map (·.num)
  · rw [decide_eq_true hn]
    have h2 := h1.mem_iff.2 hn
    obtain ⟨e, he, rfl⟩ := List.mem_map.1 h2
    have h3 : mget e.num (wents es) = some (.map (some e.m)) := mget_of_mem (by rw [wents_fst]; exact es_nums hp hs) (List.mem_map.2 ⟨e, he, rfl⟩)
    rw [h3]
    rfl
  · rw [decide_eq_false hn, mget_not_mem (by rw [wents_fst]; exact fun h => hn (h1.mem_iff.1 h))]
    rfl
set_option maxHeartbeats 2000000 in
set_option maxRecDepth 100000 in
theorem room_yes (h : WinIs w B g s L F) (hb : WBd L) (n : Int) (hroom : n ∈ L.map (·.num) ∨ (L.length : Int) < s.most) :
    Calls Try.prog 28 #[.pointer (some ⟨g, 0, none⟩), .int .i64 n] w (RoomY w B g s L F true) := by
  obtain ⟨M, es, h1, hp, hs, rfl⟩ := h
  have hlen := fun k => K.run_len_map (P := Try.prog) (h1.2.1.drewN k) Try.underlying60 3
  have hl : (wents es).length = L.length := by
    have := hp.length_eq
    simpa [wents] using this
  rw [hl] at hlen
  have c3 : w.cell? ⟨g, 3, none⟩ = some (.map (some M)) := h1.cell 3 rfl
  have c2 : w.cell? ⟨g, 2, none⟩ = some (.int .i64 s.most) := h1.cell 2 rfl
  have hlk := run_lookup iKey h1.2.1 Try.underlying60 (.map none) (zMapC w) n true
  rw [mget_wents_iff hp hs n] at hlk
  generalize (mget n (wents es)).getD (.map none) = mv at hlk
  have hlk2 : Sem.run Try.prog (Instr.lookup 60 (.map (some M)) (.int .i64 n) true) w = .ok (.tuple #[mv, .bool (decide (n ∈ L.map (·.num)))]) w := hlk
  clear hlk h1 hp hs hl hb
  generalize s.most = mo at c2 hroom
  generalize L.length = ln at hlen hroom
  cases hd : decide (n ∈ L.map (·.num)) with
  | true =>
    rw [hd] at hlk2
    clear hroom hd
    go_enter Try.func28, Try.ntmps28
    go_wp2_with fail
    go_quiet (fail)
    go_wp2
    go_ret2
    exact ⟨rfl, below_drewN' (Below.refl _ w) _⟩
  | false =>
    rw [hd] at hlk2
    have hlt : (ln : Int) < mo := hroom.resolve_left (of_decide_eq_false hd)
    clear hroom hd
    go_enter Try.func28, Try.ntmps28
    go_wp2_with fail
    go_quiet (fail)
    go_wp2
    go_ret2
    exact ⟨rfl, below_drewN' (Below.refl _ w) _⟩
def RoomC (w : World) (B g : Nat) (F : List Nat) (s : Cfg) (L : List WV) (v : WV) (e : Ending) (w' : World) : Prop :=
  ∃ a, e = .returned (.tuple #[.bool true, .slice (some a) 1 1]) ∧ WinsM (fun k => w.heap.size ≤ k ∧ k < w'.heap.size) w' [v] (some a) ∧ WinSub w B g F { s with floor := max s.floor v.num } (wdel v.num L) w'
set_option maxHeartbeats 4000000 in
set_option maxRecDepth 100000 in
theorem room_full (h : WinIs w B g s L F) (hb : WBd L) (n : Int) (hno : n ∉ L.map (·.num)) (hfull : s.most ≤ (L.length : Int)) {v : WV} {t : List WV} (hL : L = v :: t) :
    Calls Try.prog 28 #[.pointer (some ⟨g, 0, none⟩), .int .i64 n] w fun e w' => if n < v.num then RoomY w B g s L F false e w' else RoomC w B g F s L v e w' := by
  have hv : v ∈ L := by rw [hL]; simp
  have HC := Lib.hid (fun W (hB : Below w.heap.size w W) => close_any (h.new hB) hb hv)
  obtain ⟨M, es, h1, hp, hs, rfl⟩ := h
  have HA := Lib.hid h1
  have HR := Lib.hid (fun W (hB : Below w.heap.size w W) => rising_at (h1.below hB) hp hs hb)
  have hlen := fun k => K.run_len_map (P := Try.prog) (h1.2.1.drewN k) Try.underlying60 3
  have hl : (wents es).length = L.length := by
    have := hp.length_eq
    simpa [wents] using this
  rw [hl] at hlen
  have c3 : w.cell? ⟨g, 3, none⟩ = some (.map (some M)) := h1.cell 3 rfl
  have c2 : w.cell? ⟨g, 2, none⟩ = some (.int .i64 s.most) := h1.cell 2 rfl
  have hlk := run_lookup iKey h1.2.1 Try.underlying60 (.map none) (zMapC w) n true
  rw [mget_wents_iff hp hs n, decide_eq_false hno] at hlk
  generalize (mget n (wents es)).getD (.map none) = mv at hlk
  have hlk2 : Sem.run Try.prog (Instr.lookup 60 (.map (some M)) (.int .i64 n) true) w = .ok (.tuple #[mv, .bool false]) w := hlk
  have HF := Lib.hid (show (L.map (·.num)).map encZ = encZ v.num :: (t.map (·.num)).map encZ by rw [hL]; rfl)
  have hge : ¬ ((L.length : Int) < s.most) := by omega
  clear hlk h1 hp hs hl hb hno hv hL
  generalize hmo : s.most = mo at c2 hge
  generalize hln : L.length = ln at hlen hge HR
  have hge2 : ((ln : Int) < mo) = False := by rw [eq_iff_iff, iff_false]; exact hge
  clear hge hmo hfull hln
  go_enter Try.func28, Try.ntmps28
  go_wp2_with fail
  go_quiet (fail)
  obtain ⟨W1, hW1⟩ : ∃ V, V = w.drewN nq := ⟨_, rfl⟩
  have HB1 := Lib.hid (show Below w.heap.size w W1 by rw [hW1]; exact below_drewN' (Below.refl _ w) _)
  have c3b : W1.cell? ⟨g, 3, none⟩ = some (.map (some M)) := keepc HB1.out c3
  rw [← hW1]
  clear hW1 c3 c2 hlk2 hge2 hlen
  go_wp2_with fail
  refine (HR.out W1 HB1.out).mono ?_
  rintro e w2 ⟨rv, rfl, hrow, hb2⟩
  obtain ⟨ra, rc, rfl, hcc, -, -, hrd⟩ := own_slice3 hrow
  rw [HF.out] at hrd
  obtain ⟨b, off, rfl, hbl, hcell⟩ := hrd.at (k := 0) (v := encZ v.num) rfl
  have HB2 := Lib.hid (HB1.out.trans (hb2.mono HB1.out.size))
  have hln0 : 0 < ln := by
    have h9 := hrow.1
    rw [HF.out] at h9
    simp at h9
    omega
  simp only [Nat.add_zero] at hcell
  clear hrow hb2 hrd c3b HR HF hcc
  by_cases hnv : n < v.num
  · have HYES := Lib.hid hnv
    simp only [if_pos hnv]
    go_wp2_with fail
    go_ret2
    exact ⟨rfl, HB2.out⟩
  · simp only [if_neg hnv]
    go_wp2_with fail
    refine (HC.out w2 HB2.out).mono ?_
    rintro e w3 ⟨a, c, rfl, hrd, hab, hto⟩
    have hsz := hto
    obtain ⟨F', hF1, hF2, hF3⟩ := hto
    have h23 := hF2.size
    have hb3 : Below w3.heap.size w3 (w3.alloc (.cells #[.int .i64 v.num, .slice a v.cr.length c] 32)) := (Below.refl _ _).alloc (Nat.le_refl _) _
    have HF := Lib.hid (show RoomC w B g (wfoot g M es) s L v (.returned (.tuple #[.bool true, .slice (some ⟨w3.heap.size, 0, none⟩) 1 1])) (w3.alloc (.cells #[.int .i64 v.num, .slice a v.cr.length c] 32)) from by
      refine ⟨_, rfl, ⟨[⟨v, a, c⟩], rfl, fun y hy => ?_, ?_, fun ad e => by cases e; have := HB2.out.size; exact ⟨by show w.heap.size ≤ w3.heap.size; omega, by simp⟩⟩, (hsz.after hb3).start HB2.out⟩
      · simp only [List.mem_singleton] at hy
        subst hy
        exact ⟨hrd.below hb3 (Nat.le_refl _), fun ad e => by have := hab ad e; have := HB2.out.size; have := hb3.size; exact ⟨by omega, by omega⟩⟩
      · exact Rd.new w3 _ _ _ _ (fun j u hu => by simpa [wcf, WC.cells] using hu))
    clear hrd hab hsz hF1 hF2 hF3 h23 hb3
    go_wp2
    go_ret2
    exact HF.out
def noteS (s : Cfg) (t : Int) : Cfg := { s with mark := if 0 ≤ t ∧ t ≤ 1125899906842624 then max s.mark t else s.mark }
set_option maxHeartbeats 1000000 in
theorem note_any (h : WinIs w B g s L F) (hl : 1 ≤ s.len) (t : Int) :
    Calls Try.prog 12 #[.pointer (some ⟨g, 0, none⟩), .int .i64 t] w fun e w' => (∃ v, e = .returned v) ∧ WinTo w B g F (noteS s t) L w' := by
  obtain ⟨M, es, h1, hp, hs, rfl⟩ := h
  have HN := Lib.hid (none_any h1 hl)
  have c5 : w.cell? ⟨g, 5, none⟩ = some (.int .i64 s.mark) := h1.cell 5 rfl
  have z5 : w.frozen? ⟨g, 5, none⟩ = false := frozen_of_row w _ _ _ _ h1.1
  by_cases ht : 0 ≤ t ∧ t ≤ 1125899906842624
  · obtain ⟨ht1, ht2⟩ := ht
    obtain ⟨mx, hmx⟩ : ∃ mx, max s.mark t = mx := ⟨_, rfl⟩
    have HX := Lib.hid hmx
    have HF := Lib.hid (show WinTo w B g (wfoot g M es) (noteS s t) L (w.setCell ⟨g, 5, none⟩ (.int .i64 mx)) from h1.setTo hp hs 5 _ (by unfold noteS; rw [if_pos ⟨ht1, ht2⟩, hmx]; rfl))
    generalize s.mark = mk at c5 HX
    clear h1 hp hs hmx
    go_enter Try.func12, Try.ntmps12
    go_wp2_with fail
    refine HN.out.mono ?_
    rintro e w1 ⟨rfl, rfl⟩
    go_wp2_with (first
      | (with_reducible refine step_max rfl _ _ _ rfl mk t rfl rfl mx HX.out ?_)
      | fail)
    go_end0
    exact ⟨⟨_, rfl⟩, HF.out⟩
  · have HF := Lib.hid (show WinTo w B g (wfoot g M es) (noteS s t) L w from by
      have e : noteS s t = s := by unfold noteS; rw [if_neg ht]
      rw [e]
      exact WinTo.same ⟨M, es, h1, hp, hs, rfl⟩ (Below.refl _ _))
    clear h1 hp hs c5 z5
    by_cases ht1 : 0 ≤ t
    · have ht2 : ¬ t ≤ 1125899906842624 := fun h => ht ⟨ht1, h⟩
      clear ht
      go_enter Try.func12, Try.ntmps12
      go_wp2_with fail
      refine HN.out.mono ?_
      rintro e w1 ⟨rfl, rfl⟩
      go_wp2
      go_end0
      exact ⟨⟨_, rfl⟩, HF.out⟩
    · clear ht
      go_enter Try.func12, Try.ntmps12
      go_wp2_with fail
      refine HN.out.mono ?_
      rintro e w1 ⟨rfl, rfl⟩
      go_wp2
      go_end0
      exact ⟨⟨_, rfl⟩, HF.out⟩
theorem floor_any (h : WinIs w B g s L F) (hl : 1 ≤ s.len) : Calls Try.prog 24 #[.pointer (some ⟨g, 0, none⟩)] w fun e w' => e = .returned (.int .i64 s.floor) ∧ w = w' := by
  obtain ⟨M, es, h1, -⟩ := h
  have HN := Lib.hid (none_any h1 hl)
  have c5 : w.cell? ⟨g, 4, none⟩ = some (.int .i64 s.floor) := h1.cell 4 rfl
  clear h1
  go_enter Try.func24, Try.ntmps24
  go_wp2_with fail
  refine HN.out.mono ?_
  rintro e w1 ⟨rfl, rfl⟩
  go_wp2
  go_ret
  exact ⟨rfl, rfl⟩
theorem mark_any (h : WinIs w B g s L F) (hl : 1 ≤ s.len) : Calls Try.prog 25 #[.pointer (some ⟨g, 0, none⟩)] w fun e w' => e = .returned (.int .i64 s.mark) ∧ w = w' := by
  obtain ⟨M, es, h1, -⟩ := h
  have HN := Lib.hid (none_any h1 hl)
  have c5 : w.cell? ⟨g, 5, none⟩ = some (.int .i64 s.mark) := h1.cell 5 rfl
  clear h1
  go_enter Try.func25, Try.ntmps25
  go_wp2_with fail
  refine HN.out.mono ?_
  rintro e w1 ⟨rfl, rfl⟩
  go_wp2
  go_ret
  exact ⟨rfl, rfl⟩
theorem counts_any (h : WinIs w B g s L F) (hl : 1 ≤ s.len) : Calls Try.prog 16 #[.pointer (some ⟨g, 0, none⟩)] w fun e w' => e = .returned (.tuple #[.int .i64 s.cred, .int .i64 s.late]) ∧ Below w.heap.size w w' := by
  obtain ⟨M, es, h1, -⟩ := h
  have HN := Lib.hid (none_any h1 hl)
  have c6 : w.cell? ⟨g, 6, none⟩ = some (.int .i64 s.cred) := h1.cell 6 rfl
  have c7 : w.cell? ⟨g, 7, none⟩ = some (.int .i64 s.late) := h1.cell 7 rfl
  clear h1
  go_enter Try.func16, Try.ntmps16
  go_wp2_with fail
  refine HN.out.mono ?_
  rintro e w1 ⟨rfl, rfl⟩
  go_wp2_with fail
  go_quiet (fail)
  go_wp2
  go_ret2
  exact ⟨rfl, below_drewN' (Below.refl _ w) _⟩
end
def MayW (len lat most : Int) : Prop := 1 ≤ len ∧ len ≤ 1073741824 ∧ 0 ≤ lat ∧ lat ≤ 1073741824 ∧ 1 ≤ most ∧ most ≤ 64
def cfg0 (len lat most : Int) : Cfg := ⟨len, lat, most, -1, -1, 0, 0⟩
theorem mapAtI_of {w : World} {m : Nat} (h : w.heap[m]? = some (.map #[] 0)) : MapAt iEnc w m ([] : List (Int × Value)) := ⟨#[], 0, h, rfl, by simp, by simp⟩
def NewY (w : World) (len lat most : Int) (e : Ending) (w' : World) : Prop := ∃ g F, e = .returned (.tuple #[.pointer (some ⟨g, 0, none⟩), .int .i64 0]) ∧ WinIs w' w.heap.size g (cfg0 len lat most) [] F ∧ Below w.heap.size w w'
set_option maxHeartbeats 1000000 in
theorem new_any (w : World) (len lat most : Int) (hm : MayW len lat most) : Calls Try.prog 17 #[.int .i64 len, .int .i64 lat, .int .i64 most] w (NewY w len lat most) := by
  obtain ⟨h1, h2, h3, h4, h5, h6⟩ := hm
  have hmm := @run_makeMap Try.prog
  have HF := Lib.hid (show ∀ V, V = (w.alloc (.map #[] 0)).alloc (.cells #[.int .i64 len, .int .i64 lat, .int .i64 most, .map (some w.heap.size), .int .i64 (-1), .int .i64 (-1), .int .i64 0, .int .i64 0] 62) → NewY w len lat most (.returned (.tuple #[.pointer (some ⟨w.heap.size + 1, 0, none⟩), .int .i64 0])) V from fun V hV => by
    have hg : V.heap[w.heap.size + 1]? = some (.cells #[.int .i64 len, .int .i64 lat, .int .i64 most, .map (some w.heap.size), .int .i64 (-1), .int .i64 (-1), .int .i64 0, .int .i64 0] 62 (0, 0)) := by
      rw [hV]
      have h := heap_alloc_new (w.alloc (.map #[] 0)) (.cells #[.int .i64 len, .int .i64 lat, .int .i64 most, .map (some w.heap.size), .int .i64 (-1), .int .i64 (-1), .int .i64 0, .int .i64 0] 62)
      rw [World.size_alloc] at h
      exact h
    have hM : V.heap[w.heap.size]? = some (.map #[] 0) := by rw [hV]; exact (Below.heap_alloc _ _ _ (by simp)).trans (heap_alloc_new w _)
    refine ⟨_, _, rfl, ⟨w.heap.size, [], ⟨hg, mapAtI_of hM, by simp, by simp [wfoot], by simp [wfoot]⟩, List.Perm.refl _, by simp [WS], rfl⟩, by rw [hV]; exact ((Below.refl _ _).alloc (Nat.le_refl _) _).alloc (by simp) _⟩)
  go_enter Try.func17, Try.ntmps17
  go_wp2
  go_ret2
  exact HF.out _ rfl
/-- There are no such windows. -/
theorem new_no (w : World) (len lat most : Int) (hm : ¬ MayW len lat most) : Calls Try.prog 17 #[.int .i64 len, .int .i64 lat, .int .i64 most] w fun e w' => e = .returned (.tuple #[.pointer none, .int .i64 2]) ∧ w = w' := by
  by_cases h1 : 1 ≤ len
  rotate_left 1
  · clear hm
    go_enter Try.func17, Try.ntmps17
    go_wp2
    go_ret2
    exact ⟨rfl, rfl⟩
  by_cases h2 : len ≤ 1073741824
  rotate_left 1
  · clear hm
    go_enter Try.func17, Try.ntmps17
    go_wp2
    go_ret2
    exact ⟨rfl, rfl⟩
  by_cases h3 : 0 ≤ lat
  rotate_left 1
  · clear hm
    go_enter Try.func17, Try.ntmps17
    go_wp2
    go_ret2
    exact ⟨rfl, rfl⟩
  by_cases h4 : lat ≤ 1073741824
  rotate_left 1
  · clear hm
    go_enter Try.func17, Try.ntmps17
    go_wp2
    go_ret2
    exact ⟨rfl, rfl⟩
  by_cases h5 : 1 ≤ most
  rotate_left 1
  · clear hm
    go_enter Try.func17, Try.ntmps17
    go_wp2
    go_ret2
    exact ⟨rfl, rfl⟩
  by_cases h6 : most ≤ 64
  rotate_left 1
  · clear hm
    go_enter Try.func17, Try.ntmps17
    go_wp2
    go_ret2
    exact ⟨rfl, rfl⟩
  exact absurd ⟨h1, h2, h3, h4, h5, h6⟩ hm
theorem may_yes (w : World) (len lat most : Int) (hm : MayW len lat most) : Calls Try.prog 8 #[.int .i64 len, .int .i64 lat, .int .i64 most] w fun e w' => e = .returned (.int .i64 0) ∧ w = w' := by
  obtain ⟨h1, h2, h3, h4, h5, h6⟩ := hm
  go_enter Try.func8, Try.ntmps8
  go_wp2
  go_ret
  exact ⟨rfl, rfl⟩
theorem may_no (w : World) (len lat most : Int) (hm : ¬ MayW len lat most) : Calls Try.prog 8 #[.int .i64 len, .int .i64 lat, .int .i64 most] w fun e w' => e = .returned (.int .i64 2) ∧ w = w' := by
  by_cases h1 : 1 ≤ len
  rotate_left 1
  · clear hm
    go_enter Try.func8, Try.ntmps8
    go_wp2
    go_ret
    exact ⟨rfl, rfl⟩
  by_cases h2 : len ≤ 1073741824
  rotate_left 1
  · clear hm
    go_enter Try.func8, Try.ntmps8
    go_wp2
    go_ret
    exact ⟨rfl, rfl⟩
  by_cases h3 : 0 ≤ lat
  rotate_left 1
  · clear hm
    go_enter Try.func8, Try.ntmps8
    go_wp2
    go_ret
    exact ⟨rfl, rfl⟩
  by_cases h4 : lat ≤ 1073741824
  rotate_left 1
  · clear hm
    go_enter Try.func8, Try.ntmps8
    go_wp2
    go_ret
    exact ⟨rfl, rfl⟩
  by_cases h5 : 1 ≤ most
  rotate_left 1
  · clear hm
    go_enter Try.func8, Try.ntmps8
    go_wp2
    go_ret
    exact ⟨rfl, rfl⟩
  by_cases h6 : most ≤ 64
  rotate_left 1
  · clear hm
    go_enter Try.func8, Try.ntmps8
    go_wp2
    go_ret
    exact ⟨rfl, rfl⟩
  exact absurd ⟨h1, h2, h3, h4, h5, h6⟩ hm
end Go.Proofs.Ytbkpgpaanhfjfaa
