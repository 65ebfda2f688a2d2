/- The walks over the queue's Next, Hand, and what it tells. -/
import Derived.Test.YtdomnjakhecbaaaQuF
import Derived.Test.YtdomnjakhecbaaaFrW
namespace Go.Proofs.Ytdomnjakhecbaaa
open Go.RowKit K
/-- A frame that may be, of numbers that fit. -/
def FOk (f : Frm) : Prop := f.seq < 18446744073709551616 ∧ (-9223372036854775808 ≤ f.win ∧ f.win ≤ 9223372036854775807) ∧ (∀ x ∈ f.recs, RecFit x) ∧ mayB f.seq f.win f.recs = true
section
variable {w : World} {g : Nat} {s : QR} {fs : List Frm} {M : Nat → Prop}
theorem QSt.box (h : QSt w g s fs M) : ∃ a c, QBox w g (.slice a fs.length c) s := by
  obtain ⟨v, xs, N, h1, h2, _⟩ := h
  obtain ⟨a, c, rfl⟩ := h2.slice
  exact ⟨a, c, h1⟩
theorem qwaiting (h : QSt w g s fs M) : Calls Try.prog 16 #[.pointer (some ⟨g, 0, none⟩)] w fun e w' => e = .returned (.int .i64 fs.length) ∧ w = w' := by
  obtain ⟨a, c, hb⟩ := h.box
  exact waiting_any w g a _ c s hb
theorem qacked (h : QSt w g s fs M) : Calls Try.prog 15 #[.pointer (some ⟨g, 0, none⟩)] w fun e w' => e = .returned (.int .i64 s.acked) ∧ w = w' := by
  obtain ⟨a, c, hb⟩ := h.box
  exact acked_any w g _ s hb
theorem qdropped (h : QSt w g s fs M) : Calls Try.prog 22 #[.pointer (some ⟨g, 0, none⟩)] w fun e w' => e = .returned (.int .i64 s.dropped) ∧ w = w' := by
  obtain ⟨a, c, hb⟩ := h.box
  exact dropped_any w g _ s hb
theorem qtries (h : QSt w g s fs M) : Calls Try.prog 26 #[.pointer (some ⟨g, 0, none⟩)] w fun e w' => e = .returned (.int .i64 s.tries) ∧ w = w' := by
  obtain ⟨a, c, hb⟩ := h.box
  exact tries_any w g _ s hb
theorem qsink (h : QSt w g s fs M) : Calls Try.prog 28 #[.pointer (some ⟨g, 0, none⟩)] w fun e w' => e = .returned (.bool s.sink) ∧ w = w' := by
  obtain ⟨a, c, hb⟩ := h.box
  exact atSink_any w g _ s hb
theorem qnext (h : QSt w g s fs M) : Calls Try.prog 11 #[.pointer (some ⟨g, 0, none⟩)] w fun e w' => e = .returned (nextV fs.length s) ∧ w = w' := by
  obtain ⟨a, c, hb⟩ := h.box
  exact next_any w g a _ c s hb
/-- The first frame's cells. -/
theorem RowQ.first {v : Value} {n : Nat} {xs : List Value} {N : Nat → Prop} (h : RowQ w g v n xs N M) (hN : ¬ N g) (hn : 0 < n) (hm : n ≤ 9223372036854775807) : ∃ b off c, v = .slice (some ⟨b, off, none⟩) n c ∧ n ≤ c ∧ c ≤ 9223372036854775807 ∧ (∀ j u, xs[j]? = some u → w.cell? ⟨b, off + j, none⟩ = some u) ∧ b ≠ g ∧ (M b ∨ N b) := by
  rcases h with ⟨h, hb⟩ | ⟨hl, ad, rfl, h, hn'⟩
  · rcases h.2 with ⟨rfl, rfl⟩ | ⟨b, cap, cur, rfl, h1, h2, h3, h4, h5⟩
    · omega
    · refine ⟨b, 0, cap, rfl, h3, (by unfold maxLen at h4; omega), fun j u hu => ?_, (by omega), .inl (hb b rfl).1⟩
      have := h.cells (g := b) rfl j u hu
      simpa [Addr.add_lit] using this
  · have hsp : ad.spot = none := by
      have h0 : 0 < xs.length := by omega
      have := h 0 xs[0] (by simp [h0])
      simpa [Addr.add] using World.cell?_spot this
    obtain ⟨b, off, sp⟩ := ad
    simp only at hsp
    subst hsp
    refine ⟨b, off, n, rfl, Nat.le_refl _, hm, fun j u hu => ?_, fun e => hN (by rw [← e]; exact hn'), .inr hn'⟩
    · simpa [Addr.add_lit] using h j u hu
def HandP (w : World) (g : Nat) (s : QR) (fs : List Frm) (M : Nat → Prop) (now : Int) (e : Ending) (w' : World) : Prop :=
  match fs with
  | [] => e = .returned (.tuple #[.slice none 0 0, .bool false]) ∧ w = w'
  | f :: _ => if s.sink = true ∨ now < s.time then e = .returned (.tuple #[.slice none 0 0, .bool false]) ∧ w = w' else
    ∃ v, e = .returned (.tuple #[v, .bool true]) ∧ w'.ownsRow w.heap.size 5 1 v (encB f.seq f.win f.recs).length (bv (encB f.seq f.win f.recs)) ∧ QSt w' g { s with sink := true } fs M ∧ Only M w w'
theorem HandP.mk {w' : World} {now : Int} {f : Frm} {r : List Frm} {v : Value} (hs : s.sink = false) (ht : ¬ now < s.time) (h1 : w'.ownsRow w.heap.size 5 1 v (encB f.seq f.win f.recs).length (bv (encB f.seq f.win f.recs))) (h2 : QSt w' g { s with sink := true } (f :: r) M) (h3 : Only M w w') :
    HandP w g s (f :: r) M now (.returned (.tuple #[v, .bool true])) w' := by
  show (if _ then _ else _)
  rw [if_neg (by rw [hs]; simp; omega)]
  exact ⟨v, rfl, h1, h2, h3⟩
set_option maxHeartbeats 1000000 in
set_option maxRecDepth 100000 in
theorem qhand (h : QSt w g s fs M) (now : Int) (hf : ∀ f ∈ fs, FOk f) (hm : fs.length ≤ 1000000) : Calls Try.prog 12 #[.pointer (some ⟨g, 0, none⟩), .int .i64 now] w (HandP w g s fs M now) := by
  have HN := Lib.hid (qnext h)
  cases fs with
  | nil =>
    simp only [List.length_nil, nextV, true_or, if_true] at HN
    clear hf hm h
    go_enter Try.func12, Try.ntmps12
    go_wp2_with fail
    refine HN.out.mono ?_
    rintro e w1 ⟨rfl, rfl⟩
    go_wp2
    go_ret2
    exact ⟨rfl, rfl⟩
  | cons f r =>
    have hlen : ¬ (f :: r).length = 0 := by simp
    obtain ⟨v, xs, N, hbox, hrow, hfr, hMg, hNg, hNM, hMl⟩ := h
    obtain ⟨most, base, longest, put, acked, dropped, sink, time, tries⟩ := s
    simp only [nextV, hlen, false_or] at HN
    cases sink with
    | true =>
      simp only [if_true] at HN
      clear hf hm hbox hrow hfr hNM hMl hlen
      go_enter Try.func12, Try.ntmps12
      go_wp2_with fail
      refine HN.out.mono ?_
      rintro e w1 ⟨rfl, rfl⟩
      go_wp2
      go_ret2
      unfold HandP
      simp
    | false =>
      simp only [Bool.false_eq_true, if_false] at HN
      by_cases ht : now < time
      · clear hf hm hbox hrow hfr hNM hMl hlen
        go_enter Try.func12, Try.ntmps12
        go_wp2_with fail
        refine HN.out.mono ?_
        rintro e w1 ⟨rfl, rfl⟩
        go_wp2
        go_ret2
        unfold HandP
        simp [ht]
      · obtain ⟨b, off, c, rfl, hnc, hcm, hcells, hbg, hMN⟩ := hrow.first hNg (by simp) (by omega)
        obtain ⟨cs, ⟨ra, rc, rfl, hrc, hrr, hrN⟩, h2⟩ := hfr.at 0 (by simp)
        obtain ⟨hq2, ⟨hw1, hw2⟩, hs, hmay⟩ := hf f (by simp)
        obtain ⟨hp1, hp2, hp3, hp4⟩ := may_parts hmay
        have k0 : w.cell? ⟨b, off, none⟩ = some (.int .u64 f.seq) := hcells 0 _ (h2 0 (by omega))
        have k1 : w.cell? ⟨b, off + 1, none⟩ = some (.int .i64 f.win) := hcells 1 _ (h2 1 (by omega))
        have k2 : w.cell? ⟨b, off + 2, none⟩ = some (.slice ra f.recs.length rc) := hcells 2 _ (h2 2 (by omega))
        have c0 := hbox.c0
        have c7 := hbox.c7
        have z7 : w.frozen? ⟨g, 7, none⟩ = false := frozen_of_row w g 7 _ _ hbox
        have ho : Only (· = g) w (w.setCell ⟨g, 7, none⟩ (.bool true)) := (Only.refl (· = g) w).setCell _ _ (fun _ => rfl)
        have hrn : ∀ ad, ra = some ad → ¬ ad.block = g := fun ad e h => hNg (by rw [← h]; exact hrN ad e)
        have HE := Lib.hid (encode_yes (w.setCell ⟨g, 7, none⟩ (.bool true)) f.seq f.win ra rc f.recs (by omega) hq2 hw1 hw2 hp3 hs (fun x hx => (hp4 x hx).2) (ho.rd hrr hrn) hmay)
        have HQ := Lib.hid (QSt.turn (s' := ⟨most, base, longest, put, acked, dropped, true, time, tries⟩) ⟨_, xs, N, hbox, hrow, hfr, hMg, hNg, hNM, hMl⟩ (fun v hv => by unfold QBox at hv ⊢; rw [heap_setCell_same _ _ _ _ _ _ hv]; rfl) ho)
        have HO := Lib.hid ho
        clear hf hm hbox hrow hfr hNM hMl hlen hcells h2 hrr hrN hs hmay hp4 hrn ho
        unfold frv at HE
        go_enter Try.func12, Try.ntmps12
        go_wp2_with fail
        refine HN.out.mono ?_
        rintro e w1 ⟨rfl, rfl⟩
        go_wp2_with fail
        refine HE.out.mono ?_
        rintro e w4 ⟨v, rfl, hown, hb4⟩
        have HW := Lib.hid hown
        have HB4 := Lib.hid hb4
        clear hown hb4
        go_wp2
        go_ret2
        have hsz : (w.setCell ⟨g, 7, none⟩ (.bool true)).heap.size = w.heap.size := by simp
        exact HandP.mk (s := ⟨most, base, longest, put, acked, dropped, false, time, tries⟩) rfl (Int.not_lt.2 ht) (by rw [← hsz]; exact HW.out) (HQ.out.new HB4.out) (HO.out.mono (fun k _ h => by have h : k = g := h; rw [h]; exact hMg) |>.trans (Only.of_new HB4.out) (fun _ _ h => h))
end
end Go.Proofs.Ytdomnjakhecbaaa
