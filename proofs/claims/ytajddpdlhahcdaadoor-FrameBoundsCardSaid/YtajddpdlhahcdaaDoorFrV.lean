/- The walks over bytes.Equal, bytes.HasPrefix, and over frame.Decode where it answers early. -/
import Derived.Test.YtajddpdlhahcdaaDoorFrT
import Derived.Lib.Bytes
namespace Go.Proofs.YtajddpdlhahcdaaDoor
open Go.RowKit K
theorem equal_any (w : World) (a b : Option Addr) (c d : Nat) (x y : List UInt8) (hx : Rd w a (bv x)) (hy : Rd w b (bv y)) :
    Calls Tryd.prog 24 #[.slice a x.length c, .slice b y.length d] w fun e w' => e = .returned (.bool (decide (x = y))) ∧ w = w' := by
  have h1 := run_bytes_string (P := Tryd.prog) w 28 9 5 Tryd.underlying28 Tryd.underlying5 Tryd.underlying9 a c x hx
  have h2 := run_bytes_string (P := Tryd.prog) w 28 9 5 Tryd.underlying28 Tryd.underlying5 Tryd.underlying9 b d y hy
  obtain ⟨s, hs⟩ : ∃ s : ByteArray, s = ⟨x.toArray⟩ := ⟨_, rfl⟩
  obtain ⟨t, ht⟩ : ∃ s : ByteArray, s = ⟨y.toArray⟩ := ⟨_, rfl⟩
  rw [← hs] at h1
  rw [← ht] at h2
  have HE := Lib.hid (show (s.toList == t.toList) = decide (x = y) by rw [Lib.toList_data, Lib.toList_data, hs, ht]; show (x == y) = _; by_cases h : x = y <;> simp [h])
  clear hs ht hx hy
  go_enter Tryd.func24, Tryd.ntmps24
  go_wp2
  go_ret
  exact ⟨ret_bool HE.out, rfl⟩
theorem rd_take {w : World} {a : Option Addr} {x : List UInt8} (h : Rd w a (bv x)) (n : Nat) : Rd w a (bv (x.take n)) := by
  intro k v hv
  refine h k v ?_
  have e : bv (x.take n) = (bv x).take n := by simp [bv]
  rw [e, List.getElem?_take] at hv
  split at hv
  · exact hv
  · cases hv
theorem rd_drop {w : World} {b off : Nat} {x : List UInt8} (h : Rd w (some ⟨b, off, none⟩) (bv x)) (n : Nat) : Rd w (some ⟨b, off + n, none⟩) (bv (x.drop n)) := by
  intro k v hv
  have e : bv (x.drop n) = (bv x).drop n := by simp [bv]
  rw [e, List.getElem?_drop] at hv
  obtain ⟨b', off', he, hc⟩ := h _ _ hv
  cases he
  exact ⟨b, off + n, rfl, by rw [Nat.add_assoc]; exact hc⟩
theorem prefix_any (w : World) (a b : Option Addr) (c d : Nat) (x y : List UInt8) (hc : x.length ≤ c) (hy0 : 0 < y.length) (hx : Rd w a (bv x)) (hy : Rd w b (bv y)) :
    Calls Tryd.prog 23 #[.slice a x.length c, .slice b y.length d] w fun e w' => e = .returned (.bool (decide (x.take y.length = y))) ∧ w = w' := by
  by_cases hl : y.length ≤ x.length
  · have hg : ((y.length : Int) ≤ x.length) := by omega
    have he := equal_any w a b c d (x.take y.length) y (rd_take hx _) hy
    have e : (x.take y.length).length = y.length := by rw [List.length_take]; omega
    rw [e] at he
    obtain ⟨ab, ao, rfl, hx0⟩ := hx 0 _ (bv_get (show 0 < x.length by omega))
    have HE := Lib.hid he
    clear he hx hy hx0 e
    go_enter Tryd.func23, Tryd.ntmps23
    go_wp2_with fail
    refine HE.out.mono ?_
    rintro e w1 ⟨rfl, rfl⟩
    go_wp2
    go_ret
    exact ⟨rfl, rfl⟩
  · have HN := Lib.hid (show decide (x.take y.length = y) = false by
      rw [decide_eq_false_iff_not]
      intro h
      have := congrArg List.length h
      rw [List.length_take] at this
      omega)
    have hl2 : ¬ ((y.length : Int) ≤ x.length) := by omega
    clear hx hy
    go_enter Tryd.func23, Tryd.ntmps23
    go_wp2
    go_ret
    exact ⟨ret_bool HN.out.symm, rfl⟩
set_option maxRecDepth 100000
/-- What a frame's bytes have ahead of their sum, and the sum's own bytes. -/
def tagged (l : List UInt8) : Bool := decide (l.take 4 = tagB)
def DecPost (w : World) (k : Int) (e : Ending) (w' : World) : Prop := e = .returned (.tuple #[frv 0 0 (.slice none 0 0), .int .i64 k]) ∧ Below w.heap.size w w'
theorem decode_tag (w : World) (a : Option Addr) (c : Nat) (l : List UInt8) (hc : l.length ≤ c) (hl : l.length ≤ 140737488355328) (hr : Rd w a (bv l)) (ht : tagged l = false) :
    Calls Tryd.prog 13 #[.slice a l.length c] w (DecPost w 25) := by
  have hb0 : ∀ o p, Below w.heap.size w ((w.alloc o).alloc p) := fun o p => ((Below.refl _ _).alloc (Nat.le_refl _) o).alloc (by simp) p
  have hcv := fun o => conv_tag2 (w.alloc o)
  have hsz : ∀ o, (w.alloc o).heap.size = w.heap.size + 1 := fun o => by simp
  simp only [hsz] at hcv
  have hp := fun o p C t fr hC => prefix_any ((w.alloc o).alloc (.cells C t fr)) a (some ⟨(w.alloc o).heap.size, 0, none⟩) c p l tagB hc (by decide) (hr.below (hb0 o _) (Nat.le_refl _)) (Rd.new _ C t fr _ hC)
  have e4 : l.take tagB.length = l.take 4 := rfl
  have ht2 : decide (l.take 4 = tagB) = false := ht
  rw [e4, ht2] at hp
  simp only [hsz] at hp
  have HP := Lib.hid hp
  clear hp hr ht ht2 e4 hb0 hsz
  go_enter Tryd.func13, Tryd.ntmps13
  go_wp2_with fail
  refine (HP.out _ _ _ _ _ (fun k v h => by simpa [bv, tagB] using h)).mono ?_
  rintro e w1 ⟨rfl, rfl⟩
  go_wp2
  go_returns
  refine ⟨rfl, ?_⟩
  go_grown
theorem decode_short (w : World) (a : Option Addr) (c : Nat) (l : List UInt8) (hc : l.length ≤ c) (hl : l.length < 8) (hr : Rd w a (bv l)) (ht : tagged l = true) :
    Calls Tryd.prog 13 #[.slice a l.length c] w (DecPost w 11) := by
  have hb0 : ∀ o p, Below w.heap.size w ((w.alloc o).alloc p) := fun o p => ((Below.refl _ _).alloc (Nat.le_refl _) o).alloc (by simp) p
  have hcv := fun o => conv_tag2 (w.alloc o)
  have hsz : ∀ o, (w.alloc o).heap.size = w.heap.size + 1 := fun o => by simp
  simp only [hsz] at hcv
  have hp := fun o p C t fr hC => prefix_any ((w.alloc o).alloc (.cells C t fr)) a (some ⟨(w.alloc o).heap.size, 0, none⟩) c p l tagB hc (by decide) (hr.below (hb0 o _) (Nat.le_refl _)) (Rd.new _ C t fr _ hC)
  have e4 : l.take tagB.length = l.take 4 := rfl
  have ht2 : decide (l.take 4 = tagB) = true := ht
  rw [e4, ht2] at hp
  simp only [hsz] at hp
  have HP := Lib.hid hp
  have h4 : (l.length : Int) - 4 < 4 := by omega
  clear hp hr ht ht2 e4 hb0 hsz
  go_enter Tryd.func13, Tryd.ntmps13
  go_wp2_with fail
  refine (HP.out _ _ _ _ _ (fun k v h => by simpa [bv, tagB] using h)).mono ?_
  rintro e w1 ⟨rfl, rfl⟩
  go_wp2
  go_returns
  refine ⟨rfl, ?_⟩
  go_grown
set_option maxHeartbeats 1000000 in
theorem decode_sum (w : World) (a : Option Addr) (c : Nat) (l : List UInt8) (n : Nat) (hn : l.length = n + 4) (hn4 : 4 ≤ n) (hc : l.length ≤ c) (hl : l.length ≤ 140737488355328) (hr : Rd w a (bv l)) (ht : tagged l = true) (hs : l.drop n ≠ sum4 (sumOf (l.take n))) :
    Calls Tryd.prog 13 #[.slice a l.length c] w (DecPost w 24) := by
  obtain ⟨ab, ao, rfl, hx0⟩ := hr 0 _ (bv_get (show 0 < l.length by omega))
  clear hx0
  have hb0 : ∀ o p, Below w.heap.size w ((w.alloc o).alloc p) := fun o p => ((Below.refl _ _).alloc (Nat.le_refl _) o).alloc (by simp) p
  have hcv := fun o => conv_tag2 (w.alloc o)
  have hsz : ∀ o, (w.alloc o).heap.size = w.heap.size + 1 := fun o => by simp
  simp only [hsz] at hcv
  have hp := fun o p C t fr hC => prefix_any ((w.alloc o).alloc (.cells C t fr)) (some ⟨ab, ao, none⟩) (some ⟨(w.alloc o).heap.size, 0, none⟩) c p l tagB hc (by decide) (hr.below (hb0 o _) (Nat.le_refl _)) (Rd.new _ C t fr _ hC)
  have e4 : l.take tagB.length = l.take 4 := rfl
  have ht2 : decide (l.take 4 = tagB) = true := ht
  rw [e4, ht2, hn] at hp
  simp only [hsz] at hp
  have HP := Lib.hid hp
  have hlt : (l.take n).length = n := by rw [List.length_take]; omega
  have hld : (l.drop n).length = 4 := by rw [List.length_drop]; omega
  have hsm := fun o p => sum_any (some ⟨ab, ao, none⟩) c (l.take n) ((w.alloc o).alloc p) (by omega) (rd_take (hr.below (hb0 o p) (Nat.le_refl _)) n)
  rw [hlt] at hsm
  have HS := Lib.hid hsm
  have s4 : ∀ s, (sum4 s).length = 4 := fun s => rfl
  have heq := fun W a2 c2 d2 h1 h2 => equal_any W (some ⟨ab, ao + n, none⟩) a2 c2 d2 (l.drop n) (sum4 (sumOf (l.take n))) h1 h2
  rw [decide_eq_false hs, hld] at heq
  simp only [s4] at heq
  have HE := Lib.hid heq
  have hs4 : sumOf (l.take n) < 4294967296 := sumOf_lt _
  have HBV := Lib.hid (sum4_bv _ hs4)
  have HD := Lib.hid (fun W (hb : Below w.heap.size w W) => rd_drop (hr.below hb (Nat.le_refl _)) n)
  obtain ⟨s, hss⟩ : ∃ s, s = sumOf (l.take n) := ⟨_, rfl⟩
  rw [← hss] at HS HE hs4 HBV
  have hlb : n + 4 ≤ 140737488355328 := by omega
  rw [hn] at hc ⊢
  clear hp hr ht ht2 e4 hb0 hsz hsm heq hs hlt hld hn hl s4 hss
  go_enter Tryd.func13, Tryd.ntmps13
  go_wp2_with fail
  refine (HP.out _ _ _ _ _ (fun k v h => by simpa [bv, tagB] using h)).mono ?_
  rintro e w1 ⟨rfl, rfl⟩
  go_wp2_with fail
  refine (HS.out _ _).mono ?_
  rintro e w2 ⟨rfl, hb2⟩
  have hfr : w2.heap[w.heap.size]? = some (.cells #[.int .u64 0, .int .i64 0, .slice none 0 0] 25 (0, 0)) := (hb2.block w.heap.size (by simp; omega)).trans ((Below.heap_alloc _ _ _ (by simp)).trans (heap_alloc_new w _))
  have hbw : Below w.heap.size w w2 := (((Below.refl _ w).alloc (Nat.le_refl _) _).alloc (by simp) _).trans (hb2.mono (by have h1 := ((((Below.refl w.heap.size w).alloc (Nat.le_refl _) (.cells #[.int .u64 0, .int .i64 0, .slice none 0 0] 25)).alloc (by simp) (.cells #[.int .u8 79, .int .u8 68, .int .u8 79, .int .u8 1] 5 (4, 5)))).size; exact h1))
  have hgl : w.heap.size < w2.heap.size := (Array.getElem?_eq_some_iff.1 hfr).1
  have HFR := Lib.hid hfr
  have HBW := Lib.hid hbw
  clear hb2 hbw hfr
  go_wp2_with fail
  refine (HE.out _ _ _ _ (by exact HD.out _ (HBW.out.alloc HBW.out.size _)) (by rw [HBV.out]; exact Rd.new _ _ _ _ _ (fun k v h => by simpa using h))).mono ?_
  rintro e w3 ⟨rfl, rfl⟩
  have hst := fun o => (Below.heap_alloc w2 o _ hgl).trans HFR.out
  have HST := Lib.hid hst
  have HBO := Lib.hid (fun o => HBW.out.alloc HBW.out.size o)
  have hc0 := fun o => show (w2.alloc o).cell? ⟨w.heap.size, 0, none⟩ = some (.int .u64 0) by rw [cell_of_row _ _ _ _ _ _ (hst o)]; rfl
  have hc1 := fun o => show (w2.alloc o).cell? ⟨w.heap.size, 1, none⟩ = some (.int .i64 0) by rw [cell_of_row _ _ _ _ _ _ (hst o)]; rfl
  have hc2 := fun o => show (w2.alloc o).cell? ⟨w.heap.size, 2, none⟩ = some (.slice none 0 0) by rw [cell_of_row _ _ _ _ _ _ (hst o)]; rfl
  have HC0 := Lib.hid hc0
  have HC1 := Lib.hid hc1
  have HC2 := Lib.hid hc2
  clear hst hc0 hc1 hc2
  go_wp2_with (first | (with_reducible refine K.step_store_row rfl 25 _ _ rfl w.heap.size rfl #[.int .u64 0, .int .i64 0, .slice none 0 0] rfl #[.int .u64 0, .int .i64 0, .slice none 0 0] 25 (HST.out _) rfl (by kernel_rfl) (by decide) ?_; rw [setRow_self _ _ _ _ _ (HST.out _)]))
  refine bodyPost_ret (v := .tuple #[frv 0 0 (.slice none 0 0), .int .i64 24]) ?_ rfl ?_
  · have h0 := HC0.out
    have h1 := HC1.out
    have h2 := HC2.out
    simp [results, Tryd.results13, go_sem, h0, h1, h2]
    try rfl
  · exact ⟨rfl, HBO.out _⟩
end Go.Proofs.YtajddpdlhahcdaaDoor
