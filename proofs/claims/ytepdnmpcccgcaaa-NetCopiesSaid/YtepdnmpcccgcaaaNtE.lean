/- The reference's net in memory; the walks that only look. -/
import Derived.Test.YtepdnmpcccgcaaaNtD
import Derived.Test.YtepdnmpcccgcaaaApp3
import Derived.Lib.ConvBytes
namespace Go.Proofs.Ytepdnmpcccgcaaa
open Go.RowKit K
/-- A connection of the reference's. -/
structure RC where
  id : Int
  host : ByteArray
  st : Int
  inn : ByteArray
  pos : Nat
  out : ByteArray
def rcc (v : RC) : List Value := [.int .i64 v.id, .string v.host, .int .i64 v.st, .string v.inn, .int .i64 (v.pos : Int), .string v.out]
def rcf (L : List RC) : List Value := L.flatMap rcc
theorem rcf_length (L : List RC) : (rcf L).length = 6 * L.length := flat_length _ 6 (fun _ => rfl) L
theorem rcf_get {L : List RC} {i j : Nat} (h : i < L.length) (hj : j < 6) : (rcf L)[6 * i + j]? = (rcc L[i])[j]? := flat_get _ 6 (fun _ => rfl) L i j _ (by simp [h]) hj
theorem rcf_app (A B : List RC) : rcf (A ++ B) = rcf A ++ rcf B := by simp [rcf]
theorem rcf_one (L : List RC) : ∀ u ∈ rcf L, u.oneCell' = true := by
  intro u hu
  unfold rcf at hu
  obtain ⟨v, _, hv⟩ := List.mem_flatMap.1 hu
  simp only [rcc, List.mem_cons, List.not_mem_nil, or_false] at hv
  rcases hv with rfl | rfl | rfl | rfl | rfl | rfl <;> rfl
theorem info_rc : (Try.prog.info? 74).map (fun i => (i.zero, i.size, i.bytes)) = some (some (.agg #[.int .i64 0, .string ⟨#[]⟩, .int .i64 0, .string ⟨#[]⟩, .int .i64 0, .string ⟨#[]⟩]), 6, 72) := by kernel_rfl
theorem rc_cells {w : World} {a : Option Addr} {L : List RC} (hr : Rd w a (rcf L)) {k : Nat} (h : k < L.length) : ∃ b off, a = some ⟨b, off, none⟩ ∧ b < w.heap.size ∧ ∀ j v, j < 6 → (rcc L[k])[j]? = some v → w.cell? ⟨b, off + k * 6 + j, none⟩ = some v := by
  obtain ⟨b, off, rfl, hb, q0⟩ := hr.at (rcf_get (j := 0) h (by omega))
  refine ⟨b, off, rfl, hb, fun j v hj hv => ?_⟩
  obtain ⟨b', off', he, hc⟩ := hr _ _ ((rcf_get h hj).trans hv)
  cases he
  rw [← hc]
  congr 2
  omega
/-- The reference's net at r. -/
def RfIs (w : World) (B r : Nat) (most dial : Int) (L : List RC) (G : Nat → Prop) : Prop :=
  ∃ v, w.heap[r]? = some (.cells #[v, .int .i64 most, .int .i64 dial] 66 (0, 0)) ∧ w.ownsRow B 74 6 v L.length (rcf L) ∧ (∀ b, v.ownBlock = some b → G b ∧ b ≠ r) ∧ G r ∧ ∀ k, G k → B ≤ k ∧ k < w.heap.size
def RfTo (w : World) (B r : Nat) (most dial : Int) (L : List RC) (G : Nat → Prop) (w' : World) : Prop := ∃ G', RfIs w' B r most dial L G' ∧ Only G w w' ∧ ∀ k, G' k → G k ∨ w.heap.size ≤ k
section
variable {w w' : World} {B r : Nat} {most dial : Int} {L : List RC} {G F : Nat → Prop}
theorem RfIs.only (h : RfIs w B r most dial L G) (ho : Only F w w') (hd : ∀ k, G k → ¬ F k) : RfIs w' B r most dial L G := by
  obtain ⟨v, h1, h2, h3, h4, h5⟩ := h
  exact ⟨v, ho.heap h1 (hd r h4), ho.own h2 (fun k hk => hd k (h3 k hk).1), h3, h4, fun k hk => ⟨(h5 k hk).1, Nat.lt_of_lt_of_le (h5 k hk).2 ho.size⟩⟩
theorem RfIs.in (h : RfIs w B r most dial L G) : ∀ k, G k → B ≤ k ∧ k < w.heap.size := by
  obtain ⟨v, h1, h2, h3, h4, h5⟩ := h
  exact h5
theorem RfIs.mem (h : RfIs w B r most dial L G) : G r := by
  obtain ⟨v, h1, h2, h3, h4, h5⟩ := h
  exact h4
theorem RfIs.new (h : RfIs w B r most dial L G) (hb : Below w.heap.size w w') : RfIs w' B r most dial L G :=
  h.only (F := fun k => w.heap.size ≤ k) (Only.of_below hb (fun _ _ h => h)) (fun k hk hle => by have := (h.in k hk).2; omega)
theorem RfTo.same (h : RfIs w B r most dial L G) (hb : Below w.heap.size w w') : RfTo w B r most dial L G w' :=
  ⟨G, h.new hb, Only.of_new hb, fun _ hk => .inl hk⟩
theorem RfIs.shape (h : RfIs w B r most dial L G) : ∃ a c, w.heap[r]? = some (.cells #[.slice a L.length c, .int .i64 most, .int .i64 dial] 66 (0, 0)) ∧ L.length ≤ c ∧ Rd w a (rcf L) ∧ ∀ ad, a = some ad → G ad.block ∧ ad.block ≠ r := by
  obtain ⟨v, h1, h2, h3, h4, h5⟩ := h
  obtain ⟨a, c, rfl, hc, hr, hb⟩ := own_cells h2
  exact ⟨a, c, h1, hc, hr, fun ad e => h3 _ (hb ad e)⟩
end
def rfind (id : Int) (L : List RC) : Option RC := L.find? fun v => decide (id = v.id)
def rset (id : Int) (v' : RC) : List RC → List RC
  | [] => []
  | v :: r => if id = v.id then v' :: r else v :: rset id v' r
theorem rfind_no {x : Int} : ∀ {L : List RC}, (∀ u ∈ L, u.id ≠ x) → rfind x L = none
  | [], _ => rfl
  | v :: r, h => by
    have hv := h v (by simp)
    have := rfind_no (x := x) (L := r) (fun u hu => h u (by simp [hu]))
    unfold rfind at this ⊢
    rw [List.find?_cons, decide_eq_false (fun e => hv e.symm)]
    exact this
theorem rfind_at {x : Int} {v : RC} {post : List RC} (hv : v.id = x) : ∀ {pre : List RC}, (∀ u ∈ pre, u.id ≠ x) → rfind x (pre ++ v :: post) = some v ∧ ∀ v', rset x v' (pre ++ v :: post) = pre ++ v' :: post
  | [], _ => ⟨by simp [rfind, hv], fun v' => by simp [rset, hv]⟩
  | u :: pre, h => by
    have hu := h u (by simp)
    obtain ⟨h1, h2⟩ := rfind_at (v := v) (post := post) hv (pre := pre) (fun z hz => h z (by simp [hz]))
    have hne : ¬ x = u.id := fun e => hu e.symm
    refine ⟨?_, fun v' => ?_⟩
    · unfold rfind at h1 ⊢
      rw [List.cons_append, List.find?_cons, decide_eq_false hne]
      exact h1
    · rw [List.cons_append]
      simp only [rset, hne, if_false, h2, List.cons_append]
/-- Where a connection lies. -/
def OfR (x : Int) (L : List RC) (i : Int) : Prop :=
  (i = -1 ∧ rfind x L = none) ∨ ∃ (k : Nat) (h : k < L.length), i = k ∧ L[k].id = x ∧ (∀ u ∈ L.take k, u.id ≠ x) ∧ rfind x L = some L[k] ∧ ∀ v', rset x v' L = L.set k v'
theorem ofR_at {x : Int} {L : List RC} {k : Nat} (hk : k < L.length) (hn : ∀ u ∈ L.take k, u.id ≠ x) (he : L[k].id = x) : OfR x L k := by
  have e : L = L.take k ++ L[k] :: L.drop (k + 1) := by rw [List.getElem_cons_drop, List.take_append_drop]
  obtain ⟨h1, h2⟩ := rfind_at (post := L.drop (k + 1)) he hn
  rw [← e] at h1 h2
  refine .inr ⟨k, hk, rfl, he, hn, h1, fun v' => ?_⟩
  rw [h2, List.set_eq_take_append_cons_drop, if_pos hk]
section
variable {w : World} {B r : Nat} {most dial : Int} {L : List RC} {G : Nat → Prop}
set_option maxHeartbeats 1000000 in
theorem rof_any (h : RfIs w B r most dial L G) (x : Int) (hl : L.length ≤ 1000000) :
    Calls Try.prog 53 #[.pointer (some ⟨r, 0, none⟩), .int .i64 x] w fun e w' => ∃ i : Int, e = .returned (.int .i64 i) ∧ OfR x L i ∧ w = w' := by
  obtain ⟨a, c, hb, hc, hr, -⟩ := h.shape
  have c0 : w.cell? ⟨r, 0, none⟩ = some (.slice a L.length c) := by rw [cell_of_row _ _ _ _ _ _ hb]; rfl
  have HR := Lib.hid hr
  clear h hb hr
  go_enter Try.func53, Try.ntmps53
  go_wp2
  go_loop [5] (fun i => ∃ k : Nat, k ≤ L.length ∧ i = .int .i64 k ∧ ∀ u ∈ L.take k, u.id ≠ x) (fun i => L.length - (intOf i).toNat)
  case atStart => exact ⟨0, by omega, rfl, by simp⟩
  case round =>
    obtain ⟨k, hk, rfl, hn⟩ := hrel
    have HN := Lib.hid hn
    clear hn
    by_cases hlt : k < L.length
    · obtain ⟨b, off, rfl, hbl, hq⟩ := rc_cells HR.out hlt
      have q0 := hq 0 _ (by omega) rfl
      simp only [Nat.add_zero] at q0
      by_cases he : L[k].id = x
      · have HP := Lib.hid (ofR_at hlt HN.out he)
        rw [he] at q0
        have hbq : (x == x) = true := by simp
        clear hq he
        go_wp2
        go_ret
        exact ⟨k, rfl, HP.out, rfl⟩
      · have HP := Lib.hid (show ∀ u ∈ L.take (k + 1), u.id ≠ x from by
          intro u hu
          rw [List.take_succ_eq_append_getElem hlt] at hu
          rcases List.mem_append.1 hu with hu | hu
          · exact HN.out u hu
          · simp at hu
            rw [hu]
            exact he)
        generalize L[k].id = y at q0 he
        have hbq : (y == x) = false := by rw [beq_eq_false_iff_ne]; exact he
        clear hq
        go_wp2
        go_round
        case rel => exact ⟨k + 1, by omega, by go_num, HP.out⟩
        case measure => simp [intOf]; omega
    · obtain rfl : k = L.length := by omega
      have HP := Lib.hid (show OfR x L (-1) from .inl ⟨rfl, rfind_no (by have := HN.out; rw [List.take_length] at this; exact this)⟩)
      go_wp2
      go_ret
      exact ⟨-1, rfl, HP.out, rfl⟩
def rmust (id st : Int) (L : List RC) : Int := match rfind id L with
  | none => 8
  | some v => if v.st = st then 0 else 7
set_option maxHeartbeats 1000000 in
theorem rmust_any (h : RfIs w B r most dial L G) (x st : Int) (hl : L.length ≤ 1000000) :
    Calls Try.prog 54 #[.pointer (some ⟨r, 0, none⟩), .int .i64 x, .int .i64 st] w fun e w' => e = .returned (.int .i64 (rmust x st L)) ∧ w = w' := by
  have HO := Lib.hid (rof_any h x hl)
  obtain ⟨a, c, hb, hc, hr, -⟩ := h.shape
  have c0 : w.cell? ⟨r, 0, none⟩ = some (.slice a L.length c) := by rw [cell_of_row _ _ _ _ _ _ hb]; rfl
  have HR := Lib.hid hr
  clear h hb hr
  go_enter Try.func54, Try.ntmps54
  go_wp2_with fail
  refine HO.out.mono ?_
  rintro e w' ⟨i, rfl, (⟨rfl, hf⟩ | ⟨k, hk, rfl, -, -, hf, -⟩), rfl⟩
  · have HE := Lib.hid (show rmust x st L = 8 from by unfold rmust; rw [hf])
    clear hf
    go_wp2
    go_ret
    exact ⟨by rw [HE.out]; rfl, rfl⟩
  · obtain ⟨b, off, rfl, hbl, hq⟩ := rc_cells HR.out hk
    have q2 := hq 2 _ (by omega) rfl
    by_cases he : L[k].st = st
    · have HE := Lib.hid (show rmust x st L = 0 from by unfold rmust; rw [hf]; simp only; rw [if_pos he])
      rw [he] at q2
      have hbq : (st != st) = false := by simp
      clear hf hq he
      go_wp2
      go_ret
      exact ⟨by rw [HE.out]; rfl, rfl⟩
    · have HE := Lib.hid (show rmust x st L = 7 from by unfold rmust; rw [hf]; simp only; rw [if_neg he])
      generalize L[k].st = y at q2 he
      have hbq : (y != st) = true := by rw [bne_iff_ne]; exact he
      clear hf hq
      go_wp2
      go_ret
      exact ⟨by rw [HE.out]; rfl, rfl⟩
def rst (id : Int) (L : List RC) : Int := match rfind id L with
  | none => 0
  | some v => v.st
set_option maxHeartbeats 1000000 in
theorem rstate_any (h : RfIs w B r most dial L G) (x : Int) (hl : L.length ≤ 1000000) :
    Calls Try.prog 45 #[.pointer (some ⟨r, 0, none⟩), .int .i64 x] w fun e w' => e = .returned (.int .i64 (rst x L)) ∧ w = w' := by
  have HO := Lib.hid (rof_any h x hl)
  obtain ⟨a, c, hb, hc, hr, -⟩ := h.shape
  have c0 : w.cell? ⟨r, 0, none⟩ = some (.slice a L.length c) := by rw [cell_of_row _ _ _ _ _ _ hb]; rfl
  have HR := Lib.hid hr
  clear h hb hr
  go_enter Try.func45, Try.ntmps45
  go_wp2_with fail
  refine HO.out.mono ?_
  rintro e w' ⟨i, rfl, (⟨rfl, hf⟩ | ⟨k, hk, rfl, -, -, hf, -⟩), rfl⟩
  · have HE := Lib.hid (show rst x L = 0 from by unfold rst; rw [hf])
    clear hf
    go_wp2
    go_ret
    exact ⟨by rw [HE.out]; rfl, rfl⟩
  · obtain ⟨b, off, rfl, hbl, hq⟩ := rc_cells HR.out hk
    have q2 := hq 2 _ (by omega) rfl
    have HE := Lib.hid (show rst x L = L[k].st from by unfold rst; rw [hf])
    generalize L[k].st = y at q2 HE
    clear hf hq
    go_wp2
    go_ret
    exact ⟨by rw [HE.out]; rfl, rfl⟩
def rleft (id : Int) (L : List RC) : Int := match rfind id L with
  | none => 0
  | some v => (v.inn.size : Int) - v.pos
set_option maxHeartbeats 1000000 in
theorem rleft_any (h : RfIs w B r most dial L G) (x : Int) (hl : L.length ≤ 1000000) (hs : ∀ v ∈ L, v.inn.size ≤ 1000000 ∧ v.pos ≤ v.inn.size) :
    Calls Try.prog 46 #[.pointer (some ⟨r, 0, none⟩), .int .i64 x] w fun e w' => e = .returned (.int .i64 (rleft x L)) ∧ ∃ n, w' = w.drewN n := by
  have HO := Lib.hid (rof_any h x hl)
  obtain ⟨a, c, hb, hc, hr, -⟩ := h.shape
  have c0 : w.cell? ⟨r, 0, none⟩ = some (.slice a L.length c) := by rw [cell_of_row _ _ _ _ _ _ hb]; rfl
  have HR := Lib.hid hr
  have HS := Lib.hid hs
  clear h hb hr hs
  go_enter Try.func46, Try.ntmps46
  go_wp2_with fail
  refine HO.out.mono ?_
  rintro e w' ⟨i, rfl, (⟨rfl, hf⟩ | ⟨k, hk, rfl, -, -, hf, -⟩), rfl⟩
  · have HE := Lib.hid (show rleft x L = 0 from by unfold rleft; rw [hf])
    clear hf
    go_wp2
    go_ret
    exact ⟨by rw [HE.out]; rfl, 0, rfl⟩
  · obtain ⟨b, off, rfl, hbl, hq⟩ := rc_cells HR.out hk
    have q3 := hq 3 _ (by omega) rfl
    have q4 := hq 4 _ (by omega) rfl
    obtain ⟨hs1, hs2⟩ := HS.out L[k] (List.getElem_mem hk)
    have HE := Lib.hid (show rleft x L = (L[k].inn.size : Int) - L[k].pos from by unfold rleft; rw [hf])
    generalize L[k].inn = y at q3 HE hs1 hs2
    generalize L[k].pos = p at q4 HE hs2
    clear hf hq
    go_wp2_with fail
    go_quiet (fail)
    go_wp2
    go_ret
    exact ⟨by rw [HE.out]; rfl, _, rfl⟩
def rout (id : Int) (L : List RC) : List UInt8 := match rfind id L with
  | none => []
  | some v => v.out.data.toList
/-- A row of bytes that is handed back. -/
def BytesTo (l : List UInt8) (e : Ending) (w' : World) : Prop := ∃ a c, e = .returned (.slice a l.length c) ∧ Rd w' a (bv l)
theorem rd_bytes (w : World) (s : ByteArray) : Rd (Lib.bytesWorld w 5 s) (some ⟨w.heap.size, 0, none⟩) (bv s.data.toList) := by
  intro k v hv
  refine ⟨w.heap.size, 0, rfl, ?_⟩
  have hk : k < s.size := by
    obtain ⟨h, -⟩ := List.getElem?_eq_some_iff.1 hv
    unfold bv at h
    rw [List.length_map] at h
    exact h
  have h1 := Lib.bytesWorld_cell w 5 s k hk
  rw [Nat.zero_add, h1]
  have hk' : k < s.data.toList.length := hk
  simp only [bv, List.getElem?_map, List.getElem?_eq_getElem hk', Option.map_some, Option.some.injEq] at hv
  rw [← hv]
  simp only [List.getD, List.getElem?_eq_getElem hk', Option.getD_some]
theorem below_bytes (w : World) (s : ByteArray) : Below w.heap.size w (Lib.bytesWorld w 5 s) :=
  ⟨rfl, rfl, rfl, by rw [Lib.bytesWorld_size]; omega, fun k hk => Lib.bytesWorld_at_old w _ s k hk⟩
set_option maxRecDepth 100000 in
set_option maxHeartbeats 1000000 in
theorem rsent_any (h : RfIs w B r most dial L G) (x : Int) (hl : L.length ≤ 1000000) :
    Calls Try.prog 47 #[.pointer (some ⟨r, 0, none⟩), .int .i64 x] w fun e w' => BytesTo (rout x L) e w' ∧ Below w.heap.size w w' := by
  have HO := Lib.hid (rof_any h x hl)
  obtain ⟨a, c, hb, hc, hr, -⟩ := h.shape
  have c0 : w.cell? ⟨r, 0, none⟩ = some (.slice a L.length c) := by rw [cell_of_row _ _ _ _ _ _ hb]; rfl
  have HR := Lib.hid hr
  clear h hb hr
  go_enter Try.func47, Try.ntmps47
  go_wp2_with fail
  refine HO.out.mono ?_
  rintro e w' ⟨i, rfl, (⟨rfl, hf⟩ | ⟨k, hk, rfl, -, -, hf, -⟩), rfl⟩
  · have HE := Lib.hid (show rout x L = [] from by unfold rout; rw [hf])
    clear hf
    go_wp2
    go_ret
    exact ⟨⟨none, 0, by rw [HE.out]; rfl, by rw [HE.out]; exact Rd.nil _ _⟩, Below.refl _ _⟩
  · obtain ⟨b, off, rfl, hbl, hq⟩ := rc_cells HR.out hk
    have q5 := hq 5 _ (by omega) rfl
    have HE := Lib.hid (show rout x L = L[k].out.data.toList from by unfold rout; rw [hf])
    generalize L[k].out = y at q5 HE
    have hcv := Lib.run_convert_string_bytes (P := Try.prog) w 9 22 5 y Try.underlying9 Try.underlying22 Try.underlying5
    have HB := Lib.hid (below_bytes w y)
    have HRD := Lib.hid (rd_bytes w y)
    generalize Lib.bytesWorld w 5 y = w2 at hcv HB HRD
    clear hf hq
    go_wp2
    go_ret
    exact ⟨⟨_, _, by rw [HE.out]; rfl, by rw [HE.out]; exact HRD.out⟩, HB.out⟩
end
def RfNew (w : World) (m : Int) (e : Ending) (w' : World) : Prop := ∃ r G, e = .returned (.pointer (some ⟨r, 0, none⟩)) ∧ RfIs w' w.heap.size r (max m 0) 0 [] G ∧ Below w.heap.size w w'
set_option maxHeartbeats 1000000 in
theorem rfnew_any (w : World) (m : Int) :
    Calls Try.prog 16 #[.int .i64 m] w (RfNew w m) := by
  obtain ⟨mx, hmx⟩ : ∃ mx, max m 0 = mx := ⟨_, rfl⟩
  have HM := Lib.hid hmx
  clear hmx
  have HN := Lib.hid (show RfIs (w.alloc (.cells #[.slice none 0 0, .int .i64 mx, .int .i64 0] 66)) w.heap.size w.heap.size mx 0 [] (· = w.heap.size) from ⟨_, heap_alloc_new w _, World.ownsRow_nil _ _ _ _, (fun b hb => by simp [Value.ownBlock] at hb), rfl, fun k hk => by rw [hk]; simp⟩)
  go_enter Try.func16, Try.ntmps16
  go_wp2_with (first | (with_reducible refine step_max rfl _ _ _ rfl m 0 rfl rfl mx HM.out ?_) | fail)
  go_ret
  exact ⟨w.heap.size, _, rfl, by rw [HM.out]; exact HN.out, (Below.refl _ _).alloc (Nat.le_refl _) _⟩
end Go.Proofs.Ytepdnmpcccgcaaa
