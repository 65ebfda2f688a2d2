/- WindowOnce: the plain law: what stays from act to act. -/
import Derived.Test.YtbkpgpaanhfjfaaWiI
namespace Go.Proofs.Ytbkpgpaanhfjfaa
open Go.RowKit Go.Sort K
def totC : List Cr → Int
  | [] => 0
  | c :: t => c.inc + totC t
def totW : List WV → Int
  | [] => 0
  | v :: t => totC v.cr + totW t
theorem totC_perm {a b : List Cr} (h : a.Perm b) : totC a = totC b := by
  induction h with
  | nil => rfl
  | cons x _ ih => simp only [totC, ih]
  | swap x y l => simp only [totC]; omega
  | trans _ _ h1 h2 => exact h1.trans h2
theorem totW_perm {a b : List WV} (h : a.Perm b) : totW a = totW b := by
  induction h with
  | nil => rfl
  | cons x _ ih => simp only [totW, ih]
  | swap x y l => simp only [totW]; omega
  | trans _ _ h1 h2 => exact h1.trans h2
theorem totW_app : ∀ a b : List WV, totW (a ++ b) = totW a + totW b
  | [], b => by simp [totW]
  | x :: a, b => by simp only [List.cons_append, totW, totW_app a b]; omega
theorem totC_nn : ∀ {cr : List Cr}, (∀ c ∈ cr, CrB c) → 0 ≤ totC cr
  | [], _ => Int.le_refl _
  | c :: t, h => by
    have h1 := (h c (by simp)).1
    have h2 := totC_nn (cr := t) fun x hx => h x (by simp [hx])
    simp only [totC]
    omega
theorem totW_nn : ∀ {L : List WV}, (∀ v ∈ L, ∀ c ∈ v.cr, CrB c) → 0 ≤ totW L
  | [], _ => Int.le_refl _
  | v :: t, h => by
    have h1 := totC_nn (h v (by simp))
    have h2 := totW_nn (L := t) fun x hx => h x (by simp [hx])
    simp only [totW]
    omega
theorem totC_find (nm : List UInt8) : ∀ {cr : List Cr}, (cr.map (·.nm)).Nodup → totC cr = ((crFind nm cr).getD zC).inc + totC (cr.filter fun u => decide (u.nm ≠ nm))
  | [], _ => rfl
  | c :: t, h => by
    rw [List.map_cons, List.nodup_cons] at h
    by_cases hc : c.nm = nm
    · have hf : t.filter (fun u => decide (u.nm ≠ nm)) = t := filter_ne_self (key := Cr.nm) (v := c) (fun u hu e => h.1 (List.mem_map.2 ⟨u, hu, e⟩)) |> fun q => by rw [hc] at q; exact q
      have h1 : crFind nm (c :: t) = some c := by unfold crFind; rw [List.find?_cons_of_pos (by simp [hc])]
      rw [h1, List.filter_cons_of_neg (by simp [hc]), hf]
      rfl
    · have h1 : crFind nm (c :: t) = crFind nm t := by unfold crFind; rw [List.find?_cons_of_neg (by simp [hc])]
      rw [h1, List.filter_cons_of_pos (by simp [hc])]
      simp only [totC]
      rw [totC_find nm h.2]
      omega
theorem totC_put {cr : List Cr} (hs : CS cr) (nm : List UInt8) (inc : Int) (hb : ((crFind nm cr).getD zC).inc + inc ≤ 9223372036854775807) : totC (crPut nm inc cr) = totC cr + inc := by
  rw [totC_find nm hs.nodup]
  have h1 : (crPut nm inc cr).Perm _ := sset_perm ordN (crNew ((crFind nm cr).getD zC) nm inc) hs
  rw [totC_perm h1]
  have h2 : (crNew ((crFind nm cr).getD zC) nm inc).inc = ((crFind nm cr).getD zC).inc + inc := by
    show satI _ = _
    unfold satI
    rw [if_neg (by omega)]
  simp only [totC, h2]
  have h3 : totC (cr.filter fun u => decide (u.nm ≠ (crNew ((crFind nm cr).getD zC) nm inc).nm)) = totC (cr.filter fun u => decide (u.nm ≠ nm)) := rfl
  omega
theorem totW_find (n : Int) : ∀ {L : List WV}, (L.map (·.num)).Nodup → totW L = totC (wvCr n L) + totW (L.filter fun u => decide (u.num ≠ n))
  | [], _ => rfl
  | v :: t, h => by
    rw [List.map_cons, List.nodup_cons] at h
    by_cases hc : v.num = n
    · have hf : t.filter (fun u => decide (u.num ≠ n)) = t := filter_ne_self (key := WV.num) (v := v) (fun u hu e => h.1 (List.mem_map.2 ⟨u, hu, e⟩)) |> fun q => by rw [hc] at q; exact q
      have h1 : wvCr n (v :: t) = v.cr := by unfold wvCr; rw [List.find?_cons_of_pos (by simp [hc])]; rfl
      rw [h1, List.filter_cons_of_neg (by simp [hc]), hf]
      rfl
    · have h1 : wvCr n (v :: t) = wvCr n t := by unfold wvCr; rw [List.find?_cons_of_neg (by simp [hc])]
      rw [h1, List.filter_cons_of_pos (by simp [hc])]
      simp only [totW]
      rw [totW_find n h.2]
      omega
theorem wvCr_nil {n : Int} {L : List WV} {P : List Cr → Prop} (h0 : P []) (h : ∀ v ∈ L, P v.cr) : P (wvCr n L) := by
  unfold wvCr
  cases hf : L.find? (fun v => decide (v.num = n)) with
  | none => exact h0
  | some v => exact h v (List.mem_of_find?_eq_some hf)
theorem totC_mem : ∀ {cr : List Cr}, (∀ c ∈ cr, CrB c) → ∀ c ∈ cr, c.inc ≤ totC cr
  | [], _, c, hc => by simp at hc
  | x :: t, h, c, hc => by
    have h1 := (h x (by simp)).1
    have h2 := totC_nn (cr := t) fun y hy => h y (by simp [hy])
    simp only [totC]
    rcases List.mem_cons.1 hc with rfl | hc
    · omega
    · have := totC_mem (cr := t) (fun y hy => h y (by simp [hy])) c hc
      omega
theorem crFind_le {cr : List Cr} (h : ∀ c ∈ cr, CrB c) (nm : List UInt8) : ((crFind nm cr).getD zC).inc ≤ totC cr := by
  unfold crFind
  cases hf : cr.find? (fun c => decide (c.nm = nm)) with
  | none => exact totC_nn h
  | some c => exact totC_mem h c (List.mem_of_find?_eq_some hf)
theorem totW_mem : ∀ {L : List WV}, (∀ v ∈ L, ∀ c ∈ v.cr, CrB c) → ∀ v ∈ L, totC v.cr ≤ totW L
  | [], _, c, hc => by simp at hc
  | x :: t, h, c, hc => by
    have h1 := totC_nn (h x (by simp))
    have h2 := totW_nn (L := t) fun y hy => h y (by simp [hy])
    simp only [totW]
    rcases List.mem_cons.1 hc with rfl | hc
    · omega
    · have := totW_mem (L := t) (fun y hy => h y (by simp [hy])) c hc
      omega
theorem totW_put {L : List WV} (hs : WS L) (hcs : ∀ v ∈ L, CS v.cr) (hB : ∀ v ∈ L, ∀ c ∈ v.cr, CrB c) (n : Int) (nm : List UInt8) (inc : Int) (hb : totW L + inc ≤ 9223372036854775807) : totW (wvPut n nm inc L) = totW L + inc := by
  have h1 : (wvPut n nm inc L).Perm _ := sset_perm ordI (⟨n, crPut nm inc (wvCr n L)⟩ : WV) hs
  rw [totW_perm h1, totW_find n hs.nodup]
  have hB2 : ∀ c ∈ wvCr n L, CrB c := wvCr_nil (P := fun cr => ∀ c ∈ cr, CrB c) (by simp) hB
  have h2 := crFind_le hB2 nm
  have h3 : totC (wvCr n L) ≤ totW L := wvCr_nil (P := fun cr => totC cr ≤ totW L) (totW_nn hB) (totW_mem hB)
  have h4 := totC_put (wvCr_nil (P := CS) (by simp [CS]) hcs) nm inc (by omega : ((crFind nm (wvCr n L)).getD zC).inc + inc ≤ 9223372036854775807)
  simp only [totW, h4]
  have h5 : totW (L.filter fun u => decide (u.num ≠ (WV.mk n (crPut nm inc (wvCr n L))).num)) = totW (L.filter fun u => decide (u.num ≠ n)) := rfl
  omega
theorem wvPut_mem {L : List WV} (hs : WS L) {n : Int} {nm : List UInt8} {inc : Int} {v : WV} (h : v ∈ wvPut n nm inc L) : v = ⟨n, crPut nm inc (wvCr n L)⟩ ∨ v ∈ L := sset_mem_keys ordI _ hs h
theorem crPut_ne (nm : List UInt8) (inc : Int) : ∀ cr : List Cr, crPut nm inc cr ≠ [] := fun cr h => by
  unfold crPut crSet at h
  cases cr with
  | nil => simp [sset] at h
  | cons c t =>
    unfold sset at h
    split at h
    · simp at h
    · split at h <;> simp at h
theorem wvPut_len_in {n : Int} {nm : List UInt8} {inc : Int} : ∀ {L : List WV} {v : WV}, WS L → v.num ∈ L.map (·.num) → (wvSet v L).length = L.length
  | [], v, _, h => by simp at h
  | u :: r, v, hs, h => by
    have hs2 := hs
    unfold WS at hs2
    rw [List.map_cons, List.pairwise_cons] at hs2
    show (if u.num = v.num then v :: r else if v.num < u.num then v :: u :: r else u :: sset WV.num (fun a b : Int => a < b) v r).length = _
    by_cases h1 : u.num = v.num
    · rw [if_pos h1]; rfl
    · rw [if_neg h1]
      have hm : v.num ∈ r.map (·.num) := by
        rcases List.mem_cons.1 h with e | e
        · exact absurd e.symm h1
        · exact e
      rw [if_neg (by have := hs2.1 _ hm; omega)]
      have := wvPut_len_in (n := n) (nm := nm) (inc := inc) (L := r) (v := v) hs2.2 hm
      unfold wvSet at this
      simp only [List.length_cons, this]
def lastN : Int → List WV → Int
  | b, [] => b
  | _, v :: t => lastN v.num t
theorem lastN_le {b : Int} : ∀ {l : List WV} {a : Int}, a ≤ b → (∀ v ∈ l, v.num ≤ b) → lastN a l ≤ b
  | [], _, h, _ => h
  | v :: t, _, _, h2 => lastN_le (l := t) (h2 v (by simp)) fun x hx => h2 x (by simp [hx])
theorem lastN_ge {b : Int} : ∀ {l : List WV} {a : Int}, b ≤ a → (∀ v ∈ l, b ≤ v.num) → b ≤ lastN a l
  | [], _, h, _ => h
  | v :: t, _, _, h2 => lastN_ge (l := t) (h2 v (by simp)) fun x hx => h2 x (by simp [hx])
theorem lastN_take (a : Int) : ∀ (l : List WV) {k : Nat} (h : k < l.length), lastN a (l.take (k + 1)) = l[k].num
  | [], k, h => by simp at h
  | v :: t, 0, _ => rfl
  | v :: t, k + 1, h => by
    have hk : k < t.length := by simpa using h
    show lastN v.num (t.take (k + 1)) = t[k].num
    exact lastN_take v.num t hk
/-- These windows may be closed. -/
structure Clos (l : List WV) (last sum : Int) : Prop where
  ws : WS l
  mem : ∀ v ∈ l, last < v.num ∧ v.num ≤ 1125899906842624 ∧ v.cr ≠ [] ∧ v.cr.length ≤ 1000 ∧ ∀ c ∈ v.cr, CrB c
  tot : totW l ≤ sum
  bd : sum ≤ 1152921504606846976
  lo : -1 ≤ last
  len : l.length ≤ 1000
/-- What stays from act to act. -/
structure OnI (k : Nat) (s : Cfg) (L : List WV) (sum last : Int) : Prop where
  k100 : k ≤ 101
  len : 1 ≤ s.len ∧ s.len ≤ 1073741824
  lat : 0 ≤ s.lat ∧ s.lat ≤ 1073741824
  most : 1 ≤ s.most ∧ s.most ≤ 64
  floor : -1 ≤ s.floor ∧ s.floor ≤ 1125899906842624
  mark : -1 ≤ s.mark ∧ s.mark ≤ 1125899906842624
  cred : 0 ≤ s.cred ∧ s.cred ≤ k
  late : 0 ≤ s.late ∧ s.late ≤ k
  mem : ∀ v ∈ L, s.floor < v.num ∧ v.num ≤ 1125899906842624 ∧ v.cr ≠ [] ∧ v.cr.length ≤ k ∧ ∀ c ∈ v.cr, CrB c
  num : (L.length : Int) ≤ s.most
  sum : sum = totW L
  tot : totW L ≤ k * 1125899906842624
  last : -1 ≤ last ∧ last ≤ s.floor
variable {k : Nat} {s : Cfg} {L : List WV} {sum last : Int}
theorem OnI.sok (h : OnI k s L sum last) : SOk s := ⟨h.len, h.lat, h.most, h.floor, h.mark, ⟨h.cred.1, by have := h.cred.2; have := h.k100; omega⟩, ⟨h.late.1, by have := h.late.2; have := h.k100; omega⟩⟩
theorem OnI.wbd (h : OnI k s L sum last) : WBd L := ⟨fun v hv => by have := h.mem v hv; have := h.floor; omega, fun v hv => ⟨by have := (h.mem v hv).2.2.2.1; have := h.k100; omega, (h.mem v hv).2.2.2.2⟩, by have := h.num; have := h.most; omega⟩
theorem OnI.crb (h : OnI k s L sum last) : ∀ v ∈ L, ∀ c ∈ v.cr, CrB c := fun v hv => (h.mem v hv).2.2.2.2
theorem OnI.up (h : OnI k s L sum last) (hk : k ≤ 100) : OnI (k + 1) s L sum last :=
  { h with k100 := by omega, cred := ⟨h.cred.1, by have := h.cred.2; omega⟩, late := ⟨h.late.1, by have := h.late.2; omega⟩, mem := fun v hv => ⟨(h.mem v hv).1, (h.mem v hv).2.1, (h.mem v hv).2.2.1, by have := (h.mem v hv).2.2.2.1; omega, (h.mem v hv).2.2.2.2⟩, tot := by have := h.tot; omega }
theorem OnI.note (h : OnI k s L sum last) (t : Int) : OnI k (noteS s t) L sum last := by
  refine { h with mark := ?_ }
  have := h.mark
  unfold noteS
  simp only
  split <;> omega
theorem OnI.clos (h : OnI k s L sum last) (hs : WS L) : Clos L last sum :=
  ⟨hs, fun v hv => ⟨by have := (h.mem v hv).1; have := h.last; omega, (h.mem v hv).2.1, (h.mem v hv).2.2.1, by have := (h.mem v hv).2.2.2.1; have := h.k100; omega, (h.mem v hv).2.2.2.2⟩, by rw [h.sum]; exact Int.le_refl _, by have := h.sum; have := h.tot; have := h.k100; omega, h.last.1, h.wbd.len⟩
theorem OnI.clock (h : OnI k s L sum last) (hs : WS L) (now : Int) :
    Clos (clockW s L now).1 last sum ∧ OnI k (clockW s L now).2.1 (clockW s L now).2.2 (sum - totW (clockW s L now).1) (lastN last (clockW s L now).1) := by
  unfold clockW
  by_cases hl : lastW s now < s.len
  · rw [if_pos hl]
    refine ⟨⟨by simp [WS], by simp, ?_, (h.clos hs).bd, h.last.1, by simp⟩, ?_⟩
    · show (0 : Int) ≤ sum
      rw [h.sum]
      exact totW_nn h.crb
    · show OnI k s L (sum - 0) last
      rw [Int.sub_zero]
      exact h
  · rw [if_neg hl]
    simp only
    have hlw : lastW s now ≤ s.mark := by unfold lastW; have := h.lat; omega
    have hln := h.len
    have hmk := h.mark
    have hq1 : 1 ≤ lastW s now / s.len := (Int.le_ediv_iff_mul_le (by omega)).2 (by omega)
    have hq2 : lastW s now / s.len ≤ lastW s now := Int.ediv_le_self _ (by omega)
    obtain ⟨n, hn⟩ : ∃ n, n = lastW s now / s.len - 1 := ⟨_, rfl⟩
    rw [← hn]
    have hcl := h.clos hs
    have htd : totW (L.take (cntW n L)) + totW (L.drop (cntW n L)) = totW L := by rw [← totW_app, List.take_append_drop]
    have hdn : 0 ≤ totW (L.drop (cntW n L)) := totW_nn fun v hv => h.crb v (List.mem_of_mem_drop hv)
    have htk : ∀ v ∈ L.take (cntW n L), v.num ≤ n := fun v hv => by
      obtain ⟨i, hi, rfl⟩ := List.getElem_of_mem hv
      rw [List.length_take] at hi
      rw [List.getElem_take]
      exact (cnt_iff hs (by omega)).2 (by omega)
    have hdr : ∀ v ∈ L.drop (cntW n L), n < v.num := fun v hv => by
      obtain ⟨i, hi, rfl⟩ := List.getElem_of_mem hv
      rw [List.length_drop] at hi
      rw [List.getElem_drop]
      have := cnt_iff (n := n) hs (k := cntW n L + i) (by omega)
      omega
    refine ⟨⟨?_, fun v hv => hcl.mem v (List.mem_of_mem_take hv), by rw [h.sum]; omega, hcl.bd, h.last.1, by rw [List.length_take]; have := hcl.len; omega⟩, ?_⟩
    · unfold WS at hs ⊢
      exact hs.sublist ((List.take_sublist _ L).map _)
    · exact { h with
        floor := by have := h.floor; exact ⟨by show -1 ≤ max s.floor n; omega, by show max s.floor n ≤ _; omega⟩
        mem := fun v hv => ⟨by have := (h.mem v (List.mem_of_mem_drop hv)).1; have := hdr v hv; show max s.floor n < v.num; omega, (h.mem v (List.mem_of_mem_drop hv)).2⟩
        num := by have := h.num; show ((L.drop (cntW n L)).length : Int) ≤ s.most; rw [List.length_drop]; omega
        sum := by rw [h.sum]; omega
        tot := by have := h.tot; have := totW_nn (L := L.take (cntW n L)) fun v hv => h.crb v (List.mem_of_mem_take hv); omega
        last := ⟨lastN_ge h.last.1 (fun v hv => by have := (h.mem v (List.mem_of_mem_take hv)).1; have := h.floor; omega), lastN_le (by have := h.last; show last ≤ max s.floor n; omega) (fun v hv => by have := htk v hv; show v.num ≤ max s.floor n; omega)⟩ }
theorem OnI.put (h : OnI k s L sum last) (hk : k ≤ 100) (hs : WS L) (hcs : ∀ v ∈ L, CS v.cr) {nm : List UInt8} (hnm : nm.length ≤ 140737488355328) {n inc : Int} (hn : s.floor < n ∧ n ≤ 1125899906842624) (hi : 0 ≤ inc ∧ inc < 1125899906842624) (hl : ((wvPut n nm inc L).length : Int) ≤ s.most) :
    OnI (k + 1) { s with cred := s.cred + 1 } (wvPut n nm inc L) (sum + inc) last := by
  have htp := totW_put hs hcs h.crb n nm inc (by have := h.tot; omega)
  have hu := h.up hk
  refine { hu with cred := ?_, mem := ?_, num := hl, sum := ?_, tot := ?_ }
  · have := h.cred
    exact ⟨by show 0 ≤ s.cred + 1; omega, by show s.cred + 1 ≤ ((k + 1 : Nat) : Int); omega⟩
  · intro v hv
    rcases wvPut_mem hs hv with rfl | hv
    · refine ⟨hn.1, hn.2, crPut_ne _ _ _, ?_, crPut_B (wvCr_nil (P := CS) (by simp [CS]) hcs) (wvCr_nil (P := fun cr => ∀ c ∈ cr, CrB c) (by simp) h.crb) hnm hi.1⟩
      have h1 : (crPut nm inc (wvCr n L)).length ≤ (wvCr n L).length + 1 := sset_length _ _
      have h2 : (wvCr n L).length ≤ k := wvCr_nil (P := fun cr => cr.length ≤ k) (Nat.zero_le _) (fun v hv => (h.mem v hv).2.2.2.1)
      show (crPut nm inc (wvCr n L)).length ≤ k + 1
      omega
    · exact hu.mem v hv
  · rw [htp, h.sum]
  · rw [htp]
    have := h.tot
    omega
theorem OnI.add (h : OnI k s L sum last) (hk : k ≤ 100) (hs : WS L) (hcs : ∀ v ∈ L, CS v.cr) {nm : List UInt8} (hnm : nm.length ≤ 140737488355328) (time : Int) {inc : Int} (hi : inc < 1125899906842624) :
    ((addW s L nm time inc).1 = true ∧ (addW s L nm time inc).2.1 = [] ∧ OnI (k + 1) (addW s L nm time inc).2.2.1 (addW s L nm time inc).2.2.2 sum last ∧ (addW s L nm time inc).2.2.1.late = s.late + 1) ∨
    ((addW s L nm time inc).1 = false ∧ Clos (addW s L nm time inc).2.1 last (sum + inc) ∧ OnI (k + 1) (addW s L nm time inc).2.2.1 (addW s L nm time inc).2.2.2 (sum + inc - totW (addW s L nm time inc).2.1) (lastN last (addW s L nm time inc).2.1) ∧ (addW s L nm time inc).2.2.1.late = s.late ∧ 0 ≤ inc) := by
  have hlate : OnI (k + 1) { s with late := s.late + 1 } L sum last := { h.up hk with late := by have := h.late; exact ⟨by show 0 ≤ s.late + 1; omega, by show s.late + 1 ≤ ((k + 1 : Nat) : Int); omega⟩ }
  unfold addW
  by_cases hl : time < 0 ∨ 1125899906842624 < time ∨ inc < 0 ∨ time.tdiv s.len ≤ s.floor
  · rw [if_pos hl]
    exact .inl ⟨rfl, rfl, hlate, rfl⟩
  rw [if_neg hl]
  have hln := h.len
  have hi0 : 0 ≤ inc := by omega
  have hq : time.tdiv s.len ≤ 1125899906842624 := by
    rw [Int.tdiv_eq_ediv_of_nonneg (by omega)]
    have := Int.ediv_le_self (a := time) s.len (by omega)
    omega
  have hfl : s.floor < time.tdiv s.len := by omega
  have hnn : 0 ≤ totW L := totW_nn h.crb
  have h0 : ∀ x : Int, x ≤ 1152921504606846976 → 0 ≤ x → Clos [] last x := fun x hx hx0 => ⟨by simp [WS], by simp, hx0, hx, h.last.1, by simp⟩
  have hsm := h.sum
  have htt := h.tot
  by_cases hin : time.tdiv s.len ∈ L.map (·.num) ∨ (L.length : Int) < s.most
  · rw [if_pos hin]
    refine .inr ⟨rfl, h0 _ (by omega) (by omega), ?_, rfl, hi0⟩
    show OnI (k + 1) { s with cred := s.cred + 1 } (wvPut (time.tdiv s.len) nm inc L) (sum + inc - 0) last
    rw [Int.sub_zero]
    refine h.put hk hs hcs hnm ⟨hfl, hq⟩ ⟨hi0, hi⟩ ?_
    have hnu := h.num
    rcases hin with hin | hin
    · have h9 := wvPut_len_in (n := 0) (nm := nm) (inc := 0) (L := L) (v := ⟨time.tdiv s.len, crPut nm inc (wvCr (time.tdiv s.len) L)⟩) hs hin
      show ((wvSet _ L).length : Int) ≤ _
      omega
    · have h9 : (wvSet ⟨time.tdiv s.len, crPut nm inc (wvCr (time.tdiv s.len) L)⟩ L).length ≤ L.length + 1 := sset_length _ _
      show ((wvSet _ L).length : Int) ≤ _
      omega
  · rw [if_neg hin]
    cases L with
    | nil => exact .inl ⟨rfl, rfl, hlate, rfl⟩
    | cons f t =>
      simp only
      by_cases hlt : time.tdiv s.len < f.num
      · rw [if_pos hlt]
        exact .inl ⟨rfl, rfl, hlate, rfl⟩
      · rw [if_neg hlt]
        have hm := h.mem f (by simp)
        have hf0 : 0 ≤ totC f.cr := totC_nn hm.2.2.2.2
        have ht0 : 0 ≤ totW t := totW_nn fun v hv => h.crb v (by simp [hv])
        have hfn : f.num < time.tdiv s.len := by
          have h1 : ¬ time.tdiv s.len = f.num := fun e => hin (.inl (by rw [e]; simp))
          omega
        have hs2 := hs
        unfold WS at hs2
        rw [List.map_cons, List.pairwise_cons] at hs2
        simp only [totW] at hsm htt hnn
        have hst : OnI k { s with floor := max s.floor f.num } t (sum - totC f.cr) f.num := { h with
          floor := by have := h.floor; exact ⟨by show -1 ≤ max s.floor f.num; omega, by show max s.floor f.num ≤ _; omega⟩
          mem := fun v hv => ⟨by have h1 := (h.mem v (by simp [hv])).1; have h2 := hs2.1 _ (List.mem_map.2 ⟨v, hv, rfl⟩); show max s.floor f.num < v.num; omega, (h.mem v (by simp [hv])).2⟩
          num := by have := h.num; simp only [List.length_cons] at this; show (t.length : Int) ≤ s.most; omega
          sum := by omega
          tot := by omega
          last := by have := h.floor; exact ⟨by omega, by show f.num ≤ max s.floor f.num; omega⟩ }
        have hp := hst.put hk (show WS t from hs2.2) (fun v hv => hcs v (by simp [hv])) hnm (n := time.tdiv s.len) (inc := inc) ⟨by show max s.floor f.num < _; omega, hq⟩ ⟨hi0, hi⟩ (by
          have h9 : (wvSet ⟨time.tdiv s.len, crPut nm inc (wvCr (time.tdiv s.len) t)⟩ t).length ≤ t.length + 1 := sset_length _ _
          have h8 := h.num
          simp only [List.length_cons] at h8
          show ((wvSet _ t).length : Int) ≤ s.most
          omega)
        refine .inr ⟨rfl, ⟨by simp [WS], ?_, ?_, by omega, h.last.1, by simp⟩, ?_, rfl, hi0⟩
        · intro v hv
          simp only [List.mem_singleton] at hv
          subst hv
          exact ⟨by have := h.last; omega, hm.2.1, hm.2.2.1, by have := hm.2.2.2.1; have := h.k100; omega, hm.2.2.2.2⟩
        · simp only [totW]
          omega
        · have e : sum + inc - totW [f] = sum - totC f.cr + inc := by simp only [totW]; omega
          rw [e]
          exact hp
theorem WinIs.ws {w : World} {B g : Nat} {F : List Nat} (h : WinIs w B g s L F) : WS L := by
  obtain ⟨M, es, -, -, hs, -⟩ := h
  exact hs
theorem WinIs.cs {w : World} {B g : Nat} {F : List Nat} (h : WinIs w B g s L F) : ∀ v ∈ L, CS v.cr := by
  obtain ⟨M, es, hat, hp, -, -⟩ := h
  intro v hv
  obtain ⟨e, he, rfl⟩ := List.mem_map.1 (hp.mem_iff.2 hv)
  exact (hat.2.2.1 e he).2.2
theorem OnI.zero {len lat most : Int} (h : MayW len lat most) : OnI 0 (cfg0 len lat most) [] 0 (-1) := by
  obtain ⟨h1, h2, h3, h4, h5, h6⟩ := h
  exact ⟨by omega, ⟨h1, h2⟩, ⟨h3, h4⟩, ⟨h5, h6⟩, ⟨by show (-1 : Int) ≤ -1; omega, by show (-1 : Int) ≤ _; omega⟩, ⟨by show (-1 : Int) ≤ -1; omega, by show (-1 : Int) ≤ _; omega⟩, ⟨by show (0 : Int) ≤ 0; omega, by show (0 : Int) ≤ _; omega⟩, ⟨by show (0 : Int) ≤ 0; omega, by show (0 : Int) ≤ _; omega⟩, by simp, by show (0 : Int) ≤ most; omega, rfl, by show (0 : Int) ≤ _; omega, ⟨by omega, by show (-1 : Int) ≤ -1; omega⟩⟩
end Go.Proofs.Ytbkpgpaanhfjfaa
