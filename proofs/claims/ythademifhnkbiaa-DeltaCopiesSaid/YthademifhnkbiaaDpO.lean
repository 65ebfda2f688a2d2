/- Series by rising names; when two stores have the same: plain laws. -/
import Derived.Test.YthademifhnkbiaaDpI
namespace Go.Proofs.Ythademifhnkbiaa
open Go.RowKit K
theorem bl_irrefl : ∀ x : List UInt8, Op.bytesLess x x = false
  | [] => rfl
  | a :: x => by simp [Op.bytesLess, bl_irrefl x]
theorem bl_trans : ∀ {x y z : List UInt8}, Op.bytesLess x y = true → Op.bytesLess y z = true → Op.bytesLess x z = true
  | _, [], z, h, _ => by simp [Op.bytesLess] at h
  | _, _ :: _, [], _, h => by simp [Op.bytesLess] at h
  | [], _ :: _, _ :: _, _, _ => rfl
  | a :: x, b :: y, c :: z, h1, h2 => by
    simp only [Op.bytesLess, Bool.or_eq_true, decide_eq_true_eq, Bool.and_eq_true, beq_iff_eq] at h1 h2 ⊢
    rcases h1 with h1 | ⟨rfl, h1⟩
    · rcases h2 with h2 | ⟨rfl, h2⟩
      · exact .inl (UInt8.lt_trans h1 h2)
      · exact .inl h1
    · rcases h2 with h2 | ⟨rfl, h2⟩
      · exact .inl h2
      · exact .inr ⟨rfl, bl_trans h1 h2⟩
theorem bl_total : ∀ {x y : List UInt8}, Op.bytesLess x y = false → Op.bytesLess y x = false → x = y
  | [], [], _, _ => rfl
  | [], _ :: _, h, _ => by simp [Op.bytesLess] at h
  | _ :: _, [], _, h => by simp [Op.bytesLess] at h
  | a :: x, b :: y, h1, h2 => by
    simp only [Op.bytesLess, Bool.or_eq_false_iff, decide_eq_false_iff_not, Bool.and_eq_false_iff, beq_eq_false_iff_ne] at h1 h2
    have hab : a = b := by
      have h3 := UInt8.not_lt.1 h1.1
      have h4 := UInt8.not_lt.1 h2.1
      exact UInt8.le_antisymm h4 h3
    subst hab
    rw [bl_total (h1.2.resolve_left (by simp)) (h2.2.resolve_left (by simp))]
theorem lessN_trans {x y z : ByteArray} (h1 : lessN x y = true) (h2 : lessN y z = true) : lessN x z = true := bl_trans h1 h2
theorem lessN_asymm {x y : ByteArray} (h1 : lessN x y = true) (h2 : lessN y x = true) : False := by
  have := lessN_trans h1 h2
  unfold lessN at this
  rw [bl_irrefl] at this
  cases this
theorem lessN_total {x y : ByteArray} (h1 : lessN x y = false) (hne : x ≠ y) : lessN y x = true := by
  cases h : lessN y x with
  | true => rfl
  | false =>
    have := bl_total h1 h
    rw [ByteArray.toList_eq, ByteArray.toList_eq] at this
    exact absurd (ByteArray.ext (Array.toList_inj.1 this)) hne
/-- By rising names. -/
def NS (L : List SV) : Prop := (L.map fun v => v.x.name).Pairwise fun a b => lessN a b = true
theorem NS.uniq {L : List SV} (h : NS L) : Uniq L := by
  unfold NS at h
  unfold Uniq
  exact h.imp fun {a b} hab e => by subst e; exact lessN_asymm hab hab
theorem rins_cons (v u : SV) (r : List SV) : rins v (u :: r) = if lessN u.x.name v.x.name = true then u :: rins v r else v :: u :: r := by
  have e : insAt v.x.name (u :: r) = if lessN u.x.name v.x.name = true then insAt v.x.name r + 1 else 0 := rfl
  unfold rins
  rw [e]
  by_cases h : lessN u.x.name v.x.name = true
  · simp only [if_pos h, List.take_succ_cons, List.drop_succ_cons, List.cons_append]
  · simp only [if_neg h, List.take_zero, List.drop_zero, List.nil_append]
theorem NS.ins {v : SV} : ∀ {L : List SV}, NS L → v.x.name ∉ L.map (fun u => u.x.name) → NS (rins v L)
  | [], _, _ => by simp [NS, rins, insAt]
  | u :: r, h, hn => by
    unfold NS at h
    rw [List.map_cons, List.pairwise_cons] at h
    rw [List.map_cons, List.mem_cons, not_or] at hn
    rw [rins_cons]
    by_cases hl : lessN u.x.name v.x.name = true
    · rw [if_pos hl]
      unfold NS
      rw [List.map_cons, List.pairwise_cons]
      refine ⟨fun b hb => ?_, NS.ins (L := r) h.2 hn.2⟩
      have hb' := (((rins_perm v r).map fun u : SV => u.x.name).mem_iff).1 hb
      rw [List.map_cons, List.mem_cons] at hb'
      rcases hb' with rfl | hb'
      · exact hl
      · exact h.1 b hb'
    · rw [if_neg hl]
      have hvu : lessN v.x.name u.x.name = true := lessN_total (by simpa using hl) (fun e => hn.1 e.symm)
      unfold NS
      rw [List.map_cons, List.map_cons, List.pairwise_cons, List.pairwise_cons]
      refine ⟨fun b hb => ?_, h⟩
      rw [List.mem_cons] at hb
      rcases hb with rfl | hb
      · exact hvu
      · exact lessN_trans hvu (h.1 b hb)
theorem NS.one {most owner : Int} {L : List SV} {x : Smp} (h : NS L) : NS (roneL most owner L x) := by
  unfold roneL
  cases hf : sfind x.name L with
  | none =>
    simp only
    split
    · exact h
    · exact h.ins (sfind_none hf)
  | some v =>
    simp only
    split
    · exact h
    · unfold NS at h ⊢
      rw [sset_names (x := x.name) (v' := ⟨x, true, owner⟩) rfl]
      exact h
theorem NS.put {most owner : Int} : ∀ (xs : List Smp) {L : List SV}, NS L → NS (rputL most owner L xs)
  | [], _, h => h
  | x :: r, _, h => NS.put (most := most) (owner := owner) r (h.one (most := most) (owner := owner) (x := x))
theorem NS.gone {owner : Int} {names : List ByteArray} {L : List SV} (h : NS L) : NS (goneL owner names L) := by
  unfold NS at h ⊢
  rw [goneL_names]
  exact h
theorem NS.eq {L1 L2 : List SV} (h1 : NS L1) (h2 : NS L2) (hp : L1.Perm L2) : L1 = L2 := by
  have w1 : L1.Pairwise fun a b => lessN a.x.name b.x.name = true := List.pairwise_map.1 h1
  have w2 : L2.Pairwise fun a b => lessN a.x.name b.x.name = true := List.pairwise_map.1 h2
  exact List.Perm.eq_of_pairwise (le := fun a b : SV => lessN a.x.name b.x.name = true) (fun a b _ _ h1 h2 => (lessN_asymm h1 h2).elim) w1 w2 hp
/-- Are two series the same? -/
def svB (u v : SV) : Bool := u.x.name.toList == v.x.name.toList && (u.x.val == v.x.val && (u.x.time == v.x.time && (u.x.counts == v.x.counts && (u.live == v.live && u.owner == v.owner))))
theorem svB_iff {u v : SV} : svB u v = true ↔ u = v := by
  obtain ⟨⟨n, a, t, c⟩, l, o⟩ := u
  obtain ⟨⟨n', a', t', c'⟩, l', o'⟩ := v
  unfold svB
  simp only [Bool.and_eq_true, beq_iff_eq, SV.mk.injEq, Smp.mk.injEq]
  constructor
  · rintro ⟨h1, h2, h3, h4, h5, h6⟩
    rw [ByteArray.toList_eq, ByteArray.toList_eq] at h1
    exact ⟨⟨ByteArray.ext (Array.toList_inj.1 h1), h2, h3, h4⟩, h5, h6⟩
  · rintro ⟨⟨h1, h2, h3, h4⟩, h5, h6⟩
    exact ⟨by rw [h1], h2, h3, h4, h5, h6⟩
/-- Has the second store what the first one has? -/
def hasB (l2 : List SV) (v : SV) : Bool := match sfind v.x.name l2 with | none => false | some u => svB v u
def eqM (l1 l2 : List SV) : Bool := decide (l1.length = l2.length) && l1.all (hasB l2)
theorem hasB_iff {l2 : List SV} {v : SV} (hu : Uniq l2) : hasB l2 v = true ↔ v ∈ l2 := by
  unfold hasB
  cases hf : sfind v.x.name l2 with
  | none =>
    simp only [Bool.false_eq_true, false_iff]
    exact fun hv => sfind_none hf (List.mem_map.2 ⟨v, hv, rfl⟩)
  | some u =>
    obtain ⟨h1, h2⟩ := sfind_some hf
    simp only [svB_iff]
    exact ⟨fun e => e ▸ h1, fun hv => hu.one u h1 v hv h2.symm⟩
theorem Uniq.nodup {l : List SV} (h : Uniq l) : l.Nodup := by
  unfold Uniq at h
  exact (List.pairwise_map.1 h).imp fun {a b} hab e => hab (by rw [e])
theorem eqM_iff {l1 l2 : List SV} (h1 : Uniq l1) (h2 : Uniq l2) : eqM l1 l2 = true ↔ l1.Perm l2 := by
  unfold eqM
  rw [Bool.and_eq_true, decide_eq_true_eq, List.all_eq_true]
  constructor
  · rintro ⟨hl, ha⟩
    have hsub : ∀ v ∈ l1, v ∈ l2 := fun v hv => (hasB_iff h2).1 (ha v hv)
    refine (List.perm_ext_iff_of_nodup h1.nodup h2.nodup).2 fun v => ⟨hsub v, fun hv => ?_⟩
    by_cases hm : v ∈ l1
    · exact hm
    · have := List.Nodup.length_le_of_subset (l₁ := v :: l1) (l₂ := l2) (List.nodup_cons.2 ⟨hm, h1.nodup⟩) (fun u hu => by
        rcases List.mem_cons.1 hu with rfl | hu
        · exact hv
        · exact hsub u hu)
      rw [List.length_cons] at this
      omega
  · intro hp
    exact ⟨hp.length_eq, fun v hv => (hasB_iff h2).2 (hp.mem_iff.1 hv)⟩
def alikeB : List SV → List SV → Bool
  | [], [] => true
  | a :: r, b :: t => svB a b && alikeB r t
  | _, _ => false
theorem alikeB_iff : ∀ {L1 L2 : List SV}, alikeB L1 L2 = true ↔ L1 = L2
  | [], [] => by simp [alikeB]
  | [], _ :: _ => by simp [alikeB]
  | _ :: _, [] => by simp [alikeB]
  | a :: r, b :: t => by simp [alikeB, svB_iff, alikeB_iff (L1 := r) (L2 := t)]
/-- Both halves tell the same. -/
theorem alike_eqM {l1 L1 l2 L2 : List SV} (h1 : SRel l1 L1) (h2 : SRel l2 L2) (s1 : NS L1) (s2 : NS L2) : eqM l1 l2 = alikeB L1 L2 := by
  rw [Bool.eq_iff_iff, eqM_iff h1.uniq h2.uniq, alikeB_iff]
  constructor
  · intro hp
    exact s1.eq s2 ((h1.perm.symm.trans hp).trans h2.perm)
  · rintro rfl
    exact h1.perm.trans h2.perm.symm
end Go.Proofs.Ythademifhnkbiaa
