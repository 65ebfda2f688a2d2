/- The walks over what turns a connection: accept, refuse, end, reset, arrive, send, read. -/
import Derived.Test.YtepdnmpcccgcaaaNetW
import Derived.Test.YtepdnmpcccgcaaaApp2
namespace Go.Proofs.Ytepdnmpcccgcaaa
open Go.RowKit K
/-- The first connection of that number, turned. -/
def cset (id : Int) (e' : CE) : List CE → List CE
  | [] => []
  | x :: r => if id = x.id then e' :: r else x :: cset id e' r
theorem cset_split {id : Int} : ∀ {es : List CE} {e : CE}, cfind id es = some e → ∃ pre post, es = pre ++ e :: post ∧ e.id = id ∧ ∀ e', cset id e' es = pre ++ e' :: post
  | [], _, h => by cases h
  | x :: r, e, h => by
    by_cases hx : id = x.id
    · have : x = e := by simpa [cfind, hx] using h
      subst this
      exact ⟨[], r, rfl, hx.symm, fun e' => by simp [cset, hx]⟩
    · have h' : cfind id r = some e := by simpa [cfind, hx] using h
      obtain ⟨pre, post, h1, h2, h3⟩ := cset_split h'
      exact ⟨x :: pre, post, by rw [h1]; rfl, h2, fun e' => by simp [cset, hx, h3]⟩
theorem getE_cases (id : Int) (sts : List Int) (es : List CE) : (∃ e, getE id sts es = (some e, 0) ∧ cfind id es = some e) ∨ ∃ code, getE id sts es = (none, code) ∧ (code = 7 ∨ code = 8) := by
  unfold getE
  cases cfind id es with
  | none => exact .inr ⟨8, rfl, .inr rfl⟩
  | some e =>
    simp only
    split
    · exact .inl ⟨e, rfl, rfl⟩
    · split
      · exact .inl ⟨e, rfl, rfl⟩
      · exact .inr ⟨7, rfl, .inl rfl⟩
theorem ptr_some (e : CE) (i : Int) : ptrE (some e, i).1 = .pointer (some ⟨e.c, 0, none⟩) := rfl
theorem ptr_none (i : Int) : ptrE ((none : Option CE), i).1 = .pointer none := rfl
def NetPost (w : World) (B n M : Nat) (most dialed dialed' : Int) (es es' : List CE) (w' : World) : Prop :=
  NetAt w' B n M most dialed' es' ∧ Only (· ∈ foot n M es) w w' ∧ (∀ k ∈ foot n M es', k ∈ foot n M es ∨ w.heap.size ≤ k) ∧ NetAt w B n M most dialed es
section
variable {w w1 w' : World} {B n M : Nat} {most dialed d1 d2 : Int} {es es1 es2 : List CE}
theorem NetPost.refl (h : NetAt w B n M most dialed es) : NetPost w B n M most dialed dialed es es w := ⟨h, Only.refl _ _, fun _ hk => .inl hk, h⟩
theorem NetPost.start (h0 : NetAt w B n M most dialed es) (hb : Below w.heap.size w w1) (h : NetPost w1 B n M most dialed d1 es es1 w') : NetPost w B n M most dialed d1 es es1 w' :=
  ⟨h.1, (Only.of_new hb).trans h.2.1 (fun _ _ h => h), fun k hk => (h.2.2.1 k hk).imp id (fun h => Nat.le_trans hb.size h), h0⟩
theorem NetPost.end (h : NetPost w B n M most dialed d1 es es1 w1) (hb : Below w1.heap.size w1 w') : NetPost w B n M most dialed d1 es es1 w' :=
  ⟨h.1.below hb (Nat.le_refl _), h.2.1.trans (Only.of_new (F := (· ∈ foot n M es)) hb) (fun _ _ h => h), h.2.2⟩
theorem NetPost.trans (h : NetPost w B n M most dialed d1 es es1 w1) (k : NetPost w1 B n M most d1 d2 es1 es2 w') : NetPost w B n M most dialed d2 es es2 w' :=
  ⟨k.1, h.2.1.trans k.2.1 (fun i hi hm => (h.2.2.1 i hm).resolve_right (by omega)), fun i hi => by
    rcases k.2.2.1 i hi with h1 | h1
    · exact h.2.2.1 i h1
    · exact .inr (Nat.le_trans h.2.1.size h1), h.2.2.2⟩
theorem NetPost.of_turned {pre post : List CE} {e e' : CE} (h : NetAt w B n M most dialed (pre ++ e :: post)) (ho : Only (· ∈ e.blocks) w w') (hid : e'.id = e.id) (hc : e'.c = e.c) (hconn : ConnAt w' B e')
    (hbl : ∀ k ∈ e'.blocks, k ∈ e.blocks ∨ w.heap.size ≤ k) (hnd : e'.blocks.Nodup) (hB : B ≤ w.heap.size) : NetPost w B n M most dialed dialed (pre ++ e :: post) (pre ++ e' :: post) w' := by
  refine ⟨h.turned ho hid hc hconn hbl hnd hB, ho.mono (fun k _ hk => ?_), fun k hk => ?_, h⟩
  · rw [foot_split]
    simp [hk]
  · rw [foot_split] at hk ⊢
    rcases List.mem_append.1 hk with hk | hk
    · exact .inl (List.mem_append_left _ hk)
    · rcases List.mem_append.1 hk with hk | hk
      · rcases hbl k hk with h | h
        · exact .inl (by simp [h])
        · exact .inr h
      · exact .inl (by simp [hk])
theorem NetAt.nodup {pre post : List CE} {e : CE} (h : NetAt w B n M most dialed (pre ++ e :: post)) : e.blocks.Nodup := by
  have h4 := h.2.2.2.1
  rw [foot_split] at h4
  exact (List.nodup_append.1 (List.nodup_append.1 h4).2.1).1
/-- The state behind a turn. -/
def turnS (id to : Int) (sts : List Int) (es : List CE) : List CE :=
  match (getE id sts es).1 with
  | some e => cset id { e with st := to } es
  | none => es
theorem conn_cell {e : CE} (h : ConnAt w B e) (i : Nat) : w.cell? ⟨e.c, i, none⟩ = #[Value.string e.host, .int .i64 e.st, e.iv, e.ov][i]? := cell_of_row _ _ _ _ _ _ h.1
theorem conn_set {e : CE} (h : ConnAt w B e) (_hnd : e.blocks.Nodup) (i : Nat) (v : Value) (e' : CE) (hc : e'.c = e.c) (hcs : #[Value.string e'.host, .int .i64 e'.st, e'.iv, e'.ov] = (#[Value.string e.host, .int .i64 e.st, e.iv, e.ov] : Array Value).setIfInBounds i v)
    (hi : Buf (w.setCell ⟨e.c, i, none⟩ v) B e'.iv e'.inn) (ho : Buf (w.setCell ⟨e.c, i, none⟩ v) B e'.ov e'.out) : ConnAt (w.setCell ⟨e.c, i, none⟩ v) B e' := by
  refine ⟨?_, hi, ho⟩
  rw [hc, heap_setCell_same _ _ _ _ _ _ h.1, hcs]
theorem Buf.setCell {v : Value} {l : List UInt8} (h : Buf w B v l) (a : Addr) (u : Value) (hn : v.ownBlock ≠ some a.block) : Buf (w.setCell a u) B v l :=
  h.only (F := (· = a.block)) ((Only.refl _ w).setCell a u (fun _ => rfl)) (fun k hk e => hn (by rw [hk, e]))
theorem CE.apart {e : CE} (h : e.blocks.Nodup) : e.iv.ownBlock ≠ some e.c ∧ e.ov.ownBlock ≠ some e.c ∧ ∀ k, e.iv.ownBlock = some k → e.ov.ownBlock ≠ some k := by
  unfold CE.blocks at h
  obtain ⟨h1, h2⟩ := List.nodup_cons.1 h
  refine ⟨fun he => h1 (by simp [he]), fun he => h1 (by simp [he]), fun k hi ho => ?_⟩
  exact (List.nodup_append.1 h2).2.2 k (by simp [hi]) k (by simp [ho]) rfl
set_option maxHeartbeats 1000000 in
theorem turn_any (h : NetAt w B n M most dialed es) (hB : B ≤ w.heap.size) (id to : Int) (a : Option Addr) (c : Nat) (sts : List Int) (hl : sts.length ≤ 1000) (hr : Rd w a (stv sts)) :
    Calls Try.prog 31 #[.pointer (some ⟨n, 0, none⟩), .int .i64 id, .int .i64 to, .slice a sts.length c] w fun e w' => e = .returned (.int .i64 (getE id sts es).2) ∧ NetPost w B n M most dialed dialed es (turnS id to sts es) w' := by
  have hget := get_any h id a c sts hl hr
  rcases getE_cases id sts es with ⟨e, hg, hf⟩ | ⟨code, hg, hcode⟩
  · obtain ⟨pre, post, hes, hid, hcs⟩ := cset_split hf
    have hts : turnS id to sts es = pre ++ { e with st := to } :: post := by simp only [turnS, hg, hcs]
    rw [hts]
    rw [hg, ptr_some] at hget
    rw [hg]
    subst hes
    have hcn := h.2.2.1 e (by simp)
    have hnd := h.nodup
    have c1 : w.cell? ⟨e.c, 1, none⟩ = some (.int .i64 e.st) := conn_cell hcn 1
    have f1 : w.frozen? ⟨e.c, 1, none⟩ = false := frozen_of_row _ _ _ _ _ hcn.1
    have hpost : NetPost w B n M most dialed dialed (pre ++ e :: post) (pre ++ { e with st := to } :: post) (w.setCell ⟨e.c, 1, none⟩ (.int .i64 to)) := by
      refine NetPost.of_turned h ((Only.refl _ _).setCell _ _ (fun _ => by simp [CE.blocks])) rfl rfl ?_ (fun k hk => .inl hk) hnd hB
      have hap := CE.apart hnd
      exact conn_set hcn hnd 1 _ _ rfl rfl (hcn.2.1.setCell _ _ hap.1) (hcn.2.2.setCell _ _ hap.2.1)
    have HP := Lib.hid hpost
    have HG := Lib.hid hget
    clear hpost hget hr hts hcs h hcn hnd hf hg hid
    go_enter Try.func31, Try.ntmps31
    go_wp2_with fail
    refine HG.out.mono ?_
    rintro e' w' ⟨rfl, rfl⟩
    go_wp2
    go_ret
    exact ⟨rfl, HP.out⟩
  · have hts : turnS id to sts es = es := by simp only [turnS, hg]
    rw [hts]
    rw [hg, ptr_none] at hget
    rw [hg]
    have hc0 : (code == 0) = false := by rw [beq_eq_false_iff_ne]; omega
    have HG := Lib.hid hget
    have HP := Lib.hid (NetPost.refl h)
    clear hget hr hts h hg hcode
    go_enter Try.func31, Try.ntmps31
    go_wp2_with fail
    refine HG.out.mono ?_
    rintro e' w' ⟨rfl, rfl⟩
    go_wp2
    go_ret
    exact ⟨rfl, HP.out⟩
end
end Go.Proofs.Ytepdnmpcccgcaaa
