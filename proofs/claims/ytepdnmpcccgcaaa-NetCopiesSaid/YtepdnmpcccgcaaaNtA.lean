/- 'slices.Sorted(maps.Keys(m))' at int keys, laid; a map as the library reads it. -/
import Derived.Test.YtepdnmpcccgcaaaNetK
import Derived.Shelf.SlIterI.Nil
import Derived.Shelf.SortM.Plain
import Derived.Shelf.SortM.SortNone
import Derived.Maps.OwnIn
import Derived.Shelf.AbstractIn
namespace Go.Proofs.Ytepdnmpcccgcaaa
open Go.RowKit Go.Maps Go.Sort Go.Shelf K
def keysA_ren : Go.Shelf.Ren := ⟨fun | 7 => 50 | 10 => 58 | n => n, fun | 23 => 75 | 26 => 3 | 3 => 76 | 28 => 80 | 0 => 0 | 27 => 79 | 33 => 89 | 4 => 4 | n => n, fun | n => n⟩
theorem keysA : Go.Proofs.SlLaysZI.n7 Try.prog keysA_ren where
  mixed := by kernel_rfl
  f7 := ⟨Try.f50.name, by kernel_rfl, Try.func50.trans (congrArg some (by kernel_rfl))⟩
  f10 := ⟨Try.f58.name, by kernel_rfl, Try.func58.trans (congrArg some (by kernel_rfl))⟩
  t0 := Try.underlying0
  a0 := Try.isAgg0
  z0 := Try.sizeOf0
  v0 := Try.zeroValue0
  t4 := Try.underlying4
  a4 := Try.isAgg4
  z4 := Try.sizeOf4
  v4 := Try.zeroValue4
  t23 := Try.underlying75
  a23 := Try.isAgg75
  z23 := Try.sizeOf75
  v23 := Try.zeroValue75
  t26 := Try.underlying3
  a26 := Try.isAgg3
  z26 := Try.sizeOf3
  v26 := Try.zeroValue3
  t27 := Try.underlying79
  a27 := Try.isAgg79
  z27 := Try.sizeOf79
  v27 := Try.zeroValue79
  t28 := Try.underlying80
  a28 := Try.isAgg80
  z28 := Try.sizeOf80
  v28 := Try.zeroValue80
  t33 := Try.underlying89
  a33 := Try.isAgg89
  z33 := Try.sizeOf89
  v33 := Try.zeroValue89
def sortedA_ren : Go.Shelf.Ren := ⟨fun | 6 => 49 | 8 => 56 | 9 => 57 | 11 => 60 | 13 => 62 | 12 => 61 | 23 => 72 | 24 => 73 | 14 => 63 | 15 => 64 | 16 => 65 | 17 => 66 | 18 => 67 | 19 => 68 | 20 => 69 | 21 => 70 | 22 => 71 | 25 => 74 | 26 => 75 | 27 => 76 | 28 => 77 | 29 => 78 | 30 => 79 | 31 => 80 | n => n, fun | 26 => 3 | 28 => 80 | 24 => 23 | 0 => 0 | 3 => 3 | 37 => 94 | 48 => 105 | 50 => 107 | 4 => 4 | 40 => 97 | 39 => 96 | 45 => 102 | 5 => 5 | 9 => 9 | 51 => 108 | 55 => 112 | 57 => 114 | 58 => 67 | 33 => 89 | n => n, fun | n => n⟩
theorem sortedA : Go.Proofs.SlLaysZI.n6 Try.prog sortedA_ren where
  mixed := by kernel_rfl
  f6 := ⟨Try.f49.name, by kernel_rfl, Try.func49.trans (congrArg some (by kernel_rfl))⟩
  f8 := ⟨Try.f56.name, by kernel_rfl, Try.func56.trans (congrArg some (by kernel_rfl))⟩
  f11 := ⟨Try.f60.name, by kernel_rfl, Try.func60.trans (congrArg some (by kernel_rfl))⟩
  t0 := Try.underlying0
  a0 := Try.isAgg0
  z0 := Try.sizeOf0
  v0 := Try.zeroValue0
  t24 := Try.underlying23
  a24 := Try.isAgg23
  z24 := Try.sizeOf23
  v24 := Try.zeroValue23
  t26 := Try.underlying3
  a26 := Try.isAgg3
  z26 := Try.sizeOf3
  v26 := Try.zeroValue3
  t28 := Try.underlying80
  a28 := Try.isAgg80
  z28 := Try.sizeOf80
  v28 := Try.zeroValue80
  i26 := by kernel_rfl
def sortA_ren : Go.Shelf.Ren := ⟨fun | 5 => 57 | 8 => 62 | 7 => 61 | 19 => 72 | 20 => 73 | 10 => 63 | 11 => 64 | 12 => 65 | 13 => 66 | 14 => 67 | 15 => 68 | 16 => 69 | 17 => 70 | 18 => 71 | 30 => 74 | 31 => 75 | 32 => 76 | 33 => 77 | 34 => 78 | 35 => 79 | 40 => 80 | n => n, fun | 23 => 23 | 25 => 3 | 3 => 3 | 32 => 94 | 22 => 23 | 0 => 0 | 44 => 105 | 46 => 107 | 4 => 4 | 36 => 97 | 35 => 96 | 41 => 102 | 5 => 5 | 9 => 9 | 53 => 108 | 57 => 112 | 63 => 114 | 64 => 67 | n => n, fun | n => n⟩
theorem sortA : Go.Proofs.SlLaysM.n5 Try.prog sortA_ren where
  mixed := by kernel_rfl
  f5 := ⟨Try.f57.name, by kernel_rfl, Try.func57.trans (congrArg some (by kernel_rfl))⟩
  f7 := ⟨Try.f61.name, by kernel_rfl, Try.func61.trans (congrArg some (by kernel_rfl))⟩
  f8 := Try.func62.trans (congrArg some (by kernel_rfl))
  f10 := ⟨Try.f63.name, by kernel_rfl, Try.func63.trans (congrArg some (by kernel_rfl))⟩
  f11 := ⟨Try.f64.name, by kernel_rfl, Try.func64.trans (congrArg some (by kernel_rfl))⟩
  f12 := ⟨Try.f65.name, by kernel_rfl, Try.func65.trans (congrArg some (by kernel_rfl))⟩
  f13 := ⟨Try.f66.name, by kernel_rfl, Try.func66.trans (congrArg some (by kernel_rfl))⟩
  f14 := ⟨Try.f67.name, by kernel_rfl, Try.func67.trans (congrArg some (by kernel_rfl))⟩
  f15 := ⟨Try.f68.name, by kernel_rfl, Try.func68.trans (congrArg some (by kernel_rfl))⟩
  f16 := ⟨Try.f69.name, by kernel_rfl, Try.func69.trans (congrArg some (by kernel_rfl))⟩
  f17 := ⟨Try.f70.name, by kernel_rfl, Try.func70.trans (congrArg some (by kernel_rfl))⟩
  f18 := ⟨Try.f71.name, by kernel_rfl, Try.func71.trans (congrArg some (by kernel_rfl))⟩
  f19 := Try.func72.trans (congrArg some (by kernel_rfl))
  f20 := Try.func73.trans (congrArg some (by kernel_rfl))
  f30 := ⟨Try.f74.name, by kernel_rfl, Try.func74.trans (congrArg some (by kernel_rfl))⟩
  f31 := Try.func75.trans (congrArg some (by kernel_rfl))
  f32 := Try.func76.trans (congrArg some (by kernel_rfl))
  f33 := ⟨Try.f77.name, by kernel_rfl, Try.func77.trans (congrArg some (by kernel_rfl))⟩
  f34 := ⟨Try.f78.name, by kernel_rfl, Try.func78.trans (congrArg some (by kernel_rfl))⟩
  f35 := ⟨Try.f79.name, by kernel_rfl, Try.func79.trans (congrArg some (by kernel_rfl))⟩
  f40 := ⟨Try.f80.name, by kernel_rfl, Try.func80.trans (congrArg some (by kernel_rfl))⟩
  t0 := Try.underlying0
  a0 := Try.isAgg0
  z0 := Try.sizeOf0
  v0 := Try.zeroValue0
  t3 := Try.underlying3
  a3 := Try.isAgg3
  z3 := Try.sizeOf3
  v3 := Try.zeroValue3
  t4 := Try.underlying4
  a4 := Try.isAgg4
  z4 := Try.sizeOf4
  v4 := Try.zeroValue4
  t5 := Try.underlying5
  a5 := Try.isAgg5
  z5 := Try.sizeOf5
  v5 := Try.zeroValue5
  t9 := Try.underlying9
  a9 := Try.isAgg9
  z9 := Try.sizeOf9
  v9 := Try.zeroValue9
  t22 := Try.underlying23
  a22 := Try.isAgg23
  z22 := Try.sizeOf23
  v22 := Try.zeroValue23
  t23 := Try.underlying23
  a23 := Try.isAgg23
  z23 := Try.sizeOf23
  v23 := Try.zeroValue23
  t25 := Try.underlying3
  a25 := Try.isAgg3
  z25 := Try.sizeOf3
  v25 := Try.zeroValue3
  t32 := Try.underlying94
  a32 := Try.isAgg94
  z32 := Try.sizeOf94
  v32 := Try.zeroValue94
  t35 := Try.underlying96
  a35 := Try.isAgg96
  z35 := Try.sizeOf96
  v35 := Try.zeroValue96
  t36 := Try.underlying97
  a36 := Try.isAgg97
  z36 := Try.sizeOf97
  v36 := Try.zeroValue97
  t41 := Try.underlying102
  a41 := Try.isAgg102
  z41 := Try.sizeOf102
  v41 := Try.zeroValue102
  t44 := Try.underlying105
  a44 := Try.isAgg105
  z44 := Try.sizeOf105
  v44 := Try.zeroValue105
  t46 := Try.underlying107
  a46 := Try.isAgg107
  z46 := Try.sizeOf107
  v46 := Try.zeroValue107
  t53 := Try.underlying108
  a53 := Try.isAgg108
  z53 := Try.sizeOf108
  v53 := Try.zeroValue108
  t57 := Try.underlying112
  a57 := Try.isAgg112
  z57 := Try.sizeOf112
  v57 := Try.zeroValue112
  t63 := Try.underlying114
  a63 := Try.isAgg114
  z63 := Try.sizeOf114
  v63 := Try.zeroValue114
  t64 := Try.underlying67
  a64 := Try.isAgg67
  z64 := Try.sizeOf67
  v64 := Try.zeroValue67

theorem sortsA (m : Nat) : AnyZI.SortsIn Try.prog sortedA_ren Fence.wide m :=
  ⟨fun blk off cap ss W hH hblk hsz => callsIn_wide.2 (AnyM.slices_Sort_int sortA blk off cap ss W hH hblk hsz),
   fun p cap W => callsIn_wide.2 (AnyM.slices_Sort_int_none sortA p cap W)⟩
/-- What an element reads as: nothing that is looked at. -/
def anyElem (_ : Value) : Option (DataW Unit × List MemPlace) := some (.nil, [])
theorem rd_any {P : Program} {k : TypeId} (hk : P.underlying k = some (.int .i64)) {e : MapEntry} {x : Int} (he : e.key = iEnc x) (hw : (Lit.int .i64 x).wf = true) : Go.WideElems.rd P k anyElem e = some (.int .i64 x, .nil) := by
  unfold Go.WideElems.rd anyElem
  rw [he]
  simp [keyOf, hk, mapKey, iEnc, hw]
/-- A map of mine as the library reads it: its keys. -/
theorem own_of_map {P : Program} {k : TypeId} (hk : P.underlying k = some (.int .i64)) {w : World} {M : Nat} {kvs : List (Int × Value)} (h : MapAt iEnc w M kvs) (hnd : (kvs.map (·.1)).Nodup) (hwf : ∀ p ∈ kvs, (Lit.int .i64 p.1).wf = true) (hlen : kvs.length ≤ maxLen) :
    ∃ D : DataW Unit, w.ownsMap P k anyElem M kvs.length D ∧ (intKeys D).Perm (kvs.map (·.1)) ∧ Maps.size D = kvs.length := by
  obtain ⟨es, clock, hb, he, hn, hc⟩ := h
  have hl : es.size = kvs.length := by have := congrArg List.length he; simpa using this
  have hkey : es.toList.map (·.key) = (kvs.map (·.1)).map iEnc := by
    have := congrArg (List.map Prod.fst) he
    simpa [List.map_map, Function.comp_def, ek, kv] using this
  have hrd : ∀ e ∈ es.toList, ∃ x, e.key = iEnc x ∧ (Lit.int .i64 x).wf = true := fun e hem => by
    have : e.key ∈ (kvs.map (·.1)).map iEnc := by rw [← hkey]; exact List.mem_map.2 ⟨e, hem, rfl⟩
    obtain ⟨x, hx, hxe⟩ := List.mem_map.1 this
    obtain ⟨p, hp, rfl⟩ := List.mem_map.1 hx
    exact ⟨p.1, hxe.symm, hwf p hp⟩
  have hmap : es.toList.map (fun e => Go.intOf (Go.WideElems.rg P k anyElem e).1) = kvs.map (·.1) := by
    have h1 : (es.toList.map (fun e => Go.intOf (Go.WideElems.rg P k anyElem e).1)).map iEnc = (kvs.map (·.1)).map iEnc := by
      rw [← hkey, List.map_map]
      refine List.map_congr_left fun e hem => ?_
      obtain ⟨x, hx, hw⟩ := hrd e hem
      show iEnc (Go.intOf (Go.WideElems.rg P k anyElem e).1) = e.key
      rw [Go.WideElems.rg_of (rd_any hk hx hw), hx]
      rfl
    exact (List.map_inj_right (f := iEnc) (fun a b e => by simpa [iEnc] using e)).1 h1
  refine ⟨_, ⟨es, clock, hb, ⟨by omega, ⟨hc, hn, ?_⟩, fun e hem => ?_⟩, by omega, rfl⟩, ?_, ?_⟩
  · rw [hkey]
    exact List.pairwise_map.2 (hnd.imp fun hab e => hab (by simpa [iEnc] using e))
  · obtain ⟨x, hx, hw⟩ := hrd e hem
    exact ⟨_, rd_any hk hx hw⟩
  · have hp := (Go.WideShapes.sorted_perm (es.toList.map (Go.WideElems.rg P k anyElem))).map (fun p => Go.intOf p.1)
    rw [List.map_map] at hp
    exact hp.trans (by rw [← hmap]; exact List.Perm.refl _)
  · show (List.foldr DataW.insert [] _).length = _
    rw [length_sorted, List.length_map, Array.length_toList, hl]
/-- maps.Keys at a map of the hosts' kind: the map is boxed. -/
theorem keys_c (n : Nat) (mb : Option Nat) (W : World) :
    CallsIn Fence.wide n Try.prog 50 #[.map mb] W fun e w' => e = .returned (.func (.func 58) #[] #[.pointer (some ⟨W.heap.size, 0, none⟩)]) ∧ w' = W.alloc (.cells #[.map mb] 75) :=
  AnyZI.keys_in keysA Fence.wide n trivial rfl mb W
/-- slices.Sorted over its keys: a new row, rising. -/
theorem sorted_c (n : Nat) (hn : 5 ≤ n) {W : World} {M B0 : Nat} {kvs : List (Int × Value)} (h : MapAt iEnc W M kvs) (hnd : (kvs.map (·.1)).Nodup) (hwf : ∀ p ∈ kvs, (Lit.int .i64 p.1).wf = true) (hlen : kvs.length ≤ 1000000) (hB : W.cell? ⟨B0, 0, none⟩ = some (.map (some M))) :
    CallsIn Fence.wide n Try.prog 49 #[.func (.func 58) #[] #[.pointer (some ⟨B0, 0, none⟩)]] W fun e w' =>
      ∃ v, e = .returned v ∧ w'.ownsRow W.heap.size 3 1 v kvs.length (((kvs.map (·.1)).mergeSort leI).map encZ) ∧ Below W.heap.size W w' := by
  obtain ⟨D, hown, hp, hsz⟩ := own_of_map Try.underlying3 h hnd hwf (by unfold maxLen; omega)
  have hseq : SeqGives Fence.wide (n - 1 - 1 - 1) Try.prog 58 #[.pointer (some ⟨B0, 0, none⟩)] encZ (fun ss => ss.Perm (intKeys D)) (Maps.size D) W :=
    AnyZI.keys_gives (ρ := keysA_ren) { keysA with } Fence.wide _ trivial rfl (by omega) B0 M kvs.length D W (World.block_lt_of_cell? W _ hB) hB hown
  have cS := AnyZI.sorted_in sortedA Fence.wide n trivial trivial trivial trivial rfl (by omega) (sortsA _) (enters_of Try.func57 (by kernel_rfl) rfl) 58 #[.pointer (some ⟨B0, 0, none⟩)] trivial (enters_of Try.func58 (by kernel_rfl) rfl) _ (Maps.size D) (by rw [hsz]; unfold maxLen; omega) (by rw [hsz]; omega) W hseq
  refine cS.mono ?_
  rintro e w' ⟨v, ss, rfl, hS, hrow, -, hb⟩
  have hss : ss.Perm (kvs.map (·.1)) := hS.trans hp
  have hlen2 : ss.length = kvs.length := by rw [hss.length_eq, List.length_map]
  have hsort : ss.mergeSort (fun x y => decide (x ≤ y)) = (kvs.map (·.1)).mergeSort leI := mergeSort_of_perm_i hss
  rw [hlen2, hsort] at hrow
  exact ⟨v, rfl, hrow, hb⟩
end Go.Proofs.Ytepdnmpcccgcaaa
