/- 'slices.Sorted(maps.Keys(m))' at int64 and at string keys, laid; maps as the library reads them; rising. -/
import Derived.Test.YtbkpgpaanhfjfaaMap
import Derived.Test.YtbkpgpaanhfjfaaSm
import Derived.Shelf.SlIterI.Nil
import Derived.Shelf.SlIter.Nil
import Derived.Shelf.SortM.Plain
import Derived.Shelf.SortM.SortNone
import Derived.Maps.OwnIn
import Derived.Shelf.AbstractIn
import Derived.TacticsInMore
import Derived.RangeFuncLeaves
namespace Go.Proofs.Ytbkpgpaanhfjfaa
open Go.RowKit Go.Maps Go.Sort Go.Shelf K
def iEnc (x : Int) : Value := .int .i64 x
def keysA_ren : Go.Shelf.Ren := ⟨fun | 7 => 42 | 10 => 49 | n => n, fun | 23 => 60 | 26 => 2 | 3 => 66 | 28 => 80 | 0 => 0 | 27 => 79 | 33 => 89 | 4 => 4 | n => n, fun | n => n⟩
theorem keysA : Go.Proofs.SlLaysZI.n7 Try.prog keysA_ren where
  mixed := by kernel_rfl
  f7 := ⟨Try.f42.name, by kernel_rfl, Try.func42.trans (congrArg some (by kernel_rfl))⟩
  f10 := ⟨Try.f49.name, by kernel_rfl, Try.func49.trans (congrArg some (by kernel_rfl))⟩
  t0 := Try.underlying0
  a0 := Try.isAgg0
  z0 := Try.sizeOf0
  v0 := Try.zeroValue0
  t4 := Try.underlying4
  a4 := Try.isAgg4
  z4 := Try.sizeOf4
  v4 := Try.zeroValue4
  t23 := Try.underlying60
  a23 := Try.isAgg60
  z23 := Try.sizeOf60
  v23 := Try.zeroValue60
  t26 := Try.underlying2
  a26 := Try.isAgg2
  z26 := Try.sizeOf2
  v26 := Try.zeroValue2
  t27 := Try.underlying79
  a27 := Try.isAgg79
  z27 := Try.sizeOf79
  v27 := Try.zeroValue79
  t28 := Try.underlying80
  a28 := Try.isAgg80
  z28 := Try.sizeOf80
  v28 := Try.zeroValue80
  t33 := Try.underlying89
  a33 := Try.isAgg89
  z33 := Try.sizeOf89
  v33 := Try.zeroValue89
def sortedA_ren : Go.Shelf.Ren := ⟨fun | 6 => 41 | 8 => 47 | 9 => 48 | 11 => 52 | 13 => 54 | 12 => 53 | 23 => 67 | 24 => 68 | 14 => 58 | 15 => 59 | 16 => 60 | 17 => 61 | 18 => 62 | 19 => 63 | 20 => 64 | 21 => 65 | 22 => 66 | 25 => 71 | 26 => 72 | 27 => 73 | 28 => 74 | 29 => 75 | 30 => 76 | 31 => 86 | n => n, fun | 26 => 2 | 28 => 80 | 24 => 53 | 0 => 0 | 3 => 3 | 37 => 97 | 48 => 110 | 50 => 112 | 4 => 4 | 40 => 102 | 39 => 101 | 45 => 107 | 5 => 5 | 9 => 9 | 51 => 115 | 55 => 119 | 57 => 127 | 58 => 128 | 33 => 89 | n => n, fun | n => n⟩
theorem sortedA : Go.Proofs.SlLaysZI.n6 Try.prog sortedA_ren where
  mixed := by kernel_rfl
  f6 := ⟨Try.f41.name, by kernel_rfl, Try.func41.trans (congrArg some (by kernel_rfl))⟩
  f8 := ⟨Try.f47.name, by kernel_rfl, Try.func47.trans (congrArg some (by kernel_rfl))⟩
  f11 := ⟨Try.f52.name, by kernel_rfl, Try.func52.trans (congrArg some (by kernel_rfl))⟩
  t0 := Try.underlying0
  a0 := Try.isAgg0
  z0 := Try.sizeOf0
  v0 := Try.zeroValue0
  t24 := Try.underlying53
  a24 := Try.isAgg53
  z24 := Try.sizeOf53
  v24 := Try.zeroValue53
  t26 := Try.underlying2
  a26 := Try.isAgg2
  z26 := Try.sizeOf2
  v26 := Try.zeroValue2
  t28 := Try.underlying80
  a28 := Try.isAgg80
  z28 := Try.sizeOf80
  v28 := Try.zeroValue80
  i26 := by kernel_rfl
def sortA_ren : Go.Shelf.Ren := ⟨fun | 5 => 48 | 8 => 54 | 7 => 53 | 19 => 67 | 20 => 68 | 10 => 58 | 11 => 59 | 12 => 60 | 13 => 61 | 14 => 62 | 15 => 63 | 16 => 64 | 17 => 65 | 18 => 66 | 30 => 71 | 31 => 72 | 32 => 73 | 33 => 74 | 34 => 75 | 35 => 76 | 40 => 86 | n => n, fun | 23 => 53 | 25 => 2 | 3 => 3 | 32 => 97 | 22 => 53 | 0 => 0 | 44 => 110 | 46 => 112 | 4 => 4 | 36 => 102 | 35 => 101 | 41 => 107 | 5 => 5 | 9 => 9 | 53 => 115 | 57 => 119 | 63 => 127 | 64 => 128 | n => n, fun | n => n⟩
theorem sortA : Go.Proofs.SlLaysM.n5 Try.prog sortA_ren where
  mixed := by kernel_rfl
  f5 := ⟨Try.f48.name, by kernel_rfl, Try.func48.trans (congrArg some (by kernel_rfl))⟩
  f7 := ⟨Try.f53.name, by kernel_rfl, Try.func53.trans (congrArg some (by kernel_rfl))⟩
  f8 := Try.func54.trans (congrArg some (by kernel_rfl))
  f10 := ⟨Try.f58.name, by kernel_rfl, Try.func58.trans (congrArg some (by kernel_rfl))⟩
  f11 := ⟨Try.f59.name, by kernel_rfl, Try.func59.trans (congrArg some (by kernel_rfl))⟩
  f12 := ⟨Try.f60.name, by kernel_rfl, Try.func60.trans (congrArg some (by kernel_rfl))⟩
  f13 := ⟨Try.f61.name, by kernel_rfl, Try.func61.trans (congrArg some (by kernel_rfl))⟩
  f14 := ⟨Try.f62.name, by kernel_rfl, Try.func62.trans (congrArg some (by kernel_rfl))⟩
  f15 := ⟨Try.f63.name, by kernel_rfl, Try.func63.trans (congrArg some (by kernel_rfl))⟩
  f16 := ⟨Try.f64.name, by kernel_rfl, Try.func64.trans (congrArg some (by kernel_rfl))⟩
  f17 := ⟨Try.f65.name, by kernel_rfl, Try.func65.trans (congrArg some (by kernel_rfl))⟩
  f18 := ⟨Try.f66.name, by kernel_rfl, Try.func66.trans (congrArg some (by kernel_rfl))⟩
  f19 := Try.func67.trans (congrArg some (by kernel_rfl))
  f20 := Try.func68.trans (congrArg some (by kernel_rfl))
  f30 := ⟨Try.f71.name, by kernel_rfl, Try.func71.trans (congrArg some (by kernel_rfl))⟩
  f31 := Try.func72.trans (congrArg some (by kernel_rfl))
  f32 := Try.func73.trans (congrArg some (by kernel_rfl))
  f33 := ⟨Try.f74.name, by kernel_rfl, Try.func74.trans (congrArg some (by kernel_rfl))⟩
  f34 := ⟨Try.f75.name, by kernel_rfl, Try.func75.trans (congrArg some (by kernel_rfl))⟩
  f35 := ⟨Try.f76.name, by kernel_rfl, Try.func76.trans (congrArg some (by kernel_rfl))⟩
  f40 := ⟨Try.f86.name, by kernel_rfl, Try.func86.trans (congrArg some (by kernel_rfl))⟩
  t0 := Try.underlying0
  a0 := Try.isAgg0
  z0 := Try.sizeOf0
  v0 := Try.zeroValue0
  t3 := Try.underlying3
  a3 := Try.isAgg3
  z3 := Try.sizeOf3
  v3 := Try.zeroValue3
  t4 := Try.underlying4
  a4 := Try.isAgg4
  z4 := Try.sizeOf4
  v4 := Try.zeroValue4
  t5 := Try.underlying5
  a5 := Try.isAgg5
  z5 := Try.sizeOf5
  v5 := Try.zeroValue5
  t9 := Try.underlying9
  a9 := Try.isAgg9
  z9 := Try.sizeOf9
  v9 := Try.zeroValue9
  t22 := Try.underlying53
  a22 := Try.isAgg53
  z22 := Try.sizeOf53
  v22 := Try.zeroValue53
  t23 := Try.underlying53
  a23 := Try.isAgg53
  z23 := Try.sizeOf53
  v23 := Try.zeroValue53
  t25 := Try.underlying2
  a25 := Try.isAgg2
  z25 := Try.sizeOf2
  v25 := Try.zeroValue2
  t32 := Try.underlying97
  a32 := Try.isAgg97
  z32 := Try.sizeOf97
  v32 := Try.zeroValue97
  t35 := Try.underlying101
  a35 := Try.isAgg101
  z35 := Try.sizeOf101
  v35 := Try.zeroValue101
  t36 := Try.underlying102
  a36 := Try.isAgg102
  z36 := Try.sizeOf102
  v36 := Try.zeroValue102
  t41 := Try.underlying107
  a41 := Try.isAgg107
  z41 := Try.sizeOf107
  v41 := Try.zeroValue107
  t44 := Try.underlying110
  a44 := Try.isAgg110
  z44 := Try.sizeOf110
  v44 := Try.zeroValue110
  t46 := Try.underlying112
  a46 := Try.isAgg112
  z46 := Try.sizeOf112
  v46 := Try.zeroValue112
  t53 := Try.underlying115
  a53 := Try.isAgg115
  z53 := Try.sizeOf115
  v53 := Try.zeroValue115
  t57 := Try.underlying119
  a57 := Try.isAgg119
  z57 := Try.sizeOf119
  v57 := Try.zeroValue119
  t63 := Try.underlying127
  a63 := Try.isAgg127
  z63 := Try.sizeOf127
  v63 := Try.zeroValue127
  t64 := Try.underlying128
  a64 := Try.isAgg128
  z64 := Try.sizeOf128
  v64 := Try.zeroValue128
def keysB_ren : Go.Shelf.Ren := ⟨fun | 7 => 51 | 10 => 57 | n => n, fun | 23 => 66 | 26 => 9 | 3 => 34 | 28 => 92 | 0 => 0 | 27 => 91 | 33 => 99 | 4 => 4 | n => n, fun | n => n⟩
theorem keysB : Go.Proofs.SlLaysZ.n7 Try.prog keysB_ren where
  mixed := by kernel_rfl
  f7 := ⟨Try.f51.name, by kernel_rfl, Try.func51.trans (congrArg some (by kernel_rfl))⟩
  f10 := ⟨Try.f57.name, by kernel_rfl, Try.func57.trans (congrArg some (by kernel_rfl))⟩
  t0 := Try.underlying0
  a0 := Try.isAgg0
  z0 := Try.sizeOf0
  v0 := Try.zeroValue0
  t4 := Try.underlying4
  a4 := Try.isAgg4
  z4 := Try.sizeOf4
  v4 := Try.zeroValue4
  t23 := Try.underlying66
  a23 := Try.isAgg66
  z23 := Try.sizeOf66
  v23 := Try.zeroValue66
  t26 := Try.underlying9
  a26 := Try.isAgg9
  z26 := Try.sizeOf9
  v26 := Try.zeroValue9
  t27 := Try.underlying91
  a27 := Try.isAgg91
  z27 := Try.sizeOf91
  v27 := Try.zeroValue91
  t28 := Try.underlying92
  a28 := Try.isAgg92
  z28 := Try.sizeOf92
  v28 := Try.zeroValue92
  t33 := Try.underlying99
  a33 := Try.isAgg99
  z33 := Try.sizeOf99
  v33 := Try.zeroValue99
def sortedB_ren : Go.Shelf.Ren := ⟨fun | 6 => 50 | 8 => 55 | 9 => 56 | 11 => 69 | 13 => 54 | 12 => 70 | 23 => 67 | 24 => 68 | 14 => 77 | 15 => 78 | 16 => 79 | 17 => 80 | 18 => 81 | 19 => 82 | 20 => 83 | 21 => 84 | 22 => 85 | 25 => 87 | 26 => 72 | 27 => 73 | 28 => 88 | 29 => 89 | 30 => 90 | 31 => 91 | n => n, fun | 26 => 9 | 28 => 92 | 24 => 82 | 0 => 0 | 3 => 3 | 37 => 97 | 48 => 110 | 50 => 112 | 4 => 4 | 40 => 102 | 39 => 101 | 45 => 107 | 5 => 5 | 9 => 9 | 51 => 115 | 55 => 119 | 57 => 127 | 58 => 128 | 33 => 99 | n => n, fun | n => n⟩
theorem sortedB : Go.Proofs.SlLaysZ.n6 Try.prog sortedB_ren where
  mixed := by kernel_rfl
  f6 := ⟨Try.f50.name, by kernel_rfl, Try.func50.trans (congrArg some (by kernel_rfl))⟩
  f8 := ⟨Try.f55.name, by kernel_rfl, Try.func55.trans (congrArg some (by kernel_rfl))⟩
  f11 := ⟨Try.f69.name, by kernel_rfl, Try.func69.trans (congrArg some (by kernel_rfl))⟩
  t0 := Try.underlying0
  a0 := Try.isAgg0
  z0 := Try.sizeOf0
  v0 := Try.zeroValue0
  t24 := Try.underlying82
  a24 := Try.isAgg82
  z24 := Try.sizeOf82
  v24 := Try.zeroValue82
  t26 := Try.underlying9
  a26 := Try.isAgg9
  z26 := Try.sizeOf9
  v26 := Try.zeroValue9
  t28 := Try.underlying92
  a28 := Try.isAgg92
  z28 := Try.sizeOf92
  v28 := Try.zeroValue92
  i26 := by kernel_rfl
def sortB_ren : Go.Shelf.Ren := ⟨fun | 6 => 56 | 8 => 54 | 9 => 70 | 19 => 67 | 20 => 68 | 21 => 77 | 22 => 78 | 23 => 79 | 24 => 80 | 25 => 81 | 26 => 82 | 27 => 83 | 28 => 84 | 29 => 85 | 36 => 87 | 31 => 72 | 32 => 73 | 37 => 88 | 38 => 89 | 39 => 90 | 41 => 91 | n => n, fun | 27 => 82 | 29 => 9 | 3 => 3 | 32 => 97 | 26 => 82 | 0 => 0 | 44 => 110 | 46 => 112 | 4 => 4 | 36 => 102 | 35 => 101 | 41 => 107 | 5 => 5 | 9 => 9 | 53 => 115 | 57 => 119 | 63 => 127 | 64 => 128 | n => n, fun | n => n⟩
theorem sortB : Go.Proofs.SlLaysM.n6 Try.prog sortB_ren where
  mixed := by kernel_rfl
  f6 := ⟨Try.f56.name, by kernel_rfl, Try.func56.trans (congrArg some (by kernel_rfl))⟩
  f8 := Try.func54.trans (congrArg some (by kernel_rfl))
  f9 := ⟨Try.f70.name, by kernel_rfl, Try.func70.trans (congrArg some (by kernel_rfl))⟩
  f19 := Try.func67.trans (congrArg some (by kernel_rfl))
  f20 := Try.func68.trans (congrArg some (by kernel_rfl))
  f21 := ⟨Try.f77.name, by kernel_rfl, Try.func77.trans (congrArg some (by kernel_rfl))⟩
  f22 := ⟨Try.f78.name, by kernel_rfl, Try.func78.trans (congrArg some (by kernel_rfl))⟩
  f23 := ⟨Try.f79.name, by kernel_rfl, Try.func79.trans (congrArg some (by kernel_rfl))⟩
  f24 := ⟨Try.f80.name, by kernel_rfl, Try.func80.trans (congrArg some (by kernel_rfl))⟩
  f25 := ⟨Try.f81.name, by kernel_rfl, Try.func81.trans (congrArg some (by kernel_rfl))⟩
  f26 := ⟨Try.f82.name, by kernel_rfl, Try.func82.trans (congrArg some (by kernel_rfl))⟩
  f27 := ⟨Try.f83.name, by kernel_rfl, Try.func83.trans (congrArg some (by kernel_rfl))⟩
  f28 := ⟨Try.f84.name, by kernel_rfl, Try.func84.trans (congrArg some (by kernel_rfl))⟩
  f29 := ⟨Try.f85.name, by kernel_rfl, Try.func85.trans (congrArg some (by kernel_rfl))⟩
  f31 := Try.func72.trans (congrArg some (by kernel_rfl))
  f32 := Try.func73.trans (congrArg some (by kernel_rfl))
  f36 := ⟨Try.f87.name, by kernel_rfl, Try.func87.trans (congrArg some (by kernel_rfl))⟩
  f37 := ⟨Try.f88.name, by kernel_rfl, Try.func88.trans (congrArg some (by kernel_rfl))⟩
  f38 := ⟨Try.f89.name, by kernel_rfl, Try.func89.trans (congrArg some (by kernel_rfl))⟩
  f39 := ⟨Try.f90.name, by kernel_rfl, Try.func90.trans (congrArg some (by kernel_rfl))⟩
  f41 := ⟨Try.f91.name, by kernel_rfl, Try.func91.trans (congrArg some (by kernel_rfl))⟩
  t0 := Try.underlying0
  a0 := Try.isAgg0
  z0 := Try.sizeOf0
  v0 := Try.zeroValue0
  t3 := Try.underlying3
  a3 := Try.isAgg3
  z3 := Try.sizeOf3
  v3 := Try.zeroValue3
  t4 := Try.underlying4
  a4 := Try.isAgg4
  z4 := Try.sizeOf4
  v4 := Try.zeroValue4
  t5 := Try.underlying5
  a5 := Try.isAgg5
  z5 := Try.sizeOf5
  v5 := Try.zeroValue5
  t9 := Try.underlying9
  a9 := Try.isAgg9
  z9 := Try.sizeOf9
  v9 := Try.zeroValue9
  t26 := Try.underlying82
  a26 := Try.isAgg82
  z26 := Try.sizeOf82
  v26 := Try.zeroValue82
  t27 := Try.underlying82
  a27 := Try.isAgg82
  z27 := Try.sizeOf82
  v27 := Try.zeroValue82
  t29 := Try.underlying9
  a29 := Try.isAgg9
  z29 := Try.sizeOf9
  v29 := Try.zeroValue9
  t32 := Try.underlying97
  a32 := Try.isAgg97
  z32 := Try.sizeOf97
  v32 := Try.zeroValue97
  t35 := Try.underlying101
  a35 := Try.isAgg101
  z35 := Try.sizeOf101
  v35 := Try.zeroValue101
  t36 := Try.underlying102
  a36 := Try.isAgg102
  z36 := Try.sizeOf102
  v36 := Try.zeroValue102
  t41 := Try.underlying107
  a41 := Try.isAgg107
  z41 := Try.sizeOf107
  v41 := Try.zeroValue107
  t44 := Try.underlying110
  a44 := Try.isAgg110
  z44 := Try.sizeOf110
  v44 := Try.zeroValue110
  t46 := Try.underlying112
  a46 := Try.isAgg112
  z46 := Try.sizeOf112
  v46 := Try.zeroValue112
  t53 := Try.underlying115
  a53 := Try.isAgg115
  z53 := Try.sizeOf115
  v53 := Try.zeroValue115
  t57 := Try.underlying119
  a57 := Try.isAgg119
  z57 := Try.sizeOf119
  v57 := Try.zeroValue119
  t63 := Try.underlying127
  a63 := Try.isAgg127
  z63 := Try.sizeOf127
  v63 := Try.zeroValue127
  t64 := Try.underlying128
  a64 := Try.isAgg128
  z64 := Try.sizeOf128
  v64 := Try.zeroValue128

theorem sortsA (m : Nat) : AnyZI.SortsIn Try.prog sortedA_ren Fence.wide m :=
  ⟨fun blk off cap ss W hH hblk hsz => callsIn_wide.2 (AnyM.slices_Sort_int sortA blk off cap ss W hH hblk hsz),
   fun p cap W => callsIn_wide.2 (AnyM.slices_Sort_int_none sortA p cap W)⟩
theorem sortsB (m : Nat) : AnyZ.SortsIn Try.prog sortedB_ren Fence.wide m :=
  ⟨fun blk off cap ss W hH hblk hsz => callsIn_wide.2 (AnyM.slices_Sort_string sortB blk off cap ss W hH hblk hsz),
   fun p cap W => callsIn_wide.2 (AnyM.slices_Sort_string_none sortB p cap W)⟩
/-- What an element reads as: nothing that is looked at. -/
def anyElem (_ : Value) : Option (DataW Unit × List MemPlace) := some (.nil, [])
theorem rd_any {P : Program} {k : TypeId} (hk : P.underlying k = some (.int .i64)) {e : MapEntry} {x : Int} (he : e.key = iEnc x) (hw : (Lit.int .i64 x).wf = true) : Go.WideElems.rd P k anyElem e = some (.int .i64 x, .nil) := by
  unfold Go.WideElems.rd anyElem
  rw [he]
  simp [keyOf, hk, mapKey, iEnc, hw]
/-- A map of mine as the library reads it: its keys. -/
theorem own_of_map {P : Program} {k : TypeId} (hk : P.underlying k = some (.int .i64)) {w : World} {M : Nat} {kvs : List (Int × Value)} (h : MapAt iEnc w M kvs) (hnd : (kvs.map (·.1)).Nodup) (hwf : ∀ p ∈ kvs, (Lit.int .i64 p.1).wf = true) (hlen : kvs.length ≤ maxLen) :
    ∃ D : DataW Unit, w.ownsMap P k anyElem M kvs.length D ∧ (intKeys D).Perm (kvs.map (·.1)) ∧ Maps.size D = kvs.length := by
  obtain ⟨es, clock, hb, he, hn, hc⟩ := h
  have hl : es.size = kvs.length := by have := congrArg List.length he; simpa using this
  have hkey : es.toList.map (·.key) = (kvs.map (·.1)).map iEnc := by
    have := congrArg (List.map Prod.fst) he
    simpa [List.map_map, Function.comp_def, ek, kv] using this
  have hrd : ∀ e ∈ es.toList, ∃ x, e.key = iEnc x ∧ (Lit.int .i64 x).wf = true := fun e hem => by
    have : e.key ∈ (kvs.map (·.1)).map iEnc := by rw [← hkey]; exact List.mem_map.2 ⟨e, hem, rfl⟩
    obtain ⟨x, hx, hxe⟩ := List.mem_map.1 this
    obtain ⟨p, hp, rfl⟩ := List.mem_map.1 hx
    exact ⟨p.1, hxe.symm, hwf p hp⟩
  have hmap : es.toList.map (fun e => Go.intOf (Go.WideElems.rg P k anyElem e).1) = kvs.map (·.1) := by
    have h1 : (es.toList.map (fun e => Go.intOf (Go.WideElems.rg P k anyElem e).1)).map iEnc = (kvs.map (·.1)).map iEnc := by
      rw [← hkey, List.map_map]
      refine List.map_congr_left fun e hem => ?_
      obtain ⟨x, hx, hw⟩ := hrd e hem
      show iEnc (Go.intOf (Go.WideElems.rg P k anyElem e).1) = e.key
      rw [Go.WideElems.rg_of (rd_any hk hx hw), hx]
      rfl
    exact (List.map_inj_right (f := iEnc) (fun a b e => by simpa [iEnc] using e)).1 h1
  refine ⟨_, ⟨es, clock, hb, ⟨by omega, ⟨hc, hn, ?_⟩, fun e hem => ?_⟩, by omega, rfl⟩, ?_, ?_⟩
  · rw [hkey]
    exact List.pairwise_map.2 (hnd.imp fun hab e => hab (by simpa [iEnc] using e))
  · obtain ⟨x, hx, hw⟩ := hrd e hem
    exact ⟨_, rd_any hk hx hw⟩
  · have hp := (Go.WideShapes.sorted_perm (es.toList.map (Go.WideElems.rg P k anyElem))).map (fun p => Go.intOf p.1)
    rw [List.map_map] at hp
    exact hp.trans (by rw [← hmap]; exact List.Perm.refl _)
  · show (List.foldr DataW.insert [] _).length = _
    rw [length_sorted, List.length_map, Array.length_toList, hl]
theorem rd_anyS {P : Program} {k : TypeId} (hk : P.underlying k = some .string) {e : MapEntry} {x : List UInt8} (he : e.key = encStr x) (hw : x.length ≤ maxLen) : Go.WideElems.rd P k anyElem e = some (.string x, .nil) := by
  unfold Go.WideElems.rd anyElem
  rw [he]
  have hw2 : (⟨x.toArray⟩ : ByteArray).size ≤ maxLen := by
    show x.toArray.size ≤ _
    simpa using hw
  simp [keyOf, hk, mapKey, encStr, hw2]
/-- A map of mine as the library reads it: its keys. -/
theorem own_of_mapS {P : Program} {k : TypeId} (hk : P.underlying k = some .string) {w : World} {M : Nat} {kvs : List (List UInt8 × Value)} (h : MapAt encStr w M kvs) (hnd : (kvs.map (·.1)).Nodup) (hwf : ∀ p ∈ kvs, p.1.length ≤ maxLen) (hlen : kvs.length ≤ maxLen) :
    ∃ D : DataW Unit, w.ownsMap P k anyElem M kvs.length D ∧ (strKeys D).Perm (kvs.map (·.1)) ∧ Maps.size D = kvs.length := by
  obtain ⟨es, clock, hb, he, hn, hc⟩ := h
  have hl : es.size = kvs.length := by have := congrArg List.length he; simpa using this
  have hkey : es.toList.map (·.key) = (kvs.map (·.1)).map encStr := by
    have := congrArg (List.map Prod.fst) he
    simpa [List.map_map, Function.comp_def, ek, kv] using this
  have hrd : ∀ e ∈ es.toList, ∃ x, e.key = encStr x ∧ x.length ≤ maxLen := fun e hem => by
    have : e.key ∈ (kvs.map (·.1)).map encStr := by rw [← hkey]; exact List.mem_map.2 ⟨e, hem, rfl⟩
    obtain ⟨x, hx, hxe⟩ := List.mem_map.1 this
    obtain ⟨p, hp, rfl⟩ := List.mem_map.1 hx
    exact ⟨p.1, hxe.symm, hwf p hp⟩
  have hmap : es.toList.map (fun e => strOf (Go.WideElems.rg P k anyElem e).1) = kvs.map (·.1) := by
    have h1 : (es.toList.map (fun e => strOf (Go.WideElems.rg P k anyElem e).1)).map encStr = (kvs.map (·.1)).map encStr := by
      rw [← hkey, List.map_map]
      refine List.map_congr_left fun e hem => ?_
      obtain ⟨x, hx, hw⟩ := hrd e hem
      show encStr (strOf (Go.WideElems.rg P k anyElem e).1) = e.key
      rw [Go.WideElems.rg_of (rd_anyS hk hx hw), hx]
      rfl
    exact (List.map_inj_right (f := encStr) (fun a b e => by simpa [encStr] using e)).1 h1
  refine ⟨_, ⟨es, clock, hb, ⟨by omega, ⟨hc, hn, ?_⟩, fun e hem => ?_⟩, by omega, rfl⟩, ?_, ?_⟩
  · rw [hkey]
    exact List.pairwise_map.2 (hnd.imp fun hab e => hab (by simpa [encStr] using e))
  · obtain ⟨x, hx, hw⟩ := hrd e hem
    exact ⟨_, rd_anyS hk hx hw⟩
  · have hp := (Go.WideShapes.sorted_perm (es.toList.map (Go.WideElems.rg P k anyElem))).map (fun p => strOf p.1)
    rw [List.map_map] at hp
    exact hp.trans (by rw [← hmap]; exact List.Perm.refl _)
  · show (List.foldr DataW.insert [] _).length = _
    rw [length_sorted, List.length_map, Array.length_toList, hl]
theorem keys_c (n : Nat) (mb : Option Nat) (W : World) :
    CallsIn Fence.wide n Try.prog 42 #[.map mb] W fun e w' => e = .returned (.func (.func 49) #[] #[.pointer (some ⟨W.heap.size, 0, none⟩)]) ∧ w' = W.alloc (.cells #[.map mb] 60) :=
  AnyZI.keys_in keysA Fence.wide n trivial rfl mb W
theorem sorted_c (n : Nat) (hn : 5 ≤ n) {W : World} {M B0 : Nat} {kvs : List (Int × Value)} (h : MapAt iEnc W M kvs) (hnd : (kvs.map (·.1)).Nodup) (hwf : ∀ p ∈ kvs, (Lit.int .i64 p.1).wf = true) (hlen : kvs.length ≤ 1000000) (hB : W.cell? ⟨B0, 0, none⟩ = some (.map (some M))) :
    CallsIn Fence.wide n Try.prog 41 #[.func (.func 49) #[] #[.pointer (some ⟨B0, 0, none⟩)]] W fun e w' =>
      ∃ v, e = .returned v ∧ w'.ownsRow W.heap.size 2 1 v kvs.length (((kvs.map (·.1)).mergeSort leI).map encZ) ∧ Below W.heap.size W w' := by
  obtain ⟨D, hown, hp, hsz⟩ := own_of_map Try.underlying2 h hnd hwf (by unfold maxLen; omega)
  have hseq : SeqGives Fence.wide (n - 1 - 1 - 1) Try.prog 49 #[.pointer (some ⟨B0, 0, none⟩)] encZ (fun ss => ss.Perm (intKeys D)) (Maps.size D) W :=
    AnyZI.keys_gives (ρ := keysA_ren) { keysA with } Fence.wide _ trivial rfl (by omega) B0 M kvs.length D W (World.block_lt_of_cell? W _ hB) hB hown
  have cS := AnyZI.sorted_in sortedA Fence.wide n trivial trivial trivial trivial rfl (by omega) (sortsA _) (enters_of Try.func48 (by kernel_rfl) rfl) 49 #[.pointer (some ⟨B0, 0, none⟩)] trivial (enters_of Try.func49 (by kernel_rfl) rfl) _ (Maps.size D) (by rw [hsz]; unfold maxLen; omega) (by rw [hsz]; omega) W hseq
  refine cS.mono ?_
  rintro e w' ⟨v, ss, rfl, hS, hrow, -, hb⟩
  have hss : ss.Perm (kvs.map (·.1)) := hS.trans hp
  have hlen2 : ss.length = kvs.length := by rw [hss.length_eq, List.length_map]
  have hsort : ss.mergeSort (fun x y => decide (x ≤ y)) = (kvs.map (·.1)).mergeSort leI := mergeSort_of_perm_i hss
  rw [hlen2, hsort] at hrow
  exact ⟨v, rfl, hrow, hb⟩
set_option maxHeartbeats 1000000 in
theorem rising_c {W : World} {M : Nat} {kvs : List (Int × Value)} (h : MapAt iEnc W M kvs) (hnd : (kvs.map (·.1)).Nodup) (hwf : ∀ p ∈ kvs, (Lit.int .i64 p.1).wf = true) (hlen : kvs.length ≤ 1000000) :
    Calls Try.prog 30 #[.map (some M)] W fun e w' => ∃ v, e = .returned v ∧ w'.ownsRow W.heap.size 2 1 v kvs.length (((kvs.map (·.1)).mergeSort leI).map encZ) ∧ Below W.heap.size W w' := by
  have cS := sorted_c 6 (by omega) (W := W.alloc (.cells #[.map (some M)] 60)) (B0 := W.heap.size) (h.only (F := fun _ => False) ((Only.refl _ _).alloc _) (fun h => h)) hnd hwf hlen (by rw [cell_of_row _ _ _ _ _ _ (heap_alloc_new W _)]; rfl)
  refine (callsIn_wide (n := 7)).1 ?_
  have hfK : Fence.wide.fn 42 := trivial
  have hfS : Fence.wide.fn 41 := trivial
  refine callsIn_of_wp Try.func30 rfl trivial ?_ rfl
  simp only [Try.ntmps30, List.size_toArray, List.length_cons, List.length_nil, Nat.reduceAdd, Nat.reduceSub, Array.replicate_succ, Array.replicate_zero, List.push_toArray, List.append_toArray, List.nil_append, List.cons_append]
  gi_wp2_with (first
    | (gi_at_call 42; refine (keys_c _ _ _).mono ?_; rintro e w' ⟨rfl, rfl⟩)
    | (gi_at_call 41; refine cS.mono ?_; rintro e w2 ⟨v, rfl, hrow, hb2⟩))
  go_ret
  exact ⟨v, rfl, own_base hrow (by simp), ((Below.refl _ W).alloc (Nat.le_refl _) _).trans (hb2.mono (by simp))⟩
theorem keys_s (n : Nat) (mb : Option Nat) (W : World) :
    CallsIn Fence.wide n Try.prog 51 #[.map mb] W fun e w' => e = .returned (.func (.func 57) #[] #[.pointer (some ⟨W.heap.size, 0, none⟩)]) ∧ w' = W.alloc (.cells #[.map mb] 66) :=
  AnyZ.keys_in keysB Fence.wide n trivial rfl mb W
theorem sorted_s (n : Nat) (hn : 5 ≤ n) {W : World} {M B0 : Nat} {kvs : List (List UInt8 × Value)} (h : MapAt encStr W M kvs) (hnd : (kvs.map (·.1)).Nodup) (hwf : ∀ p ∈ kvs, p.1.length ≤ maxLen) (hlen : kvs.length ≤ 1000000) (hB : W.cell? ⟨B0, 0, none⟩ = some (.map (some M))) :
    CallsIn Fence.wide n Try.prog 50 #[.func (.func 57) #[] #[.pointer (some ⟨B0, 0, none⟩)]] W fun e w' =>
      ∃ v, e = .returned v ∧ w'.ownsRow W.heap.size 9 1 v kvs.length (((kvs.map (·.1)).mergeSort leB).map encStr) ∧ Below W.heap.size W w' := by
  obtain ⟨D, hown, hp, hsz⟩ := own_of_mapS Try.underlying9 h hnd hwf (by unfold maxLen; omega)
  have hseq : SeqGives Fence.wide (n - 1 - 1 - 1) Try.prog 57 #[.pointer (some ⟨B0, 0, none⟩)] encStr (fun ss => ss.Perm (strKeys D)) (Maps.size D) W :=
    AnyZ.keys_gives (ρ := keysB_ren) { keysB with } Fence.wide _ trivial rfl (by omega) B0 M kvs.length D W (World.block_lt_of_cell? W _ hB) hB hown
  have cS := AnyZ.sorted_in sortedB Fence.wide n trivial trivial trivial trivial rfl (by omega) (sortsB _) (enters_of Try.func56 (by kernel_rfl) rfl) 57 #[.pointer (some ⟨B0, 0, none⟩)] trivial (enters_of Try.func57 (by kernel_rfl) rfl) _ (Maps.size D) (by rw [hsz]; unfold maxLen; omega) (by rw [hsz]; omega) W hseq
  refine cS.mono ?_
  rintro e w' ⟨v, ss, rfl, hS, hrow, -, hb⟩
  have hss : ss.Perm (kvs.map (·.1)) := hS.trans hp
  have hlen2 : ss.length = kvs.length := by rw [hss.length_eq, List.length_map]
  have hsort : ss.mergeSort (fun x y => decide (x ≤ y)) = (kvs.map (·.1)).mergeSort leB := mergeSort_of_perm hss
  rw [hlen2, hsort] at hrow
  exact ⟨v, rfl, hrow, hb⟩
set_option maxHeartbeats 1000000 in
theorem rising_s {W : World} {M : Nat} {kvs : List (List UInt8 × Value)} (h : MapAt encStr W M kvs) (hnd : (kvs.map (·.1)).Nodup) (hwf : ∀ p ∈ kvs, p.1.length ≤ maxLen) (hlen : kvs.length ≤ 1000000) :
    Calls Try.prog 43 #[.map (some M)] W fun e w' => ∃ v, e = .returned v ∧ w'.ownsRow W.heap.size 9 1 v kvs.length (((kvs.map (·.1)).mergeSort leB).map encStr) ∧ Below W.heap.size W w' := by
  have cS := sorted_s 6 (by omega) (W := W.alloc (.cells #[.map (some M)] 66)) (B0 := W.heap.size) (h.only (F := fun _ => False) ((Only.refl _ _).alloc _) (fun h => h)) hnd hwf hlen (by rw [cell_of_row _ _ _ _ _ _ (heap_alloc_new W _)]; rfl)
  refine (callsIn_wide (n := 7)).1 ?_
  have hfK : Fence.wide.fn 51 := trivial
  have hfS : Fence.wide.fn 50 := trivial
  refine callsIn_of_wp Try.func43 rfl trivial ?_ rfl
  simp only [Try.ntmps43, List.size_toArray, List.length_cons, List.length_nil, Nat.reduceAdd, Nat.reduceSub, Array.replicate_succ, Array.replicate_zero, List.push_toArray, List.append_toArray, List.nil_append, List.cons_append]
  gi_wp2_with (first
    | (gi_at_call 51; refine (keys_s _ _ _).mono ?_; rintro e w' ⟨rfl, rfl⟩)
    | (gi_at_call 50; refine cS.mono ?_; rintro e w2 ⟨v, rfl, hrow, hb2⟩))
  go_ret
  exact ⟨v, rfl, own_base hrow (by simp), ((Below.refl _ W).alloc (Nat.le_refl _) _).trans (hb2.mono (by simp))⟩
end Go.Proofs.Ytbkpgpaanhfjfaa
