/- slices.Sort and slices.Compact at numbers: the library's contracts laid. Written by mk_srt.py. -/
import Derived.Test.YtadmbphefpfbmaaGreatDoorPvS
import Derived.Shelf.SortM.Plain
import Derived.Shelf.SortM.SortNone
import Derived.Shelf.SlicesE.Compact
namespace Go.Proofs.YtadmbphefpfbmaaGreatDoor
open Go.RowKit Go.Shelf Go.Lib Go.Sort
def srtRen : Ren where
  f := fun x => match x with | 5 => 128 | 8 => 173 | 7 => 172 | 19 => 210 | 20 => 211 | 10 => 201 | 11 => 202 | 12 => 203 | 13 => 204 | 14 => 205 | 15 => 206 | 16 => 207 | 17 => 208 | 18 => 209 | 30 => 235 | 31 => 236 | 32 => 237 | 33 => 238 | 34 => 239 | 35 => 240 | 40 => 256 | n => n
  t := fun x => match x with | 23 => 129 | 25 => 2 | 3 => 3 | 32 => 117 | 22 => 129 | 0 => 0 | 44 => 90 | 46 => 162 | 4 => 4 | 36 => 252 | 35 => 251 | 41 => 123 | 5 => 5 | 9 => 9 | 53 => 282 | 57 => 286 | 63 => 295 | 64 => 296 | n => n
  g := fun n => n
theorem srtLaid : SlLaysM.n5 Tryz.prog srtRen where
  mixed := by kernel_rfl
  f5 := ⟨ "slices.Sort[[]int64,int64]", by decide, Tryz.func128.trans (by kernel_rfl)⟩
  f7 := ⟨ "slices.pdqsortOrdered[int64]", by decide, Tryz.func172.trans (by kernel_rfl)⟩
  f8 := Tryz.func173.trans (by kernel_rfl)
  f10 := ⟨ "slices.insertionSortOrdered[int64]", by decide, Tryz.func201.trans (by kernel_rfl)⟩
  f11 := ⟨ "slices.heapSortOrdered[int64]", by decide, Tryz.func202.trans (by kernel_rfl)⟩
  f12 := ⟨ "slices.breakPatternsOrdered[int64]", by decide, Tryz.func203.trans (by kernel_rfl)⟩
  f13 := ⟨ "slices.choosePivotOrdered[int64]", by decide, Tryz.func204.trans (by kernel_rfl)⟩
  f14 := ⟨ "slices.reverseRangeOrdered[int64]", by decide, Tryz.func205.trans (by kernel_rfl)⟩
  f15 := ⟨ "slices.partialInsertionSortOrdered[int64]", by decide, Tryz.func206.trans (by kernel_rfl)⟩
  f16 := ⟨ "cmp.Less[int64]", by decide, Tryz.func207.trans (by kernel_rfl)⟩
  f17 := ⟨ "slices.partitionEqualOrdered[int64]", by decide, Tryz.func208.trans (by kernel_rfl)⟩
  f18 := ⟨ "slices.partitionOrdered[int64]", by decide, Tryz.func209.trans (by kernel_rfl)⟩
  f19 := Tryz.func210.trans (by kernel_rfl)
  f20 := Tryz.func211.trans (by kernel_rfl)
  f30 := ⟨ "slices.siftDownOrdered[int64]", by decide, Tryz.func235.trans (by kernel_rfl)⟩
  f31 := Tryz.func236.trans (by kernel_rfl)
  f32 := Tryz.func237.trans (by kernel_rfl)
  f33 := ⟨ "slices.medianAdjacentOrdered[int64]", by decide, Tryz.func238.trans (by kernel_rfl)⟩
  f34 := ⟨ "slices.medianOrdered[int64]", by decide, Tryz.func239.trans (by kernel_rfl)⟩
  f35 := ⟨ "cmp.isNaN[int64]", by decide, Tryz.func240.trans (by kernel_rfl)⟩
  f40 := ⟨ "slices.order2Ordered[int64]", by decide, Tryz.func256.trans (by kernel_rfl)⟩
  t0 := Tryz.underlying0
  a0 := Tryz.isAgg0
  z0 := Tryz.sizeOf0
  v0 := Tryz.zeroValue0
  t3 := Tryz.underlying3
  a3 := Tryz.isAgg3
  z3 := Tryz.sizeOf3
  v3 := Tryz.zeroValue3
  t4 := Tryz.underlying4
  a4 := Tryz.isAgg4
  z4 := Tryz.sizeOf4
  v4 := Tryz.zeroValue4
  t5 := Tryz.underlying5
  a5 := Tryz.isAgg5
  z5 := Tryz.sizeOf5
  v5 := Tryz.zeroValue5
  t9 := Tryz.underlying9
  a9 := Tryz.isAgg9
  z9 := Tryz.sizeOf9
  v9 := Tryz.zeroValue9
  t22 := Tryz.underlying129
  a22 := Tryz.isAgg129
  z22 := Tryz.sizeOf129
  v22 := Tryz.zeroValue129
  t23 := Tryz.underlying129
  a23 := Tryz.isAgg129
  z23 := Tryz.sizeOf129
  v23 := Tryz.zeroValue129
  t25 := Tryz.underlying2
  a25 := Tryz.isAgg2
  z25 := Tryz.sizeOf2
  v25 := Tryz.zeroValue2
  t32 := Tryz.underlying117
  a32 := Tryz.isAgg117
  z32 := Tryz.sizeOf117
  v32 := Tryz.zeroValue117
  t35 := Tryz.underlying251
  a35 := Tryz.isAgg251
  z35 := Tryz.sizeOf251
  v35 := Tryz.zeroValue251
  t36 := Tryz.underlying252
  a36 := Tryz.isAgg252
  z36 := Tryz.sizeOf252
  v36 := Tryz.zeroValue252
  t41 := Tryz.underlying123
  a41 := Tryz.isAgg123
  z41 := Tryz.sizeOf123
  v41 := Tryz.zeroValue123
  t44 := Tryz.underlying90
  a44 := Tryz.isAgg90
  z44 := Tryz.sizeOf90
  v44 := Tryz.zeroValue90
  t46 := Tryz.underlying162
  a46 := Tryz.isAgg162
  z46 := Tryz.sizeOf162
  v46 := Tryz.zeroValue162
  t53 := Tryz.underlying282
  a53 := Tryz.isAgg282
  z53 := Tryz.sizeOf282
  v53 := Tryz.zeroValue282
  t57 := Tryz.underlying286
  a57 := Tryz.isAgg286
  z57 := Tryz.sizeOf286
  v57 := Tryz.zeroValue286
  t63 := Tryz.underlying295
  a63 := Tryz.isAgg295
  z63 := Tryz.sizeOf295
  v63 := Tryz.zeroValue295
  t64 := Tryz.underlying296
  a64 := Tryz.isAgg296
  z64 := Tryz.sizeOf296
  v64 := Tryz.zeroValue296
def cmpRen : Ren where
  f := fun x => match x with | 43 => 129 | n => n
  t := fun x => match x with | 22 => 129 | 23 => 2 | 3 => 3 | 4 => 4 | 0 => 0 | n => n
  g := fun n => n
theorem cmpLaid : SlLaysE.n43 Tryz.prog cmpRen where
  mixed := by kernel_rfl
  f43 := ⟨ "slices.Compact[[]int64,int64]", by decide, Tryz.func129.trans (by kernel_rfl)⟩
  t0 := Tryz.underlying0
  a0 := Tryz.isAgg0
  z0 := Tryz.sizeOf0
  v0 := Tryz.zeroValue0
  t3 := Tryz.underlying3
  a3 := Tryz.isAgg3
  z3 := Tryz.sizeOf3
  v3 := Tryz.zeroValue3
  t4 := Tryz.underlying4
  a4 := Tryz.isAgg4
  z4 := Tryz.sizeOf4
  v4 := Tryz.zeroValue4
  t22 := Tryz.underlying129
  a22 := Tryz.isAgg129
  z22 := Tryz.sizeOf129
  v22 := Tryz.zeroValue129
  a23 := Tryz.isAgg2
  z23 := Tryz.sizeOf2
end Go.Proofs.YtadmbphefpfbmaaGreatDoor
