/- slices.SortFunc at rows of numbers: the library's contract laid. Written by mk_sl.py. -/
import Derived.Test.YtemllhkgjdifiaaPm
import Derived.Shelf.SlLaysF
namespace Go.Proofs.Ytemllhkgjdifiaa
open Go.RowKit Go.Shelf Go.Lib Go.Sort
def sortRen : Ren where
  f := fun x => match x with | 6 => 136 | 15 => 165 | 14 => 164 | 28 => 186 | 29 => 187 | 20 => 178 | 21 => 179 | 22 => 180 | 23 => 181 | 24 => 182 | 25 => 183 | 26 => 184 | 27 => 185 | 46 => 193 | 47 => 194 | 48 => 195 | 49 => 196 | 50 => 197 | 57 => 198 | n => n
  t := fun x => match x with | 22 => 26 | 24 => 25 | 25 => 152 | 3 => 3 | 39 => 194 | 0 => 0 | 53 => 209 | 55 => 212 | 4 => 4 | 46 => 217 | 45 => 216 | 50 => 221 | 5 => 5 | 9 => 9 | 66 => 228 | 70 => 232 | 76 => 234 | 77 => 235 | n => n
  g := fun n => n
theorem sortLaid : SlLaysF.n6 Try.prog sortRen where
  mixed := by kernel_rfl
  f6 := ⟨ "slices.SortFunc[[][]int64,[]int64]", by decide, Try.func136.trans (by kernel_rfl)⟩
  f14 := ⟨ "slices.pdqsortCmpFunc[[]int64]", by decide, Try.func164.trans (by kernel_rfl)⟩
  f15 := Try.func165.trans (by kernel_rfl)
  f20 := ⟨ "slices.insertionSortCmpFunc[[]int64]", by decide, Try.func178.trans (by kernel_rfl)⟩
  f21 := ⟨ "slices.heapSortCmpFunc[[]int64]", by decide, Try.func179.trans (by kernel_rfl)⟩
  f22 := ⟨ "slices.breakPatternsCmpFunc[[]int64]", by decide, Try.func180.trans (by kernel_rfl)⟩
  f23 := ⟨ "slices.choosePivotCmpFunc[[]int64]", by decide, Try.func181.trans (by kernel_rfl)⟩
  f24 := ⟨ "slices.reverseRangeCmpFunc[[]int64]", by decide, Try.func182.trans (by kernel_rfl)⟩
  f25 := ⟨ "slices.partialInsertionSortCmpFunc[[]int64]", by decide, Try.func183.trans (by kernel_rfl)⟩
  f26 := ⟨ "slices.partitionEqualCmpFunc[[]int64]", by decide, Try.func184.trans (by kernel_rfl)⟩
  f27 := ⟨ "slices.partitionCmpFunc[[]int64]", by decide, Try.func185.trans (by kernel_rfl)⟩
  f28 := Try.func186.trans (by kernel_rfl)
  f29 := Try.func187.trans (by kernel_rfl)
  f46 := ⟨ "slices.siftDownCmpFunc[[]int64]", by decide, Try.func193.trans (by kernel_rfl)⟩
  f47 := Try.func194.trans (by kernel_rfl)
  f48 := Try.func195.trans (by kernel_rfl)
  f49 := ⟨ "slices.medianAdjacentCmpFunc[[]int64]", by decide, Try.func196.trans (by kernel_rfl)⟩
  f50 := ⟨ "slices.medianCmpFunc[[]int64]", by decide, Try.func197.trans (by kernel_rfl)⟩
  f57 := ⟨ "slices.order2CmpFunc[[]int64]", by decide, Try.func198.trans (by kernel_rfl)⟩
  t0 := Try.underlying0
  a0 := Try.isAgg0
  z0 := Try.sizeOf0
  v0 := Try.zeroValue0
  t3 := Try.underlying3
  a3 := Try.isAgg3
  z3 := Try.sizeOf3
  v3 := Try.zeroValue3
  t4 := Try.underlying4
  a4 := Try.isAgg4
  z4 := Try.sizeOf4
  v4 := Try.zeroValue4
  t5 := Try.underlying5
  a5 := Try.isAgg5
  z5 := Try.sizeOf5
  v5 := Try.zeroValue5
  t9 := Try.underlying9
  a9 := Try.isAgg9
  z9 := Try.sizeOf9
  v9 := Try.zeroValue9
  t22 := Try.underlying26
  a22 := Try.isAgg26
  z22 := Try.sizeOf26
  v22 := Try.zeroValue26
  a24 := Try.isAgg25
  z24 := Try.sizeOf25
  t25 := Try.underlying152
  a25 := Try.isAgg152
  z25 := Try.sizeOf152
  v25 := Try.zeroValue152
  t39 := Try.underlying194
  a39 := Try.isAgg194
  z39 := Try.sizeOf194
  v39 := Try.zeroValue194
  t45 := Try.underlying216
  a45 := Try.isAgg216
  z45 := Try.sizeOf216
  v45 := Try.zeroValue216
  t46 := Try.underlying217
  a46 := Try.isAgg217
  z46 := Try.sizeOf217
  v46 := Try.zeroValue217
  t50 := Try.underlying221
  a50 := Try.isAgg221
  z50 := Try.sizeOf221
  v50 := Try.zeroValue221
  t53 := Try.underlying209
  a53 := Try.isAgg209
  z53 := Try.sizeOf209
  v53 := Try.zeroValue209
  t55 := Try.underlying212
  a55 := Try.isAgg212
  z55 := Try.sizeOf212
  v55 := Try.zeroValue212
  t66 := Try.underlying228
  a66 := Try.isAgg228
  z66 := Try.sizeOf228
  v66 := Try.zeroValue228
  t70 := Try.underlying232
  a70 := Try.isAgg232
  z70 := Try.sizeOf232
  v70 := Try.zeroValue232
  t76 := Try.underlying234
  a76 := Try.isAgg234
  z76 := Try.sizeOf234
  v76 := Try.zeroValue234
  t77 := Try.underlying235
  a77 := Try.isAgg235
  z77 := Try.sizeOf235
  v77 := Try.zeroValue235
end Go.Proofs.Ytemllhkgjdifiaa
