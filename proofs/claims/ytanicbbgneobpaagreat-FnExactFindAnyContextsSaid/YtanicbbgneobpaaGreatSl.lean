/- slices.SortFunc at rows of numbers: the library's contract laid. Written by mk_sl.py. -/
import Derived.Test.YtanicbbgneobpaaGreatPm
import Derived.Shelf.SlLaysF
namespace Go.Proofs.YtanicbbgneobpaaGreat
open Go.RowKit Go.Shelf Go.Lib Go.Sort
def sortRen : Ren where
  f := fun x => match x with | 6 => 83 | 15 => 118 | 14 => 117 | 28 => 142 | 29 => 143 | 20 => 134 | 21 => 135 | 22 => 136 | 23 => 137 | 24 => 138 | 25 => 139 | 26 => 140 | 27 => 141 | 46 => 148 | 47 => 149 | 48 => 150 | 49 => 151 | 50 => 152 | 57 => 154 | n => n
  t := fun x => match x with | 22 => 26 | 24 => 25 | 25 => 121 | 3 => 3 | 39 => 152 | 0 => 0 | 53 => 174 | 55 => 176 | 4 => 4 | 46 => 167 | 45 => 166 | 50 => 171 | 5 => 5 | 9 => 9 | 66 => 177 | 70 => 181 | 76 => 185 | 77 => 186 | n => n
  g := fun n => n
theorem sortLaid : SlLaysF.n6 Tryz.prog sortRen where
  mixed := by kernel_rfl
  f6 := ⟨ "slices.SortFunc[[][]int64,[]int64]", by decide, Tryz.func83.trans (by kernel_rfl)⟩
  f14 := ⟨ "slices.pdqsortCmpFunc[[]int64]", by decide, Tryz.func117.trans (by kernel_rfl)⟩
  f15 := Tryz.func118.trans (by kernel_rfl)
  f20 := ⟨ "slices.insertionSortCmpFunc[[]int64]", by decide, Tryz.func134.trans (by kernel_rfl)⟩
  f21 := ⟨ "slices.heapSortCmpFunc[[]int64]", by decide, Tryz.func135.trans (by kernel_rfl)⟩
  f22 := ⟨ "slices.breakPatternsCmpFunc[[]int64]", by decide, Tryz.func136.trans (by kernel_rfl)⟩
  f23 := ⟨ "slices.choosePivotCmpFunc[[]int64]", by decide, Tryz.func137.trans (by kernel_rfl)⟩
  f24 := ⟨ "slices.reverseRangeCmpFunc[[]int64]", by decide, Tryz.func138.trans (by kernel_rfl)⟩
  f25 := ⟨ "slices.partialInsertionSortCmpFunc[[]int64]", by decide, Tryz.func139.trans (by kernel_rfl)⟩
  f26 := ⟨ "slices.partitionEqualCmpFunc[[]int64]", by decide, Tryz.func140.trans (by kernel_rfl)⟩
  f27 := ⟨ "slices.partitionCmpFunc[[]int64]", by decide, Tryz.func141.trans (by kernel_rfl)⟩
  f28 := Tryz.func142.trans (by kernel_rfl)
  f29 := Tryz.func143.trans (by kernel_rfl)
  f46 := ⟨ "slices.siftDownCmpFunc[[]int64]", by decide, Tryz.func148.trans (by kernel_rfl)⟩
  f47 := Tryz.func149.trans (by kernel_rfl)
  f48 := Tryz.func150.trans (by kernel_rfl)
  f49 := ⟨ "slices.medianAdjacentCmpFunc[[]int64]", by decide, Tryz.func151.trans (by kernel_rfl)⟩
  f50 := ⟨ "slices.medianCmpFunc[[]int64]", by decide, Tryz.func152.trans (by kernel_rfl)⟩
  f57 := ⟨ "slices.order2CmpFunc[[]int64]", by decide, Tryz.func154.trans (by kernel_rfl)⟩
  t0 := Tryz.underlying0
  a0 := Tryz.isAgg0
  z0 := Tryz.sizeOf0
  v0 := Tryz.zeroValue0
  t3 := Tryz.underlying3
  a3 := Tryz.isAgg3
  z3 := Tryz.sizeOf3
  v3 := Tryz.zeroValue3
  t4 := Tryz.underlying4
  a4 := Tryz.isAgg4
  z4 := Tryz.sizeOf4
  v4 := Tryz.zeroValue4
  t5 := Tryz.underlying5
  a5 := Tryz.isAgg5
  z5 := Tryz.sizeOf5
  v5 := Tryz.zeroValue5
  t9 := Tryz.underlying9
  a9 := Tryz.isAgg9
  z9 := Tryz.sizeOf9
  v9 := Tryz.zeroValue9
  t22 := Tryz.underlying26
  a22 := Tryz.isAgg26
  z22 := Tryz.sizeOf26
  v22 := Tryz.zeroValue26
  a24 := Tryz.isAgg25
  z24 := Tryz.sizeOf25
  t25 := Tryz.underlying121
  a25 := Tryz.isAgg121
  z25 := Tryz.sizeOf121
  v25 := Tryz.zeroValue121
  t39 := Tryz.underlying152
  a39 := Tryz.isAgg152
  z39 := Tryz.sizeOf152
  v39 := Tryz.zeroValue152
  t45 := Tryz.underlying166
  a45 := Tryz.isAgg166
  z45 := Tryz.sizeOf166
  v45 := Tryz.zeroValue166
  t46 := Tryz.underlying167
  a46 := Tryz.isAgg167
  z46 := Tryz.sizeOf167
  v46 := Tryz.zeroValue167
  t50 := Tryz.underlying171
  a50 := Tryz.isAgg171
  z50 := Tryz.sizeOf171
  v50 := Tryz.zeroValue171
  t53 := Tryz.underlying174
  a53 := Tryz.isAgg174
  z53 := Tryz.sizeOf174
  v53 := Tryz.zeroValue174
  t55 := Tryz.underlying176
  a55 := Tryz.isAgg176
  z55 := Tryz.sizeOf176
  v55 := Tryz.zeroValue176
  t66 := Tryz.underlying177
  a66 := Tryz.isAgg177
  z66 := Tryz.sizeOf177
  v66 := Tryz.zeroValue177
  t70 := Tryz.underlying181
  a70 := Tryz.isAgg181
  z70 := Tryz.sizeOf181
  v70 := Tryz.zeroValue181
  t76 := Tryz.underlying185
  a76 := Tryz.isAgg185
  z76 := Tryz.sizeOf185
  v76 := Tryz.zeroValue185
  t77 := Tryz.underlying186
  a77 := Tryz.isAgg186
  z77 := Tryz.sizeOf186
  v77 := Tryz.zeroValue186
end Go.Proofs.YtanicbbgneobpaaGreat
