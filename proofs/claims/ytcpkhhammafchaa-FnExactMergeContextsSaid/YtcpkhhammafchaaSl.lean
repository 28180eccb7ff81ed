/- slices.SortFunc at rows of numbers: the library's contract laid. Written by mk_sl.py. -/
import Derived.Test.YtcpkhhammafchaaPm
import Derived.Shelf.SlLaysF
namespace Go.Proofs.Ytcpkhhammafchaa
open Go.RowKit Go.Shelf Go.Lib Go.Sort
def sortRen : Ren where
  f := fun x => match x with | 6 => 133 | 15 => 160 | 14 => 159 | 28 => 181 | 29 => 182 | 20 => 173 | 21 => 174 | 22 => 175 | 23 => 176 | 24 => 177 | 25 => 178 | 26 => 179 | 27 => 180 | 46 => 186 | 47 => 187 | 48 => 188 | 49 => 189 | 50 => 190 | 57 => 191 | n => n
  t := fun x => match x with | 22 => 46 | 24 => 25 | 25 => 191 | 3 => 3 | 39 => 193 | 0 => 0 | 53 => 231 | 55 => 134 | 4 => 4 | 46 => 224 | 45 => 223 | 50 => 228 | 5 => 5 | 9 => 9 | 66 => 233 | 70 => 237 | 76 => 239 | 77 => 240 | n => n
  g := fun n => n
theorem sortLaid : SlLaysF.n6 Try.prog sortRen where
  mixed := by kernel_rfl
  f6 := ⟨ "slices.SortFunc[[][]int64,[]int64]", by decide, Try.func133.trans (by kernel_rfl)⟩
  f14 := ⟨ "slices.pdqsortCmpFunc[[]int64]", by decide, Try.func159.trans (by kernel_rfl)⟩
  f15 := Try.func160.trans (by kernel_rfl)
  f20 := ⟨ "slices.insertionSortCmpFunc[[]int64]", by decide, Try.func173.trans (by kernel_rfl)⟩
  f21 := ⟨ "slices.heapSortCmpFunc[[]int64]", by decide, Try.func174.trans (by kernel_rfl)⟩
  f22 := ⟨ "slices.breakPatternsCmpFunc[[]int64]", by decide, Try.func175.trans (by kernel_rfl)⟩
  f23 := ⟨ "slices.choosePivotCmpFunc[[]int64]", by decide, Try.func176.trans (by kernel_rfl)⟩
  f24 := ⟨ "slices.reverseRangeCmpFunc[[]int64]", by decide, Try.func177.trans (by kernel_rfl)⟩
  f25 := ⟨ "slices.partialInsertionSortCmpFunc[[]int64]", by decide, Try.func178.trans (by kernel_rfl)⟩
  f26 := ⟨ "slices.partitionEqualCmpFunc[[]int64]", by decide, Try.func179.trans (by kernel_rfl)⟩
  f27 := ⟨ "slices.partitionCmpFunc[[]int64]", by decide, Try.func180.trans (by kernel_rfl)⟩
  f28 := Try.func181.trans (by kernel_rfl)
  f29 := Try.func182.trans (by kernel_rfl)
  f46 := ⟨ "slices.siftDownCmpFunc[[]int64]", by decide, Try.func186.trans (by kernel_rfl)⟩
  f47 := Try.func187.trans (by kernel_rfl)
  f48 := Try.func188.trans (by kernel_rfl)
  f49 := ⟨ "slices.medianAdjacentCmpFunc[[]int64]", by decide, Try.func189.trans (by kernel_rfl)⟩
  f50 := ⟨ "slices.medianCmpFunc[[]int64]", by decide, Try.func190.trans (by kernel_rfl)⟩
  f57 := ⟨ "slices.order2CmpFunc[[]int64]", by decide, Try.func191.trans (by kernel_rfl)⟩
  t0 := Try.underlying0
  a0 := Try.isAgg0
  z0 := Try.sizeOf0
  v0 := Try.zeroValue0
  t3 := Try.underlying3
  a3 := Try.isAgg3
  z3 := Try.sizeOf3
  v3 := Try.zeroValue3
  t4 := Try.underlying4
  a4 := Try.isAgg4
  z4 := Try.sizeOf4
  v4 := Try.zeroValue4
  t5 := Try.underlying5
  a5 := Try.isAgg5
  z5 := Try.sizeOf5
  v5 := Try.zeroValue5
  t9 := Try.underlying9
  a9 := Try.isAgg9
  z9 := Try.sizeOf9
  v9 := Try.zeroValue9
  t22 := Try.underlying46
  a22 := Try.isAgg46
  z22 := Try.sizeOf46
  v22 := Try.zeroValue46
  a24 := Try.isAgg25
  z24 := Try.sizeOf25
  t25 := Try.underlying191
  a25 := Try.isAgg191
  z25 := Try.sizeOf191
  v25 := Try.zeroValue191
  t39 := Try.underlying193
  a39 := Try.isAgg193
  z39 := Try.sizeOf193
  v39 := Try.zeroValue193
  t45 := Try.underlying223
  a45 := Try.isAgg223
  z45 := Try.sizeOf223
  v45 := Try.zeroValue223
  t46 := Try.underlying224
  a46 := Try.isAgg224
  z46 := Try.sizeOf224
  v46 := Try.zeroValue224
  t50 := Try.underlying228
  a50 := Try.isAgg228
  z50 := Try.sizeOf228
  v50 := Try.zeroValue228
  t53 := Try.underlying231
  a53 := Try.isAgg231
  z53 := Try.sizeOf231
  v53 := Try.zeroValue231
  t55 := Try.underlying134
  a55 := Try.isAgg134
  z55 := Try.sizeOf134
  v55 := Try.zeroValue134
  t66 := Try.underlying233
  a66 := Try.isAgg233
  z66 := Try.sizeOf233
  v66 := Try.zeroValue233
  t70 := Try.underlying237
  a70 := Try.isAgg237
  z70 := Try.sizeOf237
  v70 := Try.zeroValue237
  t76 := Try.underlying239
  a76 := Try.isAgg239
  z76 := Try.sizeOf239
  v76 := Try.zeroValue239
  t77 := Try.underlying240
  a77 := Try.isAgg240
  z77 := Try.sizeOf240
  v77 := Try.zeroValue240
end Go.Proofs.Ytcpkhhammafchaa
