/- The tree with a rank, in plain Lean: the greedy choice of nodes undoes the rank. Rows of counts written by mk_rankg.py. -/
import Derived.Test.YtilbgbibddjdcaaRankM
namespace Go.Proofs.Ytilbgbibddjdcaa
open Go.RowKit

def greedy : Nat → Nat → Nat → List Bool
  | 0, _, _ => []
  | l + 1, o, r => if r < cnt l (o - 1) then false :: greedy l (o - 1) r else true :: greedy l (o + 1) (r - cnt l (o - 1))
theorem greedy_len : ∀ (n o r : Nat), (greedy n o r).length = n
  | 0, _, _ => rfl
  | n + 1, o, r => by
    rw [greedy]
    split <;> simp [greedy_len n]
theorem greedy_ok : ∀ (n o r : Nat), r < cnt n o → scan (greedy n o r) o = some [] ∧ rkFrom (greedy n o r) o = r
  | 0, 0, r, h => by simp [cnt] at h; subst h; exact ⟨rfl, rfl⟩
  | 0, o + 1, r, h => by simp [cnt] at h
  | n + 1, 0, r, h => by simp [cnt] at h
  | n + 1, o + 1, r, h => by
    rw [cnt] at h
    have hlt : r < cnt n o + cnt n (o + 2) := Nat.lt_of_lt_of_le h (Nat.min_le_right _ _)
    rw [greedy, Nat.add_sub_cancel]
    split
    · rename_i h1
      obtain ⟨a, b⟩ := greedy_ok n o r h1
      exact ⟨a, b⟩
    · rename_i h1
      obtain ⟨a, b⟩ := greedy_ok n (o + 2) (r - cnt n o) (by omega)
      refine ⟨a, ?_⟩
      show cnt (greedy n (o + 2) (r - cnt n o)).length (o + 1 - 1) + rkFrom (greedy n (o + 2) (r - cnt n o)) (o + 2) = r
      rw [b, greedy_len, Nat.add_sub_cancel]
      omega
theorem rkBase_mono {a b : Nat} (h : a ≤ b) : rkBase a ≤ rkBase b := by
  induction h with
  | refl => exact Nat.le_refl _
  | step _ ih => exact Nat.le_trans ih (by simp [rkBase])
/-- How many nodes the tree with a rank has, and its place among those. -/
def AtR (rank n r : Nat) : Prop := rank = rkBase n + r ∧ r < cnt n 1
theorem AtR.uniq {rank n r n' r' : Nat} (h : AtR rank n r) (h' : AtR rank n' r') : n = n' ∧ r = r' := by
  obtain ⟨h1, h2⟩ := h
  obtain ⟨h3, h4⟩ := h'
  have key : ∀ {a b x y : Nat}, rkBase a + x = rkBase b + y → x < cnt a 1 → b ≤ a ∨ a < b → ¬ a < b := by
    intro a b x y e hx _ hab
    have := rkBase_mono (a := a + 1) (b := b) hab
    simp only [rkBase] at this
    omega
  have n1 : ¬ n < n' := key (x := r) (y := r') (by omega) h2 (by omega)
  have n2 : ¬ n' < n := key (x := r') (y := r) (by omega) h4 (by omega)
  have e : n = n' := by omega
  subst e
  exact ⟨rfl, by omega⟩
theorem at_rank {rank n r : Nat} (h : AtR rank n r) : rankN (greedy n 1 r) = rank := by
  rw [rankN, greedy_len, (greedy_ok n 1 r h.2).2, h.1]
theorem at_tree {rank n r : Nat} (h : AtR rank n r) (hn : n ≤ 2000) : isTr (greedy n 1 r) = true := by
  simp only [isTr, Bool.and_eq_true, decide_eq_true_eq, beq_iff_eq]
  exact ⟨by rw [greedy_len]; exact hn, (greedy_ok n 1 r h.2).1⟩
def rowsN : Nat → List Nat
  | 0 => [1]
  | n + 1 => 0 :: (List.range (n + 1)).map fun o => min 1000000000001 ((rowsN n).getD o 0 + (rowsN n).getD (o + 2) 0)
theorem rows_len : ∀ n, (rowsN n).length = n + 1
  | 0 => rfl
  | n + 1 => by simp [rowsN]
theorem rows_cnt : ∀ n o, (rowsN n).getD o 0 = cnt n o
  | 0, 0 => rfl
  | 0, o + 1 => by simp [rowsN, cnt]
  | n + 1, 0 => by simp [rowsN, cnt]
  | n + 1, o + 1 => by
    by_cases h : o < n + 1
    · have e : (rowsN (n + 1)).getD (o + 1) 0 = min 1000000000001 ((rowsN n).getD o 0 + (rowsN n).getD (o + 2) 0) := by
        simp [rowsN, List.getD_eq_getElem?_getD, h]
      rw [e, rows_cnt n o, rows_cnt n (o + 2), cnt]
    · rw [cnt_lt (n + 1) (o + 1) (by omega), List.getD_eq_getElem?_getD, List.getElem?_eq_none (by rw [rows_len]; omega)]
      rfl
theorem row0 : rowsN 0 = [1] := rfl
theorem row1 : rowsN 1 = [0, 1] := by rw [rowsN, row0]; rfl
theorem row2 : rowsN 2 = [0, 0, 1] := by rw [rowsN, row1]; rfl
theorem row3 : rowsN 3 = [0, 1, 0, 1] := by rw [rowsN, row2]; rfl
theorem row4 : rowsN 4 = [0, 0, 2, 0, 1] := by rw [rowsN, row3]; rfl
theorem row5 : rowsN 5 = [0, 2, 0, 3, 0, 1] := by rw [rowsN, row4]; rfl
theorem row6 : rowsN 6 = [0, 0, 5, 0, 4, 0, 1] := by rw [rowsN, row5]; rfl
theorem row7 : rowsN 7 = [0, 5, 0, 9, 0, 5, 0, 1] := by rw [rowsN, row6]; rfl
theorem row8 : rowsN 8 = [0, 0, 14, 0, 14, 0, 6, 0, 1] := by rw [rowsN, row7]; rfl
theorem row9 : rowsN 9 = [0, 14, 0, 28, 0, 20, 0, 7, 0, 1] := by rw [rowsN, row8]; rfl
theorem row10 : rowsN 10 = [0, 0, 42, 0, 48, 0, 27, 0, 8, 0, 1] := by rw [rowsN, row9]; rfl
theorem row11 : rowsN 11 = [0, 42, 0, 90, 0, 75, 0, 35, 0, 9, 0, 1] := by rw [rowsN, row10]; rfl
theorem row12 : rowsN 12 = [0, 0, 132, 0, 165, 0, 110, 0, 44, 0, 10, 0, 1] := by rw [rowsN, row11]; rfl
theorem row13 : rowsN 13 = [0, 132, 0, 297, 0, 275, 0, 154, 0, 54, 0, 11, 0, 1] := by rw [rowsN, row12]; rfl
theorem row14 : rowsN 14 = [0, 0, 429, 0, 572, 0, 429, 0, 208, 0, 65, 0, 12, 0, 1] := by rw [rowsN, row13]; rfl
theorem row15 : rowsN 15 = [0, 429, 0, 1001, 0, 1001, 0, 637, 0, 273, 0, 77, 0, 13, 0, 1] := by rw [rowsN, row14]; rfl
theorem row16 : rowsN 16 = [0, 0, 1430, 0, 2002, 0, 1638, 0, 910, 0, 350, 0, 90, 0, 14, 0, 1] := by rw [rowsN, row15]; rfl
theorem row17 : rowsN 17 = [0, 1430, 0, 3432, 0, 3640, 0, 2548, 0, 1260, 0, 440, 0, 104, 0, 15, 0, 1] := by rw [rowsN, row16]; rfl
theorem row18 : rowsN 18 = [0, 0, 4862, 0, 7072, 0, 6188, 0, 3808, 0, 1700, 0, 544, 0, 119, 0, 16, 0, 1] := by rw [rowsN, row17]; rfl
theorem row19 : rowsN 19 = [0, 4862, 0, 11934, 0, 13260, 0, 9996, 0, 5508, 0, 2244, 0, 663, 0, 135, 0, 17, 0, 1] := by rw [rowsN, row18]; rfl
theorem row20 : rowsN 20 = [0, 0, 16796, 0, 25194, 0, 23256, 0, 15504, 0, 7752, 0, 2907, 0, 798, 0, 152, 0, 18, 0, 1] := by rw [rowsN, row19]; rfl
theorem row21 : rowsN 21 = [0, 16796, 0, 41990, 0, 48450, 0, 38760, 0, 23256, 0, 10659, 0, 3705, 0, 950, 0, 170, 0, 19, 0, 1] := by rw [rowsN, row20]; rfl
theorem row22 : rowsN 22 = [0, 0, 58786, 0, 90440, 0, 87210, 0, 62016, 0, 33915, 0, 14364, 0, 4655, 0, 1120, 0, 189, 0, 20, 0, 1] := by rw [rowsN, row21]; rfl
theorem row23 : rowsN 23 = [0, 58786, 0, 149226, 0, 177650, 0, 149226, 0, 95931, 0, 48279, 0, 19019, 0, 5775, 0, 1309, 0, 209, 0, 21, 0, 1] := by rw [rowsN, row22]; rfl
theorem row24 : rowsN 24 = [0, 0, 208012, 0, 326876, 0, 326876, 0, 245157, 0, 144210, 0, 67298, 0, 24794, 0, 7084, 0, 1518, 0, 230, 0, 22, 0, 1] := by rw [rowsN, row23]; rfl
theorem row25 : rowsN 25 = [0, 208012, 0, 534888, 0, 653752, 0, 572033, 0, 389367, 0, 211508, 0, 92092, 0, 31878, 0, 8602, 0, 1748, 0, 252, 0, 23, 0, 1] := by rw [rowsN, row24]; rfl
theorem base0 : rkBase 0 = 0 := rfl
theorem one0 : cnt 0 1 = 0 := by rw [← rows_cnt, row0]; rfl
theorem base1 : rkBase 1 = 0 := by rw [rkBase, base0, one0]
theorem one1 : cnt 1 1 = 1 := by rw [← rows_cnt, row1]; rfl
theorem base2 : rkBase 2 = 1 := by rw [rkBase, base1, one1]
theorem one2 : cnt 2 1 = 0 := by rw [← rows_cnt, row2]; rfl
theorem base3 : rkBase 3 = 1 := by rw [rkBase, base2, one2]
theorem one3 : cnt 3 1 = 1 := by rw [← rows_cnt, row3]; rfl
theorem base4 : rkBase 4 = 2 := by rw [rkBase, base3, one3]
theorem one4 : cnt 4 1 = 0 := by rw [← rows_cnt, row4]; rfl
theorem base5 : rkBase 5 = 2 := by rw [rkBase, base4, one4]
theorem one5 : cnt 5 1 = 2 := by rw [← rows_cnt, row5]; rfl
theorem base6 : rkBase 6 = 4 := by rw [rkBase, base5, one5]
theorem one6 : cnt 6 1 = 0 := by rw [← rows_cnt, row6]; rfl
theorem base7 : rkBase 7 = 4 := by rw [rkBase, base6, one6]
theorem one7 : cnt 7 1 = 5 := by rw [← rows_cnt, row7]; rfl
theorem base8 : rkBase 8 = 9 := by rw [rkBase, base7, one7]
theorem one8 : cnt 8 1 = 0 := by rw [← rows_cnt, row8]; rfl
theorem base9 : rkBase 9 = 9 := by rw [rkBase, base8, one8]
theorem one9 : cnt 9 1 = 14 := by rw [← rows_cnt, row9]; rfl
theorem base10 : rkBase 10 = 23 := by rw [rkBase, base9, one9]
theorem one10 : cnt 10 1 = 0 := by rw [← rows_cnt, row10]; rfl
theorem base11 : rkBase 11 = 23 := by rw [rkBase, base10, one10]
theorem one11 : cnt 11 1 = 42 := by rw [← rows_cnt, row11]; rfl
theorem base12 : rkBase 12 = 65 := by rw [rkBase, base11, one11]
theorem one12 : cnt 12 1 = 0 := by rw [← rows_cnt, row12]; rfl
theorem base13 : rkBase 13 = 65 := by rw [rkBase, base12, one12]
theorem one13 : cnt 13 1 = 132 := by rw [← rows_cnt, row13]; rfl
theorem base14 : rkBase 14 = 197 := by rw [rkBase, base13, one13]
theorem one14 : cnt 14 1 = 0 := by rw [← rows_cnt, row14]; rfl
theorem base15 : rkBase 15 = 197 := by rw [rkBase, base14, one14]
theorem one15 : cnt 15 1 = 429 := by rw [← rows_cnt, row15]; rfl
theorem base16 : rkBase 16 = 626 := by rw [rkBase, base15, one15]
theorem one16 : cnt 16 1 = 0 := by rw [← rows_cnt, row16]; rfl
theorem base17 : rkBase 17 = 626 := by rw [rkBase, base16, one16]
theorem one17 : cnt 17 1 = 1430 := by rw [← rows_cnt, row17]; rfl
theorem base18 : rkBase 18 = 2056 := by rw [rkBase, base17, one17]
theorem one18 : cnt 18 1 = 0 := by rw [← rows_cnt, row18]; rfl
theorem base19 : rkBase 19 = 2056 := by rw [rkBase, base18, one18]
theorem one19 : cnt 19 1 = 4862 := by rw [← rows_cnt, row19]; rfl
theorem base20 : rkBase 20 = 6918 := by rw [rkBase, base19, one19]
theorem one20 : cnt 20 1 = 0 := by rw [← rows_cnt, row20]; rfl
theorem base21 : rkBase 21 = 6918 := by rw [rkBase, base20, one20]
theorem one21 : cnt 21 1 = 16796 := by rw [← rows_cnt, row21]; rfl
theorem base22 : rkBase 22 = 23714 := by rw [rkBase, base21, one21]
theorem one22 : cnt 22 1 = 0 := by rw [← rows_cnt, row22]; rfl
theorem base23 : rkBase 23 = 23714 := by rw [rkBase, base22, one22]
theorem one23 : cnt 23 1 = 58786 := by rw [← rows_cnt, row23]; rfl
theorem base24 : rkBase 24 = 82500 := by rw [rkBase, base23, one23]
theorem one24 : cnt 24 1 = 0 := by rw [← rows_cnt, row24]; rfl
theorem base25 : rkBase 25 = 82500 := by rw [rkBase, base24, one24]
theorem one25 : cnt 25 1 = 208012 := by rw [← rows_cnt, row25]; rfl
theorem base26 : rkBase 26 = 290512 := by rw [rkBase, base25, one25]
end Go.Proofs.Ytilbgbibddjdcaa
