/- Texts in one file: RankM, RankG, TagM, Memo, RankC, WaysM, Ways, RankI, RankS, Tag, TagI. -/
import Derived.Test.YtadmbphefpfbmaaGreatDoorGB
import Derived.Test.YtadmbphefpfbmaaGreatDoorGA
import Derived.Maps.OwnSet
import Derived.DeepKeys4
import Derived.Maps.OwnOps
import Derived.IntWalk
/- The number of ways in which nodes are some trees, in plain Lean: the count, ranks. -/
namespace Go.Proofs.YtadmbphefpfbmaaGreatDoor
open Go.RowKit

def cnt : Nat → Nat → Nat
  | 0, 0 => 1
  | 0, _ + 1 => 0
  | _ + 1, 0 => 0
  | n + 1, o + 1 => min 1000000000001 (cnt n o + cnt n (o + 2))
theorem cnt_le : ∀ n o, cnt n o ≤ 1000000000001
  | 0, 0 => by simp [cnt]
  | 0, _ + 1 => by simp [cnt]
  | _ + 1, 0 => by simp [cnt]
  | n + 1, o + 1 => by rw [cnt]; exact Nat.min_le_left _ _
theorem cnt_lt : ∀ n o, n < o → cnt n o = 0
  | 0, 0, h => by omega
  | 0, _ + 1, _ => rfl
  | _ + 1, 0, h => by omega
  | n + 1, o + 1, h => by rw [cnt, cnt_lt n o (by omega), cnt_lt n (o + 2) (by omega)]; rfl
theorem cnt_par : ∀ n o, (n + o) % 2 = 1 → cnt n o = 0
  | 0, 0, h => by omega
  | 0, _ + 1, _ => rfl
  | _ + 1, 0, _ => rfl
  | n + 1, o + 1, h => by rw [cnt, cnt_par n o (by omega), cnt_par n (o + 2) (by omega)]; rfl
theorem cnt_zero (n : Nat) (h : 0 < n) : cnt n 0 = 0 := by
  cases n with
  | zero => omega
  | succ n => rfl
theorem cnt_step (n o : Nat) (h : 0 < o) (hn : 0 < n) : cnt n o = min 1000000000001 (cnt (n - 1) (o - 1) + cnt (n - 1) (o + 1)) := by
  obtain ⟨o, rfl⟩ : ∃ p, o = p + 1 := ⟨o - 1, by omega⟩
  obtain ⟨n, rfl⟩ : ∃ p, n = p + 1 := ⟨n - 1, by omega⟩
  rfl
/-- How many trees have fewer nodes. -/
def rkBase : Nat → Nat
  | 0 => 0
  | n + 1 => rkBase n + cnt n 1
theorem rkBase_two (n : Nat) (h : n % 2 = 1) : rkBase (n + 2) = rkBase n + cnt n 1 := by
  show rkBase n + cnt n 1 + cnt (n + 1) 1 = _
  rw [cnt_par (n + 1) 1 (by omega)]
  rfl
theorem rkBase_le : ∀ n, rkBase n ≤ n * 1000000000001
  | 0 => by simp [rkBase]
  | n + 1 => by have := rkBase_le n; have := cnt_le n 1; simp only [rkBase]; omega
/-- How many come before one with as many nodes. -/
def rkFrom : List Bool → Nat → Nat
  | [], _ => 0
  | true :: r, o => cnt r.length (o - 1) + rkFrom r (o + 1)
  | false :: r, o => rkFrom r (o - 1)
theorem rkFrom_le : ∀ (bs : List Bool) (o : Nat), rkFrom bs o ≤ bs.length * 1000000000001
  | [], _ => by simp [rkFrom]
  | true :: r, o => by have := rkFrom_le r (o + 1); have := cnt_le r.length (o - 1); simp only [rkFrom, List.length_cons]; omega
  | false :: r, o => Nat.le_trans (rkFrom_le r (o - 1)) (Nat.mul_le_mul_right _ (Nat.le_succ _))
def rankN (bs : List Bool) : Nat := rkBase bs.length + rkFrom bs 1
def rankI (bs : List Bool) : Int := if isTr bs = true ∧ bs.length ≤ 60 ∧ rankN bs ≤ 1000000000000 then rankN bs else 0
def rankC (bs : List Bool) : Int := if isTr bs = true then (if bs.length ≤ 60 ∧ rankN bs ≤ 1000000000000 then 0 else 5) else 1
/-- A tree's scan stands above nought ahead of its end. -/
theorem need_pos {bs : List Bool} (h : scan bs 1 = some []) {k : Nat} (hk : k < bs.length) : 0 < needAt bs k := by
  have hs := need_scan bs h k (by omega)
  rcases Nat.eq_zero_or_pos (needAt bs k) with h0 | h0
  · rw [h0] at hs
    have : bs.drop k = [] := by cases hd : bs.drop k <;> simp [scan, hd] at hs ⊢
    have := congrArg List.length this
    simp at this
    omega
  · exact h0
theorem need_le (bs : List Bool) : ∀ k, needAt bs k ≤ k + 1
  | 0 => Nat.le_refl _
  | k + 1 => by have := need_le bs k; simp only [needAt]; split <;> omega
theorem isTr_scan {bs : List Bool} (h : isTr bs = true) : scan bs 1 = some [] := by
  simp only [isTr, Bool.and_eq_true, beq_iff_eq] at h
  exact h.2
theorem rk_true {bs : List Bool} {k o : Nat} (h : bs[k]? = some true) : rkFrom (bs.drop k) o = cnt (bs.length - k - 1) (o - 1) + rkFrom (bs.drop (k + 1)) (o + 1) := by
  rw [drop_get h, rkFrom]
  congr 2
  simp
  omega
theorem rk_false {bs : List Bool} {k o : Nat} (h : bs[k]? = some false) : rkFrom (bs.drop k) o = rkFrom (bs.drop (k + 1)) (o - 1) := by
  rw [drop_get h, rkFrom]
theorem need_true {bs : List Bool} {k : Nat} (h : bs[k]? = some true) : needAt bs (k + 1) = needAt bs k + 1 := by simp [needAt, h]
theorem need_false {bs : List Bool} {k : Nat} (h : bs[k]? = some false) : needAt bs (k + 1) = needAt bs k - 1 := by simp [needAt, h]
end Go.Proofs.YtadmbphefpfbmaaGreatDoor
/- The tree with a rank, in plain Lean: the greedy choice of nodes undoes the rank. Rows of counts written by mk_rankg.py. -/
namespace Go.Proofs.YtadmbphefpfbmaaGreatDoor
open Go.RowKit

def greedy : Nat → Nat → Nat → List Bool
  | 0, _, _ => []
  | l + 1, o, r => if r < cnt l (o - 1) then false :: greedy l (o - 1) r else true :: greedy l (o + 1) (r - cnt l (o - 1))
theorem greedy_len : ∀ (n o r : Nat), (greedy n o r).length = n
  | 0, _, _ => rfl
  | n + 1, o, r => by
    rw [greedy]
    split <;> simp [greedy_len n]
theorem greedy_ok : ∀ (n o r : Nat), r < cnt n o → scan (greedy n o r) o = some [] ∧ rkFrom (greedy n o r) o = r
  | 0, 0, r, h => by simp [cnt] at h; subst h; exact ⟨rfl, rfl⟩
  | 0, o + 1, r, h => by simp [cnt] at h
  | n + 1, 0, r, h => by simp [cnt] at h
  | n + 1, o + 1, r, h => by
    rw [cnt] at h
    have hlt : r < cnt n o + cnt n (o + 2) := Nat.lt_of_lt_of_le h (Nat.min_le_right _ _)
    rw [greedy, Nat.add_sub_cancel]
    split
    · rename_i h1
      obtain ⟨a, b⟩ := greedy_ok n o r h1
      exact ⟨a, b⟩
    · rename_i h1
      obtain ⟨a, b⟩ := greedy_ok n (o + 2) (r - cnt n o) (by omega)
      refine ⟨a, ?_⟩
      show cnt (greedy n (o + 2) (r - cnt n o)).length (o + 1 - 1) + rkFrom (greedy n (o + 2) (r - cnt n o)) (o + 2) = r
      rw [b, greedy_len, Nat.add_sub_cancel]
      omega
theorem rkBase_mono {a b : Nat} (h : a ≤ b) : rkBase a ≤ rkBase b := by
  induction h with
  | refl => exact Nat.le_refl _
  | step _ ih => exact Nat.le_trans ih (by simp [rkBase])
/-- How many nodes the tree with a rank has, and its place among those. -/
def AtR (rank n r : Nat) : Prop := rank = rkBase n + r ∧ r < cnt n 1
theorem AtR.uniq {rank n r n' r' : Nat} (h : AtR rank n r) (h' : AtR rank n' r') : n = n' ∧ r = r' := by
  obtain ⟨h1, h2⟩ := h
  obtain ⟨h3, h4⟩ := h'
  have key : ∀ {a b x y : Nat}, rkBase a + x = rkBase b + y → x < cnt a 1 → b ≤ a ∨ a < b → ¬ a < b := by
    intro a b x y e hx _ hab
    have := rkBase_mono (a := a + 1) (b := b) hab
    simp only [rkBase] at this
    omega
  have n1 : ¬ n < n' := key (x := r) (y := r') (by omega) h2 (by omega)
  have n2 : ¬ n' < n := key (x := r') (y := r) (by omega) h4 (by omega)
  have e : n = n' := by omega
  subst e
  exact ⟨rfl, by omega⟩
theorem at_rank {rank n r : Nat} (h : AtR rank n r) : rankN (greedy n 1 r) = rank := by
  rw [rankN, greedy_len, (greedy_ok n 1 r h.2).2, h.1]
theorem at_tree {rank n r : Nat} (h : AtR rank n r) (hn : n ≤ 2000) : isTr (greedy n 1 r) = true := by
  simp only [isTr, Bool.and_eq_true, decide_eq_true_eq, beq_iff_eq]
  exact ⟨by rw [greedy_len]; exact hn, (greedy_ok n 1 r h.2).1⟩
def rowsN : Nat → List Nat
  | 0 => [1]
  | n + 1 => 0 :: (List.range (n + 1)).map fun o => min 1000000000001 ((rowsN n).getD o 0 + (rowsN n).getD (o + 2) 0)
theorem rows_len : ∀ n, (rowsN n).length = n + 1
  | 0 => rfl
  | n + 1 => by simp [rowsN]
theorem rows_cnt : ∀ n o, (rowsN n).getD o 0 = cnt n o
  | 0, 0 => rfl
  | 0, o + 1 => by simp [rowsN, cnt]
  | n + 1, 0 => by simp [rowsN, cnt]
  | n + 1, o + 1 => by
    by_cases h : o < n + 1
    · have e : (rowsN (n + 1)).getD (o + 1) 0 = min 1000000000001 ((rowsN n).getD o 0 + (rowsN n).getD (o + 2) 0) := by
        simp [rowsN, List.getD_eq_getElem?_getD, h]
      rw [e, rows_cnt n o, rows_cnt n (o + 2), cnt]
    · rw [cnt_lt (n + 1) (o + 1) (by omega), List.getD_eq_getElem?_getD, List.getElem?_eq_none (by rw [rows_len]; omega)]
      rfl
theorem row0 : rowsN 0 = [1] := rfl
theorem row1 : rowsN 1 = [0, 1] := by rw [rowsN, row0]; rfl
theorem row2 : rowsN 2 = [0, 0, 1] := by rw [rowsN, row1]; rfl
theorem row3 : rowsN 3 = [0, 1, 0, 1] := by rw [rowsN, row2]; rfl
theorem row4 : rowsN 4 = [0, 0, 2, 0, 1] := by rw [rowsN, row3]; rfl
theorem row5 : rowsN 5 = [0, 2, 0, 3, 0, 1] := by rw [rowsN, row4]; rfl
theorem row6 : rowsN 6 = [0, 0, 5, 0, 4, 0, 1] := by rw [rowsN, row5]; rfl
theorem row7 : rowsN 7 = [0, 5, 0, 9, 0, 5, 0, 1] := by rw [rowsN, row6]; rfl
theorem row8 : rowsN 8 = [0, 0, 14, 0, 14, 0, 6, 0, 1] := by rw [rowsN, row7]; rfl
theorem row9 : rowsN 9 = [0, 14, 0, 28, 0, 20, 0, 7, 0, 1] := by rw [rowsN, row8]; rfl
theorem row10 : rowsN 10 = [0, 0, 42, 0, 48, 0, 27, 0, 8, 0, 1] := by rw [rowsN, row9]; rfl
theorem row11 : rowsN 11 = [0, 42, 0, 90, 0, 75, 0, 35, 0, 9, 0, 1] := by rw [rowsN, row10]; rfl
theorem row12 : rowsN 12 = [0, 0, 132, 0, 165, 0, 110, 0, 44, 0, 10, 0, 1] := by rw [rowsN, row11]; rfl
theorem row13 : rowsN 13 = [0, 132, 0, 297, 0, 275, 0, 154, 0, 54, 0, 11, 0, 1] := by rw [rowsN, row12]; rfl
theorem row14 : rowsN 14 = [0, 0, 429, 0, 572, 0, 429, 0, 208, 0, 65, 0, 12, 0, 1] := by rw [rowsN, row13]; rfl
theorem row15 : rowsN 15 = [0, 429, 0, 1001, 0, 1001, 0, 637, 0, 273, 0, 77, 0, 13, 0, 1] := by rw [rowsN, row14]; rfl
theorem row16 : rowsN 16 = [0, 0, 1430, 0, 2002, 0, 1638, 0, 910, 0, 350, 0, 90, 0, 14, 0, 1] := by rw [rowsN, row15]; rfl
theorem row17 : rowsN 17 = [0, 1430, 0, 3432, 0, 3640, 0, 2548, 0, 1260, 0, 440, 0, 104, 0, 15, 0, 1] := by rw [rowsN, row16]; rfl
theorem row18 : rowsN 18 = [0, 0, 4862, 0, 7072, 0, 6188, 0, 3808, 0, 1700, 0, 544, 0, 119, 0, 16, 0, 1] := by rw [rowsN, row17]; rfl
theorem row19 : rowsN 19 = [0, 4862, 0, 11934, 0, 13260, 0, 9996, 0, 5508, 0, 2244, 0, 663, 0, 135, 0, 17, 0, 1] := by rw [rowsN, row18]; rfl
theorem row20 : rowsN 20 = [0, 0, 16796, 0, 25194, 0, 23256, 0, 15504, 0, 7752, 0, 2907, 0, 798, 0, 152, 0, 18, 0, 1] := by rw [rowsN, row19]; rfl
theorem row21 : rowsN 21 = [0, 16796, 0, 41990, 0, 48450, 0, 38760, 0, 23256, 0, 10659, 0, 3705, 0, 950, 0, 170, 0, 19, 0, 1] := by rw [rowsN, row20]; rfl
theorem row22 : rowsN 22 = [0, 0, 58786, 0, 90440, 0, 87210, 0, 62016, 0, 33915, 0, 14364, 0, 4655, 0, 1120, 0, 189, 0, 20, 0, 1] := by rw [rowsN, row21]; rfl
theorem row23 : rowsN 23 = [0, 58786, 0, 149226, 0, 177650, 0, 149226, 0, 95931, 0, 48279, 0, 19019, 0, 5775, 0, 1309, 0, 209, 0, 21, 0, 1] := by rw [rowsN, row22]; rfl
theorem row24 : rowsN 24 = [0, 0, 208012, 0, 326876, 0, 326876, 0, 245157, 0, 144210, 0, 67298, 0, 24794, 0, 7084, 0, 1518, 0, 230, 0, 22, 0, 1] := by rw [rowsN, row23]; rfl
theorem row25 : rowsN 25 = [0, 208012, 0, 534888, 0, 653752, 0, 572033, 0, 389367, 0, 211508, 0, 92092, 0, 31878, 0, 8602, 0, 1748, 0, 252, 0, 23, 0, 1] := by rw [rowsN, row24]; rfl
theorem base0 : rkBase 0 = 0 := rfl
theorem one0 : cnt 0 1 = 0 := by rw [← rows_cnt, row0]; rfl
theorem base1 : rkBase 1 = 0 := by rw [rkBase, base0, one0]
theorem one1 : cnt 1 1 = 1 := by rw [← rows_cnt, row1]; rfl
theorem base2 : rkBase 2 = 1 := by rw [rkBase, base1, one1]
theorem one2 : cnt 2 1 = 0 := by rw [← rows_cnt, row2]; rfl
theorem base3 : rkBase 3 = 1 := by rw [rkBase, base2, one2]
theorem one3 : cnt 3 1 = 1 := by rw [← rows_cnt, row3]; rfl
theorem base4 : rkBase 4 = 2 := by rw [rkBase, base3, one3]
theorem one4 : cnt 4 1 = 0 := by rw [← rows_cnt, row4]; rfl
theorem base5 : rkBase 5 = 2 := by rw [rkBase, base4, one4]
theorem one5 : cnt 5 1 = 2 := by rw [← rows_cnt, row5]; rfl
theorem base6 : rkBase 6 = 4 := by rw [rkBase, base5, one5]
theorem one6 : cnt 6 1 = 0 := by rw [← rows_cnt, row6]; rfl
theorem base7 : rkBase 7 = 4 := by rw [rkBase, base6, one6]
theorem one7 : cnt 7 1 = 5 := by rw [← rows_cnt, row7]; rfl
theorem base8 : rkBase 8 = 9 := by rw [rkBase, base7, one7]
theorem one8 : cnt 8 1 = 0 := by rw [← rows_cnt, row8]; rfl
theorem base9 : rkBase 9 = 9 := by rw [rkBase, base8, one8]
theorem one9 : cnt 9 1 = 14 := by rw [← rows_cnt, row9]; rfl
theorem base10 : rkBase 10 = 23 := by rw [rkBase, base9, one9]
theorem one10 : cnt 10 1 = 0 := by rw [← rows_cnt, row10]; rfl
theorem base11 : rkBase 11 = 23 := by rw [rkBase, base10, one10]
theorem one11 : cnt 11 1 = 42 := by rw [← rows_cnt, row11]; rfl
theorem base12 : rkBase 12 = 65 := by rw [rkBase, base11, one11]
theorem one12 : cnt 12 1 = 0 := by rw [← rows_cnt, row12]; rfl
theorem base13 : rkBase 13 = 65 := by rw [rkBase, base12, one12]
theorem one13 : cnt 13 1 = 132 := by rw [← rows_cnt, row13]; rfl
theorem base14 : rkBase 14 = 197 := by rw [rkBase, base13, one13]
theorem one14 : cnt 14 1 = 0 := by rw [← rows_cnt, row14]; rfl
theorem base15 : rkBase 15 = 197 := by rw [rkBase, base14, one14]
theorem one15 : cnt 15 1 = 429 := by rw [← rows_cnt, row15]; rfl
theorem base16 : rkBase 16 = 626 := by rw [rkBase, base15, one15]
theorem one16 : cnt 16 1 = 0 := by rw [← rows_cnt, row16]; rfl
theorem base17 : rkBase 17 = 626 := by rw [rkBase, base16, one16]
theorem one17 : cnt 17 1 = 1430 := by rw [← rows_cnt, row17]; rfl
theorem base18 : rkBase 18 = 2056 := by rw [rkBase, base17, one17]
theorem one18 : cnt 18 1 = 0 := by rw [← rows_cnt, row18]; rfl
theorem base19 : rkBase 19 = 2056 := by rw [rkBase, base18, one18]
theorem one19 : cnt 19 1 = 4862 := by rw [← rows_cnt, row19]; rfl
theorem base20 : rkBase 20 = 6918 := by rw [rkBase, base19, one19]
theorem one20 : cnt 20 1 = 0 := by rw [← rows_cnt, row20]; rfl
theorem base21 : rkBase 21 = 6918 := by rw [rkBase, base20, one20]
theorem one21 : cnt 21 1 = 16796 := by rw [← rows_cnt, row21]; rfl
theorem base22 : rkBase 22 = 23714 := by rw [rkBase, base21, one21]
theorem one22 : cnt 22 1 = 0 := by rw [← rows_cnt, row22]; rfl
theorem base23 : rkBase 23 = 23714 := by rw [rkBase, base22, one22]
theorem one23 : cnt 23 1 = 58786 := by rw [← rows_cnt, row23]; rfl
theorem base24 : rkBase 24 = 82500 := by rw [rkBase, base23, one23]
theorem one24 : cnt 24 1 = 0 := by rw [← rows_cnt, row24]; rfl
theorem base25 : rkBase 25 = 82500 := by rw [rkBase, base24, one24]
theorem one25 : cnt 25 1 = 208012 := by rw [← rows_cnt, row25]; rfl
theorem base26 : rkBase 26 = 290512 := by rw [rkBase, base25, one25]
end Go.Proofs.YtadmbphefpfbmaaGreatDoor
/- The trees of the tags, in plain Lean: the tree with each rank from 0 to 11. -/
namespace Go.Proofs.YtadmbphefpfbmaaGreatDoor
open Go.RowKit

/-- The tree with a rank up to 11. -/
def tagTr : Nat → Tr
  | 0 => .nil
  | 1 => .node .nil .nil
  | 2 => .node .nil (.node .nil .nil)
  | 3 => .node (.node .nil .nil) .nil
  | 4 => .node .nil (.node .nil (.node .nil .nil))
  | 5 => .node .nil (.node (.node .nil .nil) .nil)
  | 6 => .node (.node .nil .nil) (.node .nil .nil)
  | 7 => .node (.node .nil (.node .nil .nil)) .nil
  | 8 => .node (.node (.node .nil .nil) .nil) .nil
  | 9 => .node .nil (.node .nil (.node .nil (.node .nil .nil)))
  | 10 => .node .nil (.node .nil (.node (.node .nil .nil) .nil))
  | _ => .node .nil (.node (.node .nil .nil) (.node .nil .nil))
def tagN (k : Nat) : Nat := if k = 0 then 1 else if k = 1 then 3 else if k ≤ 3 then 5 else if k ≤ 8 then 7 else 9
def tagP (k : Nat) : Nat := if k = 0 then 0 else if k = 1 then 0 else if k ≤ 3 then k - 2 else if k ≤ 8 then k - 4 else k - 9
theorem tag_at (k : Nat) (h : k ≤ 11) : AtR k (tagN k) (tagP k) := by
  unfold AtR tagN tagP
  split
  · rw [base1, one1]; omega
  · split
    · rw [base3, one3]; omega
    · split
      · rw [base5, one5]; omega
      · split
        · rw [base7, one7]; omega
        · rw [base9, one9]; omega
theorem tag_bits (k : Nat) (h : k ≤ 11) : greedy (tagN k) 1 (tagP k) = (tagTr k).bits := by
  have hk : k = 0 ∨ k = 1 ∨ k = 2 ∨ k = 3 ∨ k = 4 ∨ k = 5 ∨ k = 6 ∨ k = 7 ∨ k = 8 ∨ k = 9 ∨ k = 10 ∨ k = 11 := by omega
  rcases hk with rfl | rfl | rfl | rfl | rfl | rfl | rfl | rfl | rfl | rfl | rfl | rfl <;> decide +kernel
theorem tag_nodes (k : Nat) : (tagTr k).nodes ≤ 9 := by
  unfold tagTr
  split <;> decide
theorem tagN_le (k : Nat) : tagN k ≤ 9 := by unfold tagN; split <;> (try split) <;> (try split) <;> (try split) <;> omega
def Tr.beq : Tr → Tr → Bool
  | .nil, .nil => true
  | .node a b, .node c d => a.beq c && b.beq d
  | _, _ => false
theorem Tr.beq_iff : ∀ a b : Tr, a.beq b = true ↔ a = b
  | .nil, .nil => by simp [Tr.beq]
  | .nil, .node _ _ => by simp [Tr.beq]
  | .node _ _, .nil => by simp [Tr.beq]
  | .node a b, .node c d => by simp [Tr.beq, Tr.beq_iff a c, Tr.beq_iff b d]
theorem tag_inj {j k : Nat} (hj : j ≤ 11) (hk : k ≤ 11) (h : tagTr j = tagTr k) : j = k := by
  have h1 := tag_at j hj
  have h2 := tag_at k hk
  have h3 := at_rank h1
  have h4 := at_rank h2
  rw [tag_bits j hj] at h3
  rw [tag_bits k hk] at h4
  rw [h] at h3
  omega
end Go.Proofs.YtadmbphefpfbmaaGreatDoor
/- The memo of the ranks: a map keyed by two numbers; every entry holds the count. -/
namespace Go.Proofs.YtadmbphefpfbmaaGreatDoor
open Go.RowKit
open Go.Maps (Keyed Tidy IsMap)
set_option linter.unusedVariables false
set_option linter.unusedSimpArgs false

theorem laidO : laidOutB Tryz.prog = true := by kernel_rfl
theorem rowEnd : (225 : TypeId) < Tryz.prog.types.size := of_decide_eq_true (by kernel_rfl)
theorem lawEnd : Keyed Tryz.prog 225 := Keyed.of_law (deep_law_laid laidO (m := 2) (by omega) rowEnd (by kernel_rfl) (by rw [Tryz.underlying225]))
theorem zeroI (w : World) : (zeroValue 2).run Tryz.prog w = .ok (.int .i64 0) w := by kernel_rfl
theorem endSize : Tryz.prog.cellsOf 225 = 2 := by kernel_rfl
theorem i64Size : Tryz.prog.cellsOf 2 = 1 := by kernel_rfl
theorem endKT : Tryz.prog.keyType 225 = true := by kernel_rfl
theorem szOne : ∃ m, Tryz.prog.types.size = m + 1 + 1 := ⟨Tryz.prog.types.size - 2, by have := rowEnd; have h2 : (1 : Nat) < Tryz.prog.types.size := of_decide_eq_true (by kernel_rfl); omega⟩
abbrev keyV (a o : Nat) : Value := .agg #[.int .i64 a, .int .i64 o]
def kOf (a o : Nat) : Lit := .string (keyBytes [.int .i64 a, .int .i64 o])
theorem wf_nat (a : Nat) (h : a ≤ 1000) : (Lit.int .i64 (a : Int)).wf = true := by
  simp [Lit.wf, IntKind.min, IntKind.max, IntKind.bits, IntKind.signed]; omega
theorem keyEnd (a o : Nat) (ha : a ≤ 1000) (ho : o ≤ 1000) : keyOf Tryz.prog 225 (keyV a o) = some (kOf a o) := by
  have wa := wf_nat a ha
  have wo := wf_nat o ho
  obtain ⟨m, hm⟩ := szOne
  unfold keyOf
  simp only [Tryz.underlying225]
  rw [if_pos (by simp [endKT, Value.formed, Tryz.underlying225, endSize]), hm]
  unfold Program.keyLits
  simp only [Tryz.underlying225, Value.cells]
  rw [if_pos (by simp [endSize])]
  simp [Program.keyLits, i64Size, Tryz.underlying2, wa, wo, kOf]
theorem kOf_inj {a o a' o' : Nat} (ha : a ≤ 1000) (ho : o ≤ 1000) (ha' : a' ≤ 1000) (ho' : o' ≤ 1000) (h : kOf a o = kOf a' o') : a = a' ∧ o = o' := by
  have h1 := lawEnd.inj (keyEnd a o ha ho) (h ▸ keyEnd a' o' ha' ho')
  simp at h1
  omega
theorem kOf_key (a o : Nat) (ha : a ≤ 1000) (ho : o ≤ 1000) : WideAt.IsKeyLit (kOf a o) := lawEnd.key (keyEnd a o ha ho)

def MemoE (es : List (Lit × DataW Unit)) : Prop := ∀ p ∈ es, ∃ a o : Nat, a ≤ 62 ∧ o ≤ 62 ∧ p = (kOf a o, .lit (.int .i64 (cnt a o)))
def MemoOk (w : World) (B : Nat) : Prop := ∃ es : List (Lit × DataW Unit), w.ownsMap Tryz.prog 225 (plainElem Tryz.prog 2) B es.length (.map es) ∧ MemoE es ∧ es.length ≤ 3969

theorem nodup_le {α : Type} : ∀ (l L : List α), l.Pairwise (· ≠ ·) → (∀ x ∈ l, x ∈ L) → l.length ≤ L.length := by
  classical
  intro l
  induction l with
  | nil => intro L _ _; simp
  | cons x r ih =>
    intro L hp hs
    obtain ⟨h1, h2⟩ := List.pairwise_cons.1 hp
    have hx : x ∈ L := hs x (by simp)
    have h3 : ∀ y ∈ r, y ∈ L.erase x := fun y hy => (List.mem_erase_of_ne (h1 y hy).symm).2 (hs y (by simp [hy]))
    have h4 := ih (L.erase x) h2 h3
    rw [List.length_erase_of_mem hx] at h4
    have : 0 < L.length := List.length_pos_of_mem hx
    simp only [List.length_cons]
    omega
theorem memo_len {es : List (Lit × DataW Unit)} (h : MemoE es) (ht : Tidy (.map es)) : es.length ≤ 3969 := by
  obtain ⟨es', e, hp⟩ := ht
  injection e with e
  subst e
  have hp' : (es.map (·.1)).Pairwise (· ≠ ·) := List.pairwise_map.2 hp
  have h1 := nodup_le (es.map (·.1)) ((List.range 63).flatMap fun a => (List.range 63).map fun o => kOf a o) hp' (by
    intro x hx
    obtain ⟨p, hp, rfl⟩ := List.mem_map.1 hx
    obtain ⟨a, o, ha, ho, rfl⟩ := h p hp
    exact List.mem_flatMap.2 ⟨a, List.mem_range.2 (by omega), List.mem_map.2 ⟨o, List.mem_range.2 (by omega), rfl⟩⟩)
  have h2 : ((List.range 63).flatMap fun a => (List.range 63).map fun o => kOf a o).length = 3969 := by
    rw [List.length_flatMap]
    simp only [List.length_map, List.length_range]
    decide +kernel
  rw [h2] at h1
  simpa using h1
theorem own_tight {H : Type} {w : World} {P : Program} {k : TypeId} {R : Value → Option (DataW H × List MemPlace)} {b n : Nat} {es : List (Lit × DataW H)} (h : w.ownsMap P k R b n (.map es)) : w.ownsMap P k R b es.length (.map es) := by
  obtain ⟨es0, clock, h1, F, h2, h3⟩ := h
  refine ⟨es0, clock, h1, F, ?_, h3⟩
  injection h3 with h3
  rw [h3, length_sorted]
  simp
theorem memo_first (w : World) : MemoOk (w.alloc (.map #[] 0)) w.heap.size := ⟨[], World.ownsMap_made _ _ _ _, fun p hp => by simp at hp, by simp⟩
theorem MemoOk.kept {w w' : World} {B : Nat} (h : MemoOk w B) {row : Option Nat} (hg : w.grownBy w' row) (hne : some B ≠ row) : MemoOk w' B := by
  obtain ⟨es, h1, h2, h3⟩ := h
  exact ⟨es, h1.kept hg hne, h2, h3⟩
/-- What a look-up finds. -/
theorem memo_get {es : List (Lit × DataW Unit)} (h : MemoE es) {a o : Nat} (ha : a ≤ 62) (ho : o ≤ 62) (hh : Maps.has (.map es) (kOf a o) = true) {c : Int} (hc : (DataW.map es).atKey (kOf a o) (.lit (.int .i64 0)) = .lit (.int .i64 c)) : c = cnt a o := by
  have hh' : es.any (fun p => p.1.sameKey (kOf a o)) = true := hh
  cases hf : es.find? (fun p => p.1.sameKey (kOf a o)) with
  | none =>
    rw [List.find?_eq_none] at hf
    obtain ⟨p, hp, hq⟩ := List.any_eq_true.1 hh'
    exact absurd hq (hf p hp)
  | some p =>
    simp only [DataW.atKey, hf] at hc
    have hp := List.mem_of_find?_eq_some hf
    have hs := List.find?_some hf
    obtain ⟨a', o', ha', ho', rfl⟩ := h p hp
    have e := WideAt.sameKey_eq hs
    obtain ⟨rfl, rfl⟩ := kOf_inj (by omega) (by omega) (by omega) (by omega) e
    simp at hc
    omega
theorem memo_put {es : List (Lit × DataW Unit)} (h : MemoE es) {a o : Nat} (ha : a ≤ 62) (ho : o ≤ 62) : MemoE (DataW.insert (kOf a o, .lit (.int .i64 (cnt a o))) (es.filter fun p => !p.1.sameKey (kOf a o))) := by
  intro p hp
  rcases ChangeMaps.mem_insert_iff.1 hp with rfl | hp
  · exact ⟨a, o, ha, ho, rfl⟩
  · exact h p (List.mem_filter.1 hp).1
theorem MemoOk.put {w : World} {B n a o : Nat} {es : List (Lit × DataW Unit)} (h : w.ownsMap Tryz.prog 225 (plainElem Tryz.prog 2) B n ((DataW.map es).put (kOf a o) (.lit (.int .i64 (cnt a o))))) (hm : MemoE es) (ha : a ≤ 62) (ho : o ≤ 62) : MemoOk w B := by
  have hE := memo_put hm ha ho
  have h' : w.ownsMap Tryz.prog 225 (plainElem Tryz.prog 2) B n (.map (DataW.insert (kOf a o, .lit (.int .i64 (cnt a o))) (es.filter fun p => !p.1.sameKey (kOf a o)))) := h
  exact ⟨_, own_tight h', hE, memo_len hE (h'.tidy lawEnd)⟩
end Go.Proofs.YtadmbphefpfbmaaGreatDoor
/- The program's count with its memo. -/
namespace Go.Proofs.YtadmbphefpfbmaaGreatDoor
open Go.RowKit
open Go.Maps (Keyed Tidy IsMap)
set_option linter.unusedVariables false
set_option linter.unusedSimpArgs false

def CPost (w : World) (B : Nat) (n : Nat) (e : Ending) (w' : World) : Prop := e = .returned (.int .i64 n) ∧ MemoOk w' B ∧ Ch (· = B) w w'
theorem MemoOk.lt {w : World} {B : Nat} (h : MemoOk w B) : B < w.heap.size := by
  obtain ⟨es, h1, _⟩ := h
  exact h1.lt
theorem MemoOk.alloc {w : World} {B : Nat} (h : MemoOk w B) (o : Obj) : MemoOk (w.alloc o) B := h.kept (World.grownBy_alloc w o none) (by simp)
theorem min_small {c1 c2 : Nat} (h : c1 + c2 ≤ 1000000000001) : min 1000000000001 (c1 + c2) = c1 + c2 := Nat.min_eq_right h
theorem min_big {c1 c2 : Nat} (h : 1000000000001 ≤ c1 + c2) : min 1000000000001 (c1 + c2) = 1000000000001 := Nat.min_eq_left h
theorem cell_new2 (w : World) (v : Value) (T : Nat) (hT : v.cells = #[.int .i64 0, .int .i64 0]) : True := trivial
set_option maxHeartbeats 4000000 in
set_option maxRecDepth 100000 in
theorem count_at : ∀ (m a o : Nat), a ≤ m → a + o ≤ 62 → ∀ (x y : Int), x = (a : Int) → y = (o : Int) → ∀ (w : World) (B : Nat), MemoOk w B → Calls Tryz.prog 148 #[.map (some B), .int .i64 x, .int .i64 y] w (CPost w B (cnt a o)) := by
  intro m
  induction m with
  | zero =>
    rintro a o ha hao x y rfl rfl w B hm
    obtain rfl : a = 0 := by omega
    rcases Nat.eq_zero_or_pos o with rfl | ho
    · go_enter Tryz.func148, Tryz.ntmps148
      go_wp2_with fail
      go_ret
      exact ⟨rfl, hm, Ch.refl _ _⟩
    · have HZ := Lib.hid (cnt_lt 0 o ho)
      have b1 : ((o : Int) == 0) = false := by simp; omega
      have b2 : decide ((0 : Int) < (o : Int)) = true := by simp; omega
      have b3 : ((o : Int) = 0) = False := by simp; omega
      go_enter Tryz.func148, Tryz.ntmps148
      go_wp2_with fail
      go_ret
      exact ⟨by rw [HZ.out]; rfl, hm, Ch.refl _ _⟩
  | succ m ih =>
    rintro a o ha hao x y rfl rfl w B hm
    have HM := Lib.hid hm
    have HI := Lib.hid ih
    clear ih
    rcases Nat.eq_zero_or_pos a with rfl | hap
    · exact (HI.out 0 o (by omega) hao _ _ rfl rfl w B hm)
    rcases Nat.eq_zero_or_pos o with rfl | ho
    · have HZ := Lib.hid (cnt_zero a hap)
      have b1 : ((a : Int) == 0) = false := by simp; omega
      go_enter Tryz.func148, Tryz.ntmps148
      go_wp2_with fail
      go_ret
      exact ⟨by rw [HZ.out]; rfl, hm, Ch.refl _ _⟩
    by_cases hlt : a < o
    · have HZ := Lib.hid (cnt_lt a o hlt)
      have b1 : ((o : Int) == 0) = false := by simp; omega
      have b2 : ((a : Int) == 0) = false := by simp; omega
      go_enter Tryz.func148, Tryz.ntmps148
      go_wp2_with fail
      go_ret
      exact ⟨by rw [HZ.out]; rfl, hm, Ch.refl _ _⟩
    · have HS := Lib.hid (cnt_step a o ho hap)
      have b1 : ((o : Int) == 0) = false := by simp; omega
      have b2 : decide ((a : Int) < (o : Int)) = false := by simp; omega
      have hBl := hm.lt
      obtain ⟨es, hown, hme, hel⟩ := hm
      have hx1 := box_new w #[.int .i64 (a : Int), .int .i64 (o : Int)] 225
      have q0 := blk_cell hx1 0 rfl
      have q1 := blk_cell hx1 1 rfl
      have hown1 := hown.alloc (.cells #[.int .i64 (a : Int), .int .i64 (o : Int)] 225)
      have HE := Lib.hid hme
      have HO := Lib.hid hown
      have HX1 := Lib.hid hx1
      clear hme hown hx1
      have HK := Lib.hid (keyEnd a o (by omega) (by omega))
      go_enter Tryz.func148, Tryz.ntmps148
      cases hh : Maps.has (.map es : DataW Unit) (kOf a o) with
      | true =>
        have HH := Lib.hid hh
        clear hh
        go_wp2_with (at_lookup; go_must (refine wpList_lookup_own_ok_int _ rfl _ _ 184 rfl 225 2 .i64 lawEnd Tryz.underlying184 Tryz.underlying2 (zeroI _) B _ _ rfl (by exact hown1) _ _ rfl (by exact HK.out) ?_; rw [HH.out]; intro cc hat hwc; have HA := Lib.hid hat; clear hat hwc))
        go_ret
        exact ⟨by rw [memo_get HE.out (by omega) (by omega) HH.out HA.out]; rfl, HM.out.alloc _, ch_alloc _ _ _⟩
      | false =>
        have HH := Lib.hid hh
        clear hh
        go_wp2_with (at_lookup; go_must (refine wpList_lookup_own_ok_int _ rfl _ _ 184 rfl 225 2 .i64 lawEnd Tryz.underlying184 Tryz.underlying2 (zeroI _) B _ _ rfl (by exact hown1) _ _ rfl (by exact HK.out) ?_; rw [HH.out]; intro cc hat hwc; clear hat hwc))
        have hle1 := cnt_le (a - 1) (o - 1)
        have hle2 := cnt_le (a - 1) (o + 1)
        refine (HI.out (a - 1) (o - 1) (by omega) (by omega) _ _ (by omega) (by omega) _ B (HM.out.alloc _)).mono ?_
        rintro e w2 ⟨rfl, hm2, hc2⟩
        have HX2 := Lib.hid (blk_ch HX1.out hc2 (by omega))
        have HM2 := Lib.hid hm2
        have HC2 := Lib.hid ((ch_alloc (· = B) w _).trans hc2)
        clear hm2 hc2 hown1
        generalize cnt (a - 1) (o - 1) = c1 at *
        go_wp2_with fail
        refine (HI.out (a - 1) (o + 1) (by omega) (by omega) _ _ (by omega) (by omega) _ B HM2.out).mono ?_
        rintro e w3 ⟨rfl, hm3, hc3⟩
        generalize cnt (a - 1) (o + 1) = c2 at *
        have hx3 := blk_ch HX2.out hc3 (by omega)
        have HC3 := Lib.hid (HC2.out.trans hc3)
        obtain ⟨es3, hown3, hme3, hel3⟩ := hm3
        have q0 := blk_cell hx3 0 rfl
        have q1 := blk_cell hx3 1 rfl
        have HE3 := Lib.hid hme3
        clear hme3 hc3 hx3
        by_cases hbig : c1 + c2 < 1000000000001
        · have hv1 : (c1 : Int) + (c2 : Int) < 1000000000001 := by omega
          have HV : Hid (((cnt a o : Nat) : Int) = (c1 : Int) + (c2 : Int)) := Lib.hid (by rw [HS.out, Nat.min_eq_right (by omega)]; omega)
          go_wp2_with (at_mapUpdate; go_must (refine wpList_mapUpdate_own _ rfl _ _ _ 184 rfl 225 2 lawEnd Tryz.underlying184 _ B es3.length (.map es3) rfl (by exact hown3) (by unfold maxLen; omega) _ _ (kOf a o) rfl rfl HK.out (.lit (.int .i64 (cnt a o))) [] (by rw [HV.out]; exact plainElem_int Tryz.underlying2 (by simp [Lit.wf, IntKind.min, IntKind.max, IntKind.bits, IntKind.signed]; omega)) ?_); intro w4 hown4 hg4)
          go_ret
          exact ⟨by rw [HV.out]; rfl, MemoOk.put hown4 HE3.out (by omega) (by omega), HC3.out.trans (ch_grown hg4 (by intro k hk; cases hk; rfl))⟩
        · have hv1 : 1000000000001 ≤ (c1 : Int) + (c2 : Int) := by omega
          have HV : Hid (((cnt a o : Nat) : Int) = 1000000000001) := Lib.hid (by rw [HS.out, Nat.min_eq_left (by omega)]; rfl)
          go_wp2_with (at_mapUpdate; go_must (refine wpList_mapUpdate_own _ rfl _ _ _ 184 rfl 225 2 lawEnd Tryz.underlying184 _ B es3.length (.map es3) rfl (by exact hown3) (by unfold maxLen; omega) _ _ (kOf a o) rfl rfl HK.out (.lit (.int .i64 (cnt a o))) [] (by rw [HV.out]; exact plainElem_int Tryz.underlying2 (by decide)) ?_); intro w4 hown4 hg4)
          go_ret
          exact ⟨by rw [HV.out]; rfl, MemoOk.put hown4 HE3.out (by omega) (by omega), HC3.out.trans (ch_grown hg4 (by intro k hk; cases hk; rfl))⟩
theorem count_any (w : World) (B : Nat) (h : MemoOk w B) (a o : Nat) (hao : a + o ≤ 62) (x y : Int) (hx : x = (a : Int)) (hy : y = (o : Int)) : Calls Tryz.prog 148 #[.map (some B), .int .i64 x, .int .i64 y] w (CPost w B (cnt a o)) :=
  count_at a a o (Nat.le_refl _) hao x y hx hy w B h
end Go.Proofs.YtadmbphefpfbmaaGreatDoor
/- The reference's table of ways: rows of rows of the call's own, each row known whole. -/
namespace Go.Proofs.YtadmbphefpfbmaaGreatDoor
open Go.RowKit
set_option linter.unusedVariables false
set_option linter.unusedSimpArgs false

def wrow (t : Nat → Nat → Nat) (r : Nat) : Array Value := ((List.range 91).map fun c => Value.int .i64 ((t r c : Nat) : Int)).toArray
theorem wrow_get (t : Nat → Nat → Nat) (r c : Nat) (hc : c < 91) : (wrow t r)[c]? = some (.int .i64 (t r c)) := by
  simp [wrow, hc]
theorem wrow_size (t : Nat → Nat → Nat) (r : Nat) : (wrow t r).size = 91 := by simp [wrow]
theorem wrow_set (t t' : Nat → Nat → Nat) (r c v : Nat) (h : ∀ j, j < 91 → t' r j = if j = c then v else t r j) : (wrow t r).setIfInBounds c (.int .i64 (v : Int)) = wrow t' r := by
  apply Array.ext
  · simp [wrow_size]
  · intro j h1 h2
    have hj : j < 91 := by simpa [wrow_size] using h2
    rw [Array.getElem_setIfInBounds]
    · have e := h j hj
      split
      · rename_i hcj
        subst hcj
        simp [wrow, e]
      · rename_i hcj
        rw [if_neg (fun h => hcj h.symm)] at e
        simp [wrow, e]
    · simpa [wrow_size] using hj
theorem wrow_same (t t' : Nat → Nat → Nat) (r : Nat) (h : ∀ j, j < 91 → t' r j = t r j) : wrow t r = wrow t' r := by
  unfold wrow
  congr 1
  apply List.map_congr_left
  intro c hc
  rw [h c (List.mem_range.1 hc)]
def wouter (g : Nat → Nat) (m : Nat) : List Value := (List.range m).map fun r => Value.slice (some ⟨g r, 0, none⟩) 91 91
/-- The table: m rows of 91 numbers, each in a block of its own. -/
def WT (w : World) (base : Nat) (V : Value) (m : Nat) (g : Nat → Nat) (t : Nat → Nat → Nat) : Prop :=
  w.ownsRow base 129 1 V m (wouter g m) ∧ (∀ r, r < m → base ≤ g r ∧ w.heap[g r]? = some (.cells (wrow t r) 2 (0, 0))) ∧ ∀ r s, r < m → s < m → g r = g s → r = s
theorem WT.nil (w : World) (base : Nat) (t : Nat → Nat → Nat) : WT w base (.slice none 0 0) 0 (fun _ => 0) t := ⟨own_nil _ _ _, fun r h => by omega, fun r s h => by omega⟩
theorem WT.below {w w' : World} {base : Nat} {V : Value} {m : Nat} {g : Nat → Nat} {t : Nat → Nat → Nat} (h : WT w base V m g t) (hb : Below w.heap.size w w') : WT w' base V m g t := by
  obtain ⟨h1, h2, h3⟩ := h
  obtain ⟨A, c, rfl, _⟩ := own_form h1
  exact ⟨own_below h1 hb (Nat.le_refl _), fun r hr => ⟨(h2 r hr).1, blk_bel (h2 r hr).2 hb⟩, h3⟩
/-- A new row behind the others. -/
theorem WT.push {w w' : World} {base m c' : Nat} {V : Value} {B : Option Addr} {g : Nat → Nat} {t : Nat → Nat → Nat} (h : WT w base V m g t) (x : Nat) (hx : base ≤ x) (hxr : w.heap[x]? = some (.cells (wrow t m) 2 (0, 0))) (hfr : ∀ r, r < m → g r ≠ x)
    (ho : w'.ownsRow base 129 1 (.slice B (m + 1) c') (m + 1) (wouter g m ++ [.slice (some ⟨x, 0, none⟩) 91 91])) (hg : w.grownBy w' V.ownBlock) : WT w' base (.slice B (m + 1) c') (m + 1) (fun r => if r = m then x else g r) t := by
  obtain ⟨h1, h2, h3⟩ := h
  have hne : ∀ (k : Nat) (cs : Array Value), w.heap[k]? = some (.cells cs 2 (0, 0)) → w'.heap[k]? = some (.cells cs 2 (0, 0)) := by
    intro k cs hk
    rw [hg.block k (blk_lt hk) (fun e => ?_)]
    · exact hk
    · rcases h1.2 with ⟨rfl, _⟩ | ⟨q, cap, cur, rfl, _, hq, _⟩
      · simp [Value.ownBlock] at e
      · simp [Value.ownBlock] at e
        subst e
        exact blk_ne hk hq (by decide) rfl
  refine ⟨?_, ?_, ?_⟩
  · have e : wouter (fun r => if r = m then x else g r) (m + 1) = wouter g m ++ [.slice (some ⟨x, 0, none⟩) 91 91] := by
      simp only [wouter, List.range_succ, List.map_append, List.map_cons, List.map_nil, if_pos]
      congr 1
      apply List.map_congr_left
      intro r hr
      rw [if_neg (by have := List.mem_range.1 hr; omega)]
    rw [e]
    exact ho
  · intro r hr
    by_cases e : r = m
    · subst e
      simp only [if_pos]
      exact ⟨hx, hne _ _ hxr⟩
    · simp only [if_neg e]
      obtain ⟨a, b⟩ := h2 r (by omega)
      exact ⟨a, hne _ _ b⟩
  · intro r s hr hs e
    by_cases er : r = m <;> by_cases es : s = m
    · omega
    · simp only [if_pos er, if_neg es] at e
      exact absurd e.symm (hfr s (by omega))
    · simp only [if_neg er, if_pos es] at e
      exact absurd e (hfr r (by omega))
    · simp only [if_neg er, if_neg es] at e
      exact h3 r s (by omega) (by omega) e
theorem WT.outer {w : World} {base m c : Nat} {A : Option Addr} {g : Nat → Nat} {t : Nat → Nat → Nat} (h : WT w base (.slice A m c) m g t) : ∃ G, (0 < m → A = some ⟨G, 0, none⟩ ∧ G < w.heap.size) ∧ ∀ r, r < m → w.cell? ⟨G, r, none⟩ = some (.slice (some ⟨g r, 0, none⟩) 91 91) := by
  rcases h.1.2 with ⟨h', h0⟩ | ⟨G, cap, cur, h', _⟩
  · exact ⟨0, fun hm => by omega, fun r hr => by omega⟩
  · injection h' with h1 h2 h3
    subst h1
    refine ⟨G, fun hm => ⟨rfl, ?_⟩, fun r hr => ?_⟩
    · obtain ⟨g', e, _, hlt, _⟩ := own_get h.1 (k := 0) (u := .slice (some ⟨g 0, 0, none⟩) 91 91) (by simp [wouter, hm])
      injection e with e
      injection e with e
      omega
    · obtain ⟨g', e, _, _, hc, _⟩ := own_get h.1 (k := r) (u := .slice (some ⟨g r, 0, none⟩) 91 91) (by simp [wouter, hr])
      injection e with e
      injection e with e
      subst e
      exact hc
theorem WT.cell {w : World} {base m r c : Nat} {V : Value} {g : Nat → Nat} {t : Nat → Nat → Nat} (h : WT w base V m g t) (hr : r < m) (hc : c < 91) : w.cell? ⟨g r, c, none⟩ = some (.int .i64 (t r c)) :=
  blk_cell (h.2.1 r hr).2 c (wrow_get t r c hc)
theorem WT.put {w : World} {base m r c v : Nat} {V : Value} {g : Nat → Nat} {t t' : Nat → Nat → Nat} (h : WT w base V m g t) (hr : r < m) (ht : ∀ r', r' < m → ∀ c', c' < 91 → t' r' c' = if r' = r ∧ c' = c then v else t r' c') : WT (w.setCell ⟨g r, c, none⟩ (.int .i64 (v : Int))) base V m g t' := by
  obtain ⟨h1, h2, h3⟩ := h
  refine ⟨own_set_far h1 (h2 r hr).2 (by decide), ?_, h3⟩
  intro s hs
  obtain ⟨a, b⟩ := h2 s hs
  refine ⟨a, ?_⟩
  by_cases e : s = r
  · subst e
    rw [← wrow_set t t' s c v (fun j hj => by rw [ht s hs j hj]; by_cases e : j = c <;> simp [e])]
    exact blk_set b c _
  · rw [← wrow_same t t' s (fun j hj => by rw [ht s hs j hj, if_neg (by omega)])]
    exact blk_far b (fun e1 => e (h3 s r hs hr e1))
/-- The table in the making. -/
def tt (n k r c : Nat) : Nat := if r = 90 then 0 else if c < n ∨ (c = n ∧ r < k) then cnt c r else 0
theorem tt_zero (r c : Nat) : (if r = 0 ∧ c = 0 then 1 else 0) = tt 1 1 r c := by
  unfold tt
  rcases c with _ | _ | c
  · rcases r with _ | r <;> simp [cnt]
  · rcases r with _ | r <;> simp [cnt]
  · simp
theorem tt_step {n k : Nat} (h1 : 1 ≤ n) (h2 : n ≤ 90) (h3 : 1 ≤ k) (h4 : k < 90) : min 1000000000001 (tt n k (k - 1) (n - 1) + tt n k (k + 1) (n - 1)) = cnt n k := by
  have e : tt n k (k + 1) (n - 1) = cnt (n - 1) (k + 1) := by
    unfold tt
    split
    · exact (cnt_lt _ _ (by omega)).symm
    · rw [if_pos (by omega)]
  rw [e, cnt_step n k h3 h1]
  unfold tt
  rw [if_neg (by omega), if_pos (by omega)]
theorem tt_put {n k : Nat} (h4 : k < 90) (r c : Nat) : tt n (k + 1) r c = if r = k ∧ c = n then cnt n k else tt n k r c := by
  unfold tt
  by_cases h : r = k ∧ c = n
  · obtain ⟨rfl, rfl⟩ := h
    rw [if_neg (by omega), if_pos (by omega)]
    simp
  · rw [if_neg h]
    split
    · rfl
    · by_cases hq : c < n ∨ (c = n ∧ r < k)
      · rw [if_pos hq, if_pos (by omega)]
      · rw [if_neg hq, if_neg (by omega)]
theorem tt_next {n : Nat} (r c : Nat) (hr : r < 91) : tt (n + 1) 1 r c = tt n 90 r c := by
  unfold tt
  split
  · rfl
  · by_cases hq : c < n ∨ (c = n ∧ r < 90)
    · rw [if_pos hq, if_pos (by omega)]
    · rw [if_neg hq]
      split
      · rename_i h
        have h1 : c = n + 1 := by omega
        have h2 : r = 0 := by omega
        subst h1 h2
        rfl
      · rfl
theorem tt_end (r c : Nat) (hr : r < 90) (hc : c < 91) : tt 91 1 r c = cnt c r := by
  unfold tt
  rw [if_neg (by omega), if_pos (by omega)]
end Go.Proofs.YtadmbphefpfbmaaGreatDoor
/- The reference's table of ways: the walk. -/
namespace Go.Proofs.YtadmbphefpfbmaaGreatDoor
open Go.RowKit
set_option linter.unusedVariables false
set_option linter.unusedSimpArgs false

theorem infoWI : (Tryz.prog.info? 2).map (fun i => (i.zero, i.size, i.bytes)) = some (some (.int .i64 0), 1, 8) := by kernel_rfl
theorem eltWI : Elt Tryz.prog 129 2 (.int .i64 0) := Elt.mk_ Tryz.underlying129 infoWI rfl (by decide)
theorem infoWS : (Tryz.prog.info? 129).map (fun i => (i.zero, i.size, i.bytes)) = some (some (.slice none 0 0), 1, 24) := by kernel_rfl
theorem eltWS : Elt Tryz.prog 222 129 (.slice none 0 0) := Elt.mk_ Tryz.underlying222 infoWS rfl (by decide)

set_option maxHeartbeats 400000 in
theorem l00Min_any (w : World) (a b : Int) : Calls Tryz.prog 214 #[.int .i64 a, .int .i64 b] w fun e w' => e = .returned (.int .i64 (min a b)) ∧ w = w' := by
  by_cases h : a < b
  · have HM : Hid (min a b = a) := Lib.hid (by omega)
    go_enter Tryz.func214, Tryz.ntmps214
    go_wp2_with fail
    go_ret
    exact ⟨by rw [HM.out]; rfl, rfl⟩
  · have HM : Hid (min a b = b) := Lib.hid (by omega)
    go_enter Tryz.func214, Tryz.ntmps214
    go_wp2_with fail
    go_ret
    exact ⟨by rw [HM.out]; rfl, rfl⟩
theorem own_full {w : World} {base e n g : Nat} {vs : List Value} (h : w.ownsRow base e 1 (.slice (some ⟨g, 0, none⟩) n n) n vs) : w.heap[g]? = some (.cells vs.toArray e (0, 0)) := by
  rcases h.2 with ⟨h', _⟩ | ⟨g', cap, cur, h', hb, hg, hnc, hcm, hcs, htake⟩
  · simp at h'
  · injection h' with h1 h2 h3
    injection h1 with h1
    injection h1 with h1
    subst h1 h3
    have e1 : cur.toList = vs := by
      rw [← htake, List.take_of_length_le]
      exact Nat.le_of_eq (by simpa using hcs)
    rw [hg, ← e1]
def WPost (w : World) (e : Ending) (w' : World) : Prop := ∃ (A : Option Addr) (c : Nat) (g : Nat → Nat) (t : Nat → Nat → Nat), e = .returned (.slice A 91 c) ∧ WT w' w.heap.size (.slice A 91 c) 91 g t ∧ (∀ r c, r < 90 → c < 91 → t r c = cnt c r) ∧ Below w.heap.size w w'
theorem wrow0 (r : Nat) : (List.replicate 91 (Value.int .i64 0)).toArray = wrow (fun _ _ => 0) r := by
  unfold wrow
  apply congrArg List.toArray
  symm
  rw [List.eq_replicate_iff]
  exact ⟨by simp, fun b hb => by obtain ⟨c, _, rfl⟩ := List.mem_map.1 hb; rfl⟩
theorem tt_le (n k r c : Nat) : tt n k r c ≤ 1000000000001 := by
  unfold tt
  split
  · omega
  · split
    · exact cnt_le _ _
    · omega
set_option maxHeartbeats 8000000 in
set_option maxRecDepth 100000 in
theorem l21Ways_any (w : World) : Calls Tryz.prog 179 #[] w (WPost w) := by
  have hlit := own_lit w #[] 0 129 rfl (by omega)
  go_enter Tryz.func179, Tryz.ntmps179
  go_wp2_with fail
  go_loopw [1, 2] (fun v i wr => ∃ (k : Nat) (A : Option Addr) (c : Nat) (g : Nat → Nat), k ≤ 91 ∧ v = .slice A k c ∧ i = .int .i64 k ∧ WT wr w.heap.size (.slice A k c) k g (fun _ _ => 0) ∧ Below w.heap.size w wr) (fun _ i _ => 91 - (intOf i).toNat)
  case atStart => exact ⟨0, _, _, fun _ => 0, by omega, rfl, rfl, ⟨hlit, fun r h => by omega, fun r s h => by omega⟩, below_new _ _⟩
  case round =>
    obtain ⟨k, A, c, g, hk, rfl, rfl, hT, hb⟩ := hrel
    clear hlit
    by_cases h : k < 91
    · have hlt : (k : Int) ≤ 90 := by omega
      have HT := Lib.hid hT
      clear hT
      go_wp2_with (first
        | (at_make; go_must (refine wpList_mk eltWI rfl _ _ rfl _ _ _ 91 (by rfl) (by rfl) (by rfl) (by rfl) (by omega) ?_); rintro w1 hown1 hb1 hs1; have HO1 := Lib.hid hown1; clear hown1)
        | (at_builtin; go_must (refine wpList_app1g eltWS rfl _ _ rfl w1 w.heap.size _ k _ (by rfl) (HT.out.below hb1).1 _ (by rfl) (by rfl) (by have := hb.size; have := hb1.size; omega) (by omega) ?_; rintro A2 c2 w2 ho2 hb2 hg2)))
      have hrow := own_full HO1.out
      rw [wrow0 k] at hrow
      have hP := (HT.out.below hb1).push wr.heap.size hb.size hrow (fun r hr => by have := blk_lt (HT.out.2.1 r hr).2; omega) ho2 hg2
      go_roundw
      case rel => exact ⟨k + 1, A2, c2, _, by omega, rfl, by go_num, hP, hb.trans (hb1.mono hb.size) |>.trans hb2⟩
      case measure => simp [intOf]; omega
    · obtain rfl : k = 91 := by omega
      obtain ⟨G, hA, hG⟩ := hT.outer
      obtain ⟨rfl, hGl⟩ := hA (by omega)
      have q0 := hG 0 (by omega)
      have f0 := blk_free (hT.2.1 0 (by omega)).2 0
      have c0 := hT.cell (r := 0) (c := 0) (by omega) (by omega)
      have hZ := hT.put (r := 0) (c := 0) (v := 1) (t' := tt 1 1) (by omega) (fun r' _ c' _ => by rw [← tt_zero])
      have HZ := Lib.hid hZ
      have hgb := (hT.2.1 0 (by omega)).1
      have HB := Lib.hid (hb.setCell (p := ⟨g 0, 0, none⟩) hgb (.int .i64 1))
      clear hT hZ hG
      go_wp2_with fail
      clear q0 f0 c0
      go_loopw [4] (fun q wr => ∃ n : Nat, 1 ≤ n ∧ n ≤ 91 ∧ q = .int .i64 n ∧ WT wr w.heap.size (.slice (some ⟨G, 0, none⟩) 91 c) 91 g (tt n 1) ∧ Below w.heap.size w wr) (fun q _ => 91 - (intOf q).toNat)
      case atStart => exact ⟨1, by omega, by omega, rfl, HZ.out, HB.out⟩
      case round =>
        obtain ⟨n, hn1, hn2, rfl, hT, hb2⟩ := hrel
        by_cases h : n < 91
        · have hlt : (n : Int) ≤ 90 := by omega
          go_wp2_with fail
          go_loopw [5] (fun q wr => ∃ k : Nat, 1 ≤ k ∧ k ≤ 90 ∧ q = .int .i64 k ∧ WT wr w.heap.size (.slice (some ⟨G, 0, none⟩) 91 c) 91 g (tt n k) ∧ Below w.heap.size w wr) (fun q _ => 90 - (intOf q).toNat)
          case atStart => exact ⟨1, by omega, by omega, rfl, hT, hb2⟩
          case round =>
            clear hT hb2
            obtain ⟨k, hk1, hk2, rfl, hT, hb2⟩ := hrel
            by_cases hk : k < 90
            · have hkl : (k : Int) < 90 := by omega
              obtain ⟨G', hA', hG'⟩ := hT.outer
              obtain ⟨e', _⟩ := hA' (by omega)
              obtain rfl : G = G' := by simpa using e'
              have q1 := hG' (k - 1) (by omega)
              have q2 := hG' (k + 1) (by omega)
              have q3 := hG' k (by omega)
              have c1 := hT.cell (r := k - 1) (c := n - 1) (by omega) (by omega)
              have c2 := hT.cell (r := k + 1) (c := n - 1) (by omega) (by omega)
              have f3 := blk_free (hT.2.1 k (by omega)).2 n
              have c3 := hT.cell (r := k) (c := n) (by omega) (by omega)
              have t1 := tt_le n k (k - 1) (n - 1)
              have t2 := tt_le n k (k + 1) (n - 1)
              have HS := Lib.hid (tt_step hn1 (by omega : n ≤ 90) hk1 hk)
              have HP := Lib.hid (hT.put (r := k) (c := n) (v := cnt n k) (t' := tt n (k + 1)) (by omega) (fun r' _ c' _ => tt_put hk r' c'))
              have HB2 := Lib.hid (hb2.setCell (p := ⟨g k, n, none⟩) (hT.2.1 k (by omega)).1 (.int .i64 (cnt n k : Nat)))
              clear hT hG' hA' e' hb2
              generalize tt n k (k - 1) (n - 1) = x1 at *
              generalize tt n k (k + 1) (n - 1) = x2 at *
              generalize cnt n k = x3 at *
              have e1 : IntKind.i64.wrap ((k : Int) - 1) = ((k - 1 : Nat) : Int) := by rw [show ((k : Int) - 1) = ((k - 1 : Nat) : Int) by omega]; exact IntWalk.i64_in _ (by omega)
              have e2 : IntKind.i64.wrap ((k : Int) + 1) = ((k + 1 : Nat) : Int) := by rw [show ((k : Int) + 1) = ((k + 1 : Nat) : Int) by omega]; exact IntWalk.i64_in _ (by omega)
              have e3 : IntKind.i64.wrap ((n : Int) - 1) = ((n - 1 : Nat) : Int) := by rw [show ((n : Int) - 1) = ((n - 1 : Nat) : Int) by omega]; exact IntWalk.i64_in _ (by omega)
              have e4 : IntKind.i64.wrap ((x1 : Int) + (x2 : Int)) = ((x1 + x2 : Nat) : Int) := by rw [show ((x1 : Int) + (x2 : Int)) = ((x1 + x2 : Nat) : Int) by omega]; exact IntWalk.i64_in _ (by omega)
              have i1 : ((k - 1 : Nat) : Int) < 91 := by omega
              have i2 : ((k + 1 : Nat) : Int) < 91 := by omega
              have i3 : ((n - 1 : Nat) : Int) < 91 := by omega
              have i4 : (0 : Int) ≤ ((k + 1 : Nat) : Int) := by omega
              have j1 : k - 1 < 91 := by omega
              have j2 : k + 1 < 91 := by omega
              have j3 : n - 1 < 91 := by omega
              have j4 : k < 91 := by omega
              have j5 : (k : Int) < 91 := by omega
              have j6 : (n : Int) < 91 := by omega
              have j7 : (0 : Int) ≤ (k : Int) := by omega
              have j8 : (0 : Int) ≤ (n : Int) := by omega
              go_wp2_with fail
              go_quiet (fail)
              go_wp2_with fail
              have HM : Hid (min ((x1 : Int) + (x2 : Int)) 1000000000001 = (x3 : Int)) := Lib.hid (by have := HS.out; omega)
              have q3' := q3
              clear q1 q2 c1 c2 e1 e2 e3 e4 i1 i2 i3 i4 j1 j2 j3 t1 t2
              go_region_with (go_at_call 214; refine (l00Min_any _ _ _).mono ?_; rw [HM.out]; rintro e w' ⟨rfl, rfl⟩)
              all_goals
                go_wp2_with fail
                go_roundw
                case rel => exact ⟨k + 1, by omega, by omega, by go_num, HP.out, ⟨HB2.out.os, HB2.out.tape, HB2.out.output, HB2.out.size, HB2.out.block⟩⟩
                case measure => simp [intOf]; omega
            · obtain rfl : k = 90 := by omega
              go_wp2_with fail
              go_roundw
              case rel => exact ⟨n + 1, by omega, by omega, by go_num, ⟨hT.1, fun r hr => by rw [← wrow_same (tt n 90) (tt (n + 1) 1) r (fun j hj => (tt_next r j hr))]; exact hT.2.1 r hr, hT.2.2⟩, hb2⟩
              case measure => simp [intOf]; omega
        · obtain rfl : n = 91 := by omega
          go_wp2_with fail
          go_ret
          exact ⟨_, _, g, _, rfl, hT, fun r c hr hc => tt_end r c hr hc, hb2⟩
end Go.Proofs.YtadmbphefpfbmaaGreatDoor
/- RankTree and treeAt: the program's functions. -/
namespace Go.Proofs.YtadmbphefpfbmaaGreatDoor
open Go.RowKit
set_option linter.unusedVariables false
set_option linter.unusedSimpArgs false
theorem Tr.nodes_odd : ∀ t : Tr, t.nodes % 2 = 1
  | .nil => rfl
  | .node h t => by have := h.nodes_odd; have := t.nodes_odd; simp only [Tr.nodes]; omega
theorem isTr_odd {bs : List Bool} (h : isTr bs = true) : bs.length % 2 = 1 := by
  obtain ⟨t, rfl, _⟩ := isTr_tree h
  rw [t.bits_len]; exact t.nodes_odd
theorem rank_not {bs : List Bool} (h : isTr bs = false) : rankI bs = 0 ∧ rankC bs = 1 := by simp [rankI, rankC, h]
theorem rank_long {bs : List Bool} (h : isTr bs = true) (hl : 60 < bs.length) : rankI bs = 0 ∧ rankC bs = 5 := by
  constructor
  · unfold rankI; rw [if_neg]; omega
  · unfold rankC; rw [if_pos h, if_neg]; omega
theorem rank_big {bs : List Bool} (h : isTr bs = true) (hb : 1000000000000 < rankN bs) : rankI bs = 0 ∧ rankC bs = 5 := by
  constructor
  · unfold rankI; rw [if_neg]; omega
  · unfold rankC; rw [if_pos h, if_neg]; omega
theorem rank_ok {bs : List Bool} (h : isTr bs = true) (hl : bs.length ≤ 60) (hb : rankN bs ≤ 1000000000000) : rankI bs = (rankN bs : Int) ∧ rankC bs = 0 := by
  constructor
  · unfold rankI; rw [if_pos ⟨h, hl, hb⟩]
  · unfold rankC; rw [if_pos h, if_pos ⟨hl, hb⟩]
def RkPost (w : World) (bs : List Bool) (e : Ending) (w' : World) : Prop := e = .returned (.tuple #[.int .i64 (rankI bs), .int .i64 (rankC bs)]) ∧ Below w.heap.size w w'
end Go.Proofs.YtadmbphefpfbmaaGreatDoor
/- RankTree and TreeAt: the reference's functions. -/
namespace Go.Proofs.YtadmbphefpfbmaaGreatDoor
open Go.RowKit
set_option linter.unusedVariables false
set_option linter.unusedSimpArgs false
end Go.Proofs.YtadmbphefpfbmaaGreatDoor
/- The tree with a rank: the reference's TreeAt and the program's treeAt; the trees of the tags. -/
namespace Go.Proofs.YtadmbphefpfbmaaGreatDoor
open Go.RowKit
set_option linter.unusedVariables false
set_option linter.unusedSimpArgs false
theorem AtR.pos {rank n r : Nat} (h : AtR rank n r) : 1 ≤ n ∧ n % 2 = 1 := by
  have h2 := h.2
  constructor
  · rcases Nat.eq_zero_or_pos n with rfl | hp
    · simp [cnt] at h2
    · exact hp
  · rcases Nat.mod_two_eq_zero_or_one n with h0 | h1
    · rw [cnt_par n 1 (by omega)] at h2; omega
    · exact h1
theorem AtR.ge {rank n r m rr : Nat} (h : AtR rank n r) (hm : rank = rkBase m + rr) (hlt : m < n) : cnt m 1 ≤ rr := by
  have h1 := rkBase_mono (a := m + 1) (b := n) hlt
  have h2 := h.1
  simp only [rkBase] at h1
  omega
theorem greedy_f {l o r : Nat} (h : r < cnt l (o - 1)) : greedy (l + 1) o r = false :: greedy l (o - 1) r := by rw [greedy, if_pos h]
theorem greedy_t {l o r : Nat} (h : ¬ r < cnt l (o - 1)) : greedy (l + 1) o r = true :: greedy l (o + 1) (r - cnt l (o - 1)) := by rw [greedy, if_neg h]
theorem greedy_lt {l o r : Nat} (h : r < cnt (l + 1) o) (hn : ¬ r < cnt l (o - 1)) : r - cnt l (o - 1) < cnt l (o + 1) := by
  rcases o with _ | o
  · simp [cnt] at h
  · rw [cnt] at h
    have := Nat.lt_of_lt_of_le h (Nat.min_le_right _ _)
    rw [Nat.add_sub_cancel] at hn ⊢
    show r - cnt l o < cnt l (o + 2)
    omega
theorem cnt_pos_o {l o r : Nat} (h : r < cnt (l + 1) o) : 0 < o := by
  rcases o with _ | o
  · simp [cnt] at h
  · omega
set_option maxHeartbeats 4000000 in
set_option maxRecDepth 100000 in
theorem specTreeAt_any (w : World) (rank n r : Nat) (h : AtR rank n r) (hn : n ≤ 60) (hr : rank ≤ 1000000000000) : Calls Tryz.prog 143 #[.int .i64 rank] w (RetSI w 4 (bools (greedy n 1 r)) 0) := by
  have HA := Lib.hid h
  have hpos := h.pos.1
  have HIN : Hid (inB (rank : Int) 0 1000000000000 = true) := Lib.hid (inB_true.2 (by omega))
  clear h
  go_enter Tryz.func143, Tryz.ntmps143
  go_wp2_with (first
    | (go_at_call 42; go_must (refine (l00In_any _ _ _ _).mono ?_; rw [HIN.out]; rintro e w' ⟨rfl, rfl⟩))
    | (go_at_call 179; go_must (refine (l21Ways_any _).mono ?_; rintro e w1 ⟨A1, c1, g, t, rfl, hT, htt, hb1⟩; have HT1 := Lib.hid hT; have HTT := Lib.hid htt; obtain ⟨G, hA, hG⟩ := hT.outer; have hA0 := (hA (by omega)).1; subst hA0; have HG := Lib.hid hG; clear hT htt hG hA)))
  go_loop [0, 5] (fun q i => ∃ m rr : Nat, 1 ≤ m ∧ m ≤ n ∧ i = .int .i64 m ∧ q = .int .i64 rr ∧ Hid (rank = rkBase m + rr)) (fun _ i => n + 1 - (intOf i).toNat)
  case atStart => exact ⟨1, rank, by omega, by omega, rfl, rfl, Lib.hid (by rw [base1]; omega)⟩
  case round =>
    obtain ⟨m, rr, hm1, hm, rfl, rfl, HR⟩ := hrel
    have hrr : rr ≤ 1000000000000 := by have := HR.out; omega
    have q1 := HG.out 1 (by omega)
    have c1' := HT1.out.cell (r := 1) (c := m) (by omega) (by omega)
    rw [HTT.out 1 m (by omega) (by omega)] at c1'
    have hm91 : (m : Int) < 91 := by omega
    have hle := cnt_le m 1
    by_cases hlt : m < n
    · have hge := HA.out.ge HR.out hlt
      have HS : Hid (rkBase (m + 1) = rkBase m + cnt m 1) := Lib.hid rfl
      have HRR : Hid (rank = rkBase (m + 1) + (rr - cnt m 1)) := Lib.hid (by rw [HS.out]; have := HR.out; omega)
      generalize cnt m 1 = x1 at *
      have hge' : (x1 : Int) ≤ (rr : Int) := by omega
      go_wp2_with fail
      go_round
      case rel => exact ⟨m + 1, rr - x1, by omega, by omega, by go_num, by rw [show ((rr : Int) - (x1 : Int)) = ((rr - x1 : Nat) : Int) by omega], HRR⟩
      case measure => simp [intOf]; omega
    · obtain rfl : m = n := by omega
      have hrlt := HA.out.2
      obtain rfl : rr = r := by have := HA.out.1; have := HR.out; omega
      have HLT := Lib.hid hrlt
      generalize cnt m 1 = x1 at c1' hle hrlt
      have hge' : ¬ (x1 : Int) ≤ (rr : Int) := by omega
      have hlit := own_lit w1 #[] 0 4 rfl (by omega)
      have hbb := below_new w1 (.cells #[] 4)
      go_wp2_with fail
      clear q1 c1' hrlt hge'
      go_loopw [0, 6, 7, 8] (fun q v p j wr => ∃ (i o s : Nat) (P : List Bool) (A : Option Addr) (c : Nat), i ≤ m ∧ o ≤ i + 1 ∧ j = .int .i64 i ∧ p = .int .i64 o ∧ q = .int .i64 s ∧ v = .slice A i c ∧ s ≤ 1000000000000 ∧ Hid (greedy m 1 rr = P ++ greedy (m - i) o s) ∧ Hid (s < cnt (m - i) o) ∧ wr.ownsRow w1.heap.size 4 1 (.slice A i c) i (bools P) ∧ Below w1.heap.size w1 wr) (fun _ _ _ j _ => m - (intOf j).toNat)
      case atStart => exact ⟨0, 1, rr, [], _, _, by omega, by omega, rfl, rfl, rfl, rfl, hrr, Lib.hid (by simp), Lib.hid (by simpa using HLT.out), hlit, hbb⟩
      case round =>
        clear hlit hbb
        obtain ⟨i, o, s, P, A, c, hi, ho, rfl, rfl, rfl, rfl, hs, HP, HL, hown, hb⟩ := hrel
        by_cases hlt : i < m
        · have hil : m - i = (m - 1 - i) + 1 := by omega
          have HL2 : Hid (s < cnt (m - 1 - i + 1) o) := Lib.hid (by rw [← hil]; exact HL.out)
          have HP2 : Hid (greedy m 1 rr = P ++ greedy (m - 1 - i + 1) o s) := Lib.hid (by rw [← hil]; exact HP.out)
          have hop := cnt_pos_o HL2.out
          have hT := HT1.out.below hb
          have q1 := (hb.cell (p := ⟨G, o - 1, none⟩) (by obtain ⟨G', hA', _⟩ := HT1.out.outer; have := hA' (by omega); have e := this.1; simp at e; subst e; exact this.2)).trans (HG.out (o - 1) (by omega))
          have c1' := hT.cell (r := o - 1) (c := m - 1 - i) (by omega) (by omega)
          rw [HTT.out (o - 1) (m - 1 - i) (by omega) (by omega)] at c1'
          have hle2 := cnt_le (m - 1 - i) (o - 1)
          have e1 : (o : Int) - 1 = ((o - 1 : Nat) : Int) := by omega
          have e2 : (m : Int) - 1 - (i : Int) = ((m - 1 - i : Nat) : Int) := by omega
          have i1 : ((o - 1 : Nat) : Int) < 91 := by omega
          have i2 : ((m - 1 - i : Nat) : Int) < 91 := by omega
          have i3 : o - 1 < 91 := by omega
          have i4 : m - 1 - i < 91 := by omega
          have HT := Lib.hid hT
          clear hT hil
          by_cases hf : s < cnt (m - 1 - i) (o - 1)
          · have HG1 := Lib.hid (greedy_f hf)
            have HF := Lib.hid hf
            have hf' : (s : Int) < ((cnt (m - 1 - i) (o - 1) : Nat) : Int) := by omega
            generalize hz : cnt (m - 1 - i) (o - 1) = x2 at *
            have HZ := Lib.hid hz
            clear hz hf
            go_wp2_with (at_builtin; go_must (refine wpList_app1g eltB rfl _ _ rfl wr w1.heap.size _ i _ (by rfl) hown _ (by rfl) (by rfl) hb.size (by omega) ?_; rintro A3 c3 w3 hown3 hb3 hg3))
            go_roundw
            case rel => exact ⟨i + 1, o - 1, s, P ++ [false], A3, c3, by omega, by omega, by go_num, rfl, rfl, rfl, hs, Lib.hid (by rw [HP2.out, HG1.out, show m - (i + 1) = m - 1 - i by omega]; simp), Lib.hid (by rw [show m - (i + 1) = m - 1 - i by omega, HZ.out]; exact HF.out), by simpa using hown3, hb.trans hb3⟩
            case measure => simp [intOf]; omega
          · have HG1 := Lib.hid (greedy_t hf)
            have HF := Lib.hid (greedy_lt HL2.out hf)
            have hf' : ¬ (s : Int) < ((cnt (m - 1 - i) (o - 1) : Nat) : Int) := by omega
            generalize hz : cnt (m - 1 - i) (o - 1) = x2 at *
            have HZ := Lib.hid hz
            clear hz
            have hf2 : x2 ≤ s := by omega
            clear hf
            go_wp2_with (at_builtin; go_must (refine wpList_app1g eltB rfl _ _ rfl wr w1.heap.size _ i _ (by rfl) hown _ (by rfl) (by rfl) hb.size (by omega) ?_; rintro A3 c3 w3 hown3 hb3 hg3))
            go_roundw
            case rel => exact ⟨i + 1, o + 1, s - x2, P ++ [true], A3, c3, by omega, by omega, by go_num, by go_num, by rw [show ((s : Int) - (x2 : Int)) = ((s - x2 : Nat) : Int) by omega], rfl, by omega, Lib.hid (by rw [HP2.out, HG1.out, show m - (i + 1) = m - 1 - i by omega]; simp), Lib.hid (by rw [show m - (i + 1) = m - 1 - i by omega]; exact HF.out), by simpa using hown3, hb.trans hb3⟩
            case measure => simp [intOf]; omega
        · obtain rfl : i = m := by omega
          go_wp2_with fail
          go_ret2
          refine ⟨A, i, c, rfl, ?_, hb1.trans (hb.mono hb1.size)⟩
          have e : greedy i 1 rr = P := by have := HP.out; rw [Nat.sub_self] at this; simpa [greedy] using this
          rw [e]
          exact own_base hown hb1.size
end Go.Proofs.YtadmbphefpfbmaaGreatDoor
/- The program's treeAt, and the trees of the tags on both sides. -/
namespace Go.Proofs.YtadmbphefpfbmaaGreatDoor
open Go.RowKit
set_option linter.unusedVariables false
set_option linter.unusedSimpArgs false
theorem memo_row {w w' : World} {B base e n : Nat} {v : Value} {vs : List Value} (h : MemoOk w B) (ho : w.ownsRow base e 1 v n vs) (hB : B < base) (hg : w.grownBy w' v.ownBlock) : MemoOk w' B :=
  h.kept hg (fun e1 => by have := (ho.lt B e1.symm).1; omega)
set_option maxHeartbeats 4000000 in
set_option maxRecDepth 100000 in
theorem treeAt_any (w : World) (rank n r : Nat) (h : AtR rank n r) (hn : n ≤ 60) (hr : rank ≤ 1000000000000) : Calls Tryz.prog 106 #[.int .i64 rank] w (RetS w 4 (bools (greedy n 1 r))) := by
  have HA := Lib.hid h
  have hpos := h.pos.1
  have hodd := h.pos.2
  have hm0 := memo_first w
  have hmm := @run_makeMap Tryz.prog
  clear h
  go_enter Tryz.func106, Tryz.ntmps106
  go_wp2_with fail
  go_loopw [0, 4] (fun q i wr => ∃ m rr : Nat, 1 ≤ m ∧ m ≤ n ∧ m % 2 = 1 ∧ i = .int .i64 m ∧ q = .int .i64 rr ∧ Hid (rank = rkBase m + rr) ∧ MemoOk wr w.heap.size ∧ Below w.heap.size w wr) (fun _ i _ => n + 1 - (intOf i).toNat)
  case atStart => exact ⟨1, rank, by omega, by omega, by omega, rfl, rfl, Lib.hid (by rw [base1]; omega), hm0, below_new _ _⟩
  case round =>
    clear hmm hm0
    obtain ⟨m, rr, hm1, hm, hmo, rfl, rfl, HR, hmo1, hb⟩ := hrel
    have hrr : rr ≤ 1000000000000 := by have := HR.out; omega
    have hle := cnt_le m 1
    by_cases hlt : m < n
    · have hge := HA.out.ge HR.out hlt
      have HRR : Hid (rank = rkBase (m + 2) + (rr - cnt m 1)) := Lib.hid (by rw [rkBase_two m hmo]; have := HR.out; omega)
      have hge' : ((cnt m 1 : Nat) : Int) ≤ (rr : Int) := by omega
      go_wp2_with fail
      refine (count_any _ _ hmo1 m 1 (by omega) _ _ (by omega) (by omega)).mono ?_
      rintro e w2 ⟨rfl, hm2, hc2⟩
      go_wp2_with fail
      refine (count_any _ _ hm2 m 1 (by omega) _ _ (by omega) (by omega)).mono ?_
      rintro e w3 ⟨rfl, hm3, hc3⟩
      go_wp2_with fail
      go_roundw
      case rel => exact ⟨m + 2, rr - cnt m 1, by omega, by omega, by omega, by go_num, by rw [show ((rr : Int) - ((cnt m 1 : Nat) : Int)) = ((rr - cnt m 1 : Nat) : Int) by omega], HRR, hm3, below_ch hb (hc2.trans hc3) (by intro z hz; omega) hb.size⟩
      case measure => simp [intOf]; omega
    · obtain rfl : m = n := by omega
      have hrlt := HA.out.2
      obtain rfl : rr = r := by have := HA.out.1; have := HR.out; omega
      have HLT := Lib.hid hrlt
      have hge' : ¬ ((cnt m 1 : Nat) : Int) ≤ (rr : Int) := by omega
      have hgeN : ¬ cnt m 1 ≤ rr := by omega
      go_wp2_with fail
      refine (count_any _ _ hmo1 m 1 (by omega) _ _ (by omega) (by omega)).mono ?_
      rintro e w2 ⟨rfl, hm2, hc2⟩
      have hb2 := below_ch hb hc2 (by intro z hz; omega) hb.size
      have hB2 := hm2.lt
      have hlit := own_lit w2 #[] 0 4 rfl (by omega)
      have hm3 := hm2.alloc (.cells #[] 4)
      have hb3 := hb2.trans ((below_new w2 (.cells #[] 4)).mono hb2.size)
      have hlit' := own_base hlit (base' := w.heap.size + 1) (by omega)
      clear hb hc2 hrlt hmo1 hm2 hlit
      go_wp2_with fail
      go_loopw [0, 5, 6, 7] (fun q v p j wr => ∃ (l o s : Nat) (P : List Bool) (A : Option Addr) (c : Nat), l ≤ m ∧ o + l ≤ m + 1 ∧ j = .int .i64 ((l : Int) - 1) ∧ p = .int .i64 o ∧ q = .int .i64 s ∧ v = .slice A (m - l) c ∧ s ≤ 1000000000000 ∧ Hid (greedy m 1 rr = P ++ greedy l o s) ∧ Hid (s < cnt l o) ∧ wr.ownsRow (w.heap.size + 1) 4 1 (.slice A (m - l) c) (m - l) (bools P) ∧ MemoOk wr w.heap.size ∧ Below w.heap.size w wr) (fun _ _ _ j _ => (intOf j + 1).toNat)
      case atStart => exact ⟨m, 1, rr, [], _, _, by omega, by omega, rfl, rfl, rfl, by rw [Nat.sub_self], hrr, Lib.hid (by simp), HLT, by rw [Nat.sub_self]; exact hlit', hm3, hb3⟩
      case round =>
        clear hlit' hm3 hb3
        obtain ⟨l, o, s, P, A, c, hl, ho, rfl, rfl, rfl, rfl, hs, HP, HL, hown, hmo1, hb⟩ := hrel
        rcases l with _ | l
        · have e : greedy m 1 rr = P := by have := HP.out; simpa [greedy] using this
          have HE := Lib.hid e
          clear e
          have hneg : ¬ (0 : Int) ≤ ((0 : Nat) : Int) - 1 := by omega
          go_wp2_with fail
          go_ret
          exact ⟨A, m - 0, c, rfl, by rw [HE.out]; exact own_base hown (by omega), hb⟩
        · have hop := cnt_pos_o HL.out
          have e0 : (((l + 1 : Nat) : Int) - 1) = (l : Int) := by omega
          rw [e0]
          clear e0
          have hle2 := cnt_le l (o - 1)
          by_cases hf : s < cnt l (o - 1)
          · have HG1 := Lib.hid (greedy_f hf)
            have HF := Lib.hid hf
            have hf' : ¬ ((cnt l (o - 1) : Nat) : Int) ≤ (s : Int) := by omega
            have hfN : ¬ cnt l (o - 1) ≤ s := by omega
            clear hf
            go_wp2_with fail
            refine (count_any _ _ hmo1 l (o - 1) (by omega) _ _ (by omega) (by omega)).mono ?_
            rintro e w3 ⟨rfl, hm3, hc3⟩
            have hown3 := own_ch hown hc3 (fun k h1 h2 => by have := (hown.lt k h1).1; omega)
            have hb3 := below_ch hb hc3 (by intro z hz; omega) hb.size
            have hsz3 := hc3.size
            have hbs := hmo1.lt
            clear hmo1 hown
            go_wp2_with (at_builtin; go_must (refine wpList_app1g eltB rfl _ _ rfl w3 (w.heap.size + 1) _ (m - (l + 1)) _ (by rfl) hown3 _ (by rfl) (by rfl) (by omega) (by omega) ?_; rintro A4 c4 w4 hown4 hb4 hg4))
            have hm4 := memo_row hm3 hown3 (by omega) hg4
            go_roundw
            case rel => exact ⟨l, o - 1, s, P ++ [false], A4, c4, by omega, by omega, rfl, by rw [show ((o : Int) - 1) = ((o - 1 : Nat) : Int) by omega], rfl, by rw [show m - l = m - (l + 1) + 1 by omega], hs, Lib.hid (by rw [HP.out, HG1.out]; simp), HF, by rw [show m - l = m - (l + 1) + 1 by omega]; simpa using hown4, hm4, hb3.trans (hb4.mono (by omega))⟩
            case measure => simp only [intOf]; omega
          · have HG1 := Lib.hid (greedy_t hf)
            have HF := Lib.hid (greedy_lt HL.out hf)
            have hf' : ((cnt l (o - 1) : Nat) : Int) ≤ (s : Int) := by omega
            go_wp2_with fail
            refine (count_any _ _ hmo1 l (o - 1) (by omega) _ _ (by omega) (by omega)).mono ?_
            rintro e w3 ⟨rfl, hm3, hc3⟩
            have hown3 := own_ch hown hc3 (fun k h1 h2 => by have := (hown.lt k h1).1; omega)
            have hb3 := below_ch hb hc3 (by intro z hz; omega) hb.size
            have hsz3 := hc3.size
            have hbs := hmo1.lt
            have hf2 : cnt l (o - 1) ≤ s := by omega
            clear hmo1 hown hf
            go_wp2_with (at_builtin; go_must (refine wpList_app1g eltB rfl _ _ rfl w3 (w.heap.size + 1) _ (m - (l + 1)) _ (by rfl) hown3 _ (by rfl) (by rfl) (by omega) (by omega) ?_; rintro A4 c4 w4 hown4 hb4 hg4))
            have hm4 := memo_row hm3 hown3 (by omega) hg4
            go_roundw
            case rel => exact ⟨l, o + 1, s - cnt l (o - 1), P ++ [true], A4, c4, by omega, by omega, rfl, by go_num, by rw [show ((s : Int) - ((cnt l (o - 1) : Nat) : Int)) = ((s - cnt l (o - 1) : Nat) : Int) by omega], by rw [show m - l = m - (l + 1) + 1 by omega], by omega, Lib.hid (by rw [HP.out, HG1.out]; simp), HF, by rw [show m - l = m - (l + 1) + 1 by omega]; simpa using hown4, hm4, hb3.trans (hb4.mono (by omega))⟩
            case measure => simp only [intOf]; omega
set_option maxHeartbeats 400000 in
theorem l23Tag_any (w : World) (k : Nat) (hk : k ≤ 11) (x : Int) (hx : x = (k : Int)) : Calls Tryz.prog 101 #[.int .i64 x] w (RetS w 4 (bools (tagTr k).bits)) := by
  subst hx
  go_enter Tryz.func101, Tryz.ntmps101
  go_wp2_with fail
  refine (specTreeAt_any _ k _ _ (tag_at k hk) (by have := tagN_le k; omega) (by omega)).mono ?_
  rintro e w2 ⟨A, m, c, rfl, ho, hb⟩
  rw [tag_bits k hk] at ho
  go_wp2_with fail
  go_ret
  exact ⟨A, m, c, rfl, ho, hb⟩
set_option maxHeartbeats 400000 in
theorem tagTree_any (w : World) (k : Nat) (hk : k ≤ 11) (x : Int) (hx : x = (k : Int)) : Calls Tryz.prog 68 #[.int .i64 x] w (RetTr w w.heap.size (tagTr k)) := by
  subst hx
  go_enter Tryz.func68, Tryz.ntmps68
  go_wp2_with fail
  refine (treeAt_any _ k _ _ (tag_at k hk) (by have := tagN_le k; omega) (by omega)).mono ?_
  rintro e w2 ⟨A, m, c, rfl, ho, hb⟩
  rw [tag_bits k hk] at ho
  have hm : m ≤ 9 := by have h1 := ho.1; have h2 := tag_nodes k; simp [Tr.bits_len] at h1; omega
  go_wp2_with fail
  refine (treeOf_any _ _ _ _ _ (own_rd ho) (by omega)).mono ?_
  rintro e w3 ⟨v, rfl, ht, hb3⟩
  obtain ⟨o3, rfl⟩ := ht.isPtr
  go_wp2_with fail
  go_ret
  exact ⟨_, rfl, ht.wide hb.size (Nat.le_refl _), hb.trans (hb3.mono hb.size)⟩
end Go.Proofs.YtadmbphefpfbmaaGreatDoor
