/- The order of trees by rank, in plain Lean. -/
import Derived.Test.YtilbgbibddjdcaaCdM
import Derived.Test.YtilbgbibddjdcaaGC
namespace Go.Proofs.Ytilbgbibddjdcaa
open Go.RowKit
set_option linter.unusedVariables false
set_option linter.unusedSimpArgs false
theorem at_ex (rank : Nat) (h : rank < 82500) : ∃ n r, AtR rank n r ∧ n ≤ 23 := by
  by_cases h1 : rank < 1
  · exact ⟨1, rank, ⟨by rw [base1]; omega, by rw [one1]; omega⟩, by omega⟩
  by_cases h2 : rank < 2
  · exact ⟨3, rank - 1, ⟨by rw [base3]; omega, by rw [one3]; omega⟩, by omega⟩
  by_cases h3 : rank < 4
  · exact ⟨5, rank - 2, ⟨by rw [base5]; omega, by rw [one5]; omega⟩, by omega⟩
  by_cases h4 : rank < 9
  · exact ⟨7, rank - 4, ⟨by rw [base7]; omega, by rw [one7]; omega⟩, by omega⟩
  by_cases h5 : rank < 23
  · exact ⟨9, rank - 9, ⟨by rw [base9]; omega, by rw [one9]; omega⟩, by omega⟩
  by_cases h6 : rank < 65
  · exact ⟨11, rank - 23, ⟨by rw [base11]; omega, by rw [one11]; omega⟩, by omega⟩
  by_cases h7 : rank < 197
  · exact ⟨13, rank - 65, ⟨by rw [base13]; omega, by rw [one13]; omega⟩, by omega⟩
  by_cases h8 : rank < 626
  · exact ⟨15, rank - 197, ⟨by rw [base15]; omega, by rw [one15]; omega⟩, by omega⟩
  by_cases h9 : rank < 2056
  · exact ⟨17, rank - 626, ⟨by rw [base17]; omega, by rw [one17]; omega⟩, by omega⟩
  by_cases h10 : rank < 6918
  · exact ⟨19, rank - 2056, ⟨by rw [base19]; omega, by rw [one19]; omega⟩, by omega⟩
  by_cases h11 : rank < 23714
  · exact ⟨21, rank - 6918, ⟨by rw [base21]; omega, by rw [one21]; omega⟩, by omega⟩
  · exact ⟨23, rank - 23714, ⟨by rw [base23]; omega, by rw [one23]; omega⟩, by omega⟩
def lexB : List Bool → List Bool → Int
  | x :: r, y :: s => if x = y then lexB r s else if y then -1 else 1
  | _, _ => 0
def cmpB (a b : List Bool) : Int := if a.length < b.length then -1 else if b.length < a.length then 1 else lexB a b
theorem lexg : ∀ (n o r s : Nat), r < s → s < cnt n o → lexB (greedy n o r) (greedy n o s) = -1
  | 0, 0, r, s, h, hs => by simp [cnt] at hs; omega
  | 0, o + 1, r, s, h, hs => by simp [cnt] at hs
  | n + 1, 0, r, s, h, hs => by simp [cnt] at hs
  | n + 1, o + 1, r, s, h, hs => by
    rw [cnt] at hs
    have hlt : s < cnt n o + cnt n (o + 2) := Nat.lt_of_lt_of_le hs (Nat.min_le_right _ _)
    rw [greedy, greedy, Nat.add_sub_cancel]
    by_cases h1 : r < cnt n o
    · rw [if_pos h1]
      by_cases h2 : s < cnt n o
      · rw [if_pos h2]
        simp only [lexB, if_true]
        exact lexg n o r s h h2
      · rw [if_neg h2]
        simp [lexB]
    · rw [if_neg h1, if_neg (by omega)]
      simp only [lexB, if_true]
      exact lexg n (o + 2) (r - cnt n o) (s - cnt n o) (by omega) (by omega)
theorem cmp_next {rank n r n' r' : Nat} (h : AtR rank n r) (h' : AtR (rank + 1) n' r') : cmpB (greedy n 1 r) (greedy n' 1 r') = -1 := by
  obtain ⟨h1, h2⟩ := h
  obtain ⟨h3, h4⟩ := h'
  unfold cmpB
  rw [greedy_len, greedy_len]
  by_cases ha : n < n'
  · rw [if_pos ha]
  · rw [if_neg ha]
    by_cases hb : n' < n
    · exfalso
      have h5 := rkBase_mono (show n' + 1 ≤ n from hb)
      simp only [rkBase] at h5
      omega
    · obtain rfl : n = n' := by omega
      rw [if_neg (by omega)]
      exact lexg n 1 r r' (by omega) h4
theorem ord_tree {rank n r : Nat} (h : AtR rank n r) (hn : n ≤ 60) : ∃ t : Tr, greedy n 1 r = t.bits ∧ t.nodes = n ∧ rankN t.bits = rank ∧ isTr t.bits = true := by
  obtain ⟨hs, _⟩ := greedy_ok n 1 r h.2
  have ht : isTr (greedy n 1 r) = true := by simp [isTr, greedy_len, hs]; omega
  obtain ⟨t, e, _⟩ := isTr_tree ht
  refine ⟨t, e, ?_, ?_, ?_⟩
  · rw [← t.bits_len, ← e, greedy_len]
  · rw [← e]; exact at_rank h
  · rw [← e]; exact ht
theorem lstA_items (ts : List Tr) : (lstA ts .nil).items = ts := by
  induction ts with
  | nil => rfl
  | cons t r ih => simp [lstA, Tr.items, ih]
theorem items_lstA : ∀ t : Tr, lstA t.items .nil = t
  | .nil => rfl
  | .node x r => by simp only [Tr.items, lstA, items_lstA r]
def numTr (k : Nat) : Tr := lstA (List.replicate k .nil) .nil
theorem numTr_nodes (k : Nat) : (numTr k).nodes = 2 * k + 1 := by
  unfold numTr
  induction k with
  | zero => rfl
  | succ k ih => simp only [List.replicate_succ, lstA, Tr.nodes, ih]; omega
theorem numTr_items (k : Nat) : (numTr k).items = List.replicate k .nil := lstA_items _
end Go.Proofs.Ytilbgbibddjdcaa
