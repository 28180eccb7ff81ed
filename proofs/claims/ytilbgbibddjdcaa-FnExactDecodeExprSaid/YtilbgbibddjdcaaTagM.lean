/- The trees of the tags, in plain Lean: the tree with each rank from 0 to 11. -/
import Derived.Test.YtilbgbibddjdcaaRankG
namespace Go.Proofs.Ytilbgbibddjdcaa
open Go.RowKit

/-- The tree with a rank up to 11. -/
def tagTr : Nat → Tr
  | 0 => .nil
  | 1 => .node .nil .nil
  | 2 => .node .nil (.node .nil .nil)
  | 3 => .node (.node .nil .nil) .nil
  | 4 => .node .nil (.node .nil (.node .nil .nil))
  | 5 => .node .nil (.node (.node .nil .nil) .nil)
  | 6 => .node (.node .nil .nil) (.node .nil .nil)
  | 7 => .node (.node .nil (.node .nil .nil)) .nil
  | 8 => .node (.node (.node .nil .nil) .nil) .nil
  | 9 => .node .nil (.node .nil (.node .nil (.node .nil .nil)))
  | 10 => .node .nil (.node .nil (.node (.node .nil .nil) .nil))
  | _ => .node .nil (.node (.node .nil .nil) (.node .nil .nil))
def tagN (k : Nat) : Nat := if k = 0 then 1 else if k = 1 then 3 else if k ≤ 3 then 5 else if k ≤ 8 then 7 else 9
def tagP (k : Nat) : Nat := if k = 0 then 0 else if k = 1 then 0 else if k ≤ 3 then k - 2 else if k ≤ 8 then k - 4 else k - 9
theorem tag_at (k : Nat) (h : k ≤ 11) : AtR k (tagN k) (tagP k) := by
  unfold AtR tagN tagP
  split
  · rw [base1, one1]; omega
  · split
    · rw [base3, one3]; omega
    · split
      · rw [base5, one5]; omega
      · split
        · rw [base7, one7]; omega
        · rw [base9, one9]; omega
theorem tag_bits (k : Nat) (h : k ≤ 11) : greedy (tagN k) 1 (tagP k) = (tagTr k).bits := by
  have hk : k = 0 ∨ k = 1 ∨ k = 2 ∨ k = 3 ∨ k = 4 ∨ k = 5 ∨ k = 6 ∨ k = 7 ∨ k = 8 ∨ k = 9 ∨ k = 10 ∨ k = 11 := by omega
  rcases hk with rfl | rfl | rfl | rfl | rfl | rfl | rfl | rfl | rfl | rfl | rfl | rfl <;> decide +kernel
theorem tag_nodes (k : Nat) : (tagTr k).nodes ≤ 9 := by
  unfold tagTr
  split <;> decide
theorem tagN_le (k : Nat) : tagN k ≤ 9 := by unfold tagN; split <;> (try split) <;> (try split) <;> (try split) <;> omega
def Tr.beq : Tr → Tr → Bool
  | .nil, .nil => true
  | .node a b, .node c d => a.beq c && b.beq d
  | _, _ => false
theorem Tr.beq_iff : ∀ a b : Tr, a.beq b = true ↔ a = b
  | .nil, .nil => by simp [Tr.beq]
  | .nil, .node _ _ => by simp [Tr.beq]
  | .node _ _, .nil => by simp [Tr.beq]
  | .node a b, .node c d => by simp [Tr.beq, Tr.beq_iff a c, Tr.beq_iff b d]
theorem tag_inj {j k : Nat} (hj : j ≤ 11) (hk : k ≤ 11) (h : tagTr j = tagTr k) : j = k := by
  have h1 := tag_at j hj
  have h2 := tag_at k hk
  have h3 := at_rank h1
  have h4 := at_rank h2
  rw [tag_bits j hj] at h3
  rw [tag_bits k hk] at h4
  rw [h] at h3
  omega
end Go.Proofs.Ytilbgbibddjdcaa
