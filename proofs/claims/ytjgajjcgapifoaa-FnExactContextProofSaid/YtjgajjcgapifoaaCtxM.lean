/- Contexts of a machine, in plain Lean: codes, the window that is lost. -/
import Derived.Test.YtjgajjcgapifoaaMchO
namespace Go.Proofs.Ytjgajjcgapifoaa
open Go.RowKit
set_option linter.unusedVariables false
set_option linter.unusedSimpArgs false
/-- Whether numbers are a context over s symbols. -/
def ctxW (s : Int) (xs : List Int) : Bool := decide (xs.length % 2 = 1) && inB ((xs.length / 2 : Nat) : Int) 1 4 && allIn xs 0 (s - 1)
def ctxC (s t : Int) (rs : List Rul) (st : Int) (xs : List Int) : Int := if okM s t rs && ctxW s xs then (if inB st 0 (t - 1) then 0 else 2) else 1
theorem ctx_m {s t st : Int} {rs : List Rul} {xs : List Int} (h : okM s t rs = false) : ctxC s t rs st xs = 1 := by simp [ctxC, h]
theorem ctx_e {s t st : Int} {rs : List Rul} {xs : List Int} (h : ¬ xs.length % 2 = 1) : ctxC s t rs st xs = 1 := by simp [ctxC, ctxW, h]
theorem ctx_n {s t st : Int} {rs : List Rul} {xs : List Int} (h : inB ((xs.length / 2 : Nat) : Int) 1 4 = false) : ctxC s t rs st xs = 1 := by simp only [ctxC, ctxW, h]; simp
theorem ctx_a {s t st : Int} {rs : List Rul} {xs : List Int} (h : allIn xs 0 (s - 1) = false) : ctxC s t rs st xs = 1 := by simp [ctxC, ctxW, h]
theorem ctx_s {s t st : Int} {rs : List Rul} {xs : List Int} (h1 : okM s t rs = true) (h2 : xs.length % 2 = 1) (h3 : inB ((xs.length / 2 : Nat) : Int) 1 4 = true) (h4 : allIn xs 0 (s - 1) = true) (h5 : inB st 0 (t - 1) = false) : ctxC s t rs st xs = 2 := by
  simp only [ctxC, ctxW, h1, h2, h3, h4, h5]; simp
theorem ctx_ok {s t st : Int} {rs : List Rul} {xs : List Int} (h1 : okM s t rs = true) (h2 : xs.length % 2 = 1) (h3 : inB ((xs.length / 2 : Nat) : Int) 1 4 = true) (h4 : allIn xs 0 (s - 1) = true) (h5 : inB st 0 (t - 1) = true) : ctxC s t rs st xs = 0 := by
  simp only [ctxC, ctxW, h1, h2, h3, h4, h5]; simp
theorem ctx_zero {s t st : Int} {rs : List Rul} {xs : List Int} (h : ctxC s t rs st xs = 0) : okM s t rs = true ∧ xs.length % 2 = 1 ∧ (1 ≤ xs.length / 2 ∧ xs.length / 2 ≤ 4) ∧ allIn xs 0 (s - 1) = true ∧ (0 ≤ st ∧ st ≤ t - 1) := by
  unfold ctxC at h
  split at h
  · rename_i h1
    simp only [ctxW, Bool.and_eq_true, decide_eq_true_eq] at h1
    split at h
    · rename_i h2
      have h3 := inB_true.1 h1.2.1.2
      have h4 := inB_true.1 h2
      exact ⟨h1.1, h1.2.1.1, ⟨by omega, by omega⟩, h1.2.2, h4⟩
    · simp at h
  · simp at h
/-- The place of a rule. -/
theorem rule_at {s t st x : Int} {rs : List Rul} (hs : 2 ≤ s ∧ s ≤ 6) (ht : 1 ≤ t ∧ t ≤ 1000) (hl : (rs.length : Int) = s * t) (h1 : 0 ≤ st ∧ st ≤ t - 1) (h2 : 0 ≤ x ∧ x ≤ s - 1) : 0 ≤ st * s ∧ st * s ≤ 6000 ∧ st * s + x < (rs.length : Int) ∧ 0 ≤ st * s + x := by
  have a1 : 0 ≤ st * s := Int.mul_nonneg h1.1 (by omega)
  have a2 : st * s ≤ (t - 1) * s := Int.mul_le_mul_of_nonneg_right h1.2 (by omega)
  have a3 : (t - 1) * s = s * t - s := by rw [Int.sub_mul, Int.one_mul, Int.mul_comm]
  have a4 : s * t ≤ 6 * t := Int.mul_le_mul_of_nonneg_right hs.2 (by omega)
  omega
def midOf (xs : List Int) : Int := xs.getD (xs.length / 2) 0
def ruleOf (s : Int) (rs : List Rul) (st : Int) (xs : List Int) : Rul := rs.getD (st * s + midOf xs).toNat noR
def lostOf (r : Rul) (xs : List Int) : List Int := if r.mv = 1 then xs.take (xs.length / 2) else xs.drop (xs.length / 2 + 1)
theorem mid_get {xs : List Int} (h : xs.length % 2 = 1) : xs[xs.length / 2]? = some (midOf xs) := by
  have : xs.length / 2 < xs.length := by omega
  simp [midOf, List.getD, List.getElem?_eq_getElem this]
theorem rule_get {s t st : Int} {rs : List Rul} {xs : List Int} (h : ctxC s t rs st xs = 0) : ∃ k : Nat, st * s + midOf xs = (k : Int) ∧ rs[k]? = some (ruleOf s rs st xs) ∧ 0 ≤ st * s ∧ st * s ≤ 6000 ∧ (0 ≤ midOf xs ∧ midOf xs ≤ 5) ∧ k < rs.length := by
  obtain ⟨h1, h2, h3, h4, h5⟩ := ctx_zero h
  obtain ⟨hs, ht, hl, _⟩ := okM_all h1
  have hm := allIn_true.1 h4 (midOf xs) (List.mem_of_getElem? (mid_get h2))
  obtain ⟨a1, a2, a3, a4⟩ := rule_at hs ht hl h5 hm
  refine ⟨(st * s + midOf xs).toNat, by omega, ?_, a1, a2, by omega, by omega⟩
  have hk : (st * s + midOf xs).toNat < rs.length := by omega
  simp [ruleOf, List.getD, List.getElem?_eq_getElem hk]
/-- What LostWindow answers. -/
def lwP (s t : Int) (rs : List Rul) (st : Int) (xs : List Int) : Int × List Int × Int :=
  if ctxC s t rs st xs = 0 then (if isR (ruleOf s rs st xs) then ((ruleOf s rs st xs).mv, lostOf (ruleOf s rs st xs) xs, 0) else (0, [], 6)) else (0, [], ctxC s t rs st xs)
theorem lw_bad {s t st : Int} {rs : List Rul} {xs : List Int} (h : ctxC s t rs st xs ≠ 0) : lwP s t rs st xs = (0, [], ctxC s t rs st xs) := by simp only [lwP, if_neg h]
theorem lw_no {s t st : Int} {rs : List Rul} {xs : List Int} (h : ctxC s t rs st xs = 0) (h2 : isR (ruleOf s rs st xs) = false) : lwP s t rs st xs = (0, [], 6) := by simp only [lwP, if_pos h, h2]; simp
theorem lw_ok {s t st : Int} {rs : List Rul} {xs : List Int} (h : ctxC s t rs st xs = 0) (h2 : isR (ruleOf s rs st xs) = true) : lwP s t rs st xs = ((ruleOf s rs st xs).mv, lostOf (ruleOf s rs st xs) xs, 0) := by simp only [lwP, if_pos h, h2]; simp
theorem lw_len (s t : Int) (rs : List Rul) (st : Int) (xs : List Int) : (lwP s t rs st xs).2.1.length ≤ 1000000 := by
  unfold lwP
  split
  · rename_i h
    obtain ⟨_, h2, h3, _⟩ := ctx_zero h
    split
    · unfold lostOf
      split
      · simp only [List.length_take]; omega
      · simp only [List.length_drop]; omega
    · simp
  · simp
theorem isR_mv {s t st : Int} {rs : List Rul} {xs : List Int} (h : ctxC s t rs st xs = 0) (h2 : isR (ruleOf s rs st xs) = true) : (ruleOf s rs st xs).mv = 1 ∨ (ruleOf s rs st xs).mv = -1 := by
  obtain ⟨h1, _⟩ := ctx_zero h
  obtain ⟨_, _, _, hall⟩ := okM_all h1
  obtain ⟨k, _, hk, _⟩ := rule_get h
  have h3 := List.all_eq_true.1 hall _ (List.mem_of_getElem? hk)
  simp only [okR, h2, Bool.not_true, Bool.false_or, Bool.and_eq_true, Bool.or_eq_true, decide_eq_true_eq] at h3
  exact h3.1.2
end Go.Proofs.Ytjgajjcgapifoaa
