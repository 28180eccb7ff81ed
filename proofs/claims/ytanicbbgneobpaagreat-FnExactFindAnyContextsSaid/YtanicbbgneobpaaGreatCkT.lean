/- CheckContexts (reference): whether the parts are closed. -/
import Derived.Test.YtanicbbgneobpaaGreatCkS
import Derived.Deep.DrawnRows
namespace Go.Proofs.YtanicbbgneobpaaGreat
open Go.RowKit
set_option linter.unusedVariables false
set_option linter.unusedSimpArgs false
attribute [local go_sem ↓] Go.wp_at_zero Go.wp_at_succ
def closR (s : Nat) (r : Rul) (x : List Int) (ls ws : List (List Int)) (sts : List Int) (cs : List (List Int)) : Bool := isR r && decide (lostOf r x ∈ (if r.mv = 1 then ls else ws)) && (nextsOf s r x ls ws).all (fun y => decide ((r.nx :: y) ∈ stated sts cs))
theorem closAt_eq {s t : Int} {rs : List Rul} {ls ws cs : List (List Int)} {sts : List Int} {k : Nat} {st : Int} {x : List Int} (h1 : sts[k]? = some st) (h2 : cs[k]? = some x) : closAt s t rs ls ws sts cs k = closR s.toNat (ruleOf s rs st x) x ls ws sts cs := by
  unfold closAt closR
  simp only [List.getD_eq_getElem?_getD, h1, h2, Option.getD_some]
theorem closR_no {s : Nat} {r : Rul} {x : List Int} {ls ws cs : List (List Int)} {sts : List Int} (h : isR r = false) : closR s r x ls ws sts cs = false := by unfold closR; rw [h]; rfl
theorem closR_lost {s : Nat} {r : Rul} {x : List Int} {ls ws cs : List (List Int)} {sts : List Int} (h : ¬ lostOf r x ∈ (if r.mv = 1 then ls else ws)) : closR s r x ls ws sts cs = false := by unfold closR; rw [decide_eq_false h]; simp
theorem closR_out {s : Nat} {r : Rul} {x : List Int} {ls ws cs : List (List Int)} {sts : List Int} {j : Nat} {y : List Int} (hy : (nextsOf s r x ls ws)[j]? = some y) (h : ¬ (r.nx :: y) ∈ stated sts cs) : closR s r x ls ws sts cs = false := by
  have : (nextsOf s r x ls ws).all (fun y => decide ((r.nx :: y) ∈ stated sts cs)) = false := by
    rw [List.all_eq_false]
    exact ⟨y, List.mem_of_getElem? hy, by simp [h]⟩
  unfold closR
  rw [this]; simp
theorem closR_yes {s : Nat} {r : Rul} {x : List Int} {ls ws cs : List (List Int)} {sts : List Int} (h1 : isR r = true) (h2 : lostOf r x ∈ (if r.mv = 1 then ls else ws)) (h3 : ∀ y ∈ nextsOf s r x ls ws, (r.nx :: y) ∈ stated sts cs) : closR s r x ls ws sts cs = true := by
  unfold closR
  rw [h1, decide_eq_true h2]
  simp only [Bool.true_and, List.all_eq_true, decide_eq_true_eq]
  exact h3
end Go.Proofs.YtanicbbgneobpaaGreat
