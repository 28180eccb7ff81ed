/- Configurations of a machine and contexts of configurations, in plain Lean. -/
import Derived.Test.YtjgajjcgapifoaaCtxM
namespace Go.Proofs.Ytjgajjcgapifoaa
open Go.RowKit
set_option linter.unusedVariables false
set_option linter.unusedSimpArgs false
def okS (s : Int) (xs : List Int) : Bool := decide (xs.length ≤ 200) && allIn xs 0 (s - 1) && (xs.getLast? != some 0)
def okCf (s t st : Int) (ls rs : List Int) : Bool := inB st 0 (t - 1) && okS s ls && okS s rs
theorem okS_len {s : Int} {xs : List Int} (h : ¬ xs.length ≤ 200) : okS s xs = false := by simp [okS, h]
theorem okS_all {s : Int} {xs : List Int} (h : allIn xs 0 (s - 1) = false) : okS s xs = false := by simp [okS, h]
theorem okS_nil (s : Int) : okS s [] = true := by simp [okS, allIn]
theorem okS_last {s x : Int} {xs : List Int} {m : Nat} (h1 : xs.length = m + 1) (h2 : xs.length ≤ 200) (h3 : allIn xs 0 (s - 1) = true) (hx : xs[m]? = some x) : okS s xs = (x != 0) := by
  have e : xs.getLast? = some x := by rw [List.getLast?_eq_getElem?, h1]; simpa using hx
  simp only [okS, h2, h3, e]
  simp [bne]
theorem okS_bd {s : Int} {xs : List Int} (h : okS s xs = true) : xs.length ≤ 200 := by
  simp only [okS, Bool.and_eq_true, decide_eq_true_eq] at h
  exact h.1.1
theorem okCf_s {s t st : Int} {ls rs : List Int} (h : inB st 0 (t - 1) = false) : okCf s t st ls rs = false := by simp [okCf, h]
theorem okCf_l {s t st : Int} {ls rs : List Int} (h : okS s ls = false) : okCf s t st ls rs = false := by simp [okCf, h]
theorem okCf_r {s t st : Int} {ls rs : List Int} (h : inB st 0 (t - 1) = true) (h1 : okS s ls = true) : okCf s t st ls rs = okS s rs := by simp [okCf, h, h1]
theorem okCf_bd {s t st : Int} {ls rs : List Int} (h : okCf s t st ls rs = true) : ls.length ≤ 200 ∧ rs.length ≤ 200 := by
  simp only [okCf, Bool.and_eq_true] at h
  exact ⟨okS_bd h.1.2, okS_bd h.2⟩
def cellsF (xs : List Int) (f n : Nat) : List Int := (List.range n).map fun k => xs.getD (f + k) 0
theorem cellsF_len (xs : List Int) (f n : Nat) : (cellsF xs f n).length = n := by simp [cellsF]
theorem cellsF_step (xs : List Int) (f n : Nat) : cellsF xs f (n + 1) = cellsF xs f n ++ [xs.getD (f + n) 0] := by simp [cellsF, List.range_succ]
def ctxOf (ls rs : List Int) (h : Nat) : List Int := cellsF ls 0 h ++ cellsF rs 0 (h + 1)
theorem ctxOf_len (ls rs : List Int) (h : Nat) : (ctxOf ls rs h).length = 2 * h + 1 := by simp [ctxOf, cellsF_len]; omega
/-- What ContextOf answers. -/
def coP (s t : Int) (ps : List Rul) (st : Int) (ls rs : List Int) (n : Int) : List Int × Int :=
  if okM s t ps && okCf s t st ls rs then (if inB n 1 4 then (ctxOf ls rs n.toNat, 0) else ([], 2)) else ([], 1)
theorem co_bad {s t st n : Int} {ps : List Rul} {ls rs : List Int} (h : (okM s t ps && okCf s t st ls rs) = false) : coP s t ps st ls rs n = ([], 1) := by simp only [coP, h]; simp
theorem co_n {s t st n : Int} {ps : List Rul} {ls rs : List Int} (h : (okM s t ps && okCf s t st ls rs) = true) (h2 : inB n 1 4 = false) : coP s t ps st ls rs n = ([], 2) := by simp only [coP, h, h2]; simp
theorem co_ok {s t st n : Int} {ps : List Rul} {ls rs : List Int} (h : (okM s t ps && okCf s t st ls rs) = true) (h2 : inB n 1 4 = true) : coP s t ps st ls rs n = (ctxOf ls rs n.toNat, 0) := by simp only [coP, h, h2]; simp
theorem co_len (s t : Int) (ps : List Rul) (st : Int) (ls rs : List Int) (n : Int) : (coP s t ps st ls rs n).1.length ≤ 1000000 := by
  unfold coP
  split
  · split
    · rename_i h
      have h1 := inB_true.1 h
      simp only [ctxOf_len]; omega
    · simp
  · simp
end Go.Proofs.Ytjgajjcgapifoaa
