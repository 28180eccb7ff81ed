/- Proofs by contexts, in plain Lean: when a proof is valid, its parts, when the parts are in order. -/
import Derived.Test.YtjgajjcgapifoaaCtxM
import Derived.Test.YtjgajjcgapifoaaLawP
namespace Go.Proofs.Ytjgajjcgapifoaa
open Go.RowKit
set_option linter.unusedVariables false
set_option linter.unusedSimpArgs false
def allTo (p : Nat → Bool) (n : Nat) : Bool := (List.range n).all p
theorem allTo_zero (p : Nat → Bool) : allTo p 0 = true := by simp [allTo]
theorem allTo_step (p : Nat → Bool) (n : Nat) : allTo p (n + 1) = (allTo p n && p n) := by simp [allTo, List.range_succ]
theorem allTo_true {p : Nat → Bool} {n : Nat} : allTo p n = true ↔ ∀ i, i < n → p i = true := by simp [allTo]
theorem allTo_next {p : Nat → Bool} {n : Nat} (h : allTo p n = true) (hp : p n = true) : allTo p (n + 1) = true := by rw [allTo_step, h, hp]; rfl
theorem allTo_out {p : Nat → Bool} {k n : Nat} (hk : k < n) (h : p k = false) : allTo p n = false := by
  rw [← Bool.not_eq_true, allTo_true]
  intro h2
  rw [h2 k hk] at h
  cases h
theorem all_allTo (p : List Int → Bool) (ws : List (List Int)) : ws.all p = allTo (fun i => p (ws.getD i [])) ws.length := by
  rw [Bool.eq_iff_iff, allTo_true, List.all_eq_true]
  constructor
  · intro h i hi
    rw [List.getD_eq_getElem?_getD, List.getElem?_eq_getElem hi]
    exact h _ (List.getElem_mem hi)
  · intro h w hw
    obtain ⟨i, hi, rfl⟩ := List.mem_iff_getElem.1 hw
    have := h i hi
    rwa [List.getD_eq_getElem?_getD, List.getElem?_eq_getElem hi] at this
theorem getD_of {xss : List (List Int)} {i : Nat} {xs : List Int} (h : xss[i]? = some xs) : xss.getD i [] = xs := by rw [List.getD_eq_getElem?_getD, h]; rfl
theorem getI_of {xs : List Int} {i : Nat} {x : Int} (h : xs[i]? = some x) : xs.getD i 0 = x := by rw [List.getD_eq_getElem?_getD, h]; rfl
def cmpL : List Int → List Int → Int
  | [], [] => 0
  | [], _ :: _ => -1
  | _ :: _, [] => 1
  | x :: r, y :: s => if x < y then -1 else if y < x then 1 else cmpL r s
def sgn (a b : Int) : Int := if a < b then -1 else if b < a then 1 else 0
theorem cmpL_ne {x y : Int} {r s : List Int} (h : sgn x y ≠ 0) : cmpL (x :: r) (y :: s) = sgn x y := by
  unfold sgn at h ⊢
  simp only [cmpL]
  split
  · rfl
  · split
    · rfl
    · rename_i h1 h2; simp [h1, h2] at h
theorem cmpL_eq {x y : Int} {r s : List Int} (h : sgn x y = 0) : cmpL (x :: r) (y :: s) = cmpL r s := by
  unfold sgn at h
  simp only [cmpL]
  split at h
  · omega
  · split at h
    · omega
    · rename_i h1 h2; simp [h1, h2]
theorem cmpL_bd : ∀ xs ys, -1 ≤ cmpL xs ys ∧ cmpL xs ys ≤ 1
  | [], [] => by simp [cmpL]
  | [], _ :: _ => by simp [cmpL]
  | _ :: _, [] => by simp [cmpL]
  | x :: r, y :: s => by
    simp only [cmpL]
    split
    · omega
    · split
      · omega
      · exact cmpL_bd r s
/-- A word. -/
def wordB (w : List Int) : Bool := allIn w 0 9 && decide (w.length ≤ 400)
def okP (k : Int) (ns : List Int) (ws : List (List Int)) : Bool := inB k 1 8 && decide (ns.length ≤ 300) && decide (ws.length ≤ 300) && allIn ns (-1000000000000) 1000000000000 && ws.all wordB
/-- A list of one length with letters up to the greatest one. -/
def lenB (m : Int) (g : Int) (w : List Int) : Bool := decide ((w.length : Int) = m) && allIn w 0 g
/-- Lists that rise strictly: the place i. -/
def upAt (ws : List (List Int)) (i : Nat) : Bool := decide (i = 0) || decide (cmpL (ws.getD (i - 1) []) (ws.getD i []) < 0)
def rises (ws : List (List Int)) : Bool := allTo (upAt ws) ws.length
def stated (sts : List Int) (cs : List (List Int)) : List (List Int) := List.zipWith List.cons sts cs
def pN (ns : List Int) : Int := ns.getD 0 0
def pA (ns : List Int) : Int := ns.getD 1 0
def pB (ns : List Int) : Int := ns.getD 2 0
def lefts (ns : List Int) (ws : List (List Int)) : List (List Int) := ws.take (pA ns).toNat
def rights (ns : List Int) (ws : List (List Int)) : List (List Int) := (ws.drop (pA ns).toNat).take (pB ns).toNat
def ctxs (ns : List Int) (ws : List (List Int)) : List (List Int) := ws.drop ((pA ns).toNat + (pB ns).toNat)
def g1 (k : Int) (ns : List Int) : Bool := decide (k = 8) && decide (3 ≤ ns.length) && inB (pN ns) 1 4
def g2 (ns : List Int) (W : Nat) : Bool := inB (pA ns) 0 W && inB (pB ns) 0 W && decide (pA ns + pB ns + ((ns.length - 3 : Nat) : Int) = W) && allIn (ns.drop 3) 0 1000000000000
def g3 (ns : List Int) (ws : List (List Int)) : Bool := (lefts ns ws).all (lenB (pN ns) 9) && (rights ns ws).all (lenB (pN ns) 9) && (ctxs ns ws).all (lenB (2 * pN ns + 1) 9)
def g4 (ns : List Int) (ws : List (List Int)) : Bool := rises (lefts ns ws) && rises (rights ns ws) && rises (stated (ns.drop 3) (ctxs ns ws))
/-- Whether a valid proof has parts. -/
def csOk (k : Int) (ns : List Int) (ws : List (List Int)) : Bool := g1 k ns && g2 ns ws.length && g3 ns ws && g4 ns ws
theorem g2_bd {ns : List Int} {W : Nat} (h : g2 ns W = true) : ∃ a b : Nat, pA ns = a ∧ pB ns = b ∧ a + b ≤ W ∧ a + b + (ns.length - 3) = W := by
  simp only [g2, Bool.and_eq_true, decide_eq_true_eq, inB_true] at h
  obtain ⟨⟨⟨h1, h2⟩, h3⟩, _⟩ := h
  exact ⟨(pA ns).toNat, (pB ns).toNat, by omega, by omega, by omega, by omega⟩
/-- The codes of the functions on a proof's parts. -/
def csC (k : Int) (ns : List Int) (ws : List (List Int)) : Int := if okP k ns ws then (if csOk k ns ws then 0 else 2) else 1
theorem csC_bad {k : Int} {ns : List Int} {ws : List (List Int)} (h : okP k ns ws = false) : csC k ns ws = 1 := by simp [csC, h]
theorem csC_no {k : Int} {ns : List Int} {ws : List (List Int)} (h : okP k ns ws = true) (h2 : csOk k ns ws = false) : csC k ns ws = 2 := by simp [csC, h, h2]
theorem csC_ok {k : Int} {ns : List Int} {ws : List (List Int)} (h : okP k ns ws = true) (h2 : csOk k ns ws = true) : csC k ns ws = 0 := by simp [csC, h, h2]
theorem okP_bd {k : Int} {ns : List Int} {ws : List (List Int)} (h : okP k ns ws = true) : (1 ≤ k ∧ k ≤ 8) ∧ ns.length ≤ 300 ∧ ws.length ≤ 300 ∧ allIn ns (-1000000000000) 1000000000000 = true ∧ ws.all wordB = true := by
  simp only [okP, Bool.and_eq_true, decide_eq_true_eq, inB_true] at h
  obtain ⟨⟨⟨⟨h1, h2⟩, h3⟩, h4⟩, h5⟩ := h
  exact ⟨h1, h2, h3, h4, h5⟩
end Go.Proofs.Ytjgajjcgapifoaa
