/- Programs of fractions in plain Lean: steps, runs, and what lowest terms change (nothing). -/
import Derived.Test.YtfjlbfnjnkaooaaMath4
import Derived.Test.YtfjlbfnjnkaooaaMemS
namespace Go.Proofs.Ytfjlbfnjnkaooaa
open Go.RowKit Limb
set_option linter.unusedVariables false
set_option linter.unusedSimpArgs false
/-- A fraction: its upper and its lower part. -/
structure Fr where
  up : Nat
  dn : Nat
def flatF : List Fr → List Int
  | [] => []
  | x :: r => (x.up : Int) :: (x.dn : Int) :: flatF r
theorem flatF_len : ∀ fs : List Fr, (flatF fs).length = fs.length * 2
  | [] => rfl
  | x :: r => by simp only [flatF, List.length_cons, flatF_len r]; omega
theorem flatF_snoc : ∀ (fs : List Fr) (x : Fr), flatF (fs ++ [x]) = flatF fs ++ [(x.up : Int), (x.dn : Int)]
  | [], x => rfl
  | y :: r, x => by simp only [List.cons_append, flatF, flatF_snoc r x]
theorem flatF_get : ∀ {fs : List Fr} {k : Nat} {x : Fr}, fs[k]? = some x → (flatF fs)[k * 2]? = some (x.up : Int) ∧ (flatF fs)[k * 2 + 1]? = some (x.dn : Int)
  | [], k, x, h => by simp at h
  | y :: r, 0, x, h => by
    obtain rfl : y = x := by simpa using h
    exact ⟨rfl, rfl⟩
  | y :: r, k + 1, x, h => by
    have := flatF_get (fs := r) (k := k) (x := x) (by simpa using h)
    rw [show (k + 1) * 2 = k * 2 + 1 + 1 by omega]
    exact this
/-- The two cells of a fraction. -/
theorem rdF {w : World} {A : Option Addr} {n k : Nat} {fs : List Fr} {x : Fr} (hr : Rd w A (n * 2) (ints (flatF fs))) (hx : fs[k]? = some x) :
    ∃ b off, A = some ⟨b, off, none⟩ ∧ b < w.heap.size ∧ w.cell? ⟨b, off + k * 2, none⟩ = some (.int .i64 (x.up : Int)) ∧ w.cell? ⟨b, off + k * 2 + 1, none⟩ = some (.int .i64 (x.dn : Int)) := by
  obtain ⟨h0, h1⟩ := flatF_get hx
  obtain ⟨b, off, e, hb, q0⟩ := hr.at_ (ints_get h0)
  have hpos : 0 < n * 2 := by have h := hr.1; have := (List.getElem?_eq_some_iff.1 h0).1; simp at h; omega
  obtain ⟨b', off', e', _, hc⟩ := hr.2 hpos
  obtain ⟨rfl, rfl⟩ : b = b' ∧ off = off' := by rw [e] at e'; simpa using e'
  exact ⟨b, off, e, hb, q0, by have := hc _ _ (ints_get h1); rwa [← Nat.add_assoc] at this⟩
/-- Small fractions. -/
def okF (x : Fr) : Prop := 1 ≤ x.up ∧ x.up ≤ 999 ∧ 1 ≤ x.dn ∧ x.dn ≤ 999
structure OkFs (fs : List Fr) : Prop where
  one : 1 ≤ fs.length
  len : fs.length ≤ 100
  all : ∀ x ∈ fs, okF x
/-- The step that the first fraction with a natural product makes: the product and the place. -/
def stepQ : List Fr → Nat → Nat → Option (Nat × Nat)
  | [], _, _ => none
  | x :: r, N, k => if N * x.up % x.dn = 0 then some (N * x.up / x.dn, k) else stepQ r N (k + 1)
theorem stepQ_get : ∀ {fs : List Fr} {N k M j : Nat}, stepQ fs N k = some (M, j) → ∃ x, k ≤ j ∧ fs[j - k]? = some x ∧ N * x.up % x.dn = 0 ∧ M = N * x.up / x.dn
  | [], N, k, M, j, h => by simp [stepQ] at h
  | x :: r, N, k, M, j, h => by
    rw [stepQ] at h
    by_cases hm : N * x.up % x.dn = 0
    · rw [if_pos hm] at h
      simp only [Option.some.injEq, Prod.mk.injEq] at h
      obtain ⟨h1, h2⟩ := h
      subst h2
      exact ⟨x, Nat.le_refl _, by simp, hm, h1.symm⟩
    · rw [if_neg hm] at h
      obtain ⟨y, h1, h2, h3, h4⟩ := stepQ_get h
      refine ⟨y, by omega, ?_, h3, h4⟩
      rw [show j - k = (j - (k + 1)) + 1 by omega]
      simpa using h2
/-- What is not yet decided behind the first k fractions. -/
theorem stepQ_drop {fs : List Fr} {N k : Nat} {x : Fr} (hx : fs[k]? = some x) : stepQ (fs.drop k) N k = if N * x.up % x.dn = 0 then some (N * x.up / x.dn, k) else stepQ (fs.drop (k + 1)) N (k + 1) := by
  obtain ⟨hk, rfl⟩ := List.getElem?_eq_some_iff.1 hx
  rw [List.drop_eq_getElem_cons hk, stepQ]
/-- A fraction in lowest terms. -/
def low (x : Fr) : Fr := ⟨x.up / Nat.gcd x.up x.dn, x.dn / Nat.gcd x.up x.dn⟩
theorem low_ok {x : Fr} (h : okF x) : okF (low x) := by
  obtain ⟨h1, h2, h3, h4⟩ := h
  have g0 : 0 < Nat.gcd x.up x.dn := Nat.gcd_pos_of_pos_left _ h1
  refine ⟨?_, ?_, ?_, ?_⟩
  · exact Nat.div_pos (Nat.le_of_dvd h1 (Nat.gcd_dvd_left _ _)) g0
  · exact Nat.le_trans (Nat.div_le_self _ _) h2
  · exact Nat.div_pos (Nat.le_of_dvd h3 (Nat.gcd_dvd_right _ _)) g0
  · exact Nat.le_trans (Nat.div_le_self _ _) h4
theorem low_step {x : Fr} (h : okF x) (N : Nat) : (N * (low x).up % (low x).dn = 0 ↔ N * x.up % x.dn = 0) ∧ (N * x.up % x.dn = 0 → N * (low x).up / (low x).dn = N * x.up / x.dn) := by
  obtain ⟨h1, h2, h3, h4⟩ := h
  have g0 : 0 < Nat.gcd x.up x.dn := Nat.gcd_pos_of_pos_left _ h1
  obtain ⟨a, ha⟩ := Nat.gcd_dvd_left x.up x.dn
  obtain ⟨b, hb⟩ := Nat.gcd_dvd_right x.up x.dn
  unfold low
  simp only
  generalize Nat.gcd x.up x.dn = g at *
  rw [ha, hb, Nat.mul_div_cancel_left _ g0, Nat.mul_div_cancel_left _ g0]
  have e : N * (g * a) = g * (N * a) := by rw [← Nat.mul_assoc, Nat.mul_comm N g, Nat.mul_assoc]
  rw [e]
  constructor
  · rw [Nat.mul_mod_mul_left]
    constructor
    · intro h; rw [h, Nat.mul_zero]
    · intro h; rcases Nat.mul_eq_zero.1 h with h | h
      · omega
      · exact h
  · intro _; rw [Nat.mul_div_mul_left _ _ g0]
theorem low_all : ∀ {fs : List Fr} (h : ∀ x ∈ fs, okF x) (N k : Nat), stepQ (fs.map low) N k = stepQ fs N k
  | [], _, _, _ => rfl
  | x :: r, h, N, k => by
    have hx := low_step (h x (by simp)) N
    have ih := low_all (fs := r) (fun y hy => h y (by simp [hy])) N (k + 1)
    rw [List.map_cons, stepQ, stepQ, ih]
    by_cases hm : N * x.up % x.dn = 0
    · rw [if_pos hm, if_pos (hx.1.2 hm), hx.2 hm]
    · rw [if_neg hm, if_neg (fun h => hm (hx.1.1 h))]
theorem OkFs.low {fs : List Fr} (h : OkFs fs) : OkFs (fs.map low) := by
  refine ⟨by simpa using h.one, by simpa using h.len, fun x hx => ?_⟩
  obtain ⟨y, hy, rfl⟩ := List.mem_map.1 hx
  exact low_ok (h.all y hy)
/-- A run of at most r steps: the last natural, the number of steps, and whether it halts. -/
def runQ (fs : List Fr) : Nat → Nat → Nat × Nat × Bool
  | 0, N => (N, 0, (stepQ fs N 0).isNone)
  | r + 1, N => match stepQ fs N 0 with
    | none => (N, 0, true)
    | some (M, _) => ((runQ fs r M).1, (runQ fs r M).2.1 + 1, (runQ fs r M).2.2)
theorem runQ_low {fs : List Fr} (h : ∀ x ∈ fs, okF x) : ∀ (r N : Nat), runQ (fs.map low) r N = runQ fs r N
  | 0, N => by rw [runQ, runQ, low_all h]
  | r + 1, N => by
    rw [runQ, runQ, low_all h]
    cases stepQ fs N 0 with
    | none => rfl
    | some p =>
      obtain ⟨M, j⟩ := p
      simp only [runQ_low h r M]
theorem runQ_none {fs : List Fr} {N : Nat} (r : Nat) (h : stepQ fs N 0 = none) : runQ fs r N = (N, 0, true) := by
  cases r with
  | zero => rw [runQ, h]; rfl
  | succ r => rw [runQ, h]
theorem runQ_zero {fs : List Fr} {N M j : Nat} (h : stepQ fs N 0 = some (M, j)) : runQ fs 0 N = (N, 0, false) := by rw [runQ, h]; rfl
theorem runQ_step {fs : List Fr} {N M j : Nat} (r : Nat) (h : stepQ fs N 0 = some (M, j)) : runQ fs (r + 1) N = ((runQ fs r M).1, (runQ fs r M).2.1 + 1, (runQ fs r M).2.2) := by rw [runQ, h]
theorem runQ_le (fs : List Fr) : ∀ (r N : Nat), (runQ fs r N).2.1 ≤ r
  | 0, N => by rw [runQ]; exact Nat.le_refl _
  | r + 1, N => by
    cases h : stepQ fs N 0 with
    | none => rw [runQ_none _ h]; exact Nat.zero_le _
    | some p =>
      rw [runQ_step r h]
      have := runQ_le fs r p.1
      simp only
      omega
/-- A run of no steps stays. -/
theorem runQ_stay {fs : List Fr} {r N : Nat} (h : (runQ fs r N).2.1 = 0) : (runQ fs r N).1 = N := by
  cases r with
  | zero => rw [runQ]
  | succ r =>
    cases hs : stepQ fs N 0 with
    | none => rw [runQ_none _ hs]
    | some p => rw [runQ_step r hs] at h; simp at h
/-- A run of some steps makes one. -/
theorem runQ_more {fs : List Fr} {r N s : Nat} (h : (runQ fs r N).2.1 = s + 1) : ∃ r' M j, r = r' + 1 ∧ stepQ fs N 0 = some (M, j) ∧ (runQ fs r' M).1 = (runQ fs r N).1 ∧ (runQ fs r' M).2.1 = s := by
  cases r with
  | zero => rw [runQ] at h; simp at h
  | succ r =>
    cases hs : stepQ fs N 0 with
    | none => rw [runQ_none _ hs] at h; simp at h
    | some p =>
      rw [runQ_step r hs] at h ⊢
      simp only at h
      exact ⟨r, p.1, p.2, rfl, rfl, rfl, by omega⟩
/-- A natural that is not too great for r steps more. -/
def bigOk (r N : Nat) : Prop := 0 < N ∧ N * 1000 ^ r ≤ 1000000 ^ 39
theorem bigOk.len {r N : Nat} (h : bigOk r N) : (limbs N).length ≤ 40 := limbs_len (by
  have h1 : N ≤ N * 1000 ^ r := Nat.le_mul_of_pos_right _ (Nat.pow_pos (by omega))
  have h2 : (1000000 : Nat) ^ 39 < 1000000 ^ 40 := by decide
  exact Nat.lt_of_le_of_lt (Nat.le_trans h1 h.2) h2)
theorem bigOk.up {r N u : Nat} (h : bigOk r N) (hu : u ≤ 999) : (limbs (N * u)).length ≤ 40 := limbs_len (by
  have h1 : N ≤ N * 1000 ^ r := Nat.le_mul_of_pos_right _ (Nat.pow_pos (by omega))
  have h2 : N * u ≤ 1000000 ^ 39 * 999 := Nat.mul_le_mul (Nat.le_trans h1 h.2) hu
  have h3 : (1000000 : Nat) ^ 39 * 999 < 1000000 ^ 40 := by decide
  exact Nat.lt_of_le_of_lt h2 h3)
theorem bigOk.step {r N M j : Nat} {fs : List Fr} (h : bigOk (r + 1) N) (hf : ∀ x ∈ fs, okF x) (hs : stepQ fs N 0 = some (M, j)) : bigOk r M := by
  obtain ⟨x, _, hx, hm, rfl⟩ := stepQ_get hs
  obtain ⟨h1, h2, h3, h4⟩ := hf x (List.mem_of_getElem? hx)
  constructor
  · exact Nat.div_pos (Nat.le_of_dvd (Nat.mul_pos h.1 h1) (Nat.dvd_of_mod_eq_zero hm)) h3
  · have e1 : N * x.up / x.dn ≤ N * 1000 := Nat.le_trans (Nat.div_le_self _ _) (Nat.mul_le_mul_left _ (by omega))
    have e2 : N * x.up / x.dn * 1000 ^ r ≤ N * 1000 * 1000 ^ r := Nat.mul_le_mul_right _ e1
    have e3 : N * 1000 * 1000 ^ r = N * 1000 ^ (r + 1) := by rw [Nat.mul_assoc, Nat.pow_succ, Nat.mul_comm 1000]
    rw [e3] at e2
    exact Nat.le_trans e2 h.2
theorem bigOk.mono {r s N : Nat} (h : bigOk r N) (hs : s ≤ r) : bigOk s N :=
  ⟨h.1, Nat.le_trans (Nat.mul_le_mul_left _ (Nat.pow_le_pow_right (by omega) hs)) h.2⟩
theorem bigOk.start {N : Nat} (h0 : 0 < N) (h : N ≤ 1000000000000) : bigOk 41 N := by
  refine ⟨h0, Nat.le_trans (Nat.mul_le_mul_right _ h) (by decide)⟩
end Go.Proofs.Ytfjlbfnjnkaooaa
