/- FindAutomaton, in plain Lean: pairs of automata in their order; the search. -/
import Derived.Test.YtcpkhhammafchaaFaT
namespace Go.Proofs.Ytcpkhhammafchaa
open Go.RowKit
set_option linter.unusedVariables false
set_option linter.unusedSimpArgs false
def nA (st s : Nat) : Nat := st ^ (st * s - 1)
def offA (s : Nat) : Nat → Nat
  | 0 => 0
  | 1 => 0
  | k + 2 => offA s (k + 1) + nA (k + 1) s * nA (k + 1) s
theorem offA_next {s st : Nat} (h : 1 ≤ st) : offA s (st + 1) = offA s st + nA st s * nA st s := by
  obtain ⟨k, rfl⟩ : ∃ k, st = k + 1 := ⟨st - 1, by omega⟩
  rfl
theorem offA_mono {s a b : Nat} (h1 : 1 ≤ a) (h : a ≤ b) : offA s a ≤ offA s b := by
  induction b with
  | zero => omega
  | succ b ih =>
    by_cases e : a = b + 1
    · subst e; omega
    · have h2 := ih (by omega)
      rw [offA_next (by omega : 1 ≤ b)]
      omega
theorem pos_lt {s st i j : Nat} (h1 : 1 ≤ st) (hi : i < nA st s) (hj : j < nA st s) : offA s st + i * nA st s + j < offA s (st + 1) := by
  rw [offA_next h1]
  have h2 : (i + 1) * nA st s ≤ nA st s * nA st s := Nat.mul_le_mul_right _ hi
  rw [Nat.add_mul] at h2
  omega
theorem pos_inj {s st i j st' i' j' : Nat} (h1 : 1 ≤ st) (hi : i < nA st s) (hj : j < nA st s) (h1' : 1 ≤ st') (hi' : i' < nA st' s) (hj' : j' < nA st' s) (h : offA s st + i * nA st s + j = offA s st' + i' * nA st' s + j') : st = st' ∧ i = i' ∧ j = j' := by
  have p1 := pos_lt h1 hi hj
  have p2 := pos_lt h1' hi' hj'
  have e : st = st' := by
    rcases Nat.lt_trichotomy st st' with h2 | h2 | h2
    · have := offA_mono (s := s) (a := st + 1) (b := st') (by omega) (by omega); omega
    · exact h2
    · have := offA_mono (s := s) (a := st' + 1) (b := st) (by omega) (by omega); omega
  subst e
  have h2 : i * nA st s + j = i' * nA st s + j' := by omega
  have d1 : (i * nA st s + j) / nA st s = i := by rw [Nat.mul_comm, Nat.mul_add_div (by omega), Nat.div_eq_of_lt hj]; omega
  have d2 : (i' * nA st s + j') / nA st s = i' := by rw [Nat.mul_comm, Nat.mul_add_div (by omega), Nat.div_eq_of_lt hj']; omega
  have e2 : i = i' := by rw [← d1, ← d2, h2]
  subst e2
  exact ⟨rfl, rfl, by omega⟩
noncomputable def avN (s : Nat) (rs : List Rul) (st i j : Nat) : Bool := avA (s : Int) rs (rowA st (st * s) i) (rowA st (st * s) j)
def prN (s st i j : Nat) : List Int := [(st : Int), (st : Int)] ++ rowA st (st * s) i ++ rowA st (st * s) j
/-- The pair of a number is a proof. -/
def hitA (s : Nat) (rs : List Rul) (p : Nat) (r : List Int) : Prop := ∃ st i j, 1 ≤ st ∧ st ≤ 3 ∧ i < nA st s ∧ j < nA st s ∧ p = offA s st + i * nA st s + j ∧ avN s rs st i j = true ∧ r = prN s st i j
def missA (s : Nat) (rs : List Rul) (c : Nat) : Prop := ∀ p r, p < c → ¬ hitA s rs p r
theorem hit_same {s : Nat} {rs : List Rul} {p : Nat} {r r' : List Int} (h : hitA s rs p r) (h' : hitA s rs p r') : r = r' := by
  obtain ⟨st, i, j, a1, a2, a3, a4, a5, a6, rfl⟩ := h
  obtain ⟨st', i', j', b1, b2, b3, b4, b5, b6, rfl⟩ := h'
  obtain ⟨rfl, rfl, rfl⟩ := pos_inj a1 a3 a4 b1 b3 b4 (a5.symm.trans b5)
  rfl
theorem hit_lt {s : Nat} {rs : List Rul} {p : Nat} {r : List Int} (h : hitA s rs p r) : p < offA s 4 := by
  obtain ⟨st, i, j, a1, a2, a3, a4, rfl, a6, rfl⟩ := h
  exact Nat.lt_of_lt_of_le (pos_lt a1 a3 a4) (offA_mono (by omega) (by omega))
theorem miss_zero (s : Nat) (rs : List Rul) : missA s rs 0 := fun p r h => by omega
theorem miss_step {s : Nat} {rs : List Rul} {st i j : Nat} (h : missA s rs (offA s st + i * nA st s + j)) (h1 : 1 ≤ st) (hi : i < nA st s) (hj : j < nA st s) (hv : avN s rs st i j = false) : missA s rs (offA s st + i * nA st s + (j + 1)) := by
  intro p r hp hh
  by_cases e : p < offA s st + i * nA st s + j
  · exact h p r e hh
  · have e2 : p = offA s st + i * nA st s + j := by omega
    obtain ⟨st', i', j', b1, b2, b3, b4, b5, b6, rfl⟩ := hh
    obtain ⟨rfl, rfl, rfl⟩ := pos_inj h1 hi hj b1 b3 b4 (e2.symm.trans b5)
    rw [hv] at b6
    cases b6
abbrev ResA := Int × List Int × List (List Int) × Int
/-- The search's answer. -/
inductive FaR (s : Nat) (rs : List Rul) (b : Nat) : ResA → Prop
  | found {p r} (h : hitA s rs p r) (hm : missA s rs p) (hp : p < b) : FaR s rs b (7, r, [], 0)
  | out (hm : missA s rs b) (hp : b < offA s 4) : FaR s rs b (0, [], [], 5)
  | none (hm : missA s rs (offA s 4)) (hp : offA s 4 ≤ b) : FaR s rs b (0, [], [], 3)
theorem FaR.same {s : Nat} {rs : List Rul} {b : Nat} {x y : ResA} (h : FaR s rs b x) (k : FaR s rs b y) : x = y := by
  cases h with
  | found h hm hp =>
    cases k with
    | found h' hm' hp' =>
      rename_i p r p' r'
      have e : p = p' := by
        rcases Nat.lt_trichotomy p p' with h2 | h2 | h2
        · exact absurd h (hm' _ _ h2)
        · exact h2
        · exact absurd h' (hm _ _ h2)
      subst e
      rw [hit_same h h']
    | out hm' _ => exact absurd h (hm' _ _ hp)
    | none hm' _ => exact absurd h (hm' _ _ (hit_lt h))
  | out hm hp =>
    cases k with
    | found h' hm' hp' => exact absurd h' (hm _ _ hp')
    | out => rfl
    | none _ hp' => omega
  | none hm hp =>
    cases k with
    | found h' hm' hp' => exact absurd h' (hm _ _ (hit_lt h'))
    | out _ hp' => omega
    | none => rfl
open Classical in
noncomputable def faP (s : Nat) (rs : List Rul) (b : Nat) : ResA := if h : ∃ r, FaR s rs b r then Classical.choose h else (0, [], [], 3)
theorem faP_of {s : Nat} {rs : List Rul} {b : Nat} {r : ResA} (h : FaR s rs b r) : faP s rs b = r := by
  have hx : ∃ r, FaR s rs b r := ⟨r, h⟩
  unfold faP
  rw [dif_pos hx]
  exact (Classical.choose_spec hx).same h
/-- What FindAutomaton answers. -/
noncomputable def fauP (s t : Int) (rs : List Rul) (b : Int) : ResA := if okM s t rs then (if inB b 1 20000 then faP s.toNat rs b.toNat else (0, [], [], 2)) else (0, [], [], 1)
theorem digA_in {st n k i : Nat} (h : 1 ≤ st) : 0 ≤ digA st n k i ∧ digA st n k i ≤ (st : Int) - 1 := by
  unfold digA
  split
  · omega
  · have h1 := Nat.mod_lt (k / st ^ (n - 1 - i)) (show 0 < st by omega)
    omega
theorem row_ok {st s k : Nat} (h : 1 ≤ st ∧ st ≤ 3) (hs : 2 ≤ s ∧ s ≤ 6) : dfB (st : Int) (rowA st (st * s) k) (s : Int) = true := by
  refine dfB_yes (by rw [inB_true]; omega) (by rw [inB_true]; omega) (by rw [rowA_len]; push_cast; rfl) ?_ ?_
  · rw [allIn_true]
    intro x hx
    obtain ⟨i, hi, rfl⟩ := List.mem_map.1 hx
    exact digA_in h.1
  · have h1 : 0 < st * s := Nat.mul_pos (by omega) (by omega)
    unfold rowA
    rw [List.getD_eq_getElem?_getD, List.getElem?_map, List.getElem?_range h1]
    rfl
theorem nA_le {st s : Nat} (h : 1 ≤ st ∧ st ≤ 3) (hs : 2 ≤ s ∧ s ≤ 6) : 1 ≤ nA st s ∧ nA st s ≤ 129140163 := by
  unfold nA
  constructor
  · exact Nat.pow_pos (by omega)
  · have h1 : st * s ≤ 3 * 6 := Nat.mul_le_mul h.2 hs.2
    calc st ^ (st * s - 1) ≤ 3 ^ (st * s - 1) := Nat.pow_le_pow_left h.2 _
      _ ≤ 3 ^ 17 := Nat.pow_le_pow_right (by omega) (by omega)
      _ = 129140163 := by decide
end Go.Proofs.Ytcpkhhammafchaa
