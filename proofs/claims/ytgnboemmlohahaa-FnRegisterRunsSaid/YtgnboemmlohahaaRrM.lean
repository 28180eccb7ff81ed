/- Programs of registers, in plain Lean: steps, runs, two programs one after the other. -/
import Derived.Test.YtgnboemmlohahaaCntM
namespace Go.Proofs.Ytgnboemmlohahaa
open Go.RowKit
set_option linter.unusedVariables false
set_option linter.unusedSimpArgs false
structure Sto where
  at_ : Int
  cs : List Int
def stepS (p : List Ins) (x : Sto) : Sto :=
  match p[x.at_.toNat]? with
  | none => x
  | some i => if i.kind = 0 then ⟨i.thn, x.cs.set i.reg.toNat (x.cs.getD i.reg.toNat 0 + 1)⟩ else if 0 < x.cs.getD i.reg.toNat 0 then ⟨i.thn, x.cs.set i.reg.toNat (x.cs.getD i.reg.toNat 0 - 1)⟩ else ⟨i.els, x.cs⟩
def itS (p : List Ins) (x : Sto) : Nat → Sto
  | 0 => x
  | k + 1 => stepS p (itS p x k)
/-- A store of a program, its contents below a bound. -/
structure GoodS (n : Nat) (b : Int) (x : Sto) : Prop where
  lo : 0 ≤ x.at_
  hi : x.at_ ≤ (n : Int)
  len : x.cs.length = 24
  bd : ∀ c ∈ x.cs, 0 ≤ c ∧ c ≤ b
theorem set_bd {cs : List Int} {b v : Int} {r : Nat} (h : ∀ c ∈ cs, 0 ≤ c ∧ c ≤ b) (hv : 0 ≤ v ∧ v ≤ b) : ∀ c ∈ cs.set r v, 0 ≤ c ∧ c ≤ b := by
  intro c hc
  rcases List.mem_or_eq_of_mem_set hc with h1 | h1
  · exact h c h1
  · rw [h1]; exact hv
theorem getD_bd {cs : List Int} {b : Int} {r : Nat} (hb : 0 ≤ b) (h : ∀ c ∈ cs, 0 ≤ c ∧ c ≤ b) : 0 ≤ cs.getD r 0 ∧ cs.getD r 0 ≤ b := by
  rw [List.getD_eq_getElem?_getD]
  cases hx : cs[r]? with
  | none => exact ⟨Int.le_refl _, hb⟩
  | some x => exact h x (List.mem_of_getElem? hx)
theorem okIns_all {n : Int} {i : Ins} (h : okIns n i = true) : (0 ≤ i.reg ∧ i.reg ≤ 23) ∧ (0 ≤ i.thn ∧ i.thn ≤ n) ∧ (i.kind = 0 ∨ (i.kind = 1 ∧ 0 ≤ i.els ∧ i.els ≤ n)) := by
  simp only [okIns, inB, Bool.and_eq_true, Bool.or_eq_true, decide_eq_true_eq] at h
  obtain ⟨⟨h1, h2⟩, h3 | h3⟩ := h
  · exact ⟨by omega, by omega, .inl h3.1⟩
  · exact ⟨by omega, by omega, .inr ⟨h3.1, by omega⟩⟩
theorem step_good {p : List Ins} {b : Int} {x : Sto} (hp : okProg p = true) (h : GoodS p.length b x) (hb : 0 ≤ b) : GoodS p.length (b + 1) (stepS p x) := by
  have hw : GoodS p.length (b + 1) x := ⟨h.lo, h.hi, h.len, fun c hc => by have := h.bd c hc; omega⟩
  unfold stepS
  split
  · exact hw
  · rename_i i hi
    simp only [okProg, Bool.and_eq_true] at hp
    obtain ⟨h1, h2, h3⟩ := okIns_all (List.all_eq_true.1 hp.1 i (List.mem_of_getElem? hi))
    have h4 := getD_bd (r := i.reg.toNat) hb h.bd
    split
    · exact ⟨h2.1, h2.2, by simp [h.len], set_bd hw.bd (by omega)⟩
    · split
      · exact ⟨h2.1, h2.2, by simp [h.len], set_bd hw.bd (by omega)⟩
      · rename_i hk _
        rcases h3 with h3 | h3
        · exact absurd h3 hk
        · exact ⟨h3.2.1, h3.2.2, h.len, hw.bd⟩
theorem it_good {p : List Ins} {b : Int} {x : Sto} (hp : okProg p = true) (h : GoodS p.length b x) (hb : 0 ≤ b) (k : Nat) : GoodS p.length (b + k) (itS p x k) := by
  induction k with
  | zero => simpa [itS] using h
  | succ k ih =>
    have h1 := step_good hp ih (by omega)
    have e : b + ((k + 1 : Nat) : Int) = b + (k : Int) + 1 := by omega
    rw [e]; exact h1
def HaltsIn (p : List Ins) (x : Sto) (k : Nat) (y : Sto) : Prop := itS p x k = y ∧ y.at_ = (p.length : Int) ∧ ∀ j, j < k → (itS p x j).at_ ≠ (p.length : Int)
def shI (n : Int) (i : Ins) : Ins := ⟨i.kind, i.reg, i.thn + n, if i.kind = 1 then i.els + n else i.els⟩
def joinR (p q : List Ins) : List Ins := p ++ q.map (shI p.length)
def shS (n : Int) (x : Sto) : Sto := ⟨x.at_ + n, x.cs⟩
theorem join_left {p q : List Ins} {b : Int} {x : Sto} (h : GoodS p.length b x) (hx : x.at_ ≠ (p.length : Int)) : stepS (joinR p q) x = stepS p x := by
  have h1 := h.lo; have h2 := h.hi
  unfold stepS joinR
  rw [List.getElem?_append_left (by omega)]
theorem join_right {p q : List Ins} {b : Int} {x : Sto} (hq : okProg q = true) (h : GoodS q.length b x) (hx : x.at_ ≠ (q.length : Int)) : stepS (joinR p q) (shS p.length x) = shS p.length (stepS q x) := by
  have h1 := h.lo; have h2 := h.hi
  obtain ⟨i, hi⟩ : ∃ i, q[x.at_.toNat]? = some i := ⟨_, List.getElem?_eq_getElem (by omega)⟩
  have hj : (joinR p q)[(shS p.length x).at_.toNat]? = some (shI p.length i) := by
    unfold joinR shS
    rw [List.getElem?_append_right (by simp only; omega), List.getElem?_map]
    have e : (x.at_ + (p.length : Int)).toNat - p.length = x.at_.toNat := by omega
    simp only
    rw [e, hi]; rfl
  simp only [okProg, Bool.and_eq_true] at hq
  obtain ⟨_, _, h3⟩ := okIns_all (List.all_eq_true.1 hq.1 i (List.mem_of_getElem? hi))
  unfold stepS
  rw [hi, hj]
  simp only [shI, shS]
  by_cases hk : i.kind = 0
  · simp [hk]
  · rcases h3 with h3 | h3
    · exact absurd h3 hk
    · by_cases hc : 0 < x.cs.getD i.reg.toNat 0
      · simp only [h3.1, hc, if_true]; simp
      · simp only [h3.1, hc, if_true, if_false]; simp
theorem join_run {p q : List Ins} {b : Int} {x y z : Sto} {k m : Nat} (hp : okProg p = true) (hq : okProg q = true) (hx : GoodS p.length b x) (hb : 0 ≤ b) (h1 : HaltsIn p x k y) (h2 : HaltsIn q ⟨0, y.cs⟩ m z) : HaltsIn (joinR p q) x (k + m) (shS p.length z) := by
  obtain ⟨e1, a1, n1⟩ := h1
  obtain ⟨e2, a2, n2⟩ := h2
  have hl : ((joinR p q).length : Int) = (p.length : Int) + (q.length : Int) := by simp [joinR]
  have f1 : ∀ j, j ≤ k → itS (joinR p q) x j = itS p x j := by
    intro j
    induction j with
    | zero => intro _; rfl
    | succ j ih =>
      intro hj
      show stepS (joinR p q) (itS (joinR p q) x j) = stepS p (itS p x j)
      rw [ih (by omega)]
      exact join_left (it_good hp hx hb j) (n1 j (by omega))
  have gy := it_good hp hx hb k
  rw [e1] at gy
  have g0 : GoodS q.length (b + k) ⟨0, y.cs⟩ := ⟨Int.le_refl _, by simp, gy.len, gy.bd⟩
  have f2 : ∀ j, j ≤ m → itS (joinR p q) x (k + j) = shS p.length (itS q ⟨0, y.cs⟩ j) := by
    intro j
    induction j with
    | zero =>
      intro _
      rw [Nat.add_zero, f1 k (Nat.le_refl _), e1]
      show y = ⟨0 + (p.length : Int), y.cs⟩
      rw [Int.zero_add, ← a1]
    | succ j ih =>
      intro hj
      show stepS (joinR p q) (itS (joinR p q) x (k + j)) = shS p.length (stepS q (itS q ⟨0, y.cs⟩ j))
      rw [ih (by omega)]
      exact join_right hq (it_good hq g0 (by omega) j) (n2 j (by omega))
  refine ⟨by rw [f2 m (Nat.le_refl _), e2], ?_, ?_⟩
  · show z.at_ + (p.length : Int) = _
    rw [a2, hl]; omega
  · intro j hj
    rw [hl]
    by_cases hjk : j < k
    · rw [f1 j (by omega)]
      have h3 := (it_good hp hx hb j).hi
      have h4 := n1 j hjk
      omega
    · obtain ⟨i, rfl⟩ : ∃ i, j = k + i := ⟨j - k, by omega⟩
      rw [f2 i (by omega)]
      have h5 := n2 i (by omega)
      show (itS q ⟨0, y.cs⟩ i).at_ + (p.length : Int) ≠ _
      omega
end Go.Proofs.Ytgnboemmlohahaa
