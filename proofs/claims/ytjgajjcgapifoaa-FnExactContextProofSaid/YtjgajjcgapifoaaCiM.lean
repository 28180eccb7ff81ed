/- ContextsIn: the rows without their heads; append at a step of a region that draws. -/
import Derived.Test.YtjgajjcgapifoaaAppO
import Derived.Test.YtjgajjcgapifoaaCiS
namespace Go.Proofs.Ytjgajjcgapifoaa
open Go.RowKit
set_option linter.unusedVariables false
set_option linter.unusedSimpArgs false
/-- The value of 'w[1:]'. -/
def tailV : Value → Value
  | .slice A n c => .slice (cutA A 1 c 1) (n - 1) (c - 1)
  | v => v
theorem add_block (a : Addr) (k : Nat) : (a.add k).block = a.block := by
  unfold Addr.add
  split <;> rfl
theorem fo_cut {A : Option Addr} {n c k n' m q : Nat} (h : Fo (.slice (cutA A k c 1) n' m) q) : Fo (.slice A n c) q := by
  cases A with
  | none => simp [cutA, Fo, Value.ownBlock] at h
  | some a =>
    by_cases hc : c = k
    · simpa [cutA, Fo, Value.ownBlock, hc] using h
    · simpa [cutA, Fo, Value.ownBlock, hc, add_block] using h
theorem inner_tail {w : World} {F : Nat → Prop} {us : List Value} {xss : List (List Int)} (h : InnerP w F us xss) (h1 : ∀ xs ∈ xss, 1 ≤ xs.length) : InnerK w F (us.map tailV) (xss.map (·.drop 1)) := by
  obtain ⟨a, b, c⟩ := h
  refine ⟨by simp [a], fun i u xs hu hx => ?_, fun i j u v hu hv k hk hk' => ?_⟩
  · rw [List.getElem?_map] at hu hx
    obtain ⟨u0, hu0⟩ := get_some (xs := us) (k := i) (by rcases Nat.lt_or_ge i us.length with h2 | h2; exact h2; rw [List.getElem?_eq_none h2] at hu; cases hu)
    obtain ⟨x0, hx0⟩ := get_some (xs := xss) (k := i) (by rw [← a]; exact (List.getElem?_eq_some_iff.1 hu0).1)
    rw [hu0] at hu; rw [hx0] at hx
    simp at hu hx
    subst hu hx
    obtain ⟨A, n, c', rfl, hn, ho, hb⟩ := b i u0 x0 hu0 hx0
    have hl : x0.length = n := by simpa using ho.1
    have hn1 : 1 ≤ n := by have := h1 x0 (List.mem_of_getElem? hx0); omega
    have hk := (ownA_of ho).cut1 hn1
    rw [← List.map_drop] at hk
    exact ⟨cutA A 1 c' 1, n - 1, c' - 1, rfl, by omega, by simpa using hk, fun k hk => hb k (fo_cut (n := n) hk)⟩
  · rw [List.getElem?_map] at hu hv
    obtain ⟨u0, hu0⟩ := get_some (xs := us) (k := i) (by rcases Nat.lt_or_ge i us.length with h2 | h2; exact h2; rw [List.getElem?_eq_none h2] at hu; cases hu)
    obtain ⟨v0, hv0⟩ := get_some (xs := us) (k := j) (by rcases Nat.lt_or_ge j us.length with h2 | h2; exact h2; rw [List.getElem?_eq_none h2] at hv; cases hv)
    rw [hu0] at hu; rw [hv0] at hv
    simp at hu hv
    subst hu hv
    obtain ⟨x0, hx0⟩ := get_some (xs := xss) (k := i) (by rw [← a]; exact (List.getElem?_eq_some_iff.1 hu0).1)
    obtain ⟨y0, hy0⟩ := get_some (xs := xss) (k := j) (by rw [← a]; exact (List.getElem?_eq_some_iff.1 hv0).1)
    obtain ⟨A, n, c', rfl, _⟩ := b i u0 x0 hu0 hx0
    obtain ⟨B, m, d', rfl, _⟩ := b j v0 y0 hv0 hy0
    exact c i j _ _ hu0 hv0 k (fo_cut (n := n) (n' := n - 1) (m := c' - 1) (k := 1) hk) (fo_cut (n := m) (n' := m - 1) (m := d' - 1) (k := 1) hk')
theorem stated_tails {sts : List Int} {cs : List (List Int)} (h : sts.length = cs.length) : (stated sts cs).map (·.drop 1) = cs := by
  unfold stated
  induction cs generalizing sts with
  | nil => simp
  | cons c r ih =>
    cases sts with
    | nil => simp at h
    | cons s t => simp only [List.zipWith_cons_cons, List.map_cons, List.drop_succ_cons, List.drop_zero]; rw [ih (by simpa using h)]
theorem stated_heads {sts : List Int} {cs : List (List Int)} (h : sts.length = cs.length) : (stated sts cs).map (fun w => w.getD 0 0) = sts := by
  unfold stated
  induction cs generalizing sts with
  | nil => simp at h; simp [h]
  | cons c r ih =>
    cases sts with
    | nil => simp at h
    | cons s t => simp only [List.zipWith_cons_cons, List.map_cons]; rw [ih (by simpa using h)]; simp
/-- 'append(s, src...)' at a step of a region that draws its order, by footprint. -/
theorem step_appO {P : Program} {ops : Array Oper} {o : Oper} {a : Act} {K : Act → World → Prop} {Q : Exit → Act → World → Prop} {E : Prop} {t e : TypeId} {z : Value} (hE : Elt P t e z) (hgd : o.guard = none) (s x : Operand)
    (ho : o.op = .call { callee := .builtin .append, args := #[s, x], argTypes := #[t, t] }) (W : World) (base : Nat) (A A0 : Option Addr) (n c m c0 : Nat) (vs us : List Value) (hs : a.eval s = .slice A n c) (hown : W.ownsRow base e 1 (.slice A n c) n vs)
    (hx : a.eval x = .slice A0 m c0) (hr : Rd W A0 m us) (hu : ∀ u ∈ us, u.oneCell' = true) (hm : 0 < m) (hn : n + m ≤ 1099511627776)
    (h : ∀ A' c' w', w'.ownsRow 0 e 1 (.slice A' (n + m) c') (n + m) (vs ++ us) → Ch (Fo (.slice A n c)) W w' → (∀ k, Fo (.slice A' (n + m) c') k → Fo (.slice A n c) k ∨ W.heap.size ≤ k) → K (a.put o.dst (.slice A' (n + m) c')) w') :
    if Region.wanted o (yielded ops a.tmps) = true then Oper.wp P o a W K Q else E := by
  obtain ⟨A', c', w', hrun, k1, k2, k3⟩ := run_appO (ty := o.type) (c0 := c0) hE hown hr hu hm hn
  have hw : Region.wanted o (yielded ops a.tmps) = true := by simp [Region.wanted, hgd]
  rw [if_pos hw]
  unfold Oper.wp
  simp [execOp, ho, resolve, invoke, builtin, hs, hx, hrun, Result.andThen]
  exact h A' c' w' k1 k2 k3
end Go.Proofs.Ytjgajjcgapifoaa
