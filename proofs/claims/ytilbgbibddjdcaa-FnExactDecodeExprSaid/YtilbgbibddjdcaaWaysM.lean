/- The reference's table of ways: rows of rows of the call's own, each row known whole. -/
import Derived.Test.YtilbgbibddjdcaaRankG
import Derived.Test.YtilbgbibddjdcaaRet
import Derived.Test.YtilbgbibddjdcaaMemS
import Derived.Test.YtilbgbibddjdcaaFoot
namespace Go.Proofs.Ytilbgbibddjdcaa
open Go.RowKit
set_option linter.unusedVariables false
set_option linter.unusedSimpArgs false

def wrow (t : Nat → Nat → Nat) (r : Nat) : Array Value := ((List.range 91).map fun c => Value.int .i64 ((t r c : Nat) : Int)).toArray
theorem wrow_get (t : Nat → Nat → Nat) (r c : Nat) (hc : c < 91) : (wrow t r)[c]? = some (.int .i64 (t r c)) := by
  simp [wrow, hc]
theorem wrow_size (t : Nat → Nat → Nat) (r : Nat) : (wrow t r).size = 91 := by simp [wrow]
theorem wrow_set (t t' : Nat → Nat → Nat) (r c v : Nat) (h : ∀ j, j < 91 → t' r j = if j = c then v else t r j) : (wrow t r).setIfInBounds c (.int .i64 (v : Int)) = wrow t' r := by
  apply Array.ext
  · simp [wrow_size]
  · intro j h1 h2
    have hj : j < 91 := by simpa [wrow_size] using h2
    rw [Array.getElem_setIfInBounds]
    · have e := h j hj
      split
      · rename_i hcj
        subst hcj
        simp [wrow, e]
      · rename_i hcj
        rw [if_neg (fun h => hcj h.symm)] at e
        simp [wrow, e]
    · simpa [wrow_size] using hj
theorem wrow_same (t t' : Nat → Nat → Nat) (r : Nat) (h : ∀ j, j < 91 → t' r j = t r j) : wrow t r = wrow t' r := by
  unfold wrow
  congr 1
  apply List.map_congr_left
  intro c hc
  rw [h c (List.mem_range.1 hc)]
def wouter (g : Nat → Nat) (m : Nat) : List Value := (List.range m).map fun r => Value.slice (some ⟨g r, 0, none⟩) 91 91
/-- The table: m rows of 91 numbers, each in a block of its own. -/
def WT (w : World) (base : Nat) (V : Value) (m : Nat) (g : Nat → Nat) (t : Nat → Nat → Nat) : Prop :=
  w.ownsRow base 65 1 V m (wouter g m) ∧ (∀ r, r < m → base ≤ g r ∧ w.heap[g r]? = some (.cells (wrow t r) 2 (0, 0))) ∧ ∀ r s, r < m → s < m → g r = g s → r = s
theorem WT.nil (w : World) (base : Nat) (t : Nat → Nat → Nat) : WT w base (.slice none 0 0) 0 (fun _ => 0) t := ⟨own_nil _ _ _, fun r h => by omega, fun r s h => by omega⟩
theorem WT.below {w w' : World} {base : Nat} {V : Value} {m : Nat} {g : Nat → Nat} {t : Nat → Nat → Nat} (h : WT w base V m g t) (hb : Below w.heap.size w w') : WT w' base V m g t := by
  obtain ⟨h1, h2, h3⟩ := h
  obtain ⟨A, c, rfl, _⟩ := own_form h1
  exact ⟨own_below h1 hb (Nat.le_refl _), fun r hr => ⟨(h2 r hr).1, blk_bel (h2 r hr).2 hb⟩, h3⟩
/-- A new row behind the others. -/
theorem WT.push {w w' : World} {base m c' : Nat} {V : Value} {B : Option Addr} {g : Nat → Nat} {t : Nat → Nat → Nat} (h : WT w base V m g t) (x : Nat) (hx : base ≤ x) (hxr : w.heap[x]? = some (.cells (wrow t m) 2 (0, 0))) (hfr : ∀ r, r < m → g r ≠ x)
    (ho : w'.ownsRow base 65 1 (.slice B (m + 1) c') (m + 1) (wouter g m ++ [.slice (some ⟨x, 0, none⟩) 91 91])) (hg : w.grownBy w' V.ownBlock) : WT w' base (.slice B (m + 1) c') (m + 1) (fun r => if r = m then x else g r) t := by
  obtain ⟨h1, h2, h3⟩ := h
  have hne : ∀ (k : Nat) (cs : Array Value), w.heap[k]? = some (.cells cs 2 (0, 0)) → w'.heap[k]? = some (.cells cs 2 (0, 0)) := by
    intro k cs hk
    rw [hg.block k (blk_lt hk) (fun e => ?_)]
    · exact hk
    · rcases h1.2 with ⟨rfl, _⟩ | ⟨q, cap, cur, rfl, _, hq, _⟩
      · simp [Value.ownBlock] at e
      · simp [Value.ownBlock] at e
        subst e
        exact blk_ne hk hq (by decide) rfl
  refine ⟨?_, ?_, ?_⟩
  · have e : wouter (fun r => if r = m then x else g r) (m + 1) = wouter g m ++ [.slice (some ⟨x, 0, none⟩) 91 91] := by
      simp only [wouter, List.range_succ, List.map_append, List.map_cons, List.map_nil, if_pos]
      congr 1
      apply List.map_congr_left
      intro r hr
      rw [if_neg (by have := List.mem_range.1 hr; omega)]
    rw [e]
    exact ho
  · intro r hr
    by_cases e : r = m
    · subst e
      simp only [if_pos]
      exact ⟨hx, hne _ _ hxr⟩
    · simp only [if_neg e]
      obtain ⟨a, b⟩ := h2 r (by omega)
      exact ⟨a, hne _ _ b⟩
  · intro r s hr hs e
    by_cases er : r = m <;> by_cases es : s = m
    · omega
    · simp only [if_pos er, if_neg es] at e
      exact absurd e.symm (hfr s (by omega))
    · simp only [if_neg er, if_pos es] at e
      exact absurd e (hfr r (by omega))
    · simp only [if_neg er, if_neg es] at e
      exact h3 r s (by omega) (by omega) e
theorem WT.outer {w : World} {base m c : Nat} {A : Option Addr} {g : Nat → Nat} {t : Nat → Nat → Nat} (h : WT w base (.slice A m c) m g t) : ∃ G, (0 < m → A = some ⟨G, 0, none⟩ ∧ G < w.heap.size) ∧ ∀ r, r < m → w.cell? ⟨G, r, none⟩ = some (.slice (some ⟨g r, 0, none⟩) 91 91) := by
  rcases h.1.2 with ⟨h', h0⟩ | ⟨G, cap, cur, h', _⟩
  · exact ⟨0, fun hm => by omega, fun r hr => by omega⟩
  · injection h' with h1 h2 h3
    subst h1
    refine ⟨G, fun hm => ⟨rfl, ?_⟩, fun r hr => ?_⟩
    · obtain ⟨g', e, _, hlt, _⟩ := own_get h.1 (k := 0) (u := .slice (some ⟨g 0, 0, none⟩) 91 91) (by simp [wouter, hm])
      injection e with e
      injection e with e
      omega
    · obtain ⟨g', e, _, _, hc, _⟩ := own_get h.1 (k := r) (u := .slice (some ⟨g r, 0, none⟩) 91 91) (by simp [wouter, hr])
      injection e with e
      injection e with e
      subst e
      exact hc
theorem WT.cell {w : World} {base m r c : Nat} {V : Value} {g : Nat → Nat} {t : Nat → Nat → Nat} (h : WT w base V m g t) (hr : r < m) (hc : c < 91) : w.cell? ⟨g r, c, none⟩ = some (.int .i64 (t r c)) :=
  blk_cell (h.2.1 r hr).2 c (wrow_get t r c hc)
theorem WT.put {w : World} {base m r c v : Nat} {V : Value} {g : Nat → Nat} {t t' : Nat → Nat → Nat} (h : WT w base V m g t) (hr : r < m) (ht : ∀ r', r' < m → ∀ c', c' < 91 → t' r' c' = if r' = r ∧ c' = c then v else t r' c') : WT (w.setCell ⟨g r, c, none⟩ (.int .i64 (v : Int))) base V m g t' := by
  obtain ⟨h1, h2, h3⟩ := h
  refine ⟨own_set_far h1 (h2 r hr).2 (by decide), ?_, h3⟩
  intro s hs
  obtain ⟨a, b⟩ := h2 s hs
  refine ⟨a, ?_⟩
  by_cases e : s = r
  · subst e
    rw [← wrow_set t t' s c v (fun j hj => by rw [ht s hs j hj]; by_cases e : j = c <;> simp [e])]
    exact blk_set b c _
  · rw [← wrow_same t t' s (fun j hj => by rw [ht s hs j hj, if_neg (by omega)])]
    exact blk_far b (fun e1 => e (h3 s r hs hr e1))
/-- The table in the making. -/
def tt (n k r c : Nat) : Nat := if r = 90 then 0 else if c < n ∨ (c = n ∧ r < k) then cnt c r else 0
theorem tt_zero (r c : Nat) : (if r = 0 ∧ c = 0 then 1 else 0) = tt 1 1 r c := by
  unfold tt
  rcases c with _ | _ | c
  · rcases r with _ | r <;> simp [cnt]
  · rcases r with _ | r <;> simp [cnt]
  · simp
theorem tt_step {n k : Nat} (h1 : 1 ≤ n) (h2 : n ≤ 90) (h3 : 1 ≤ k) (h4 : k < 90) : min 1000000000001 (tt n k (k - 1) (n - 1) + tt n k (k + 1) (n - 1)) = cnt n k := by
  have e : tt n k (k + 1) (n - 1) = cnt (n - 1) (k + 1) := by
    unfold tt
    split
    · exact (cnt_lt _ _ (by omega)).symm
    · rw [if_pos (by omega)]
  rw [e, cnt_step n k h3 h1]
  unfold tt
  rw [if_neg (by omega), if_pos (by omega)]
theorem tt_put {n k : Nat} (h4 : k < 90) (r c : Nat) : tt n (k + 1) r c = if r = k ∧ c = n then cnt n k else tt n k r c := by
  unfold tt
  by_cases h : r = k ∧ c = n
  · obtain ⟨rfl, rfl⟩ := h
    rw [if_neg (by omega), if_pos (by omega)]
    simp
  · rw [if_neg h]
    split
    · rfl
    · by_cases hq : c < n ∨ (c = n ∧ r < k)
      · rw [if_pos hq, if_pos (by omega)]
      · rw [if_neg hq, if_neg (by omega)]
theorem tt_next {n : Nat} (r c : Nat) (hr : r < 91) : tt (n + 1) 1 r c = tt n 90 r c := by
  unfold tt
  split
  · rfl
  · by_cases hq : c < n ∨ (c = n ∧ r < 90)
    · rw [if_pos hq, if_pos (by omega)]
    · rw [if_neg hq]
      split
      · rename_i h
        have h1 : c = n + 1 := by omega
        have h2 : r = 0 := by omega
        subst h1 h2
        rfl
      · rfl
theorem tt_end (r c : Nat) (hr : r < 90) (hc : c < 91) : tt 91 1 r c = cnt c r := by
  unfold tt
  rw [if_neg (by omega), if_pos (by omega)]
end Go.Proofs.Ytilbgbibddjdcaa
