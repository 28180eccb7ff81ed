/- Word pieces in plain Lean: occurrences, the table of borders, powers. -/
import Derived.Test.YtbecofpklndpaaaPcM
namespace Go.Proofs.Ytbecofpklndpaaa
def occTo (w p : List Int) : Nat → List Int
  | 0 => []
  | k + 1 => if bgn (w.drop k) p then occTo w p k ++ [(k : Int)] else occTo w p k
theorem occTo_mem {w p : List Int} {k : Nat} {x : Int} (h : x ∈ occTo w p k) : ∃ i : Nat, x = i ∧ i < k ∧ bgn (w.drop i) p = true := by
  induction k with
  | zero => simp [occTo] at h
  | succ k ih =>
    unfold occTo at h
    split at h
    · rename_i hb
      rcases List.mem_append.1 h with h | h
      · obtain ⟨i, h1, h2, h3⟩ := ih h; exact ⟨i, h1, by omega, h3⟩
      · simp at h; exact ⟨k, h, by omega, hb⟩
    · obtain ⟨i, h1, h2, h3⟩ := ih h; exact ⟨i, h1, by omega, h3⟩
theorem bgn_len {w p : List Int} (h : bgn w p = true) : p.length ≤ w.length := by
  simp only [bgn, Bool.and_eq_true, decide_eq_true_eq] at h; exact h.1
def repl (w p by_ : List Int) (at_ : Nat) : List Int := w.take at_ ++ by_ ++ w.drop (at_ + p.length)
theorem repl_len {w p y : List Int} {a : Nat} (h : a + p.length ≤ w.length) : (repl w p y a).length + p.length = w.length + y.length := by
  simp [repl]; omega
/-- The inner loop of the table of borders. -/
def fall (w : List Int) (tb : List Nat) (x : Int) : Nat → Nat → Nat
  | 0, k => k
  | f + 1, k => if 0 < k ∧ ¬ w.getD k 0 = x then fall w tb x f (tb.getD (k - 1) 0) else k
def nx (w : List Int) (tb : List Nat) (i : Nat) : Nat :=
  if w.getD (fall w tb (w.getD i 0) i (tb.getD (i - 1) 0)) 0 = w.getD i 0 then fall w tb (w.getD i 0) i (tb.getD (i - 1) 0) + 1 else fall w tb (w.getD i 0) i (tb.getD (i - 1) 0)
def ptTo (w : List Int) : Nat → List Nat
  | 0 => []
  | 1 => [0]
  | i + 2 => ptTo w (i + 1) ++ [nx w (ptTo w (i + 1)) (i + 1)]
theorem ptTo_len (w : List Int) : ∀ i, (ptTo w i).length = i
  | 0 => rfl
  | 1 => rfl
  | i + 2 => by simp [ptTo, ptTo_len w (i + 1)]
/-- A border of the first i letters. -/
def Brd (w : List Int) (i t : Nat) : Prop := t ≤ i ∧ ∀ m, m < t → w.getD m 0 = w.getD (i - t + m) 0
theorem Brd.zero (w : List Int) (i : Nat) : Brd w i 0 := ⟨by omega, fun m h => by omega⟩
theorem Brd.trans {w : List Int} {i k t : Nat} (h : Brd w i k) (h2 : Brd w k t) : Brd w i t := by
  refine ⟨by have := h.1; have := h2.1; omega, fun m hm => ?_⟩
  have h3 := h.1; have h4 := h2.1
  rw [h2.2 m hm, h.2 (k - t + m) (by omega)]
  congr 1; omega
/-- What the table holds. -/
def TabOk (w : List Int) (tb : List Nat) (i : Nat) : Prop := ∀ j, j < i → tb.getD j 0 ≤ j ∧ Brd w (j + 1) (tb.getD j 0)
theorem fall_ok {w : List Int} {tb : List Nat} {i : Nat} {x : Int} (ht : TabOk w tb i) : ∀ (f k : Nat), k ≤ f → k < i → Brd w i k → (fall w tb x f k ≤ k ∧ Brd w i (fall w tb x f k) ∧ (fall w tb x f k = 0 ∨ w.getD (fall w tb x f k) 0 = x))
  | 0, k, hk, _, hb => by
    obtain rfl : k = 0 := by omega
    exact ⟨Nat.le_refl _, hb, .inl rfl⟩
  | f + 1, k, hk, hi, hb => by
    unfold fall
    split
    · rename_i h
      obtain ⟨h1, h2⟩ := ht (k - 1) (by omega)
      rw [show k - 1 + 1 = k by omega] at h2
      obtain ⟨a, b, c⟩ := fall_ok (x := x) ht f (tb.getD (k - 1) 0) (by omega) (by omega) (hb.trans h2)
      exact ⟨by omega, b, c⟩
    · rename_i h
      refine ⟨Nat.le_refl _, hb, ?_⟩
      by_cases h0 : k = 0
      · exact .inl h0
      · right; by_cases h2 : w.getD k 0 = x
        · exact h2
        · exact (h ⟨by omega, h2⟩).elim
theorem nx_ok {w : List Int} {tb : List Nat} {i : Nat} (h1 : 1 ≤ i) (ht : TabOk w tb i) : nx w tb i ≤ i ∧ Brd w (i + 1) (nx w tb i) := by
  obtain ⟨a, b⟩ := ht (i - 1) (by omega)
  rw [show i - 1 + 1 = i by omega] at b
  obtain ⟨c, d, e⟩ := fall_ok (x := w.getD i 0) ht i (tb.getD (i - 1) 0) (by omega) (by omega) b
  unfold nx
  generalize fall w tb (w.getD i 0) i (tb.getD (i - 1) 0) = k at *
  split
  · rename_i h
    refine ⟨by omega, by omega, fun m hm => ?_⟩
    rw [show i + 1 - (k + 1) + m = i - k + m by omega]
    by_cases hmk : m < k
    · exact d.2 m hmk
    · obtain rfl : m = k := by omega
      rw [h]; congr 1; omega
  · rename_i h
    rcases e with e | e
    · subst e; exact ⟨by omega, Brd.zero _ _⟩
    · exact (h e).elim
theorem getD_app1 {tb : List Nat} {y : Nat} {j : Nat} (h : j < tb.length) : (tb ++ [y]).getD j 0 = tb.getD j 0 := by
  rw [List.getD_eq_getElem?_getD, List.getElem?_append_left h, ← List.getD_eq_getElem?_getD]
theorem getD_app2 {tb : List Nat} {y : Nat} : (tb ++ [y]).getD tb.length 0 = y := by
  rw [List.getD_eq_getElem?_getD, List.getElem?_append_right (Nat.le_refl _)]; simp
theorem ptTo_ok (w : List Int) : ∀ i, 1 ≤ i → TabOk w (ptTo w i) i
  | 1, _ => fun j hj => by
    obtain rfl : j = 0 := by omega
    exact ⟨by simp [ptTo], Brd.zero _ _⟩
  | i + 2, _ => fun j hj => by
    have ih := ptTo_ok w (i + 1) (by omega)
    have hl := ptTo_len w (i + 1)
    show (ptTo w (i + 1) ++ [nx w (ptTo w (i + 1)) (i + 1)]).getD j 0 ≤ j ∧ Brd w (j + 1) ((ptTo w (i + 1) ++ [nx w (ptTo w (i + 1)) (i + 1)]).getD j 0)
    by_cases h : j < i + 1
    · rw [getD_app1 (by omega)]; exact ih j h
    · obtain rfl : j = i + 1 := by omega
      have e := getD_app2 (tb := ptTo w (i + 1)) (y := nx w (ptTo w (i + 1)) (i + 1))
      rw [hl] at e
      rw [e]
      exact nx_ok (by omega) ih
/-- The greatest border of a word. -/
def lastB (w : List Int) : Nat := (ptTo w w.length).getD (w.length - 1) 0
theorem lastB_ok {w : List Int} (h : 1 ≤ w.length) : lastB w ≤ w.length - 1 ∧ Brd w w.length (lastB w) := by
  obtain ⟨a, b⟩ := ptTo_ok w w.length h (w.length - 1) (by omega)
  rw [show w.length - 1 + 1 = w.length by omega] at b
  exact ⟨a, b⟩
def period (w : List Int) : Nat := w.length - lastB w
theorem period_drop {w : List Int} (h : 1 ≤ w.length) : w.drop (period w) = w.take (lastB w) := by
  obtain ⟨a, b, c⟩ := lastB_ok h
  apply List.ext_getElem
  · simp [period]; omega
  · intro m h1 h2
    simp only [List.getElem_drop, List.getElem_take]
    have h3 : m < lastB w := by simp at h2; omega
    have h4 := c m h3
    have h5 : w.length - lastB w + m < w.length := by omega
    rw [List.getD_eq_getElem?_getD, List.getD_eq_getElem?_getD, List.getElem?_eq_getElem (by omega), List.getElem?_eq_getElem h5] at h4
    simpa [period] using h4.symm
theorem power_take {w : List Int} (h : 1 ≤ w.length) : ∀ e : Nat, e * period w ≤ w.length → (List.replicate e (w.take (period w))).flatten = w.take (e * period w)
  | 0, _ => by simp
  | e + 1, he => by
    have hp : period w ≤ w.length := by unfold period; omega
    have e1 : (e + 1) * period w = period w + e * period w := by rw [Nat.succ_mul]; omega
    rw [e1] at he ⊢
    have ih := power_take h e (by omega)
    rw [List.replicate_succ, List.flatten_cons, ih]
    have h2 := period_drop h
    have h3 : e * period w ≤ lastB w := by unfold period at he ⊢; have := (lastB_ok h).1; omega
    have h4 : w.take (e * period w) = (w.drop (period w)).take (e * period w) := by rw [h2, List.take_take]; congr 1; omega
    rw [h4, ← List.take_add]
/-- The root of a word. -/
def rootLen (w : List Int) : Nat := if w.length % period w = 0 then period w else w.length
theorem root_power {w : List Int} (h : 1 ≤ w.length) : (List.replicate (w.length / rootLen w) (w.take (rootLen w))).flatten = w := by
  unfold rootLen
  split
  · rename_i h0
    have hd : w.length / period w * period w = w.length := Nat.div_mul_cancel (Nat.dvd_of_mod_eq_zero h0)
    rw [power_take h _ (by omega), hd, List.take_length]
  · rw [Nat.div_self (by omega)]; simp
theorem period_pos {w : List Int} (h : 1 ≤ w.length) : 1 ≤ period w ∧ period w ≤ w.length := by have := (lastB_ok h).1; unfold period; omega
end Go.Proofs.Ytbecofpklndpaaa
