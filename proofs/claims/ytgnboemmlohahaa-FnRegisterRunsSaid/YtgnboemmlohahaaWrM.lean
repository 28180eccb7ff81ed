/- Words and their ranks in plain Lean; the sign of a comparison. -/
import Derived.Test.YtgnboemmlohahaaGA
namespace Go.Proofs.Ytgnboemmlohahaa
theorem snoc_of (xs : List Int) (h : xs ≠ []) : ∃ ys y, xs = ys ++ [y] := ⟨xs.dropLast, xs.getLast h, (List.dropLast_concat_getLast h).symm⟩
def rkF (L : Int) : Int → List Int → Int
  | c, [] => c
  | c, x :: r => rkF L (c * L + x + 1) r
def rk (L : Int) (xs : List Int) : Int := rkF L 0 xs
theorem rkF_snoc (L : Int) : ∀ (xs : List Int) (c x : Int), rkF L c (xs ++ [x]) = rkF L c xs * L + x + 1
  | [], c, x => rfl
  | y :: r, c, x => by simp only [List.cons_append, rkF]; exact rkF_snoc L r _ x
theorem rk_snoc (L : Int) (xs : List Int) (x : Int) : rk L (xs ++ [x]) = rk L xs * L + x + 1 := rkF_snoc L xs 0 x
theorem rkF_lt {L : Int} (hL : 1 ≤ L) : ∀ (xs ys : List Int) (c d : Int), xs.length = ys.length → allIn xs 0 (L - 1) = true → allIn ys 0 (L - 1) = true → c < d → rkF L c xs < rkF L d ys
  | [], [], c, d, _, _, _, h => h
  | x :: r, y :: s, c, d, hl, hx, hy, h => by
    simp only [allIn, List.all_cons, Bool.and_eq_true] at hx hy
    have h1 := inB_true.1 hx.1
    have h2 := inB_true.1 hy.1
    refine rkF_lt hL r s _ _ (by simpa using hl) hx.2 hy.2 ?_
    have : (c + 1) * L ≤ d * L := Int.mul_le_mul_of_nonneg_right (by omega) (by omega)
    rw [Int.add_mul] at this
    omega
theorem rk_bound {L : Int} (h1 : 1 ≤ L) (h4 : L ≤ 4) (n : Nat) : ∀ (xs : List Int), xs.length = n → allIn xs 0 (L - 1) = true → 0 ≤ rk L xs ∧ rk L xs ≤ 8 ^ n - 1 := by
  induction n with
  | zero => intro xs hx _; have := List.eq_nil_of_length_eq_zero hx; subst this; exact ⟨Int.le_refl _, by simp [rk, rkF]⟩
  | succ n ih =>
    intro xs hx ha
    obtain ⟨ys, y, rfl⟩ : ∃ ys y, xs = ys ++ [y] := snoc_of xs (by intro h; simp [h] at hx)
    simp only [allIn, List.all_append, List.all_cons, List.all_nil, Bool.and_true, Bool.and_eq_true] at ha
    obtain ⟨i1, i2⟩ := ih ys (by simpa using hx) ha.1
    have h2 := inB_true.1 ha.2
    rw [rk_snoc]
    have a1 : 0 ≤ rk L ys * L := Int.mul_nonneg i1 (by omega)
    have a2 : rk L ys * L ≤ rk L ys * 4 := Int.mul_le_mul_of_nonneg_left h4 i1
    have e : (8 : Int) ^ (n + 1) = 8 ^ n * 8 := Int.pow_succ _ _
    exact ⟨by omega, by omega⟩
theorem rk_small {L : Int} (h1 : 1 ≤ L) (h4 : L ≤ 4) {xs : List Int} (hl : xs.length ≤ 8) (ha : allIn xs 0 (L - 1) = true) : 0 ≤ rk L xs ∧ rk L xs ≤ 16777215 := by
  obtain ⟨a, b⟩ := rk_bound h1 h4 _ xs rfl ha
  refine ⟨a, Int.le_trans b ?_⟩
  have : (8 : Int) ^ xs.length ≤ 8 ^ 8 := by
    have h : (8 : Nat) ^ xs.length ≤ 8 ^ 8 := Nat.pow_le_pow_right (by omega) hl
    exact_mod_cast h
  have e : (8 : Int) ^ 8 = 16777216 := by decide
  omega
/-- Words of fewer letters have smaller ranks. -/
def ones (L : Int) : Nat → Int
  | 0 => 0
  | n + 1 => ones L n * L + 1
theorem ones_mono {L : Int} (hL : 1 ≤ L) : ∀ {m n : Nat}, m ≤ n → 0 ≤ ones L m ∧ ones L m ≤ ones L n := by
  have step : ∀ n, 0 ≤ ones L n ∧ ones L n ≤ ones L (n + 1) := by
    intro n
    induction n with
    | zero => simp [ones]
    | succ n ih =>
      have h1 : ones L n * L ≤ ones L (n + 1) * L := Int.mul_le_mul_of_nonneg_right ih.2 (by omega)
      have h2 : 0 ≤ ones L n * L := Int.mul_nonneg ih.1 (by omega)
      exact ⟨by simp only [ones]; omega, by show ones L n * L + 1 ≤ ones L (n + 1) * L + 1; omega⟩
  intro m n h
  induction n with
  | zero => obtain rfl : m = 0 := by omega
            exact ⟨by simp [ones], Int.le_refl _⟩
  | succ n ih =>
    rcases Nat.lt_or_ge n m with h' | h'
    · obtain rfl : m = n + 1 := by omega
      exact ⟨Int.le_trans (step n).1 (step n).2, Int.le_refl _⟩
    · exact ⟨(ih h').1, Int.le_trans (ih h').2 (step n).2⟩
theorem rk_ones {L : Int} (hL : 1 ≤ L) (n : Nat) : ∀ (xs : List Int), xs.length = n → allIn xs 0 (L - 1) = true → ones L n ≤ rk L xs ∧ rk L xs < ones L (n + 1) := by
  induction n with
  | zero => intro xs hx _; have := List.eq_nil_of_length_eq_zero hx; subst this; simp [rk, rkF, ones]
  | succ n ih =>
    intro xs hx ha
    obtain ⟨ys, y, rfl⟩ : ∃ ys y, xs = ys ++ [y] := snoc_of xs (by intro h; simp [h] at hx)
    simp only [allIn, List.all_append, List.all_cons, List.all_nil, Bool.and_true, Bool.and_eq_true] at ha
    obtain ⟨i1, i2⟩ := ih ys (by simpa using hx) ha.1
    have h2 := inB_true.1 ha.2
    rw [rk_snoc]
    have a1 : ones L n * L ≤ rk L ys * L := Int.mul_le_mul_of_nonneg_right i1 (by omega)
    have a2 : (rk L ys + 1) * L ≤ ones L (n + 1) * L := Int.mul_le_mul_of_nonneg_right (by omega) (by omega)
    rw [Int.add_mul] at a2
    exact ⟨by simp only [ones]; omega, by show _ < ones L (n + 1) * L + 1; omega⟩
/-- The comparison from the front. -/
def cmpL : List Int → List Int → Int
  | [], [] => 0
  | [], _ :: _ => -1
  | _ :: _, [] => 1
  | x :: r, y :: s => if x < y then -1 else if y < x then 1 else cmpL r s
def shortL (xs ys : List Int) : Int := if xs.length = ys.length then cmpL xs ys else if xs.length < ys.length then -1 else 1
def sgn (a b : Int) : Int := if a < b then -1 else if b < a then 1 else 0
theorem cmpL_rk {L : Int} (hL : 1 ≤ L) : ∀ (xs ys : List Int) (c : Int), xs.length = ys.length → allIn xs 0 (L - 1) = true → allIn ys 0 (L - 1) = true → cmpL xs ys = sgn (rkF L c xs) (rkF L c ys)
  | [], [], c, _, _, _ => by simp [cmpL, sgn, rkF]
  | x :: r, y :: s, c, hl, hx, hy => by
    have hl' : r.length = s.length := by simpa using hl
    simp only [allIn, List.all_cons, Bool.and_eq_true] at hx hy
    simp only [cmpL, rkF]
    by_cases h1 : x < y
    · have := rkF_lt hL r s (c * L + x + 1) (c * L + y + 1) hl' hx.2 hy.2 (by omega)
      simp [h1, sgn, this]
    · by_cases h2 : y < x
      · have := rkF_lt hL s r (c * L + y + 1) (c * L + x + 1) hl'.symm hy.2 hx.2 (by omega)
        rw [if_neg h1, if_pos h2, sgn, if_neg (by omega), if_pos this]
      · obtain rfl : x = y := by omega
        rw [if_neg h1, if_neg h2]
        exact cmpL_rk hL r s _ hl' hx.2 hy.2
theorem short_rk {L : Int} (hL : 1 ≤ L) (xs ys : List Int) (hx : allIn xs 0 (L - 1) = true) (hy : allIn ys 0 (L - 1) = true) : shortL xs ys = sgn (rk L xs) (rk L ys) := by
  unfold shortL
  by_cases h : xs.length = ys.length
  · rw [if_pos h]; exact cmpL_rk hL xs ys 0 h hx hy
  · rw [if_neg h]
    obtain ⟨a1, a2⟩ := rk_ones hL _ xs rfl hx
    obtain ⟨b1, b2⟩ := rk_ones hL _ ys rfl hy
    by_cases h2 : xs.length < ys.length
    · have := (ones_mono hL (m := xs.length + 1) (n := ys.length) (by omega)).2
      rw [if_pos h2, sgn, if_pos (by omega)]
    · have := (ones_mono hL (m := ys.length + 1) (n := xs.length) (by omega)).2
      rw [if_neg h2, sgn, if_neg (by omega), if_pos (by omega)]
theorem sgn_lt (a b : Int) : decide (sgn a b < 0) = decide (a < b) := by
  unfold sgn
  split
  · simp [*]
  · split <;> simp [*]
theorem sgn_gt (a b : Int) : decide (0 < sgn a b) = decide (b < a) := by
  unfold sgn
  split
  · rename_i h
    have : ¬ b < a := by omega
    simp [this]
  · split <;> simp [*]
/-- A row turned round, as far as k places from both ends. -/
def revK (xs : List Int) (k : Nat) : List Int := (List.range xs.length).map fun i => if i < k ∨ xs.length - k ≤ i then xs.getD (xs.length - 1 - i) 0 else xs.getD i 0
theorem revK_len (xs : List Int) (k : Nat) : (revK xs k).length = xs.length := by simp [revK]
theorem revK_get (xs : List Int) (k i : Nat) (h : i < xs.length) : (revK xs k)[i]? = some (if i < k ∨ xs.length - k ≤ i then xs.getD (xs.length - 1 - i) 0 else xs.getD i 0) := by
  simp [revK, h]
theorem revK_zero (xs : List Int) : revK xs 0 = xs := by
  apply List.ext_getElem?
  intro i
  by_cases h : i < xs.length
  · rw [revK_get xs 0 i h, if_neg (by omega)]
    simp [h]
  · simp [revK, h]
theorem revK_end (xs : List Int) (k : Nat) (h : xs.length ≤ 2 * k + 1) : revK xs k = xs.reverse := by
  apply List.ext_getElem?
  intro i
  by_cases hi : i < xs.length
  · rw [revK_get xs k i hi, List.getElem?_reverse hi]
    have hg : ∀ j, j < xs.length → xs[j]? = some (xs.getD j 0) := fun j hj => by simp [hj]
    rw [hg _ (by omega)]
    split
    · rfl
    · congr 2; omega
  · have h1 : (revK xs k)[i]? = none := List.getElem?_eq_none (by rw [revK_len]; omega)
    have h2 : xs.reverse[i]? = none := List.getElem?_eq_none (by simp; omega)
    rw [h1, h2]
theorem revK_step (xs : List Int) (k : Nat) (h : 2 * k + 1 < xs.length) (a b : Int) (ha : (revK xs k)[k]? = some a) (hb : (revK xs k)[xs.length - 1 - k]? = some b) :
    ((revK xs k).set k b).set (xs.length - 1 - k) a = revK xs (k + 1) := by
  rw [revK_get xs k k (by omega), if_neg (by omega)] at ha
  rw [revK_get xs k _ (by omega), if_neg (by omega)] at hb
  simp only [Option.some.injEq] at ha hb
  subst ha hb
  apply List.ext_getElem?
  intro i
  by_cases hi : i < xs.length
  · rw [revK_get xs (k + 1) i hi]
    by_cases h1 : i = xs.length - 1 - k
    · subst h1
      rw [List.getElem?_set_self (by simp [revK_len]; omega), if_pos (by omega)]
      congr 2; omega
    · rw [List.getElem?_set_ne (by omega)]
      by_cases h2 : i = k
      · subst h2
        rw [List.getElem?_set_self (by rw [revK_len]; omega), if_pos (by omega)]
      · rw [List.getElem?_set_ne (by omega), revK_get xs k i hi]
        by_cases h3 : i < k ∨ xs.length - k ≤ i
        · rw [if_pos h3, if_pos (by omega)]
        · rw [if_neg h3, if_neg (by omega)]
  · rw [List.getElem?_eq_none (by simp [revK_len]; omega), List.getElem?_eq_none (by rw [revK_len]; omega)]
end Go.Proofs.Ytgnboemmlohahaa
