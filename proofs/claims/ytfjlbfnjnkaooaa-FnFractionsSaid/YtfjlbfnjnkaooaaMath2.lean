/- Plain arithmetic of lists of limbs: differences. -/
import Derived.Test.YtfjlbfnjnkaooaaMath
namespace Go.Proofs.Ytfjlbfnjnkaooaa.Limb

/-- The difference limb by limb, with a borrow. -/
def subL : List Int → List Int → Int → List Int
  | [], _, _ => []
  | x :: xs, [], c => if x - c < 0 then (x - c + 1000000) :: subL xs [] 1 else (x - c) :: subL xs [] 0
  | x :: xs, y :: ys, c => if x - c - y < 0 then (x - c - y + 1000000) :: subL xs ys 1 else (x - c - y) :: subL xs ys 0
theorem subL_spec (xs : List Int) : ∀ (ys : List Int) (c : Int), (c = 0 ∨ c = 1) → Ok xs → Ok ys → ys.length ≤ xs.length →
    Ok (subL xs ys c) ∧ (subL xs ys c).length = xs.length ∧ ∃ o : Int, (o = 0 ∨ o = 1) ∧ val (subL xs ys c) = val xs - val ys - c + o * 1000000 ^ xs.length := by
  induction xs with
  | nil =>
    intro ys c hc _ _ hl
    obtain rfl : ys = [] := List.eq_nil_of_length_eq_zero (by simpa using hl)
    refine ⟨ok_nil, rfl, c, hc, ?_⟩
    simp [subL, val]
    omega
  | cons x xs ih =>
    intro ys c hc hx hy hl
    rw [ok_cons] at hx
    cases ys with
    | nil =>
      simp only [subL]
      split
      · obtain ⟨h1, h2, o, ho, h3⟩ := ih [] 1 (.inr rfl) hx.2 hy (by simp)
        refine ⟨ok_cons.2 ⟨by omega, h1⟩, by simp [h2], o, ho, ?_⟩
        simp only [val, h3, List.length_cons, Int.pow_succ]; grind
      · obtain ⟨h1, h2, o, ho, h3⟩ := ih [] 0 (.inl rfl) hx.2 hy (by simp)
        refine ⟨ok_cons.2 ⟨by omega, h1⟩, by simp [h2], o, ho, ?_⟩
        simp only [val, h3, List.length_cons, Int.pow_succ]; grind
    | cons y ys =>
      rw [ok_cons] at hy
      simp only [subL]
      split
      · obtain ⟨h1, h2, o, ho, h3⟩ := ih ys 1 (.inr rfl) hx.2 hy.2 (by simpa using hl)
        refine ⟨ok_cons.2 ⟨by omega, h1⟩, by simp [h2], o, ho, ?_⟩
        simp only [val, h3, List.length_cons, Int.pow_succ]; grind
      · obtain ⟨h1, h2, o, ho, h3⟩ := ih ys 0 (.inl rfl) hx.2 hy.2 (by simpa using hl)
        refine ⟨ok_cons.2 ⟨by omega, h1⟩, by simp [h2], o, ho, ?_⟩
        simp only [val, h3, List.length_cons, Int.pow_succ]; grind
theorem val_lt {xs : List Int} (h : Ok xs) : val xs < 1000000 ^ xs.length := by
  induction xs with
  | nil => simp [val]
  | cons x xs ih =>
    rw [ok_cons] at h
    have := ih h.2
    simp only [val, List.length_cons, Int.pow_succ]
    omega
theorem sub_limbs (a b : Nat) (h : b ≤ a) : trim (subL (limbs a) (limbs b) 0) = limbs (a - b) := by
  have hl := limbs_len_mono h
  obtain ⟨h1, h2, o, ho, h3⟩ := subL_spec (limbs a) (limbs b) 0 (.inl rfl) (ok_limbs a) (ok_limbs b) hl
  have h4 := val_lt h1
  rw [h2] at h4
  rw [trim_eq h1]
  congr 1
  rw [val_limbs, val_limbs] at h3
  rcases ho with rfl | rfl
  · omega
  · omega
/-- The relation of both loops: what is still to come, and that what is left does not fall below zero. -/
def SubRel (xs ys : List Int) (i : Nat) (c : Int) (done : List Int) : Prop :=
  done.length = i ∧ subL xs ys 0 = done ++ subL (xs.drop i) (ys.drop i) c ∧ (c = 0 ∨ c = 1) ∧ 0 ≤ val (xs.drop i) - val (ys.drop i) - c ∧ ys.length ≤ xs.length ∧ Ok xs ∧ Ok ys
theorem SubRel.start {a b : Nat} (h : b ≤ a) : SubRel (limbs a) (limbs b) 0 0 [] :=
  ⟨rfl, by simp, .inl rfl, by simp only [List.drop_zero, val_limbs]; omega, limbs_len_mono h, ok_limbs a, ok_limbs b⟩
theorem val_drop {xs : List Int} {i : Nat} {x : Int} (hx : xs[i]? = some x) : val (xs.drop i) = x + 1000000 * val (xs.drop (i + 1)) := by
  obtain ⟨hi, rfl⟩ := List.getElem?_eq_some_iff.1 hx
  rw [List.drop_eq_getElem_cons hi, val]
theorem SubRel.both {xs ys : List Int} {i : Nat} {c x y : Int} {done : List Int} (h : SubRel xs ys i c done) (hx : xs[i]? = some x) (hy : ys[i]? = some y) :
    if x - c - y < 0 then SubRel xs ys (i + 1) 1 (done ++ [x - c - y + 1000000]) ∧ i + 1 < xs.length else SubRel xs ys (i + 1) 0 (done ++ [x - c - y]) := by
  obtain ⟨h1, h2, h3, h4, h5, h6, h7⟩ := h
  obtain ⟨hi, hx'⟩ := List.getElem?_eq_some_iff.1 hx
  obtain ⟨hj, hy'⟩ := List.getElem?_eq_some_iff.1 hy
  have hx0 := h6 x (by rw [← hx']; exact List.getElem_mem hi)
  have hy0 := h7 y (by rw [← hy']; exact List.getElem_mem hj)
  have e : subL (xs.drop i) (ys.drop i) c = if x - c - y < 0 then (x - c - y + 1000000) :: subL (xs.drop (i + 1)) (ys.drop (i + 1)) 1 else (x - c - y) :: subL (xs.drop (i + 1)) (ys.drop (i + 1)) 0 := by
    rw [List.drop_eq_getElem_cons hi, List.drop_eq_getElem_cons hj, subL, hx', hy']
  rw [val_drop hx, val_drop hy] at h4
  by_cases hn : x - c - y < 0
  · rw [if_pos hn] at e ⊢
    refine ⟨⟨by simp [h1], by rw [h2, e]; simp, .inr rfl, by omega, h5, h6, h7⟩, ?_⟩
    rcases Nat.lt_or_ge (i + 1) xs.length with hl | hl
    · exact hl
    · rw [List.drop_of_length_le hl, List.drop_of_length_le (by omega)] at h4
      simp only [val] at h4
      omega
  · rw [if_neg hn] at e ⊢
    exact ⟨by simp [h1], by rw [h2, e]; simp, .inl rfl, by omega, h5, h6, h7⟩
theorem SubRel.left {xs ys : List Int} {i : Nat} {c x : Int} {done : List Int} (h : SubRel xs ys i c done) (hx : xs[i]? = some x) (hy : ys.length ≤ i) :
    if x - c < 0 then SubRel xs ys (i + 1) 1 (done ++ [x - c + 1000000]) ∧ i + 1 < xs.length else SubRel xs ys (i + 1) 0 (done ++ [x - c]) := by
  obtain ⟨h1, h2, h3, h4, h5, h6, h7⟩ := h
  obtain ⟨hi, hx'⟩ := List.getElem?_eq_some_iff.1 hx
  have hx0 := h6 x (by rw [← hx']; exact List.getElem_mem hi)
  have e : subL (xs.drop i) (ys.drop i) c = if x - c < 0 then (x - c + 1000000) :: subL (xs.drop (i + 1)) (ys.drop (i + 1)) 1 else (x - c) :: subL (xs.drop (i + 1)) (ys.drop (i + 1)) 0 := by
    rw [List.drop_of_length_le hy, List.drop_of_length_le (by omega : ys.length ≤ i + 1), List.drop_eq_getElem_cons hi, subL, hx']
  rw [val_drop hx, List.drop_of_length_le hy] at h4
  have hz : val (ys.drop (i + 1)) = 0 := by rw [List.drop_of_length_le (by omega)]; rfl
  simp only [val] at h4
  by_cases hn : x - c < 0
  · rw [if_pos hn] at e ⊢
    refine ⟨⟨by simp [h1], by rw [h2, e]; simp, .inr rfl, by omega, h5, h6, h7⟩, ?_⟩
    rcases Nat.lt_or_ge (i + 1) xs.length with hl | hl
    · exact hl
    · rw [List.drop_of_length_le hl] at h4
      simp only [val] at h4
      omega
  · rw [if_neg hn] at e ⊢
    exact ⟨by simp [h1], by rw [h2, e]; simp, .inl rfl, by omega, h5, h6, h7⟩
theorem SubRel.stop {xs ys : List Int} {i : Nat} {c : Int} {done : List Int} (h : SubRel xs ys i c done) (hi : xs.length ≤ i) : subL xs ys 0 = done := by
  obtain ⟨h1, h2, _⟩ := h
  rw [h2, List.drop_of_length_le hi, subL, List.append_nil]
end Go.Proofs.Ytfjlbfnjnkaooaa.Limb
