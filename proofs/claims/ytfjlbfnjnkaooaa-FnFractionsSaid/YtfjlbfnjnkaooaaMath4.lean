/- Plain arithmetic: comparison of lists of limbs, square roots, pairs. -/
import Derived.Test.YtfjlbfnjnkaooaaMath3
namespace Go.Proofs.Ytfjlbfnjnkaooaa.Limb

def cmpN (a b : Nat) : Int := if a < b then -1 else if a = b then 0 else 1
theorem cmpN_le (a b : Nat) : cmpN a b ≤ 0 ↔ a ≤ b := by
  unfold cmpN
  split
  · omega
  · split <;> omega
theorem cmp_short {a b : Nat} (h : (limbs a).length < (limbs b).length) : cmpN a b = -1 := by
  have : a < b := by
    rcases Nat.lt_or_ge a b with h1 | h1
    · exact h1
    · have := limbs_len_mono h1; omega
  simp [cmpN, this]
theorem cmp_long {a b : Nat} (h : (limbs b).length < (limbs a).length) : cmpN a b = 1 := by
  have : b < a := by
    rcases Nat.lt_or_ge b a with h1 | h1
    · exact h1
    · have := limbs_len_mono h1; omega
  unfold cmpN
  rw [if_neg (by omega), if_neg (by omega)]
theorem val_less {xs ys : List Int} {k : Nat} {x y : Int} (hx : Ok xs) (hy : Ok ys) (h1 : xs[k]? = some x) (h2 : ys[k]? = some y) (hd : xs.drop (k + 1) = ys.drop (k + 1)) (hlt : x < y) : val xs < val ys := by
  induction k generalizing xs ys with
  | zero =>
    cases xs with
    | nil => simp at h1
    | cons a xs =>
      cases ys with
      | nil => simp at h2
      | cons b ys =>
        simp at h1 h2 hd
        subst h1 h2 hd
        simp only [val]; omega
  | succ k ih =>
    cases xs with
    | nil => simp at h1
    | cons a xs =>
      cases ys with
      | nil => simp at h2
      | cons b ys =>
        rw [ok_cons] at hx hy
        have := ih hx.2 hy.2 (by simpa using h1) (by simpa using h2) (by simpa using hd)
        simp only [val]; omega
theorem cmp_at_less {a b k : Nat} {x y : Int} (h1 : (limbs a)[k]? = some x) (h2 : (limbs b)[k]? = some y) (hd : (limbs a).drop (k + 1) = (limbs b).drop (k + 1)) (hlt : x < y) : cmpN a b = -1 := by
  have := val_less (ok_limbs a) (ok_limbs b) h1 h2 hd hlt
  rw [val_limbs, val_limbs] at this
  have : a < b := by omega
  simp [cmpN, this]
theorem cmp_at_more {a b k : Nat} {x y : Int} (h1 : (limbs a)[k]? = some x) (h2 : (limbs b)[k]? = some y) (hd : (limbs a).drop (k + 1) = (limbs b).drop (k + 1)) (hlt : y < x) : cmpN a b = 1 := by
  have := val_less (ok_limbs b) (ok_limbs a) h2 h1 hd.symm hlt
  rw [val_limbs, val_limbs] at this
  unfold cmpN
  rw [if_neg (by omega), if_neg (by omega)]
theorem cmp_same {a b : Nat} (h : limbs a = limbs b) : cmpN a b = 0 := by
  obtain rfl := limbs_inj h
  simp [cmpN]
theorem drop_step {xs ys : List Int} {k : Nat} {x : Int} (h1 : xs[k]? = some x) (h2 : ys[k]? = some x) (hd : xs.drop (k + 1) = ys.drop (k + 1)) : xs.drop k = ys.drop k := by
  obtain ⟨a1, a2⟩ := List.getElem?_eq_some_iff.1 h1
  obtain ⟨b1, b2⟩ := List.getElem?_eq_some_iff.1 h2
  rw [List.drop_eq_getElem_cons a1, List.drop_eq_getElem_cons b1, a2, b2, hd]

/-- The greatest number whose square is not greater. -/
def isqrt : Nat → Nat
  | 0 => 0
  | n + 1 => if (isqrt n + 1) * (isqrt n + 1) ≤ n + 1 then isqrt n + 1 else isqrt n
theorem isqrt_spec (n : Nat) : isqrt n * isqrt n ≤ n ∧ n < (isqrt n + 1) * (isqrt n + 1) := by
  induction n with
  | zero => simp [isqrt]
  | succ n ih =>
    simp only [isqrt]
    split
    · rename_i h
      refine ⟨h, ?_⟩
      have : (isqrt n + 1 + 1) * (isqrt n + 1 + 1) = (isqrt n + 1) * (isqrt n + 1) + 2 * (isqrt n + 1) + 1 := by grind
      omega
    · rename_i h
      omega
theorem isqrt_unique {n r : Nat} (h1 : r * r ≤ n) (h2 : n < (r + 1) * (r + 1)) : r = isqrt n := by
  obtain ⟨a, b⟩ := isqrt_spec n
  rcases Nat.lt_trichotomy r (isqrt n) with h | h | h
  · have : (r + 1) * (r + 1) ≤ isqrt n * isqrt n := Nat.mul_le_mul (by omega) (by omega)
    omega
  · exact h
  · have : (isqrt n + 1) * (isqrt n + 1) ≤ r * r := Nat.mul_le_mul (by omega) (by omega)
    omega

/-- The digits of a root, found from the greatest on: those from place j on are right. -/
def RootRel (N : Nat) (j : Nat) (ds : List Int) : Prop :=
  Ok ds ∧ (∀ i, i < j → ds[i]?.getD 0 = 0) ∧ j ≤ ds.length ∧
    (1000000 ^ j * (val (ds.drop j)).toNat) * (1000000 ^ j * (val (ds.drop j)).toNat) ≤ N ∧ N < (1000000 ^ j * ((val (ds.drop j)).toNat + 1)) * (1000000 ^ j * ((val (ds.drop j)).toNat + 1))
theorem RootRel.start {N L : Nat} (h : (limbs N).length ≤ 2 * L) : RootRel N L (List.replicate L 0) := by
  refine ⟨ok_zeros L, fun i hi => by simp [hi], by simp, ?_, ?_⟩
  · rw [List.drop_of_length_le (by simp)]; simp [val]
  · rw [List.drop_of_length_le (by simp)]
    simp only [val, Int.toNat_zero, Nat.zero_add, Nat.mul_one, ← Nat.pow_add]
    have := limbs_lt N
    have h2 : 1000000 ^ (limbs N).length ≤ 1000000 ^ (L + L) := Nat.pow_le_pow_right (by omega) (by omega)
    omega
/-- The number whose digit at place j is d. -/
def tryVal (j : Nat) (ds : List Int) (d : Int) : Nat := (val (ds.set j d)).toNat
theorem val_low_zero : ∀ (ds : List Int) (j : Nat), j ≤ ds.length → (∀ i, i < j → ds[i]?.getD 0 = 0) → val ds = 1000000 ^ j * val (ds.drop j)
  | _, 0, _, _ => by simp
  | [], j + 1, h, _ => by simp at h
  | x :: xs, j + 1, h, hz => by
    have h0 : x = 0 := by simpa using hz 0 (by omega)
    have ih := val_low_zero xs j (by simpa using h) (fun i hi => by simpa using hz (i + 1) (by omega))
    simp only [val, List.drop_succ_cons, ih, h0, Int.pow_succ]
    grind
theorem tryVal_eq {N j : Nat} {ds : List Int} (h : RootRel N (j + 1) ds) {d : Int} (hd0 : 0 ≤ d) : tryVal j ds d = 1000000 ^ j * (1000000 * (val (ds.drop (j + 1))).toNat + d.toNat) := by
  obtain ⟨h1, h2, h3, _, _⟩ := h
  have hv := val_nonneg (ok_drop h1 (j + 1))
  have e := val_low_zero (ds.set j d) j (by simp; omega) (fun i hi => by rw [List.getElem?_set_ne (by omega)]; exact h2 i (by omega))
  have hdr : (ds.set j d).drop j = d :: ds.drop (j + 1) := by
    rw [List.drop_eq_getElem_cons (by simp; omega), List.drop_set_of_lt (by omega)]
    simp
  rw [hdr, val] at e
  unfold tryVal
  rw [e]
  obtain ⟨D, rfl⟩ := Int.eq_ofNat_of_zero_le hd0
  obtain ⟨T, hT⟩ := Int.eq_ofNat_of_zero_le hv
  rw [hT]
  have : ((1000000 : Int) ^ j * ((D : Int) + 1000000 * (T : Int))) = ((1000000 ^ j * (1000000 * T + D) : Nat) : Int) := by
    rw [Int.natCast_mul, Int.natCast_pow]; grind
  rw [this]
  exact Int.toNat_natCast _
theorem RootRel.zero {N j : Nat} {ds : List Int} (h : RootRel N (j + 1) ds) : tryVal j ds 0 * tryVal j ds 0 ≤ N := by
  rw [tryVal_eq h (by omega)]
  have h4 := h.2.2.2.1
  rw [show 1000000 ^ (j + 1) * (val (ds.drop (j + 1))).toNat = 1000000 ^ j * (1000000 * (val (ds.drop (j + 1))).toNat + (0 : Int).toNat) by rw [Nat.pow_succ, Nat.mul_assoc]; rfl] at h4
  exact h4
theorem RootRel.top {N j : Nat} {ds : List Int} (h : RootRel N (j + 1) ds) : ¬ tryVal j ds 1000000 * tryVal j ds 1000000 ≤ N := by
  rw [tryVal_eq h (by omega)]
  have h5 := h.2.2.2.2
  rw [show 1000000 ^ (j + 1) * ((val (ds.drop (j + 1))).toNat + 1) = 1000000 ^ j * (1000000 * (val (ds.drop (j + 1))).toNat + (1000000 : Int).toNat) by rw [Nat.pow_succ, Nat.mul_assoc, Nat.mul_add]; rfl] at h5
  exact Nat.not_le.2 h5
theorem RootRel.step {N j : Nat} {ds : List Int} (h : RootRel N (j + 1) ds) {d : Int} (hd0 : 0 ≤ d) (hd1 : d < 1000000) (hyes : tryVal j ds d * tryVal j ds d ≤ N) (hno : ¬ tryVal j ds (d + 1) * tryVal j ds (d + 1) ≤ N) : RootRel N j (ds.set j d) := by
  have e1 := tryVal_eq h hd0
  have e2 := tryVal_eq h (d := d + 1) (by omega)
  obtain ⟨h1, h2, h3, h4, h5⟩ := h
  have hv := val_nonneg (ok_drop h1 (j + 1))
  have hdr : (ds.set j d).drop j = d :: ds.drop (j + 1) := by
    rw [List.drop_eq_getElem_cons (by simp; omega), List.drop_set_of_lt (by omega)]
    simp
  have e3 : (val (d :: ds.drop (j + 1))).toNat = 1000000 * (val (ds.drop (j + 1))).toNat + d.toNat := by simp only [val]; omega
  refine ⟨fun x hx => ?_, fun i hi => by rw [List.getElem?_set_ne (by omega)]; exact h2 i (by omega), by simp; omega, ?_, ?_⟩
  · rcases List.mem_or_eq_of_mem_set hx with hx | rfl
    · exact h1 x hx
    · omega
  · rw [hdr, e3, ← e1]; exact hyes
  · rw [hdr, e3, show 1000000 * (val (ds.drop (j + 1))).toNat + d.toNat + 1 = 1000000 * (val (ds.drop (j + 1))).toNat + (d + 1).toNat by omega, ← e2]
    omega
theorem RootRel.done {N : Nat} {ds : List Int} (h : RootRel N 0 ds) : trim ds = limbs (isqrt N) := by
  obtain ⟨h1, _, _, h4, h5⟩ := h
  simp only [Nat.pow_zero, Nat.one_mul, List.drop_zero] at h4 h5
  rw [trim_eq h1, isqrt_unique h4 h5]
theorem trim_try {N j : Nat} {ds : List Int} (h : RootRel N (j + 1) ds) {d : Int} (hd0 : 0 ≤ d) (hd1 : d < 1000000) : trim (ds.set j d) = limbs (tryVal j ds d) := by
  refine trim_eq (fun x hx => ?_)
  rcases List.mem_or_eq_of_mem_set hx with hx | rfl
  · exact h.1 x hx
  · omega
theorem tryVal_set {j : Nat} {ds : List Int} {d : Int} : tryVal j (ds.set j d) = tryVal j ds := by
  funext x; simp [tryVal]

/-- Pairs: the sum of the two numbers, and the second. -/
def unpSum (n : Nat) : Nat := (isqrt (n * 8 + 1) - 1) / 2
def unpB (n : Nat) : Nat := n - unpSum n * (unpSum n + 1) / 2
def unpA (n : Nat) : Nat := unpSum n - unpB n
theorem isqrt_pos (n : Nat) : 1 ≤ isqrt (n * 8 + 1) := by
  have := (isqrt_spec (n * 8 + 1)).2
  rcases Nat.eq_zero_or_pos (isqrt (n * 8 + 1)) with h | h
  · rw [h] at this; omega
  · exact h
theorem unp_ok (n : Nat) : unpSum n * (unpSum n + 1) / 2 ≤ n ∧ unpB n ≤ unpSum n := by
  obtain ⟨h1, h2⟩ := isqrt_spec (n * 8 + 1)
  have hp := isqrt_pos n
  unfold unpB
  generalize hs : unpSum n = s
  unfold unpSum at hs
  generalize isqrt (n * 8 + 1) = r at *
  have hr : r = 2 * s + 1 ∨ r = 2 * s + 2 := by omega
  have he : s * (s + 1) / 2 * 2 = s * (s + 1) := by
    rcases Nat.mod_two_eq_zero_or_one s with h | h
    · obtain ⟨k, rfl⟩ : ∃ k, s = 2 * k := ⟨s / 2, by omega⟩
      rw [Nat.mul_assoc, Nat.mul_div_cancel_left _ (by omega)]; grind
    · obtain ⟨k, rfl⟩ : ∃ k, s = 2 * k + 1 := ⟨s / 2, by omega⟩
      rw [show (2 * k + 1) * (2 * k + 1 + 1) = 2 * ((2 * k + 1) * (k + 1)) by grind, Nat.mul_div_cancel_left _ (by omega)]; grind
  generalize hq : s * (s + 1) / 2 = q at *
  have e1 : s * (s + 1) = s * s + s := by grind
  rcases hr with rfl | rfl
  · have a1 : (2 * s + 1) * (2 * s + 1) = 4 * (s * s) + 4 * s + 1 := by grind
    have a2 : (2 * s + 1 + 1) * (2 * s + 1 + 1) = 4 * (s * s) + 8 * s + 4 := by grind
    omega
  · have a1 : (2 * s + 2) * (2 * s + 2) = 4 * (s * s) + 8 * s + 4 := by grind
    have a2 : (2 * s + 2 + 1) * (2 * s + 2 + 1) = 4 * (s * s) + 12 * s + 9 := by grind
    omega
end Go.Proofs.Ytfjlbfnjnkaooaa.Limb
