/- Plain arithmetic of lists of limbs: division by a small number. -/
import Derived.Test.YtfjlbfnjnkaooaaMath2
namespace Go.Proofs.Ytfjlbfnjnkaooaa.Limb

/-- Division by a small number, from the greatest limb on: the quotient's limbs and the rest. -/
def divL (b : Int) : List Int → List Int × Int
  | [] => ([], 0)
  | x :: xs => (((divL b xs).2 * 1000000 + x) / b :: (divL b xs).1, ((divL b xs).2 * 1000000 + x) % b)
theorem divL_spec (b : Int) (hb : 1 ≤ b) (hb2 : b ≤ 1000000) (xs : List Int) (h : Ok xs) :
    Ok (divL b xs).1 ∧ (divL b xs).1.length = xs.length ∧ 0 ≤ (divL b xs).2 ∧ (divL b xs).2 < b ∧ val xs = val (divL b xs).1 * b + (divL b xs).2 := by
  induction xs with
  | nil => simp [divL, val, Ok]; omega
  | cons x xs ih =>
    rw [ok_cons] at h
    obtain ⟨h1, h2, h3, h4, h5⟩ := ih h.2
    simp only [divL, val, ok_cons, List.length_cons]
    generalize (divL b xs).2 = r at *
    generalize (divL b xs).1 = q at *
    have hm := Int.emod_nonneg (r * 1000000 + x) (show b ≠ 0 by omega)
    have hl := Int.emod_lt_of_pos (r * 1000000 + x) (show 0 < b by omega)
    have he := Int.mul_ediv_add_emod (r * 1000000 + x) b
    have hq0 : 0 ≤ (r * 1000000 + x) / b := Int.ediv_nonneg (by omega) (by omega)
    have hq1 : (r * 1000000 + x) / b < 1000000 := Int.ediv_lt_of_lt_mul (by omega) (by
      have : (r + 1) * 1000000 ≤ b * 1000000 := Int.mul_le_mul_of_nonneg_right (by omega) (by omega)
      omega)
    refine ⟨⟨⟨hq0, hq1⟩, h1⟩, by rw [h2], hm, hl, ?_⟩
    rw [h5]
    generalize (r * 1000000 + x) / b = d at *
    generalize (r * 1000000 + x) % b = m at *
    grind
theorem div_limbs (X : Nat) (b : Int) (hb : 1 ≤ b) (hb2 : b ≤ 1000000) : trim (divL b (limbs X)).1 = limbs (X / b.toNat) ∧ (divL b (limbs X)).2 = ((X % b.toNat : Nat) : Int) := by
  obtain ⟨h1, h2, h3, h4, h5⟩ := divL_spec b hb hb2 (limbs X) (ok_limbs X)
  rw [val_limbs] at h5
  have hv := val_nonneg h1
  generalize (divL b (limbs X)).2 = r at *
  generalize hq : (divL b (limbs X)).1 = q at *
  obtain ⟨B, rfl⟩ := Int.eq_ofNat_of_zero_le (show 0 ≤ b by omega)
  obtain ⟨Q, hQ⟩ := Int.eq_ofNat_of_zero_le hv
  obtain ⟨R, rfl⟩ := Int.eq_ofNat_of_zero_le h3
  have h6 : X = Q * B + R := by rw [hQ] at h5; exact_mod_cast h5
  have hRB : R < B := by omega
  have hB : 0 < B := by omega
  rw [Int.toNat_natCast]
  have e1 : X / B = Q := by
    rw [h6, Nat.mul_comm, Nat.mul_add_div hB, Nat.div_eq_of_lt hRB, Nat.add_zero]
  have e2 : X % B = R := by
    rw [h6, Nat.mul_comm, Nat.mul_add_mod, Nat.mod_eq_of_lt hRB]
  rw [e1, e2]
  exact ⟨by rw [trim_eq h1, hQ, Int.toNat_natCast], rfl⟩
theorem divL_step {b : Int} {xs : List Int} {k : Nat} {x : Int} (hx : xs[k]? = some x) :
    divL b (xs.drop k) = (((divL b (xs.drop (k + 1))).2 * 1000000 + x) / b :: (divL b (xs.drop (k + 1))).1, ((divL b (xs.drop (k + 1))).2 * 1000000 + x) % b) := by
  obtain ⟨hk, rfl⟩ := List.getElem?_eq_some_iff.1 hx
  rw [List.drop_eq_getElem_cons hk, divL]
theorem ok_drop {xs : List Int} (h : Ok xs) (k : Nat) : Ok (xs.drop k) := fun x hx => h x (List.mem_of_mem_drop hx)
end Go.Proofs.Ytfjlbfnjnkaooaa.Limb
