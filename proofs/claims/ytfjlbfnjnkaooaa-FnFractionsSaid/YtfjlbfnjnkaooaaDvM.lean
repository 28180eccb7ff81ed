/- Plain arithmetic: long division of naturals in limbs, and the greatest common divisor. -/
import Derived.Test.YtfjlbfnjnkaooaaMath4
namespace Go.Proofs.Ytfjlbfnjnkaooaa.Limb
/-- Long division, from the greatest limb on: the quotient's limbs from place i on are right, R is the rest so far. -/
structure DvRel (A B i : Nat) (out : List Int) (R : Nat) : Prop where
  ok : Ok out
  len : out.length = (limbs A).length
  ile : i ≤ out.length
  zero : ∀ k, k < i → out[k]?.getD 0 = 0
  eq : val (out.drop i) * B + R = val ((limbs A).drop i)
  lt : R < B
theorem DvRel.start {A B : Nat} (hB : 0 < B) : DvRel A B (limbs A).length (List.replicate (limbs A).length 0) 0 := by
  refine ⟨ok_zeros _, by simp, by simp, fun i hi => by simp [hi], ?_, hB⟩
  rw [List.drop_of_length_le (by simp), List.drop_of_length_le (by simp)]
  simp [val]
theorem dv_push {R : Nat} {x : Int} (hx0 : 0 ≤ x) (hx1 : x < 1000000) : trim (x :: limbs R) = limbs (R * 1000000 + x.toNat) := by
  rw [trim_eq (ok_cons.2 ⟨⟨hx0, hx1⟩, ok_limbs R⟩)]
  simp only [val, val_limbs]
  congr 1
  omega
theorem dv_step_drop {xs : List Int} {j : Nat} {x : Int} (hx : xs[j]? = some x) : val (xs.drop j) = x + 1000000 * val (xs.drop (j + 1)) := val_drop hx
theorem drop_set_self {ds : List Int} {j : Nat} {d : Int} (h : j < ds.length) : (ds.set j d).drop j = d :: ds.drop (j + 1) := by
  rw [List.drop_eq_getElem_cons (by simp; omega), List.drop_set_of_lt (by omega)]
  simp
theorem DvRel.low {A B j R : Nat} {out : List Int} {x : Int} (h : DvRel A B (j + 1) out R) (hx : (limbs A)[j]? = some x) (hx0 : 0 ≤ x) (hR : R * 1000000 + x.toNat < B) : DvRel A B j out (R * 1000000 + x.toNat) := by
  have hj : j < out.length := h.ile
  refine ⟨h.ok, h.len, by omega, fun k hk => h.zero k (by omega), ?_, hR⟩
  have e0 : out[j]? = some 0 := by
    have := h.zero j (by omega)
    rw [List.getElem?_eq_getElem hj] at this ⊢
    simpa using this
  rw [val_drop e0, val_drop hx, ← h.eq]
  generalize val (out.drop (j + 1)) = V
  obtain ⟨X, rfl⟩ := Int.eq_ofNat_of_zero_le hx0
  rw [Int.toNat_natCast, Int.natCast_add, Int.natCast_mul, Int.add_mul, Int.zero_mul, Int.zero_add, Int.mul_assoc, Int.mul_add]
  show _ + ((R : Int) * 1000000 + X) = _
  generalize (V * (B : Int)) = Z
  omega
theorem DvRel.high {A B j R : Nat} {out : List Int} {x d : Int} (h : DvRel A B (j + 1) out R) (hx : (limbs A)[j]? = some x) (hx0 : 0 ≤ x) (hd0 : 0 ≤ d) (hd1 : d < 1000000) (h1 : B * d.toNat ≤ R * 1000000 + x.toNat) (h2 : ¬ B * (d + 1).toNat ≤ R * 1000000 + x.toNat) : DvRel A B j (out.set j d) (R * 1000000 + x.toNat - B * d.toNat) := by
  have hj : j < out.length := h.ile
  refine ⟨fun y hy => ?_, by simp [h.len], by simp; omega, fun k hk => by rw [List.getElem?_set_ne (by omega)]; exact h.zero k (by omega), ?_, ?_⟩
  · rcases List.mem_or_eq_of_mem_set hy with hy | rfl
    · exact h.ok y hy
    · omega
  · rw [drop_set_self hj, val_drop hx, ← h.eq]
    simp only [val]
    generalize val (out.drop (j + 1)) = V
    obtain ⟨X, rfl⟩ := Int.eq_ofNat_of_zero_le hx0
    obtain ⟨D, rfl⟩ := Int.eq_ofNat_of_zero_le hd0
    rw [Int.toNat_natCast] at h1
    rw [Int.toNat_natCast] at h1
    rw [Int.toNat_natCast, Int.toNat_natCast, Int.natCast_sub h1, Int.natCast_add, Int.natCast_mul, Int.natCast_mul, Int.add_mul, Int.mul_assoc, Int.mul_add, Int.mul_comm (D : Int) (B : Int)]
    show _ + ((R : Int) * 1000000 + X - (B : Int) * D) = _
    generalize (V * (B : Int)) = Z
    generalize (B : Int) * (D : Int) = Y
    omega
  · have e : (d + 1).toNat = d.toNat + 1 := by omega
    rw [e, Nat.mul_succ] at h2
    omega
theorem DvRel.done {A B R : Nat} {out : List Int} (h : DvRel A B 0 out R) : trim out = limbs (A / B) ∧ R = A % B := by
  have e := h.eq
  rw [List.drop_zero, List.drop_zero, val_limbs] at e
  rw [trim_eq h.ok]
  obtain ⟨V, hV⟩ := Int.eq_ofNat_of_zero_le (val_nonneg h.ok)
  rw [hV] at e ⊢
  have e2 : V * B + R = A := by exact_mod_cast e
  have hlt := h.lt
  have hB : 0 < B := by omega
  have e3 : A / B = V := by
    rw [← e2, Nat.add_comm, Nat.add_mul_div_right _ _ hB, Nat.div_eq_of_lt hlt, Nat.zero_add]
  refine ⟨by rw [e3]; simp, ?_⟩
  rw [← e2, Nat.add_comm, Nat.add_mul_mod_self_right, Nat.mod_eq_of_lt hlt]
/-- The question that the search by halves asks. -/
def mqB (B R : Nat) (d : Int) : Bool := decide (B * d.toNat ≤ R)
theorem mqB_true {B R : Nat} {d : Int} : mqB B R d = true ↔ B * d.toNat ≤ R := by simp [mqB]
theorem mqB_false {B R : Nat} {d : Int} : mqB B R d = false ↔ ¬ B * d.toNat ≤ R := by simp [mqB]
theorem cmp_mq {B R : Nat} {d : Int} : decide (cmpN (B * d.toNat) R ≤ 0) = mqB B R d := by
  unfold mqB; rw [decide_eq_decide]; exact cmpN_le _ _
theorem mq_zero (B R : Nat) : mqB B R 0 = true := by simp [mqB]
theorem mq_top {B R : Nat} {x : Int} (hR : R < B) (hx0 : 0 ≤ x) (hx1 : x < 1000000) : mqB B (R * 1000000 + x.toNat) 1000000 = false := by
  rw [mqB_false]
  have e : (1000000 : Int).toNat = 1000000 := rfl
  rw [e]
  have : (R + 1) * 1000000 ≤ B * 1000000 := Nat.mul_le_mul_right _ hR
  omega
theorem limbs_one_len {B : Nat} (h : (limbs B).length = 1) : ∃ b : Int, limbs B = [b] ∧ 1 ≤ b ∧ b < 1000000 ∧ b.toNat = B := by
  obtain ⟨b, hb⟩ := List.length_eq_one_iff.1 h
  have ok := ok_limbs B
  have nt := nt_limbs B
  have v := val_limbs B
  rw [hb] at ok nt v
  have h1 := (ok_cons.1 ok).1
  have h2 : b ≠ 0 := by intro h; rw [h] at nt; exact nt rfl
  simp [val] at v
  exact ⟨b, hb, by omega, h1.2, by omega⟩
end Go.Proofs.Ytfjlbfnjnkaooaa.Limb
