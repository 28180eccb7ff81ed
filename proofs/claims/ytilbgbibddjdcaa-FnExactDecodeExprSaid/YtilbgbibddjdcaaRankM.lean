/- The number of ways in which nodes are some trees, in plain Lean: the count, ranks. -/
import Derived.Test.YtilbgbibddjdcaaTreeM
import Derived.Test.YtilbgbibddjdcaaRet
namespace Go.Proofs.Ytilbgbibddjdcaa
open Go.RowKit

def cnt : Nat → Nat → Nat
  | 0, 0 => 1
  | 0, _ + 1 => 0
  | _ + 1, 0 => 0
  | n + 1, o + 1 => min 1000000000001 (cnt n o + cnt n (o + 2))
theorem cnt_le : ∀ n o, cnt n o ≤ 1000000000001
  | 0, 0 => by simp [cnt]
  | 0, _ + 1 => by simp [cnt]
  | _ + 1, 0 => by simp [cnt]
  | n + 1, o + 1 => by rw [cnt]; exact Nat.min_le_left _ _
theorem cnt_lt : ∀ n o, n < o → cnt n o = 0
  | 0, 0, h => by omega
  | 0, _ + 1, _ => rfl
  | _ + 1, 0, h => by omega
  | n + 1, o + 1, h => by rw [cnt, cnt_lt n o (by omega), cnt_lt n (o + 2) (by omega)]; rfl
theorem cnt_par : ∀ n o, (n + o) % 2 = 1 → cnt n o = 0
  | 0, 0, h => by omega
  | 0, _ + 1, _ => rfl
  | _ + 1, 0, _ => rfl
  | n + 1, o + 1, h => by rw [cnt, cnt_par n o (by omega), cnt_par n (o + 2) (by omega)]; rfl
theorem cnt_zero (n : Nat) (h : 0 < n) : cnt n 0 = 0 := by
  cases n with
  | zero => omega
  | succ n => rfl
theorem cnt_step (n o : Nat) (h : 0 < o) (hn : 0 < n) : cnt n o = min 1000000000001 (cnt (n - 1) (o - 1) + cnt (n - 1) (o + 1)) := by
  obtain ⟨o, rfl⟩ : ∃ p, o = p + 1 := ⟨o - 1, by omega⟩
  obtain ⟨n, rfl⟩ : ∃ p, n = p + 1 := ⟨n - 1, by omega⟩
  rfl
/-- How many trees have fewer nodes. -/
def rkBase : Nat → Nat
  | 0 => 0
  | n + 1 => rkBase n + cnt n 1
theorem rkBase_two (n : Nat) (h : n % 2 = 1) : rkBase (n + 2) = rkBase n + cnt n 1 := by
  show rkBase n + cnt n 1 + cnt (n + 1) 1 = _
  rw [cnt_par (n + 1) 1 (by omega)]
  rfl
theorem rkBase_le : ∀ n, rkBase n ≤ n * 1000000000001
  | 0 => by simp [rkBase]
  | n + 1 => by have := rkBase_le n; have := cnt_le n 1; simp only [rkBase]; omega
/-- How many come before one with as many nodes. -/
def rkFrom : List Bool → Nat → Nat
  | [], _ => 0
  | true :: r, o => cnt r.length (o - 1) + rkFrom r (o + 1)
  | false :: r, o => rkFrom r (o - 1)
theorem rkFrom_le : ∀ (bs : List Bool) (o : Nat), rkFrom bs o ≤ bs.length * 1000000000001
  | [], _ => by simp [rkFrom]
  | true :: r, o => by have := rkFrom_le r (o + 1); have := cnt_le r.length (o - 1); simp only [rkFrom, List.length_cons]; omega
  | false :: r, o => Nat.le_trans (rkFrom_le r (o - 1)) (Nat.mul_le_mul_right _ (Nat.le_succ _))
def rankN (bs : List Bool) : Nat := rkBase bs.length + rkFrom bs 1
def rankI (bs : List Bool) : Int := if isTr bs = true ∧ bs.length ≤ 60 ∧ rankN bs ≤ 1000000000000 then rankN bs else 0
def rankC (bs : List Bool) : Int := if isTr bs = true then (if bs.length ≤ 60 ∧ rankN bs ≤ 1000000000000 then 0 else 5) else 1
/-- A tree's scan stands above nought ahead of its end. -/
theorem need_pos {bs : List Bool} (h : scan bs 1 = some []) {k : Nat} (hk : k < bs.length) : 0 < needAt bs k := by
  have hs := need_scan bs h k (by omega)
  rcases Nat.eq_zero_or_pos (needAt bs k) with h0 | h0
  · rw [h0] at hs
    have : bs.drop k = [] := by cases hd : bs.drop k <;> simp [scan, hd] at hs ⊢
    have := congrArg List.length this
    simp at this
    omega
  · exact h0
theorem need_le (bs : List Bool) : ∀ k, needAt bs k ≤ k + 1
  | 0 => Nat.le_refl _
  | k + 1 => by have := need_le bs k; simp only [needAt]; split <;> omega
theorem isTr_scan {bs : List Bool} (h : isTr bs = true) : scan bs 1 = some [] := by
  simp only [isTr, Bool.and_eq_true, beq_iff_eq] at h
  exact h.2
theorem rk_true {bs : List Bool} {k o : Nat} (h : bs[k]? = some true) : rkFrom (bs.drop k) o = cnt (bs.length - k - 1) (o - 1) + rkFrom (bs.drop (k + 1)) (o + 1) := by
  rw [drop_get h, rkFrom]
  congr 2
  simp
  omega
theorem rk_false {bs : List Bool} {k o : Nat} (h : bs[k]? = some false) : rkFrom (bs.drop k) o = rkFrom (bs.drop (k + 1)) (o - 1) := by
  rw [drop_get h, rkFrom]
theorem need_true {bs : List Bool} {k : Nat} (h : bs[k]? = some true) : needAt bs (k + 1) = needAt bs k + 1 := by simp [needAt, h]
theorem need_false {bs : List Bool} {k : Nat} (h : bs[k]? = some false) : needAt bs (k + 1) = needAt bs k - 1 := by simp [needAt, h]
end Go.Proofs.Ytilbgbibddjdcaa
