/- The universal program: how the reference writes an expression: the stack behind each element (plain). -/
import Derived.Test.YtadmbphefpfbmaaGreatDoorUvB
namespace Go.Proofs.YtadmbphefpfbmaaGreatDoor
open Go.RowKit
set_option linter.unusedVariables false
set_option linter.unusedSimpArgs false
/-- The expressions that begin a list of elements, one behind the other. -/
def sufE : List El → List Ex
  | [] => []
  | e :: r => if e.1 = 3 ∨ e.1 = 4 then (match sufE r with | a :: q => .un e a :: q | [] => []) else if e.1 = 2 ∨ e.1 = 5 then (match sufE r with | a :: b :: q => .bin e a b :: q | _ => []) else .leaf e :: sufE r
theorem sufE_app : ∀ (x : Ex), x.ok → ∀ r, sufE (x.els ++ r) = x :: sufE r
  | .leaf x, h, r => by
    rcases h with rfl | ⟨d, _, rfl⟩ <;> simp [Ex.els, sufE]
  | .un x a, h, r => by
    have ih := sufE_app a h.2 r
    rcases h.1 with rfl | rfl <;> simp [Ex.els, sufE, ih]
  | .bin x a b, h, r => by
    have iha := sufE_app a h.2.1 (b.els ++ r)
    have ihb := sufE_app b h.2.2 r
    rcases h.1 with rfl | rfl <;> simp [Ex.els, sufE, List.append_assoc, iha, ihb]
theorem els_at : ∀ (x : Ex), x.ok → ∀ (r : List El) (i : Nat), i < x.els.length → ∃ (y : Ex) (r' : List El), y.ok ∧ (x.els ++ r).drop i = y.els ++ r'
  | .leaf x, h, r, i, hi => ⟨.leaf x, r, h, by
      have : i = 0 := by simp [Ex.els] at hi; omega
      subst this; rfl⟩
  | .un x a, h, r, 0, hi => ⟨.un x a, r, h, rfl⟩
  | .un x a, h, r, i + 1, hi => by
    obtain ⟨y, r', h1, h2⟩ := els_at a h.2 r i (by simpa [Ex.els] using hi)
    exact ⟨y, r', h1, by simpa [Ex.els] using h2⟩
  | .bin x a b, h, r, 0, hi => ⟨.bin x a b, r, h, rfl⟩
  | .bin x a b, h, r, i + 1, hi => by
    simp only [Ex.els, List.length_cons, List.length_append, List.cons_append, List.drop_succ_cons, List.append_assoc] at hi ⊢
    by_cases hj : i < a.els.length
    · exact els_at a h.2.1 (b.els ++ r) i hj
    · obtain ⟨y, r', h1, h2⟩ := els_at b h.2.2 r (i - a.els.length) (by omega)
      exact ⟨y, r', h1, by rw [List.drop_append, List.drop_eq_nil_of_le (by omega), List.nil_append]; exact h2⟩
theorem sufE_len : ∀ l : List El, (sufE l).length ≤ l.length
  | [] => Nat.le_refl _
  | e :: r => by
    have h := sufE_len r
    unfold sufE
    split
    · split
      · next a q hq => rw [hq] at h; simp only [List.length_cons] at h ⊢; omega
      · simp
    · split
      · split
        · next a b q hq => rw [hq] at h; simp only [List.length_cons] at h ⊢; omega
        · simp
      · simp only [List.length_cons]; omega
theorem els_pos (x : Ex) : 1 ≤ x.els.length := by cases x <;> simp [Ex.els]
theorem sufE_one (x : Ex) (h : x.ok) : sufE x.els = [x] := by have := sufE_app x h []; simpa [sufE] using this
theorem strsE_snoc (y : Ex) (l : List Ex) : strsY (y :: l).reverse = strsY l.reverse ++ [.string y.bs] := by simp [strsY]
theorem strsE_two (a b : Ex) (l : List Ex) : strsY (a :: b :: l).reverse = strsY l.reverse ++ [.string b.bs, .string a.bs] := by simp [strsY]
theorem drop_hd2 {α : Type} {l r : List α} {m : Nat} {e : α} (h : l.drop m = e :: r) : l[m]? = some e ∧ l.drop (m + 1) = r := by
  have hm : m < l.length := by
    by_cases hm : m < l.length
    · exact hm
    · rw [List.drop_eq_nil_of_le (by omega)] at h; simp at h
  rw [List.drop_eq_getElem_cons hm] at h
  injection h with h1 h2
  exact ⟨by rw [List.getElem?_eq_getElem hm, h1], h2⟩
theorem ex_size {y : Ex} {l r : List El} {m : Nat} (h : l.drop m = y.els ++ r) (hl : l.length ≤ 2000) : y.bs.size ≤ 10000 := by
  have h1 := y.bs_size
  have h2 := congrArg List.length h
  simp only [List.length_drop, List.length_append] at h2
  omega
end Go.Proofs.YtadmbphefpfbmaaGreatDoor
