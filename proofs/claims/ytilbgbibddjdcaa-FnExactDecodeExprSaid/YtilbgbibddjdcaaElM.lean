/- Slices of elements of expressions: how they read; small facts of the scan. -/
import Derived.Test.YtilbgbibddjdcaaDecM
import Derived.Test.YtilbgbibddjdcaaFoot
namespace Go.Proofs.Ytilbgbibddjdcaa
open Go.RowKit
set_option linter.unusedVariables false
set_option linter.unusedSimpArgs false

def eNums : List El → List Int
  | [] => []
  | x :: r => x.1 :: x.2 :: eNums r
theorem eNums_len : ∀ es : List El, (eNums es).length = es.length * 2
  | [] => rfl
  | x :: r => by simp only [eNums, List.length_cons, eNums_len r]; omega
theorem eNums_append : ∀ xs ys : List El, eNums (xs ++ ys) = eNums xs ++ eNums ys
  | [], ys => rfl
  | x :: r, ys => by simp [eNums, eNums_append r ys]
theorem eNums_of : ∀ (n : Nat) (xs : List Int), xs.length = n * 2 → ∃ es : List El, xs = eNums es ∧ es.length = n
  | 0, xs, h => ⟨[], by simpa [eNums] using h, rfl⟩
  | n + 1, a :: b :: r, h => by
    obtain ⟨ps, rfl, hp⟩ := eNums_of n r (by simp at h; omega)
    exact ⟨(a, b) :: ps, rfl, by simp [hp]⟩
  | n + 1, [], h => by simp at h
  | n + 1, [_], h => by simp at h; omega
theorem eNums_get : ∀ {es : List El} {k : Nat} {x : El}, es[k]? = some x → (eNums es)[k * 2]? = some x.1 ∧ (eNums es)[k * 2 + 1]? = some x.2
  | [], k, x, h => by simp at h
  | y :: r, 0, x, h => by
    obtain rfl : y = x := by simpa using h
    exact ⟨rfl, rfl⟩
  | y :: r, k + 1, x, h => by
    have := eNums_get (es := r) (k := k) (x := x) (by simpa using h)
    rw [show (k + 1) * 2 = k * 2 + 1 + 1 by omega]
    exact this
theorem eNums_inj : ∀ {a b : List El}, eNums a = eNums b → a = b
  | [], [], _ => rfl
  | [], _ :: _, h => by simp [eNums] at h
  | _ :: _, [], h => by simp [eNums] at h
  | (a, b) :: r, (c, d) :: s, h => by
    simp only [eNums, List.cons.injEq] at h
    obtain ⟨rfl, rfl, h⟩ := h
    rw [eNums_inj h]
/-- A slice of n elements reads as es. -/
abbrev RdE (w : World) (A : Option Addr) (n : Nat) (es : List El) : Prop := Rd w A (n * 2) (ints (eNums es))
theorem rdE_len {w : World} {A : Option Addr} {n : Nat} {es : List El} (h : RdE w A n es) : es.length = n := by
  have := h.1
  simp [eNums_len] at this
  omega
/-- The two cells of an element. -/
theorem rdE {w : World} {A : Option Addr} {n k : Nat} {es : List El} {x : El} (hr : RdE w A n es) (hx : es[k]? = some x) :
    ∃ b off, A = some ⟨b, off, none⟩ ∧ b < w.heap.size ∧ w.cell? ⟨b, off + k * 2, none⟩ = some (.int .i64 x.1) ∧ w.cell? ⟨b, off + k * 2 + 1, none⟩ = some (.int .i64 x.2) := by
  obtain ⟨h0, h1⟩ := eNums_get hx
  obtain ⟨b, off, e, hb, q0⟩ := hr.at_ (ints_get h0)
  have hpos : 0 < n * 2 := by have h := hr.1; have := (List.getElem?_eq_some_iff.1 h0).1; simp at h; omega
  obtain ⟨b', off', e', _, hc⟩ := hr.2 hpos
  obtain ⟨rfl, rfl⟩ : b = b' ∧ off = off' := by rw [e] at e'; simpa using e'
  exact ⟨b, off, e, hb, q0, by have := hc _ _ (ints_get h1); rwa [← Nat.add_assoc] at this⟩
/-- A part of a slice. -/
theorem rdE_cut {w : World} {b off n i j : Nat} {es : List El} (hr : RdE w (some ⟨b, off, none⟩) n es) (hij : i ≤ j) (hj : j ≤ n) : RdE w (some ⟨b, off + i * 2, none⟩) (j - i) ((es.drop i).take (j - i)) := by
  have hl := rdE_len hr
  refine ⟨by simp [eNums_len]; omega, fun hn => ?_⟩
  obtain ⟨b', off', e, hb, hc⟩ := hr.2 (by omega)
  obtain ⟨rfl, rfl⟩ : b = b' ∧ off = off' := by simpa using e
  refine ⟨b, off + i * 2, rfl, hb, fun k u hu => ?_⟩
  have key : eNums es = eNums (es.take i) ++ (eNums ((es.drop i).take (j - i)) ++ eNums ((es.drop i).drop (j - i))) := by
    rw [← eNums_append, ← eNums_append, List.take_append_drop, List.take_append_drop]
  have hk : k < (ints (eNums ((es.drop i).take (j - i)))).length := (List.getElem?_eq_some_iff.1 hu).1
  have h1 : (ints (eNums es))[i * 2 + k]? = some u := by
    have hti : (eNums (es.take i)).length = i * 2 := by rw [eNums_len, List.length_take]; omega
    rw [key]
    simp only [ints, List.map_append] at hu hk ⊢
    rw [List.getElem?_append_right (by simp [hti]), List.length_map, hti, Nat.add_sub_cancel_left, List.getElem?_append_left (by simpa using hk)]
    exact hu
  have := hc _ _ h1
  rwa [← Nat.add_assoc] at this
theorem scanE_len : ∀ (es : List El) (n : Nat) (r : List El), scanE es n = some r → r.length ≤ es.length
  | es, 0, r, h => by
    have : es = r := by cases es <;> simpa [scanE] using h
    rw [this]; exact Nat.le_refl _
  | [], n + 1, r, h => by simp [scanE] at h
  | x :: es, n + 1, r, h => by
    have := scanE_len es (n + fol x) r h
    simp only [List.length_cons]
    omega
theorem scanE_step {es : List El} {k m : Nat} {x : El} (h : es[k]? = some x) : scanE (es.drop k) (m + 1) = scanE (es.drop (k + 1)) (m + fol x) := by rw [drop_get h]; rfl
/-- The place behind the expression that begins at k, or -1. -/
def endE (es : List El) (k : Nat) : Int := match scanE (es.drop k) 1 with
  | some r => ((es.length - r.length : Nat) : Int)
  | none => -1
theorem endE_some {es : List El} {k j : Nat} (h : scanE (es.drop k) 1 = some (es.drop j)) (hj : j ≤ es.length) : endE es k = j := by
  simp only [endE, h, List.length_drop]
  omega
theorem endE_none {es : List El} {k : Nat} (h : scanE (es.drop k) 1 = none) : endE es k = -1 := by simp only [endE, h]
theorem endE_whole (es : List El) : (scanE es 1 == some []) = (endE es 0 == (es.length : Int)) := by
  simp only [endE, List.drop_zero]
  cases h : scanE es 1 with
  | none =>
    simp
  | some r =>
    have hl := scanE_len es 1 r h
    cases r with
    | nil => simp
    | cons x xs =>
      simp at hl ⊢
      omega
end Go.Proofs.Ytilbgbibddjdcaa
