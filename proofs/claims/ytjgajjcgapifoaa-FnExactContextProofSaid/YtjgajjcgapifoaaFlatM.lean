/- Rows of structs of numbers, flat: filling and marking some cells at a time. -/
import Derived.Test.YtjgajjcgapifoaaMemS
import Derived.Test.YtjgajjcgapifoaaLawI
namespace Go.Proofs.Ytjgajjcgapifoaa
open Go.RowKit
theorem fillN (xs : List Int) (N m s : Nat) (h : xs.length = N) (hm : m + s ≤ N) : ∀ j, j < s → (ints (xs.take m ++ zs (N - m)))[m + j]? = some (.int .i64 0) := by
  intro j hj
  simp only [ints, zs, List.map_append, List.map_replicate]
  rw [List.getElem?_append_right (by simp; omega)]
  simp only [List.length_map, List.length_take, List.getElem?_replicate]
  rw [if_pos (by omega)]
theorem fill2 {xs : List Int} {N m : Nat} (h : xs.length = N) (hm : m + 2 ≤ xs.length) {x0 x1 : Int} (h0 : xs[m]? = some x0) (h1 : xs[m + 1]? = some x1) :
    ((ints (xs.take m ++ zs (N - m))).set m (.int .i64 x0)).set (m + 1) (.int .i64 x1) = ints (xs.take (m + 2) ++ zs (N - (m + 2))) := by
  rw [fill_step xs N m h (by omega) _ h0, fill_step xs N (m + 1) h (by omega) _ h1]
theorem fill3 {xs : List Int} {N m : Nat} (h : xs.length = N) (hm : m + 3 ≤ xs.length) {x0 x1 x2 : Int} (h0 : xs[m]? = some x0) (h1 : xs[m + 1]? = some x1) (h2 : xs[m + 2]? = some x2) :
    (((ints (xs.take m ++ zs (N - m))).set m (.int .i64 x0)).set (m + 1) (.int .i64 x1)).set (m + 2) (.int .i64 x2) = ints (xs.take (m + 3) ++ zs (N - (m + 3))) := by
  rw [fill2 h (by omega) h0 h1, fill_step xs N (m + 2) h (by omega) _ h2]
theorem fill4 {xs : List Int} {N m : Nat} (h : xs.length = N) (hm : m + 4 ≤ xs.length) {x0 x1 x2 x3 : Int} (h0 : xs[m]? = some x0) (h1 : xs[m + 1]? = some x1) (h2 : xs[m + 2]? = some x2) (h3 : xs[m + 3]? = some x3) :
    ((((ints (xs.take m ++ zs (N - m))).set m (.int .i64 x0)).set (m + 1) (.int .i64 x1)).set (m + 2) (.int .i64 x2)).set (m + 3) (.int .i64 x3) = ints (xs.take (m + 4) ++ zs (N - (m + 4))) := by
  rw [fill3 h (by omega) h0 h1 h2, fill_step xs N (m + 3) h (by omega) _ h3]
theorem markN_get (k : Int) (xs : List Int) (N m i : Nat) (h : xs.length = N) (hi : m + i < N) : ∃ u, (ints (up k m ++ xs.drop m))[m + i]? = some (.int .i64 u) := by
  refine ⟨xs[m + i]'(by omega), ?_⟩
  simp only [ints, List.getElem?_map, List.getElem?_append, up_length]
  rw [if_neg (by omega), List.getElem?_drop, show m + (m + i - m) = m + i by omega]; simp
theorem mark_stepv {k v : Int} {xs : List Int} {n i : Nat} (h : xs.length = n) (hi : i < n) (hv : v = k + i) :
    (ints (up k i ++ xs.drop i)).set i (.int .i64 v) = ints (up k (i + 1) ++ xs.drop (i + 1)) := by subst hv; exact mark_step k xs n i h hi
theorem mark2 {k v0 v1 : Int} {xs : List Int} {N m : Nat} (h : xs.length = N) (hm : m + 2 ≤ N) (e0 : v0 = k + m) (e1 : v1 = k + m + 1) :
    ((ints (up k m ++ xs.drop m)).set m (.int .i64 v0)).set (m + 1) (.int .i64 v1) = ints (up k (m + 2) ++ xs.drop (m + 2)) := by
  rw [mark_stepv h (by omega) e0, mark_stepv h (by omega) (by omega)]
theorem mark3 {k v0 v1 v2 : Int} {xs : List Int} {N m : Nat} (h : xs.length = N) (hm : m + 3 ≤ N) (e0 : v0 = k + m) (e1 : v1 = k + m + 1) (e2 : v2 = k + m + 2) :
    (((ints (up k m ++ xs.drop m)).set m (.int .i64 v0)).set (m + 1) (.int .i64 v1)).set (m + 2) (.int .i64 v2) = ints (up k (m + 3) ++ xs.drop (m + 3)) := by
  rw [mark2 h (by omega) e0 e1, mark_stepv h (by omega) (by omega)]
theorem mark4 {k v0 v1 v2 v3 : Int} {xs : List Int} {N m : Nat} (h : xs.length = N) (hm : m + 4 ≤ N) (e0 : v0 = k + m) (e1 : v1 = k + m + 1) (e2 : v2 = k + m + 2) (e3 : v3 = k + m + 3) :
    ((((ints (up k m ++ xs.drop m)).set m (.int .i64 v0)).set (m + 1) (.int .i64 v1)).set (m + 2) (.int .i64 v2)).set (m + 3) (.int .i64 v3) = ints (up k (m + 4) ++ xs.drop (m + 4)) := by
  rw [mark3 h (by omega) e0 e1 e2, mark_stepv h (by omega) (by omega)]
theorem sI {a b : Int} (h : a = b) : some (Value.int .i64 a) = some (Value.int .i64 b) := by rw [h]
theorem grown_set (w : World) (g i : Nat) (u : Value) : w.grownBy (w.setCell ⟨g, i, none⟩ u) (some g) :=
  ⟨rfl, rfl, rfl, by simp, fun k _ hk => heap_setCell_other w ⟨g, i, none⟩ k u (fun e => hk (by simp [e]))⟩
end Go.Proofs.Ytjgajjcgapifoaa
