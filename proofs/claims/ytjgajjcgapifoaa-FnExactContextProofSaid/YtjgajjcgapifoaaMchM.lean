/- Machines in plain Lean: rules, validity. -/
import Derived.Test.YtjgajjcgapifoaaFlatM
import Derived.Test.YtjgajjcgapifoaaFoot
namespace Go.Proofs.Ytjgajjcgapifoaa
open Go.RowKit
set_option linter.unusedVariables false
structure Rul where
  wr : Int
  mv : Int
  nx : Int
  deriving DecidableEq
def flatR : List Rul → List Int
  | [] => []
  | x :: r => x.wr :: x.mv :: x.nx :: flatR r
theorem flatR_len : ∀ ps : List Rul, (flatR ps).length = ps.length * 3
  | [] => rfl
  | x :: r => by simp only [flatR, List.length_cons, flatR_len r]; omega
theorem unflatR : ∀ (n : Nat) (xs : List Int), xs.length = n * 3 → ∃ ps : List Rul, xs = flatR ps ∧ ps.length = n
  | 0, xs, h => ⟨[], by simpa [flatR] using h, rfl⟩
  | n + 1, a :: b :: c :: r, h => by
    obtain ⟨ps, rfl, hp⟩ := unflatR n r (by simp at h; omega)
    exact ⟨⟨a, b, c⟩ :: ps, rfl, by simp [hp]⟩
  | n + 1, [], h => by simp at h
  | n + 1, [_], h => by simp at h; omega
  | n + 1, [_, _], h => by simp at h; omega
theorem flatR_append : ∀ xs ys : List Rul, flatR (xs ++ ys) = flatR xs ++ flatR ys
  | [], ys => rfl
  | x :: r, ys => by simp [flatR, flatR_append r ys]
theorem flatR_get : ∀ {ps : List Rul} {k : Nat} {x : Rul}, ps[k]? = some x → (flatR ps)[k * 3]? = some x.wr ∧ (flatR ps)[k * 3 + 1]? = some x.mv ∧ (flatR ps)[k * 3 + 2]? = some x.nx
  | [], k, x, h => by simp at h
  | y :: r, 0, x, h => by
    obtain rfl : y = x := by simpa using h
    exact ⟨rfl, rfl, rfl⟩
  | y :: r, k + 1, x, h => by
    have := flatR_get (ps := r) (k := k) (x := x) (by simpa using h)
    rw [show (k + 1) * 3 = k * 3 + 1 + 1 + 1 by omega]
    exact this
/-- The three cells of a rule. -/
theorem rdR {w : World} {A : Option Addr} {n k : Nat} {ps : List Rul} {x : Rul} (hr : Rd w A (n * 3) (ints (flatR ps))) (hx : ps[k]? = some x) :
    ∃ b off, A = some ⟨b, off, none⟩ ∧ b < w.heap.size ∧ w.cell? ⟨b, off + k * 3, none⟩ = some (.int .i64 x.wr) ∧ w.cell? ⟨b, off + k * 3 + 1, none⟩ = some (.int .i64 x.mv) ∧ w.cell? ⟨b, off + k * 3 + 2, none⟩ = some (.int .i64 x.nx) := by
  obtain ⟨h0, h1, h2⟩ := flatR_get hx
  obtain ⟨b, off, e, hb, q0⟩ := hr.at_ (ints_get h0)
  have hpos : 0 < n * 3 := by have h := hr.1; have := (List.getElem?_eq_some_iff.1 h0).1; simp at h; omega
  obtain ⟨b', off', e', _, hc⟩ := hr.2 hpos
  obtain ⟨rfl, rfl⟩ : b = b' ∧ off = off' := by rw [e] at e'; simpa using e'
  exact ⟨b, off, e, hb, q0, by have := hc _ _ (ints_get h1); rwa [← Nat.add_assoc] at this, by have := hc _ _ (ints_get h2); rwa [← Nat.add_assoc] at this⟩
def noR : Rul := ⟨0, 0, -1⟩
def isR (r : Rul) : Bool := decide (r ≠ noR)
def okR (a b : Int) (r : Rul) : Bool := !isR r || (inB r.wr 0 (a - 1) && (decide (r.mv = 1) || decide (r.mv = -1)) && inB r.nx 0 (b - 1))
def okM (a b : Int) (rs : List Rul) : Bool := inB a 2 6 && inB b 1 1000 && decide ((rs.length : Int) = a * b) && rs.all (okR a b)
abbrev rulV (x : Rul) : Value := .agg #[.int .i64 x.wr, .int .i64 x.mv, .int .i64 x.nx]
theorem all_step {α : Type} {p : α → Bool} {xs : List α} {k : Nat} {x : α} (h : (xs.take k).all p = true) (hx : xs[k]? = some x) (hp : p x = true) : (xs.take (k + 1)).all p = true := by
  rw [List.take_add_one, hx]
  simp only [List.all_append, Bool.and_eq_true]
  exact ⟨h, by simp [hp]⟩
theorem all_out {α : Type} {p : α → Bool} {xs : List α} {k : Nat} {x : α} (hx : xs[k]? = some x) (hp : p x = false) : xs.all p = false := by
  obtain ⟨hk, rfl⟩ := List.getElem?_eq_some_iff.1 hx
  simp only [List.all_eq_false]
  exact ⟨_, List.getElem_mem hk, by simp [hp]⟩
theorem box3 (w : World) (T : Nat) (a b c : Value) : ((w.alloc (.cells #[a, b, c] T)).cell? ⟨w.heap.size, 0, none⟩ = some a ∧ (w.alloc (.cells #[a, b, c] T)).cell? ⟨w.heap.size, 1, none⟩ = some b ∧ (w.alloc (.cells #[a, b, c] T)).cell? ⟨w.heap.size, 2, none⟩ = some c) :=
  ⟨blk_cell (box_new w _ _) 0 rfl, blk_cell (box_new w _ _) 1 rfl, blk_cell (box_new w _ _) 2 rfl⟩

set_option maxHeartbeats 400000 in
theorem l05None_any (w : World) : Calls Try.prog 105 #[] w fun e w' => e = .returned (.agg #[.int .i64 0, .int .i64 0, .int .i64 (-1)]) ∧ Below w.heap.size w w' := by
  go_enter Try.func105, Try.ntmps105
  go_wp2_with fail
  exact bodyPost_ret (v := .agg #[.int .i64 0, .int .i64 0, .int .i64 (-1)]) (by simp [results, Try.results105, go_sem]) rfl ⟨rfl, below_new _ _⟩
set_option maxHeartbeats 400000 in
theorem noRule_any (w : World) : Calls Try.prog 143 #[] w fun e w' => e = .returned (.agg #[.int .i64 0, .int .i64 0, .int .i64 (-1)]) ∧ Below w.heap.size w w' := by
  go_enter Try.func143, Try.ntmps143
  go_wp2_with fail
  exact bodyPost_ret (v := .agg #[.int .i64 0, .int .i64 0, .int .i64 (-1)]) (by simp [results, Try.results143, go_sem]) rfl ⟨rfl, below_new _ _⟩

/-- How a rule is compared with none: field by field. -/
theorem isR_cases (a b c : Int) : (¬ a = 0 ∧ isR ⟨a, b, c⟩ = true) ∨ (a = 0 ∧ ¬ b = 0 ∧ isR ⟨a, b, c⟩ = true) ∨ (a = 0 ∧ b = 0 ∧ ¬ c = -1 ∧ isR ⟨a, b, c⟩ = true) ∨ (a = 0 ∧ b = 0 ∧ c = -1 ∧ isR ⟨a, b, c⟩ = false) := by
  by_cases h1 : a = 0 <;> by_cases h2 : b = 0 <;> by_cases h3 : c = -1 <;> simp [isR, noR, h1, h2, h3]
set_option maxHeartbeats 1000000 in
theorem isRule_any (w : World) (x : Rul) : Calls Try.prog 110 #[rulV x] w (RetV w (.bool (isR x))) := by
  obtain ⟨a, b, c⟩ := x
  rcases isR_cases a b c with ⟨h1, hR⟩ | ⟨rfl, h1, hR⟩ | ⟨rfl, rfl, h1, hR⟩ | ⟨rfl, rfl, rfl, hR⟩
  · obtain ⟨q0, q1, q2⟩ := box3 w 81 (.int .i64 a) (.int .i64 b) (.int .i64 c)
    have HR := Lib.hid hR
    clear hR
    go_enter Try.func110, Try.ntmps110
    go_wp2_with fail
    go_region_held3 (fun w' => w'.cell? ⟨w.heap.size, 0, none⟩ = some (.int .i64 a) ∧ w'.cell? ⟨w.heap.size, 1, none⟩ = some (.int .i64 b) ∧ w'.cell? ⟨w.heap.size, 2, none⟩ = some (.int .i64 c)) (first | exact ⟨q0, q1, q2⟩ | go_keep) (first
      | (go_at_call 143
         refine (noRule_any _).mono ?_
         rintro e w2 ⟨rfl, hb2⟩
         (try replace hb2 := und1 hb2)
         (try replace hb2 := undN hb2)
         have q0 := (hb2.cell (p := ⟨w.heap.size, 0, none⟩) (by simp)).trans q0
         have q1 := (hb2.cell (p := ⟨w.heap.size, 1, none⟩) (by simp)).trans q1
         have q2 := (hb2.cell (p := ⟨w.heap.size, 2, none⟩) (by simp)).trans q2))
    all_goals
      go_wp2_with fail
      go_ret
      exact ⟨by rw [HR.out]; first | rfl | simp_all, (below_new _ _).trans (hb2.mono (by simp))⟩
  · obtain ⟨q0, q1, q2⟩ := box3 w 81 (.int .i64 0) (.int .i64 b) (.int .i64 c)
    have HR := Lib.hid hR
    clear hR
    go_enter Try.func110, Try.ntmps110
    go_wp2_with fail
    go_region_held3 (fun w' => w'.cell? ⟨w.heap.size, 0, none⟩ = some (.int .i64 0) ∧ w'.cell? ⟨w.heap.size, 1, none⟩ = some (.int .i64 b) ∧ w'.cell? ⟨w.heap.size, 2, none⟩ = some (.int .i64 c)) (first | exact ⟨q0, q1, q2⟩ | go_keep) (first
      | (go_at_call 143
         refine (noRule_any _).mono ?_
         rintro e w2 ⟨rfl, hb2⟩
         (try replace hb2 := und1 hb2)
         (try replace hb2 := undN hb2)
         have q0 := (hb2.cell (p := ⟨w.heap.size, 0, none⟩) (by simp)).trans q0
         have q1 := (hb2.cell (p := ⟨w.heap.size, 1, none⟩) (by simp)).trans q1
         have q2 := (hb2.cell (p := ⟨w.heap.size, 2, none⟩) (by simp)).trans q2))
    all_goals
      go_wp2_with fail
      go_ret
      exact ⟨by rw [HR.out]; first | rfl | simp_all, (below_new _ _).trans (hb2.mono (by simp))⟩
  · obtain ⟨q0, q1, q2⟩ := box3 w 81 (.int .i64 0) (.int .i64 0) (.int .i64 c)
    have HR := Lib.hid hR
    clear hR
    go_enter Try.func110, Try.ntmps110
    go_wp2_with fail
    go_region_held3 (fun w' => w'.cell? ⟨w.heap.size, 0, none⟩ = some (.int .i64 0) ∧ w'.cell? ⟨w.heap.size, 1, none⟩ = some (.int .i64 0) ∧ w'.cell? ⟨w.heap.size, 2, none⟩ = some (.int .i64 c)) (first | exact ⟨q0, q1, q2⟩ | go_keep) (first
      | (go_at_call 143
         refine (noRule_any _).mono ?_
         rintro e w2 ⟨rfl, hb2⟩
         (try replace hb2 := und1 hb2)
         (try replace hb2 := undN hb2)
         have q0 := (hb2.cell (p := ⟨w.heap.size, 0, none⟩) (by simp)).trans q0
         have q1 := (hb2.cell (p := ⟨w.heap.size, 1, none⟩) (by simp)).trans q1
         have q2 := (hb2.cell (p := ⟨w.heap.size, 2, none⟩) (by simp)).trans q2))
    all_goals
      go_wp2_with fail
      go_ret
      exact ⟨by rw [HR.out]; first | rfl | simp_all, (below_new _ _).trans (hb2.mono (by simp))⟩
  · obtain ⟨q0, q1, q2⟩ := box3 w 81 (.int .i64 0) (.int .i64 0) (.int .i64 (-1))
    have HR := Lib.hid hR
    clear hR
    go_enter Try.func110, Try.ntmps110
    go_wp2_with fail
    go_region_held3 (fun w' => w'.cell? ⟨w.heap.size, 0, none⟩ = some (.int .i64 0) ∧ w'.cell? ⟨w.heap.size, 1, none⟩ = some (.int .i64 0) ∧ w'.cell? ⟨w.heap.size, 2, none⟩ = some (.int .i64 (-1))) (first | exact ⟨q0, q1, q2⟩ | go_keep) (first
      | (go_at_call 143
         refine (noRule_any _).mono ?_
         rintro e w2 ⟨rfl, hb2⟩
         (try replace hb2 := und1 hb2)
         (try replace hb2 := undN hb2)
         have q0 := (hb2.cell (p := ⟨w.heap.size, 0, none⟩) (by simp)).trans q0
         have q1 := (hb2.cell (p := ⟨w.heap.size, 1, none⟩) (by simp)).trans q1
         have q2 := (hb2.cell (p := ⟨w.heap.size, 2, none⟩) (by simp)).trans q2))
    all_goals
      go_wp2_with fail
      go_ret
      exact ⟨by rw [HR.out]; first | rfl | simp_all, (below_new _ _).trans (hb2.mono (by simp))⟩
end Go.Proofs.Ytjgajjcgapifoaa
