/- Texts in one file: MchM, MchN, MchO, CtxM. -/
import Derived.Test.YtcpkhhammafchaaGA
import Derived.IntWalk
/- Machines in plain Lean: rules, validity. -/
namespace Go.Proofs.Ytcpkhhammafchaa
open Go.RowKit
set_option linter.unusedVariables false
structure Rul where
  wr : Int
  mv : Int
  nx : Int
  deriving DecidableEq
def flatR : List Rul → List Int
  | [] => []
  | x :: r => x.wr :: x.mv :: x.nx :: flatR r
theorem flatR_len : ∀ ps : List Rul, (flatR ps).length = ps.length * 3
  | [] => rfl
  | x :: r => by simp only [flatR, List.length_cons, flatR_len r]; omega
theorem unflatR : ∀ (n : Nat) (xs : List Int), xs.length = n * 3 → ∃ ps : List Rul, xs = flatR ps ∧ ps.length = n
  | 0, xs, h => ⟨[], by simpa [flatR] using h, rfl⟩
  | n + 1, a :: b :: c :: r, h => by
    obtain ⟨ps, rfl, hp⟩ := unflatR n r (by simp at h; omega)
    exact ⟨⟨a, b, c⟩ :: ps, rfl, by simp [hp]⟩
  | n + 1, [], h => by simp at h
  | n + 1, [_], h => by simp at h; omega
  | n + 1, [_, _], h => by simp at h; omega
theorem flatR_append : ∀ xs ys : List Rul, flatR (xs ++ ys) = flatR xs ++ flatR ys
  | [], ys => rfl
  | x :: r, ys => by simp [flatR, flatR_append r ys]
theorem flatR_get : ∀ {ps : List Rul} {k : Nat} {x : Rul}, ps[k]? = some x → (flatR ps)[k * 3]? = some x.wr ∧ (flatR ps)[k * 3 + 1]? = some x.mv ∧ (flatR ps)[k * 3 + 2]? = some x.nx
  | [], k, x, h => by simp at h
  | y :: r, 0, x, h => by
    obtain rfl : y = x := by simpa using h
    exact ⟨rfl, rfl, rfl⟩
  | y :: r, k + 1, x, h => by
    have := flatR_get (ps := r) (k := k) (x := x) (by simpa using h)
    rw [show (k + 1) * 3 = k * 3 + 1 + 1 + 1 by omega]
    exact this
/-- The three cells of a rule. -/
theorem rdR {w : World} {A : Option Addr} {n k : Nat} {ps : List Rul} {x : Rul} (hr : Rd w A (n * 3) (ints (flatR ps))) (hx : ps[k]? = some x) :
    ∃ b off, A = some ⟨b, off, none⟩ ∧ b < w.heap.size ∧ w.cell? ⟨b, off + k * 3, none⟩ = some (.int .i64 x.wr) ∧ w.cell? ⟨b, off + k * 3 + 1, none⟩ = some (.int .i64 x.mv) ∧ w.cell? ⟨b, off + k * 3 + 2, none⟩ = some (.int .i64 x.nx) := by
  obtain ⟨h0, h1, h2⟩ := flatR_get hx
  obtain ⟨b, off, e, hb, q0⟩ := hr.at_ (ints_get h0)
  have hpos : 0 < n * 3 := by have h := hr.1; have := (List.getElem?_eq_some_iff.1 h0).1; simp at h; omega
  obtain ⟨b', off', e', _, hc⟩ := hr.2 hpos
  obtain ⟨rfl, rfl⟩ : b = b' ∧ off = off' := by rw [e] at e'; simpa using e'
  exact ⟨b, off, e, hb, q0, by have := hc _ _ (ints_get h1); rwa [← Nat.add_assoc] at this, by have := hc _ _ (ints_get h2); rwa [← Nat.add_assoc] at this⟩
def noR : Rul := ⟨0, 0, -1⟩
def isR (r : Rul) : Bool := decide (r ≠ noR)
def okR (a b : Int) (r : Rul) : Bool := !isR r || (inB r.wr 0 (a - 1) && (decide (r.mv = 1) || decide (r.mv = -1)) && inB r.nx 0 (b - 1))
def okM (a b : Int) (rs : List Rul) : Bool := inB a 2 6 && inB b 1 1000 && decide ((rs.length : Int) = a * b) && rs.all (okR a b)
abbrev rulV (x : Rul) : Value := .agg #[.int .i64 x.wr, .int .i64 x.mv, .int .i64 x.nx]
theorem all_step {α : Type} {p : α → Bool} {xs : List α} {k : Nat} {x : α} (h : (xs.take k).all p = true) (hx : xs[k]? = some x) (hp : p x = true) : (xs.take (k + 1)).all p = true := by
  rw [List.take_add_one, hx]
  simp only [List.all_append, Bool.and_eq_true]
  exact ⟨h, by simp [hp]⟩
theorem all_out {α : Type} {p : α → Bool} {xs : List α} {k : Nat} {x : α} (hx : xs[k]? = some x) (hp : p x = false) : xs.all p = false := by
  obtain ⟨hk, rfl⟩ := List.getElem?_eq_some_iff.1 hx
  simp only [List.all_eq_false]
  exact ⟨_, List.getElem_mem hk, by simp [hp]⟩
theorem box3 (w : World) (T : Nat) (a b c : Value) : ((w.alloc (.cells #[a, b, c] T)).cell? ⟨w.heap.size, 0, none⟩ = some a ∧ (w.alloc (.cells #[a, b, c] T)).cell? ⟨w.heap.size, 1, none⟩ = some b ∧ (w.alloc (.cells #[a, b, c] T)).cell? ⟨w.heap.size, 2, none⟩ = some c) :=
  ⟨blk_cell (box_new w _ _) 0 rfl, blk_cell (box_new w _ _) 1 rfl, blk_cell (box_new w _ _) 2 rfl⟩

set_option maxHeartbeats 400000 in
theorem l05None_any (w : World) : Calls Try.prog 103 #[] w fun e w' => e = .returned (.agg #[.int .i64 0, .int .i64 0, .int .i64 (-1)]) ∧ Below w.heap.size w w' := by
  go_enter Try.func103, Try.ntmps103
  go_wp2_with fail
  exact bodyPost_ret (v := .agg #[.int .i64 0, .int .i64 0, .int .i64 (-1)]) (by simp [results, Try.results103, go_sem]) rfl ⟨rfl, below_new _ _⟩
set_option maxHeartbeats 400000 in
theorem noRule_any (w : World) : Calls Try.prog 184 #[] w fun e w' => e = .returned (.agg #[.int .i64 0, .int .i64 0, .int .i64 (-1)]) ∧ Below w.heap.size w w' := by
  go_enter Try.func184, Try.ntmps184
  go_wp2_with fail
  exact bodyPost_ret (v := .agg #[.int .i64 0, .int .i64 0, .int .i64 (-1)]) (by simp [results, Try.results184, go_sem]) rfl ⟨rfl, below_new _ _⟩

/-- How a rule is compared with none: field by field. -/
theorem isR_cases (a b c : Int) : (¬ a = 0 ∧ isR ⟨a, b, c⟩ = true) ∨ (a = 0 ∧ ¬ b = 0 ∧ isR ⟨a, b, c⟩ = true) ∨ (a = 0 ∧ b = 0 ∧ ¬ c = -1 ∧ isR ⟨a, b, c⟩ = true) ∨ (a = 0 ∧ b = 0 ∧ c = -1 ∧ isR ⟨a, b, c⟩ = false) := by
  by_cases h1 : a = 0 <;> by_cases h2 : b = 0 <;> by_cases h3 : c = -1 <;> simp [isR, noR, h1, h2, h3]
set_option maxHeartbeats 1000000 in
theorem isRule_any (w : World) (x : Rul) : Calls Try.prog 164 #[rulV x] w (RetV w (.bool (isR x))) := by
  obtain ⟨a, b, c⟩ := x
  rcases isR_cases a b c with ⟨h1, hR⟩ | ⟨rfl, h1, hR⟩ | ⟨rfl, rfl, h1, hR⟩ | ⟨rfl, rfl, rfl, hR⟩
  · obtain ⟨q0, q1, q2⟩ := box3 w 154 (.int .i64 a) (.int .i64 b) (.int .i64 c)
    have HR := Lib.hid hR
    clear hR
    go_enter Try.func164, Try.ntmps164
    go_wp2_with fail
    go_region_held3 (fun w' => w'.cell? ⟨w.heap.size, 0, none⟩ = some (.int .i64 a) ∧ w'.cell? ⟨w.heap.size, 1, none⟩ = some (.int .i64 b) ∧ w'.cell? ⟨w.heap.size, 2, none⟩ = some (.int .i64 c)) (first | exact ⟨q0, q1, q2⟩ | go_keep) (first
      | (go_at_call 184
         refine (noRule_any _).mono ?_
         rintro e w2 ⟨rfl, hb2⟩
         (try replace hb2 := und1 hb2)
         (try replace hb2 := undN hb2)
         have q0 := (hb2.cell (p := ⟨w.heap.size, 0, none⟩) (by simp)).trans q0
         have q1 := (hb2.cell (p := ⟨w.heap.size, 1, none⟩) (by simp)).trans q1
         have q2 := (hb2.cell (p := ⟨w.heap.size, 2, none⟩) (by simp)).trans q2))
    all_goals
      go_wp2_with fail
      go_ret
      exact ⟨by rw [HR.out]; first | rfl | simp_all, (below_new _ _).trans (hb2.mono (by simp))⟩
  · obtain ⟨q0, q1, q2⟩ := box3 w 154 (.int .i64 0) (.int .i64 b) (.int .i64 c)
    have HR := Lib.hid hR
    clear hR
    go_enter Try.func164, Try.ntmps164
    go_wp2_with fail
    go_region_held3 (fun w' => w'.cell? ⟨w.heap.size, 0, none⟩ = some (.int .i64 0) ∧ w'.cell? ⟨w.heap.size, 1, none⟩ = some (.int .i64 b) ∧ w'.cell? ⟨w.heap.size, 2, none⟩ = some (.int .i64 c)) (first | exact ⟨q0, q1, q2⟩ | go_keep) (first
      | (go_at_call 184
         refine (noRule_any _).mono ?_
         rintro e w2 ⟨rfl, hb2⟩
         (try replace hb2 := und1 hb2)
         (try replace hb2 := undN hb2)
         have q0 := (hb2.cell (p := ⟨w.heap.size, 0, none⟩) (by simp)).trans q0
         have q1 := (hb2.cell (p := ⟨w.heap.size, 1, none⟩) (by simp)).trans q1
         have q2 := (hb2.cell (p := ⟨w.heap.size, 2, none⟩) (by simp)).trans q2))
    all_goals
      go_wp2_with fail
      go_ret
      exact ⟨by rw [HR.out]; first | rfl | simp_all, (below_new _ _).trans (hb2.mono (by simp))⟩
  · obtain ⟨q0, q1, q2⟩ := box3 w 154 (.int .i64 0) (.int .i64 0) (.int .i64 c)
    have HR := Lib.hid hR
    clear hR
    go_enter Try.func164, Try.ntmps164
    go_wp2_with fail
    go_region_held3 (fun w' => w'.cell? ⟨w.heap.size, 0, none⟩ = some (.int .i64 0) ∧ w'.cell? ⟨w.heap.size, 1, none⟩ = some (.int .i64 0) ∧ w'.cell? ⟨w.heap.size, 2, none⟩ = some (.int .i64 c)) (first | exact ⟨q0, q1, q2⟩ | go_keep) (first
      | (go_at_call 184
         refine (noRule_any _).mono ?_
         rintro e w2 ⟨rfl, hb2⟩
         (try replace hb2 := und1 hb2)
         (try replace hb2 := undN hb2)
         have q0 := (hb2.cell (p := ⟨w.heap.size, 0, none⟩) (by simp)).trans q0
         have q1 := (hb2.cell (p := ⟨w.heap.size, 1, none⟩) (by simp)).trans q1
         have q2 := (hb2.cell (p := ⟨w.heap.size, 2, none⟩) (by simp)).trans q2))
    all_goals
      go_wp2_with fail
      go_ret
      exact ⟨by rw [HR.out]; first | rfl | simp_all, (below_new _ _).trans (hb2.mono (by simp))⟩
  · obtain ⟨q0, q1, q2⟩ := box3 w 154 (.int .i64 0) (.int .i64 0) (.int .i64 (-1))
    have HR := Lib.hid hR
    clear hR
    go_enter Try.func164, Try.ntmps164
    go_wp2_with fail
    go_region_held3 (fun w' => w'.cell? ⟨w.heap.size, 0, none⟩ = some (.int .i64 0) ∧ w'.cell? ⟨w.heap.size, 1, none⟩ = some (.int .i64 0) ∧ w'.cell? ⟨w.heap.size, 2, none⟩ = some (.int .i64 (-1))) (first | exact ⟨q0, q1, q2⟩ | go_keep) (first
      | (go_at_call 184
         refine (noRule_any _).mono ?_
         rintro e w2 ⟨rfl, hb2⟩
         (try replace hb2 := und1 hb2)
         (try replace hb2 := undN hb2)
         have q0 := (hb2.cell (p := ⟨w.heap.size, 0, none⟩) (by simp)).trans q0
         have q1 := (hb2.cell (p := ⟨w.heap.size, 1, none⟩) (by simp)).trans q1
         have q2 := (hb2.cell (p := ⟨w.heap.size, 2, none⟩) (by simp)).trans q2))
    all_goals
      go_wp2_with fail
      go_ret
      exact ⟨by rw [HR.out]; first | rfl | simp_all, (below_new _ _).trans (hb2.mono (by simp))⟩
end Go.Proofs.Ytcpkhhammafchaa
/- Machines: the tests of rules and machines, the reference's and the program's. Written by mk_mchn.py. -/
namespace Go.Proofs.Ytcpkhhammafchaa
open Go.RowKit
set_option linter.unusedVariables false
set_option linter.unusedSimpArgs false
/-- The index that a search returns: not negative just where something was found. -/
def FoundN (w : World) (bad : Bool) (e : Ending) (w' : World) : Prop := ∃ i : Int, e = .returned (.int .i64 i) ∧ decide (0 ≤ i) = bad ∧ Below w.heap.size w w'

theorem okR_no {a b : Int} {r : Rul} (h : isR r = false) : okR a b r = true := by simp [okR, h]
/-- How a rule that is none is tested. -/
theorem okR_cases {s t a b c : Int} (h : isR ⟨a, b, c⟩ = true) : (inB a 0 (s - 1) = false ∧ okR s t ⟨a, b, c⟩ = false) ∨ (inB a 0 (s - 1) = true ∧ b = 1 ∧ okR s t ⟨a, b, c⟩ = inB c 0 (t - 1)) ∨ (inB a 0 (s - 1) = true ∧ b = -1 ∧ okR s t ⟨a, b, c⟩ = inB c 0 (t - 1)) ∨ (inB a 0 (s - 1) = true ∧ (b == 1) = false ∧ (b == -1) = false ∧ okR s t ⟨a, b, c⟩ = false) := by
  unfold okR
  rw [h]
  cases h1 : inB a 0 (s - 1)
  · left; simp
  · right
    by_cases h2 : b = 1
    · subst h2; left; simp
    · by_cases h3 : b = -1
      · subst h3; right; left; simp
      · right; right; simp [h2, h3]
set_option maxHeartbeats 4000000 in
theorem l05Rule_any (w : World) (x : Rul) (s t : Int) (hs : 2 ≤ s ∧ s ≤ 6) (ht : 1 ≤ t ∧ t ≤ 1000) : Calls Try.prog 111 #[rulV x, .int .i64 s, .int .i64 t] w (RetV w (.bool (okR s t x))) := by
  obtain ⟨hs1, hs2⟩ := hs
  obtain ⟨ht1, ht2⟩ := ht
  obtain ⟨a, b, c⟩ := x
  rcases isR_cases a b c with ⟨h1, hR⟩ | ⟨rfl, h1, hR⟩ | ⟨rfl, rfl, h1, hR⟩ | ⟨rfl, rfl, rfl, hR⟩
  · rcases okR_cases (s := s) (t := t) hR with ⟨g1, hO⟩ | ⟨g1, rfl, hO⟩ | ⟨g1, rfl, hO⟩ | ⟨g1, g2, g3, hO⟩
    · obtain ⟨q0, q1, q2⟩ := box3 w 154 (.int .i64 a) (.int .i64 b) (.int .i64 c)
      have HO := Lib.hid hO
      clear hR hO
      go_enter Try.func111, Try.ntmps111
      go_wp2_with fail
      go_region_held3 (fun w' => w'.cell? ⟨w.heap.size, 0, none⟩ = some (.int .i64 a) ∧ w'.cell? ⟨w.heap.size, 1, none⟩ = some (.int .i64 b) ∧ w'.cell? ⟨w.heap.size, 2, none⟩ = some (.int .i64 c)) (first | exact ⟨q0, q1, q2⟩ | go_keep) (first
        | (go_at_call 103
           refine (l05None_any _).mono ?_
           rintro e w2 ⟨rfl, hb2⟩
           (try replace hb2 := und1 hb2)
           (try replace hb2 := undN hb2)
           have q0 := (hb2.cell (p := ⟨w.heap.size, 0, none⟩) (by simp)).trans q0
           have q1 := (hb2.cell (p := ⟨w.heap.size, 1, none⟩) (by simp)).trans q1
           have q2 := (hb2.cell (p := ⟨w.heap.size, 2, none⟩) (by simp)).trans q2))
      all_goals
        go_wp2_with (go_at_call 110; refine (l00In_any _ _ _ _).mono ?_; rintro e w' ⟨rfl, rfl⟩)
        go_ret
        exact ⟨by rw [HO.out]; first | rfl | simp_all, (below_new _ _).trans (hb2.mono (by simp))⟩
    · obtain ⟨q0, q1, q2⟩ := box3 w 154 (.int .i64 a) (.int .i64 1) (.int .i64 c)
      have HO := Lib.hid hO
      clear hR hO
      go_enter Try.func111, Try.ntmps111
      go_wp2_with fail
      go_region_held3 (fun w' => w'.cell? ⟨w.heap.size, 0, none⟩ = some (.int .i64 a) ∧ w'.cell? ⟨w.heap.size, 1, none⟩ = some (.int .i64 1) ∧ w'.cell? ⟨w.heap.size, 2, none⟩ = some (.int .i64 c)) (first | exact ⟨q0, q1, q2⟩ | go_keep) (first
        | (go_at_call 103
           refine (l05None_any _).mono ?_
           rintro e w2 ⟨rfl, hb2⟩
           (try replace hb2 := und1 hb2)
           (try replace hb2 := undN hb2)
           have q0 := (hb2.cell (p := ⟨w.heap.size, 0, none⟩) (by simp)).trans q0
           have q1 := (hb2.cell (p := ⟨w.heap.size, 1, none⟩) (by simp)).trans q1
           have q2 := (hb2.cell (p := ⟨w.heap.size, 2, none⟩) (by simp)).trans q2))
      all_goals
        go_wp2_with (go_at_call 110; refine (l00In_any _ _ _ _).mono ?_; rintro e w' ⟨rfl, rfl⟩)
        go_ret
        exact ⟨by rw [HO.out]; first | rfl | simp_all, (below_new _ _).trans (hb2.mono (by simp))⟩
    · obtain ⟨q0, q1, q2⟩ := box3 w 154 (.int .i64 a) (.int .i64 (-1)) (.int .i64 c)
      have HO := Lib.hid hO
      clear hR hO
      go_enter Try.func111, Try.ntmps111
      go_wp2_with fail
      go_region_held3 (fun w' => w'.cell? ⟨w.heap.size, 0, none⟩ = some (.int .i64 a) ∧ w'.cell? ⟨w.heap.size, 1, none⟩ = some (.int .i64 (-1)) ∧ w'.cell? ⟨w.heap.size, 2, none⟩ = some (.int .i64 c)) (first | exact ⟨q0, q1, q2⟩ | go_keep) (first
        | (go_at_call 103
           refine (l05None_any _).mono ?_
           rintro e w2 ⟨rfl, hb2⟩
           (try replace hb2 := und1 hb2)
           (try replace hb2 := undN hb2)
           have q0 := (hb2.cell (p := ⟨w.heap.size, 0, none⟩) (by simp)).trans q0
           have q1 := (hb2.cell (p := ⟨w.heap.size, 1, none⟩) (by simp)).trans q1
           have q2 := (hb2.cell (p := ⟨w.heap.size, 2, none⟩) (by simp)).trans q2))
      all_goals
        go_wp2_with (go_at_call 110; refine (l00In_any _ _ _ _).mono ?_; rintro e w' ⟨rfl, rfl⟩)
        go_ret
        exact ⟨by rw [HO.out]; first | rfl | simp_all, (below_new _ _).trans (hb2.mono (by simp))⟩
    · obtain ⟨q0, q1, q2⟩ := box3 w 154 (.int .i64 a) (.int .i64 b) (.int .i64 c)
      have HO := Lib.hid hO
      clear hR hO
      go_enter Try.func111, Try.ntmps111
      go_wp2_with fail
      go_region_held3 (fun w' => w'.cell? ⟨w.heap.size, 0, none⟩ = some (.int .i64 a) ∧ w'.cell? ⟨w.heap.size, 1, none⟩ = some (.int .i64 b) ∧ w'.cell? ⟨w.heap.size, 2, none⟩ = some (.int .i64 c)) (first | exact ⟨q0, q1, q2⟩ | go_keep) (first
        | (go_at_call 103
           refine (l05None_any _).mono ?_
           rintro e w2 ⟨rfl, hb2⟩
           (try replace hb2 := und1 hb2)
           (try replace hb2 := undN hb2)
           have q0 := (hb2.cell (p := ⟨w.heap.size, 0, none⟩) (by simp)).trans q0
           have q1 := (hb2.cell (p := ⟨w.heap.size, 1, none⟩) (by simp)).trans q1
           have q2 := (hb2.cell (p := ⟨w.heap.size, 2, none⟩) (by simp)).trans q2))
      all_goals
        go_wp2_with (go_at_call 110; refine (l00In_any _ _ _ _).mono ?_; rintro e w' ⟨rfl, rfl⟩)
        go_ret
        exact ⟨by rw [HO.out]; first | rfl | simp_all, (below_new _ _).trans (hb2.mono (by simp))⟩
  · rcases okR_cases (s := s) (t := t) hR with ⟨g1, hO⟩ | ⟨g1, rfl, hO⟩ | ⟨g1, rfl, hO⟩ | ⟨g1, g2, g3, hO⟩
    · obtain ⟨q0, q1, q2⟩ := box3 w 154 (.int .i64 0) (.int .i64 b) (.int .i64 c)
      have HO := Lib.hid hO
      clear hR hO
      go_enter Try.func111, Try.ntmps111
      go_wp2_with fail
      go_region_held3 (fun w' => w'.cell? ⟨w.heap.size, 0, none⟩ = some (.int .i64 0) ∧ w'.cell? ⟨w.heap.size, 1, none⟩ = some (.int .i64 b) ∧ w'.cell? ⟨w.heap.size, 2, none⟩ = some (.int .i64 c)) (first | exact ⟨q0, q1, q2⟩ | go_keep) (first
        | (go_at_call 103
           refine (l05None_any _).mono ?_
           rintro e w2 ⟨rfl, hb2⟩
           (try replace hb2 := und1 hb2)
           (try replace hb2 := undN hb2)
           have q0 := (hb2.cell (p := ⟨w.heap.size, 0, none⟩) (by simp)).trans q0
           have q1 := (hb2.cell (p := ⟨w.heap.size, 1, none⟩) (by simp)).trans q1
           have q2 := (hb2.cell (p := ⟨w.heap.size, 2, none⟩) (by simp)).trans q2))
      all_goals
        go_wp2_with (go_at_call 110; refine (l00In_any _ _ _ _).mono ?_; rintro e w' ⟨rfl, rfl⟩)
        go_ret
        exact ⟨by rw [HO.out]; first | rfl | simp_all, (below_new _ _).trans (hb2.mono (by simp))⟩
    · obtain ⟨q0, q1, q2⟩ := box3 w 154 (.int .i64 0) (.int .i64 1) (.int .i64 c)
      have HO := Lib.hid hO
      clear hR hO
      go_enter Try.func111, Try.ntmps111
      go_wp2_with fail
      go_region_held3 (fun w' => w'.cell? ⟨w.heap.size, 0, none⟩ = some (.int .i64 0) ∧ w'.cell? ⟨w.heap.size, 1, none⟩ = some (.int .i64 1) ∧ w'.cell? ⟨w.heap.size, 2, none⟩ = some (.int .i64 c)) (first | exact ⟨q0, q1, q2⟩ | go_keep) (first
        | (go_at_call 103
           refine (l05None_any _).mono ?_
           rintro e w2 ⟨rfl, hb2⟩
           (try replace hb2 := und1 hb2)
           (try replace hb2 := undN hb2)
           have q0 := (hb2.cell (p := ⟨w.heap.size, 0, none⟩) (by simp)).trans q0
           have q1 := (hb2.cell (p := ⟨w.heap.size, 1, none⟩) (by simp)).trans q1
           have q2 := (hb2.cell (p := ⟨w.heap.size, 2, none⟩) (by simp)).trans q2))
      all_goals
        go_wp2_with (go_at_call 110; refine (l00In_any _ _ _ _).mono ?_; rintro e w' ⟨rfl, rfl⟩)
        go_ret
        exact ⟨by rw [HO.out]; first | rfl | simp_all, (below_new _ _).trans (hb2.mono (by simp))⟩
    · obtain ⟨q0, q1, q2⟩ := box3 w 154 (.int .i64 0) (.int .i64 (-1)) (.int .i64 c)
      have HO := Lib.hid hO
      clear hR hO
      go_enter Try.func111, Try.ntmps111
      go_wp2_with fail
      go_region_held3 (fun w' => w'.cell? ⟨w.heap.size, 0, none⟩ = some (.int .i64 0) ∧ w'.cell? ⟨w.heap.size, 1, none⟩ = some (.int .i64 (-1)) ∧ w'.cell? ⟨w.heap.size, 2, none⟩ = some (.int .i64 c)) (first | exact ⟨q0, q1, q2⟩ | go_keep) (first
        | (go_at_call 103
           refine (l05None_any _).mono ?_
           rintro e w2 ⟨rfl, hb2⟩
           (try replace hb2 := und1 hb2)
           (try replace hb2 := undN hb2)
           have q0 := (hb2.cell (p := ⟨w.heap.size, 0, none⟩) (by simp)).trans q0
           have q1 := (hb2.cell (p := ⟨w.heap.size, 1, none⟩) (by simp)).trans q1
           have q2 := (hb2.cell (p := ⟨w.heap.size, 2, none⟩) (by simp)).trans q2))
      all_goals
        go_wp2_with (go_at_call 110; refine (l00In_any _ _ _ _).mono ?_; rintro e w' ⟨rfl, rfl⟩)
        go_ret
        exact ⟨by rw [HO.out]; first | rfl | simp_all, (below_new _ _).trans (hb2.mono (by simp))⟩
    · obtain ⟨q0, q1, q2⟩ := box3 w 154 (.int .i64 0) (.int .i64 b) (.int .i64 c)
      have HO := Lib.hid hO
      clear hR hO
      go_enter Try.func111, Try.ntmps111
      go_wp2_with fail
      go_region_held3 (fun w' => w'.cell? ⟨w.heap.size, 0, none⟩ = some (.int .i64 0) ∧ w'.cell? ⟨w.heap.size, 1, none⟩ = some (.int .i64 b) ∧ w'.cell? ⟨w.heap.size, 2, none⟩ = some (.int .i64 c)) (first | exact ⟨q0, q1, q2⟩ | go_keep) (first
        | (go_at_call 103
           refine (l05None_any _).mono ?_
           rintro e w2 ⟨rfl, hb2⟩
           (try replace hb2 := und1 hb2)
           (try replace hb2 := undN hb2)
           have q0 := (hb2.cell (p := ⟨w.heap.size, 0, none⟩) (by simp)).trans q0
           have q1 := (hb2.cell (p := ⟨w.heap.size, 1, none⟩) (by simp)).trans q1
           have q2 := (hb2.cell (p := ⟨w.heap.size, 2, none⟩) (by simp)).trans q2))
      all_goals
        go_wp2_with (go_at_call 110; refine (l00In_any _ _ _ _).mono ?_; rintro e w' ⟨rfl, rfl⟩)
        go_ret
        exact ⟨by rw [HO.out]; first | rfl | simp_all, (below_new _ _).trans (hb2.mono (by simp))⟩
  · rcases okR_cases (s := s) (t := t) hR with ⟨g1, hO⟩ | ⟨g1, gx, hO⟩ | ⟨g1, gx, hO⟩ | ⟨g1, g2, g3, hO⟩
    · obtain ⟨q0, q1, q2⟩ := box3 w 154 (.int .i64 0) (.int .i64 0) (.int .i64 c)
      have HO := Lib.hid hO
      clear hR hO
      go_enter Try.func111, Try.ntmps111
      go_wp2_with fail
      go_region_held3 (fun w' => w'.cell? ⟨w.heap.size, 0, none⟩ = some (.int .i64 0) ∧ w'.cell? ⟨w.heap.size, 1, none⟩ = some (.int .i64 0) ∧ w'.cell? ⟨w.heap.size, 2, none⟩ = some (.int .i64 c)) (first | exact ⟨q0, q1, q2⟩ | go_keep) (first
        | (go_at_call 103
           refine (l05None_any _).mono ?_
           rintro e w2 ⟨rfl, hb2⟩
           (try replace hb2 := und1 hb2)
           (try replace hb2 := undN hb2)
           have q0 := (hb2.cell (p := ⟨w.heap.size, 0, none⟩) (by simp)).trans q0
           have q1 := (hb2.cell (p := ⟨w.heap.size, 1, none⟩) (by simp)).trans q1
           have q2 := (hb2.cell (p := ⟨w.heap.size, 2, none⟩) (by simp)).trans q2))
      all_goals
        go_wp2_with (go_at_call 110; refine (l00In_any _ _ _ _).mono ?_; rintro e w' ⟨rfl, rfl⟩)
        go_ret
        exact ⟨by rw [HO.out]; first | rfl | simp_all, (below_new _ _).trans (hb2.mono (by simp))⟩
    · exact absurd gx (by decide)
    · exact absurd gx (by decide)
    · obtain ⟨q0, q1, q2⟩ := box3 w 154 (.int .i64 0) (.int .i64 0) (.int .i64 c)
      have HO := Lib.hid hO
      clear hR hO
      go_enter Try.func111, Try.ntmps111
      go_wp2_with fail
      go_region_held3 (fun w' => w'.cell? ⟨w.heap.size, 0, none⟩ = some (.int .i64 0) ∧ w'.cell? ⟨w.heap.size, 1, none⟩ = some (.int .i64 0) ∧ w'.cell? ⟨w.heap.size, 2, none⟩ = some (.int .i64 c)) (first | exact ⟨q0, q1, q2⟩ | go_keep) (first
        | (go_at_call 103
           refine (l05None_any _).mono ?_
           rintro e w2 ⟨rfl, hb2⟩
           (try replace hb2 := und1 hb2)
           (try replace hb2 := undN hb2)
           have q0 := (hb2.cell (p := ⟨w.heap.size, 0, none⟩) (by simp)).trans q0
           have q1 := (hb2.cell (p := ⟨w.heap.size, 1, none⟩) (by simp)).trans q1
           have q2 := (hb2.cell (p := ⟨w.heap.size, 2, none⟩) (by simp)).trans q2))
      all_goals
        go_wp2_with (go_at_call 110; refine (l00In_any _ _ _ _).mono ?_; rintro e w' ⟨rfl, rfl⟩)
        go_ret
        exact ⟨by rw [HO.out]; first | rfl | simp_all, (below_new _ _).trans (hb2.mono (by simp))⟩
  · obtain ⟨q0, q1, q2⟩ := box3 w 154 (.int .i64 0) (.int .i64 0) (.int .i64 (-1))
    have HO : Hid (okR s t ⟨0, 0, -1⟩ = true) := Lib.hid (okR_no hR)
    clear hR
    go_enter Try.func111, Try.ntmps111
    go_wp2_with fail
    go_region_held3 (fun w' => w'.cell? ⟨w.heap.size, 0, none⟩ = some (.int .i64 0) ∧ w'.cell? ⟨w.heap.size, 1, none⟩ = some (.int .i64 0) ∧ w'.cell? ⟨w.heap.size, 2, none⟩ = some (.int .i64 (-1))) (first | exact ⟨q0, q1, q2⟩ | go_keep) (first
      | (go_at_call 103
         refine (l05None_any _).mono ?_
         rintro e w2 ⟨rfl, hb2⟩
         (try replace hb2 := und1 hb2)
         (try replace hb2 := undN hb2)
         have q0 := (hb2.cell (p := ⟨w.heap.size, 0, none⟩) (by simp)).trans q0
         have q1 := (hb2.cell (p := ⟨w.heap.size, 1, none⟩) (by simp)).trans q1
         have q2 := (hb2.cell (p := ⟨w.heap.size, 2, none⟩) (by simp)).trans q2))
    all_goals
      go_wp2_with fail
      go_ret
      exact ⟨by rw [HO.out]; rfl, (below_new _ _).trans (hb2.mono (by simp))⟩
abbrev mchV (a b : Int) (A : Option Addr) (n c : Nat) : Value := .agg #[.int .i64 a, .int .i64 b, .slice A n c]
set_option maxHeartbeats 4000000 in
theorem validRule_any (w : World) (x : Rul) (s t : Int) (A : Option Addr) (n c : Nat) (hs : 2 ≤ s ∧ s ≤ 6) (ht : 1 ≤ t ∧ t ≤ 1000) : Calls Try.prog 145 #[mchV s t A n c, rulV x] w (RetV w (.bool (okR s t x))) := by
  obtain ⟨hs1, hs2⟩ := hs
  obtain ⟨ht1, ht2⟩ := ht
  obtain ⟨a, b, d⟩ := x
  cases hR : isR ⟨a, b, d⟩ with
  | false =>
    have HO := Lib.hid (okR_no (a := s) (b := t) hR)
    have HR := Lib.hid hR; clear hR
    go_enter Try.func145, Try.ntmps145
    go_wp2_with (go_at_call 164; refine (isRule_any _ ⟨a, b, d⟩).mono ?_; rw [HR.out]; rintro e w1 ⟨rfl, hb1⟩)
    go_ret
    exact ⟨by rw [HO.out]; rfl, (((Below.refl _ _).alloc (Nat.le_refl _) _).alloc (by simp) _).trans (hb1.mono (by simp; omega))⟩
  | true =>
    rcases okR_cases (s := s) (t := t) hR with ⟨g1, hO⟩ | ⟨g1, rfl, hO⟩ | ⟨g1, rfl, hO⟩ | ⟨g1, g2, g3, hO⟩
    · have HO := Lib.hid hO; have HR := Lib.hid hR; clear hO hR
      go_enter Try.func145, Try.ntmps145
      go_wp2_with fail
      refine (isRule_any _ ⟨a, b, d⟩).mono ?_
      rw [HR.out]
      rintro e w1 ⟨rfl, hb1⟩
      obtain ⟨hb0, hx1, hs1'⟩ := box_step hb1
      obtain ⟨HB, hx0, hs0⟩ := box_step hb0
      simp only [World.size_alloc] at hx0 hx1
      have p0 := blk_cell hx0 0 rfl; have p1 := blk_cell hx0 1 rfl; have p2 := blk_cell hx0 2 rfl
      have q0 := blk_cell hx1 0 rfl; have q1 := blk_cell hx1 1 rfl; have q2 := blk_cell hx1 2 rfl
      go_wp2_with (go_at_call 96; refine (within_any _ _ _ _).mono ?_; rintro e w' ⟨rfl, rfl⟩)
      go_ret
      exact ⟨by rw [HO.out]; first | rfl | simp_all, HB⟩
    · have HO := Lib.hid hO; have HR := Lib.hid hR; clear hO hR
      go_enter Try.func145, Try.ntmps145
      go_wp2_with fail
      refine (isRule_any _ ⟨a, 1, d⟩).mono ?_
      rw [HR.out]
      rintro e w1 ⟨rfl, hb1⟩
      obtain ⟨hb0, hx1, hs1'⟩ := box_step hb1
      obtain ⟨HB, hx0, hs0⟩ := box_step hb0
      simp only [World.size_alloc] at hx0 hx1
      have p0 := blk_cell hx0 0 rfl; have p1 := blk_cell hx0 1 rfl; have p2 := blk_cell hx0 2 rfl
      have q0 := blk_cell hx1 0 rfl; have q1 := blk_cell hx1 1 rfl; have q2 := blk_cell hx1 2 rfl
      go_wp2_with (go_at_call 96; refine (within_any _ _ _ _).mono ?_; rintro e w' ⟨rfl, rfl⟩)
      go_ret
      exact ⟨by rw [HO.out]; first | rfl | simp_all, HB⟩
    · have HO := Lib.hid hO; have HR := Lib.hid hR; clear hO hR
      go_enter Try.func145, Try.ntmps145
      go_wp2_with fail
      refine (isRule_any _ ⟨a, (-1), d⟩).mono ?_
      rw [HR.out]
      rintro e w1 ⟨rfl, hb1⟩
      obtain ⟨hb0, hx1, hs1'⟩ := box_step hb1
      obtain ⟨HB, hx0, hs0⟩ := box_step hb0
      simp only [World.size_alloc] at hx0 hx1
      have p0 := blk_cell hx0 0 rfl; have p1 := blk_cell hx0 1 rfl; have p2 := blk_cell hx0 2 rfl
      have q0 := blk_cell hx1 0 rfl; have q1 := blk_cell hx1 1 rfl; have q2 := blk_cell hx1 2 rfl
      go_wp2_with (go_at_call 96; refine (within_any _ _ _ _).mono ?_; rintro e w' ⟨rfl, rfl⟩)
      go_ret
      exact ⟨by rw [HO.out]; first | rfl | simp_all, HB⟩
    · have HO := Lib.hid hO; have HR := Lib.hid hR; clear hO hR
      go_enter Try.func145, Try.ntmps145
      go_wp2_with fail
      refine (isRule_any _ ⟨a, b, d⟩).mono ?_
      rw [HR.out]
      rintro e w1 ⟨rfl, hb1⟩
      obtain ⟨hb0, hx1, hs1'⟩ := box_step hb1
      obtain ⟨HB, hx0, hs0⟩ := box_step hb0
      simp only [World.size_alloc] at hx0 hx1
      have p0 := blk_cell hx0 0 rfl; have p1 := blk_cell hx0 1 rfl; have p2 := blk_cell hx0 2 rfl
      have q0 := blk_cell hx1 0 rfl; have q1 := blk_cell hx1 1 rfl; have q2 := blk_cell hx1 2 rfl
      go_wp2_with (go_at_call 96; refine (within_any _ _ _ _).mono ?_; rintro e w' ⟨rfl, rfl⟩)
      go_ret
      exact ⟨by rw [HO.out]; first | rfl | simp_all, HB⟩

set_option maxHeartbeats 1000000 in
theorem validMachine1_any (w : World) (x : Rul) (g : Nat) (s t : Int) (A : Option Addr) (n c T : Nat) (hg : w.heap[g]? = some (.cells #[.int .i64 s, .int .i64 t, .slice A n c] T (0, 0))) (hs : 2 ≤ s ∧ s ≤ 6) (ht : 1 ≤ t ∧ t ≤ 1000) :
    Calls Try.prog 144 #[rulV x, .pointer (some ⟨g, 0, none⟩)] w fun e w' => e = .returned (.bool (!okR s t x)) ∧ Below w.heap.size w w' := by
  have hg1 := blk_bel hg (below_new w (.cells #[.int .i64 x.wr, .int .i64 x.mv, .int .i64 x.nx] 154))
  have p0 := blk_cell hg1 0 rfl; have p1 := blk_cell hg1 1 rfl; have p2 := blk_cell hg1 2 rfl
  clear hg hg1
  go_enter Try.func144, Try.ntmps144
  go_wp2_with (go_at_call 145; refine (validRule_any _ x s t A n c hs ht).mono ?_; rintro e w2 ⟨rfl, hb2⟩)
  go_ret
  exact ⟨rfl, (below_new _ _).trans (hb2.mono (by simp))⟩
set_option maxHeartbeats 1000000 in
theorem indexFuncVM (w : World) (A : Option Addr) (n c : Nat) (ps : List Rul) (hr : Rd w A (n * 3) (ints (flatR ps))) (hn : n ≤ 1099511627776) (g c2 T : Nat) (s t : Int) (hg : w.heap[g]? = some (.cells #[.int .i64 s, .int .i64 t, .slice A n c2] T (0, 0))) (hs : 2 ≤ s ∧ s ≤ 6) (ht : 1 ≤ t ∧ t ≤ 1000) :
    Calls Try.prog 163 #[.slice A n c, .func (.func 144) #[] #[.pointer (some ⟨g, 0, none⟩)]] w (FoundN w (!ps.all (okR s t))) := by
  have HL : Hid (ps.length = n) := Lib.hid (by have := hr.1; simp [flatR_len] at this; omega)
  go_enter Try.func163, Try.ntmps163
  go_wp2_with fail
  go_loopw [8] (fun q wr => ∃ k : Nat, k ≤ n ∧ q = .int .i64 k ∧ Hid ((ps.take k).all (okR s t) = true) ∧ Below w.heap.size w wr) (fun q _ => n - (intOf q).toNat)
  case atStart => exact ⟨0, Nat.zero_le _, rfl, Lib.hid (by simp), Below.refl _ _⟩
  case round =>
    obtain ⟨k, hk, rfl, hall, hb⟩ := hrel
    by_cases h1 : k < n
    · obtain ⟨x, hx⟩ := get_some (xs := ps) (k := k) (by rw [HL.out]; omega)
      obtain ⟨b, off, rfl, hbs, q0, q1, q2⟩ := rdR hr hx
      replace q0 := (hb.cell (p := ⟨b, off + k * 3, none⟩) hbs).trans q0
      replace q1 := (hb.cell (p := ⟨b, off + k * 3 + 1, none⟩) hbs).trans q1
      replace q2 := (hb.cell (p := ⟨b, off + k * 3 + 2, none⟩) hbs).trans q2
      have HX := Lib.hid hx
      clear hx
      by_cases hin : (okR s t) x = true
      · go_wp2_with (go_at_call 144; refine (validMachine1_any _ x g s t _ n c2 T (blk_below hg hb (blk_lt hg)) hs ht).mono ?_; rintro e w' ⟨rfl, hb2⟩)
        go_roundw
        case rel => exact ⟨k + 1, by omega, by go_num, Lib.hid (all_step hall.out HX.out hin), hb.trans (hb2.mono hb.size)⟩
        case measure => simp [intOf]; omega
      · have hin' : (okR s t) x = false := by simpa using hin
        clear hin
        go_wp2_with (go_at_call 144; refine (validMachine1_any _ x g s t _ n c2 T (blk_below hg hb (blk_lt hg)) hs ht).mono ?_; rintro e w' ⟨rfl, hb2⟩)
        go_ret
        exact ⟨k, rfl, by rw [all_out HX.out hin']; simp, hb.trans (hb2.mono hb.size)⟩
    · go_wp2_with fail
      go_ret
      have h := hall.out
      rw [List.take_of_length_le (by rw [HL.out]; omega)] at h
      exact ⟨-1, rfl, by rw [h]; rfl, hb⟩
set_option maxHeartbeats 400000 in
theorem containsFuncVM (w : World) (A : Option Addr) (n c : Nat) (ps : List Rul) (hr : Rd w A (n * 3) (ints (flatR ps))) (hn : n ≤ 1099511627776) (g c2 T : Nat) (s t : Int) (hg : w.heap[g]? = some (.cells #[.int .i64 s, .int .i64 t, .slice A n c2] T (0, 0))) (hs : 2 ≤ s ∧ s ≤ 6) (ht : 1 ≤ t ∧ t ≤ 1000) :
    Calls Try.prog 143 #[.slice A n c, .func (.func 144) #[] #[.pointer (some ⟨g, 0, none⟩)]] w (RetV w (.bool (!ps.all (okR s t)))) := by
  go_enter Try.func143, Try.ntmps143
  go_wp2_with fail
  refine (indexFuncVM _ _ _ _ _ hr hn g c2 T s t hg hs ht).mono ?_
  rintro e w' ⟨i, rfl, hi, hb⟩
  have HI := Lib.hid hi; clear hi
  go_wp2_with fail
  go_ret
  exact ⟨by rw [← HI.out]; rfl, hb⟩

set_option maxHeartbeats 400000 in
theorem sizeRule_any (w : World) (A : Option Addr) (n c : Nat) (hn : n ≤ 1099511627776) : Calls Try.prog 142 #[.slice A n c] w fun e w' => e = .returned (.int .i64 n) ∧ w = w' := by
  go_enter Try.func142, Try.ntmps142
  go_wp2_with fail
  go_ret
  exact ⟨rfl, rfl⟩
theorem prod_in {s t : Int} (hs : 2 ≤ s ∧ s ≤ 6) (ht : 1 ≤ t ∧ t ≤ 1000) : 0 ≤ s * t ∧ s * t ≤ 6000 := by
  obtain ⟨h1, h2⟩ := hs
  obtain ⟨h3, h4⟩ := ht
  refine ⟨Int.mul_nonneg (by omega) (by omega), ?_⟩
  have e1 : s * t ≤ 6 * t := Int.mul_le_mul_of_nonneg_right h2 (by omega)
  omega
theorem okM_cases (s t : Int) (rs : List Rul) (n : Nat) (hn : rs.length = n) : (inB s 2 6 = false ∧ okM s t rs = false) ∨ (inB s 2 6 = true ∧ inB t 1 1000 = false ∧ okM s t rs = false) ∨ (inB s 2 6 = true ∧ inB t 1 1000 = true ∧ ¬ (n : Int) = s * t ∧ okM s t rs = false) ∨ (inB s 2 6 = true ∧ inB t 1 1000 = true ∧ (n : Int) = s * t ∧ okM s t rs = rs.all (okR s t)) := by
  subst hn
  unfold okM
  cases inB s 2 6 <;> cases inB t 1 1000 <;> simp
  by_cases h : (rs.length : Int) = s * t <;> simp [h]
set_option maxHeartbeats 2000000 in
theorem ValidMachine_any (w : World) (s t : Int) (A : Option Addr) (n c : Nat) (rs : List Rul) (hr : Rd w A (n * 3) (ints (flatR rs))) (hn : n ≤ 1099511627776) : Calls Try.prog 105 #[mchV s t A n c] w (RetV w (.bool (okM s t rs))) := by
  have hl : rs.length = n := by have := hr.1; simp [flatR_len] at this; omega
  obtain ⟨q0, q1, q2⟩ := box3 w 53 (.int .i64 s) (.int .i64 t) (.slice A n c)
  rcases okM_cases s t rs n hl with ⟨h1, hO⟩ | ⟨h1, h2, hO⟩ | ⟨h1, h2, h3, hO⟩ | ⟨h1, h2, h3, hO⟩
  · have HO := Lib.hid hO; have HL := Lib.hid hl; clear hO hl
    go_enter Try.func105, Try.ntmps105
    go_wp2_with fail
    go_quiet ((first | (go_at_call 96; exact Calls.quiet_of_same ((within_any _ _ _ _).mono fun e w' h => ⟨h.1, h.2.symm⟩)) | (go_at_call 142; exact Calls.quiet_of_same ((sizeRule_any _ _ _ _ hn).mono fun e w' h => ⟨h.1, h.2.symm⟩))))
    go_wp2_with fail
    go_ret
    exact ⟨by rw [HO.out]; rfl, below_drewN (below_new _ _)⟩
  · have HO := Lib.hid hO; have HL := Lib.hid hl; clear hO hl
    go_enter Try.func105, Try.ntmps105
    go_wp2_with fail
    go_quiet ((first | (go_at_call 96; exact Calls.quiet_of_same ((within_any _ _ _ _).mono fun e w' h => ⟨h.1, h.2.symm⟩)) | (go_at_call 142; exact Calls.quiet_of_same ((sizeRule_any _ _ _ _ hn).mono fun e w' h => ⟨h.1, h.2.symm⟩))))
    go_wp2_with fail
    go_ret
    exact ⟨by rw [HO.out]; rfl, below_drewN (below_new _ _)⟩
  · have hp := prod_in (inB_true.1 h1) (inB_true.1 h2)
    have hw : IntKind.i64.wrap (t * s) = t * s := IntWalk.i64_in _ (by rw [Int.mul_comm]; omega)
    have hne : ((n : Int) != t * s) = true := by rw [Int.mul_comm]; simpa using h3
    have HO := Lib.hid hO; have HL := Lib.hid hl; clear hO hl hp h3
    go_enter Try.func105, Try.ntmps105
    go_wp2_with fail
    go_quiet ((first | (go_at_call 96; exact Calls.quiet_of_same ((within_any _ _ _ _).mono fun e w' h => ⟨h.1, h.2.symm⟩)) | (go_at_call 142; exact Calls.quiet_of_same ((sizeRule_any _ _ _ _ hn).mono fun e w' h => ⟨h.1, h.2.symm⟩))))
    go_wp2_with fail
    go_ret
    exact ⟨by rw [HO.out]; rfl, below_drewN (below_new _ _)⟩
  · have hp := prod_in (inB_true.1 h1) (inB_true.1 h2)
    have hw : IntKind.i64.wrap (t * s) = t * s := IntWalk.i64_in _ (by rw [Int.mul_comm]; omega)
    have hne : ((n : Int) != t * s) = false := by rw [Int.mul_comm]; simpa using h3
    have HO := Lib.hid hO; have HL := Lib.hid hl; clear hO hl hp h3
    have hbx := Lib.hid (box_new w #[.int .i64 s, .int .i64 t, .slice A n c] 53)
    go_enter Try.func105, Try.ntmps105
    go_wp2_with fail
    go_quiet ((first | (go_at_call 96; exact Calls.quiet_of_same ((within_any _ _ _ _).mono fun e w' h => ⟨h.1, h.2.symm⟩)) | (go_at_call 142; exact Calls.quiet_of_same ((sizeRule_any _ _ _ _ hn).mono fun e w' h => ⟨h.1, h.2.symm⟩))))
    go_wp2_with (go_at_call 143; refine (containsFuncVM _ _ _ _ _ ((hr.alloc _).below (below_drewN (Below.refl _ _)) (Nat.le_refl _)) hn w.heap.size c 53 s t hbx.out (inB_true.1 h1) (inB_true.1 h2)).mono ?_; rintro e w2 ⟨rfl, hb2⟩)
    go_ret
    exact ⟨by rw [HO.out]; simp, (below_new _ _).trans ((undN hb2).mono (by simp))⟩
end Go.Proofs.Ytcpkhhammafchaa
/- Machines: l05Is; the counts of used states and symbols. Written by mk_mcho.py. -/
namespace Go.Proofs.Ytcpkhhammafchaa
open Go.RowKit
set_option linter.unusedVariables false
set_option linter.unusedSimpArgs false
/-- A machine behind a pointer. -/
def BM (w : World) (g : Nat) (s t : Int) (A : Option Addr) (n c : Nat) : Prop := w.heap[g]? = some (.cells #[.int .i64 s, .int .i64 t, .slice A n c] 53 (0, 0))
theorem BM.bel {w w' : World} {g n c : Nat} {s t : Int} {A : Option Addr} (h : BM w g s t A n c) (hb : Below w.heap.size w w') : BM w' g s t A n c := blk_bel h hb
theorem BM.cells {w : World} {g n c : Nat} {s t : Int} {A : Option Addr} (h : BM w g s t A n c) : w.cell? ⟨g, 0, none⟩ = some (.int .i64 s) ∧ w.cell? ⟨g, 1, none⟩ = some (.int .i64 t) ∧ w.cell? ⟨g, 2, none⟩ = some (.slice A n c) := ⟨blk_cell h 0 rfl, blk_cell h 1 rfl, blk_cell h 2 rfl⟩
set_option maxHeartbeats 4000000 in
theorem l05Is_any (w : World) (g : Nat) (s t : Int) (A : Option Addr) (n c : Nat) (hm : BM w g s t A n c) (rs : List Rul) (hr : Rd w A (n * 3) (ints (flatR rs))) (hn : n ≤ 1099511627776) : Calls Try.prog 67 #[.pointer (some ⟨g, 0, none⟩)] w (RetV w (.bool (okM s t rs))) := by
  have hl : rs.length = n := by have := hr.1; simp [flatR_len] at this; omega
  obtain ⟨q0, q1, q2⟩ := hm.cells
  rcases okM_cases s t rs n hl with ⟨h1, hO⟩ | ⟨h1, h2, hO⟩ | ⟨h1, h2, h3, hO⟩ | ⟨h1, h2, h3, hO⟩
  · have HO := Lib.hid hO; have HL := Lib.hid hl; clear hO hl
    go_enter Try.func67, Try.ntmps67
    go_wp2_with fail
    go_quiet ((go_at_call 110; exact Calls.quiet_of_same ((l00In_any _ _ _ _).mono fun e w' h => ⟨h.1, h.2.symm⟩)))
    go_wp2_with fail
    go_ret
    exact ⟨by rw [HO.out]; rfl, below_drewN (Below.refl _ _)⟩
  · have HO := Lib.hid hO; have HL := Lib.hid hl; clear hO hl
    go_enter Try.func67, Try.ntmps67
    go_wp2_with fail
    go_quiet ((go_at_call 110; exact Calls.quiet_of_same ((l00In_any _ _ _ _).mono fun e w' h => ⟨h.1, h.2.symm⟩)))
    go_wp2_with fail
    go_ret
    exact ⟨by rw [HO.out]; rfl, below_drewN (Below.refl _ _)⟩
  · have hp := prod_in (inB_true.1 h1) (inB_true.1 h2)
    have hw : IntKind.i64.wrap (s * t) = s * t := IntWalk.i64_in _ (by omega)
    have hne : ((n : Int) != s * t) = true := by simpa using h3
    clear hp h3
    have HO := Lib.hid hO; have HL := Lib.hid hl; clear hO hl
    go_enter Try.func67, Try.ntmps67
    go_wp2_with fail
    go_quiet ((go_at_call 110; exact Calls.quiet_of_same ((l00In_any _ _ _ _).mono fun e w' h => ⟨h.1, h.2.symm⟩)))
    go_wp2_with fail
    go_ret
    exact ⟨by rw [HO.out]; rfl, below_drewN (Below.refl _ _)⟩
  · have hp := prod_in (inB_true.1 h1) (inB_true.1 h2)
    have hw : IntKind.i64.wrap (s * t) = s * t := IntWalk.i64_in _ (by omega)
    have hne : ((n : Int) != s * t) = false := by simpa using h3
    have hsb := inB_true.1 h1
    have htb := inB_true.1 h2
    have HO := Lib.hid hO; have HL := Lib.hid hl; clear hO hl hp h3
    go_enter Try.func67, Try.ntmps67
    go_wp2_with fail
    go_quiet ((go_at_call 110; exact Calls.quiet_of_same ((l00In_any _ _ _ _).mono fun e w' h => ⟨h.1, h.2.symm⟩)))
    clear hw hne
    go_wp2_with fail
    have HM := Lib.hid hm
    clear hm q0 q1 q2 h1 h2
    go_loopw [3] (fun q wr => ∃ k : Nat, k ≤ n ∧ q = .int .i64 k ∧ Hid ((rs.take k).all (okR s t) = true) ∧ Below w.heap.size w wr) (fun q _ => n - (intOf q).toNat)
    case atStart => exact ⟨0, Nat.zero_le _, rfl, Lib.hid (by simp), below_drewN (Below.refl _ _)⟩
    case round =>
      obtain ⟨k, hk, rfl, hall, hb⟩ := hrel
      obtain ⟨q0, q1, q2⟩ := (BM.bel HM.out hb).cells
      have hgl : g < wr.heap.size := blk_lt (BM.bel HM.out hb)
      by_cases hlt : k < n
      · obtain ⟨⟨a, b, d⟩, hx⟩ := get_some (xs := rs) (k := k) (by rw [HL.out]; omega)
        obtain ⟨b', off, rfl, hbs, r0, r1, r2⟩ := rdR hr hx
        replace r0 := (hb.cell (p := ⟨b', off + k * 3, none⟩) hbs).trans r0
        replace r1 := (hb.cell (p := ⟨b', off + k * 3 + 1, none⟩) hbs).trans r1
        replace r2 := (hb.cell (p := ⟨b', off + k * 3 + 2, none⟩) hbs).trans r2
        simp only at r0 r1 r2
        have hbs' : b' < wr.heap.size := Nat.lt_of_lt_of_le hbs hb.size
        have hk0 : (0 : Int) ≤ (k : Int) := by omega
        have hk1 : (k : Int) < (n : Int) := by omega
        have HX := Lib.hid hx
        clear hx
        cases hin : okR s t ⟨a, b, d⟩ with
        | true =>
          have HIN := Lib.hid hin
          clear hin
          go_wp2_with fail
          go_region_held3 (fun w' => w'.cell? ⟨g, 0, none⟩ = some (.int .i64 s) ∧ w'.cell? ⟨g, 1, none⟩ = some (.int .i64 t) ∧ w'.cell? ⟨g, 2, none⟩ = some (.slice (some ⟨b', off, none⟩) n c) ∧ w'.cell? ⟨b', off + k * 3, none⟩ = some (.int .i64 a) ∧ w'.cell? ⟨b', off + k * 3 + 1, none⟩ = some (.int .i64 b) ∧ w'.cell? ⟨b', off + k * 3 + 2, none⟩ = some (.int .i64 d)) (first | exact ⟨q0, q1, q2, r0, r1, r2⟩ | go_keep) (first
            | (go_at_call 111
               refine (l05Rule_any _ ⟨a, b, d⟩ s t hsb htb).mono ?_
               rw [HIN.out]
               rintro e w2 ⟨rfl, hb2⟩
               (try replace hb2 := und1 hb2)
               (try replace hb2 := undN hb2)
               have q0 := (hb2.cell (p := ⟨g, 0, none⟩) hgl).trans q0
               have q1 := (hb2.cell (p := ⟨g, 1, none⟩) hgl).trans q1
               have q2 := (hb2.cell (p := ⟨g, 2, none⟩) hgl).trans q2
               have r0 := (hb2.cell (p := ⟨b', off + k * 3, none⟩) hbs').trans r0
               have r1 := (hb2.cell (p := ⟨b', off + k * 3 + 1, none⟩) hbs').trans r1
               have r2 := (hb2.cell (p := ⟨b', off + k * 3 + 2, none⟩) hbs').trans r2))
          go_wp2_with fail
          go_roundw
          case rel => exact ⟨k + 1, by omega, by go_num, Lib.hid (all_step hall.out HX.out HIN.out), hb.trans (hb2.mono hb.size)⟩
          case measure => simp [intOf]; omega
        | false =>
          have HIN := Lib.hid hin
          clear hin
          go_wp2_with fail
          go_region_held3 (fun w' => w'.cell? ⟨g, 0, none⟩ = some (.int .i64 s) ∧ w'.cell? ⟨g, 1, none⟩ = some (.int .i64 t) ∧ w'.cell? ⟨g, 2, none⟩ = some (.slice (some ⟨b', off, none⟩) n c) ∧ w'.cell? ⟨b', off + k * 3, none⟩ = some (.int .i64 a) ∧ w'.cell? ⟨b', off + k * 3 + 1, none⟩ = some (.int .i64 b) ∧ w'.cell? ⟨b', off + k * 3 + 2, none⟩ = some (.int .i64 d)) (first | exact ⟨q0, q1, q2, r0, r1, r2⟩ | go_keep) (first
            | (go_at_call 111
               refine (l05Rule_any _ ⟨a, b, d⟩ s t hsb htb).mono ?_
               rw [HIN.out]
               rintro e w2 ⟨rfl, hb2⟩
               (try replace hb2 := und1 hb2)
               (try replace hb2 := undN hb2)
               have q0 := (hb2.cell (p := ⟨g, 0, none⟩) hgl).trans q0
               have q1 := (hb2.cell (p := ⟨g, 1, none⟩) hgl).trans q1
               have q2 := (hb2.cell (p := ⟨g, 2, none⟩) hgl).trans q2
               have r0 := (hb2.cell (p := ⟨b', off + k * 3, none⟩) hbs').trans r0
               have r1 := (hb2.cell (p := ⟨b', off + k * 3 + 1, none⟩) hbs').trans r1
               have r2 := (hb2.cell (p := ⟨b', off + k * 3 + 2, none⟩) hbs').trans r2))
          go_wp2_with fail
          go_ret
          exact ⟨by rw [HO.out, all_out HX.out HIN.out]; rfl, hb.trans (hb2.mono hb.size)⟩
      · go_wp2_with fail
        go_ret
        have h := hall.out
        rw [List.take_of_length_le (by rw [HL.out]; omega)] at h
        exact ⟨by rw [HO.out, h]; rfl, hb⟩

/-- The greatest state and symbol of the rules, and one more. -/
def used : List Rul → Int → Int → Int × Int
  | [], p, q => (p, q)
  | r :: rs, p, q => if isR r = true then used rs (max p (r.nx + 1)) (max q (r.wr + 1)) else used rs p q
theorem used_yes {rs : List Rul} {k : Nat} {x : Rul} {p q : Int} (hx : rs[k]? = some x) (h : isR x = true) : used (rs.drop k) p q = used (rs.drop (k + 1)) (max p (x.nx + 1)) (max q (x.wr + 1)) := by
  rw [drop_get hx, used, if_pos h]
theorem used_no {rs : List Rul} {k : Nat} {x : Rul} {p q : Int} (hx : rs[k]? = some x) (h : isR x = false) : used (rs.drop k) p q = used (rs.drop (k + 1)) p q := by
  rw [drop_get hx, used, if_neg (by simp [h])]
theorem okM_all {s t : Int} {rs : List Rul} (h : okM s t rs = true) : (2 ≤ s ∧ s ≤ 6) ∧ (1 ≤ t ∧ t ≤ 1000) ∧ (rs.length : Int) = s * t ∧ rs.all (okR s t) = true := by
  simp only [okM, Bool.and_eq_true, decide_eq_true_eq, inB_true] at h
  exact ⟨h.1.1.1, h.1.1.2, h.1.2, h.2⟩
theorem okR_bd {s t : Int} {r : Rul} (hs : 2 ≤ s ∧ s ≤ 6) (ht : 1 ≤ t ∧ t ≤ 1000) (h : okR s t r = true) : (0 ≤ r.wr ∧ r.wr ≤ 5) ∧ (-1 ≤ r.nx ∧ r.nx ≤ 999) := by
  by_cases h1 : isR r = true
  · simp only [okR, h1, Bool.not_true, Bool.false_or, Bool.and_eq_true, inB_true] at h
    omega
  · have h2 : r = noR := by simpa [isR] using h1
    subst h2
    simp [noR]
theorem okM_bd {s t : Int} {rs : List Rul} (h : okM s t rs = true) {k : Nat} {x : Rul} (hx : rs[k]? = some x) : (0 ≤ x.wr ∧ x.wr ≤ 5) ∧ (-1 ≤ x.nx ∧ x.nx ≤ 999) := by
  obtain ⟨h1, h2, _, h4⟩ := okM_all h
  exact okR_bd h1 h2 (by rw [List.all_eq_true] at h4; exact h4 x (List.mem_of_getElem? hx))
def UsedPost (w : World) (r : Int × Int) (e : Ending) (w' : World) : Prop := ∃ z : Int, e = .returned (.tuple #[.int .i64 r.1, .int .i64 r.2, .int .i64 z]) ∧ Below w.heap.size w w'
end Go.Proofs.Ytcpkhhammafchaa
/- Contexts of a machine, in plain Lean: codes, the window that is lost. -/
namespace Go.Proofs.Ytcpkhhammafchaa
open Go.RowKit
set_option linter.unusedVariables false
set_option linter.unusedSimpArgs false
/-- Whether numbers are a context over s symbols. -/
def ctxW (s : Int) (xs : List Int) : Bool := decide (xs.length % 2 = 1) && inB ((xs.length / 2 : Nat) : Int) 1 4 && allIn xs 0 (s - 1)
def ctxC (s t : Int) (rs : List Rul) (st : Int) (xs : List Int) : Int := if okM s t rs && ctxW s xs then (if inB st 0 (t - 1) then 0 else 2) else 1
theorem ctx_m {s t st : Int} {rs : List Rul} {xs : List Int} (h : okM s t rs = false) : ctxC s t rs st xs = 1 := by simp [ctxC, h]
theorem ctx_e {s t st : Int} {rs : List Rul} {xs : List Int} (h : ¬ xs.length % 2 = 1) : ctxC s t rs st xs = 1 := by simp [ctxC, ctxW, h]
theorem ctx_n {s t st : Int} {rs : List Rul} {xs : List Int} (h : inB ((xs.length / 2 : Nat) : Int) 1 4 = false) : ctxC s t rs st xs = 1 := by simp only [ctxC, ctxW, h]; simp
theorem ctx_a {s t st : Int} {rs : List Rul} {xs : List Int} (h : allIn xs 0 (s - 1) = false) : ctxC s t rs st xs = 1 := by simp [ctxC, ctxW, h]
theorem ctx_s {s t st : Int} {rs : List Rul} {xs : List Int} (h1 : okM s t rs = true) (h2 : xs.length % 2 = 1) (h3 : inB ((xs.length / 2 : Nat) : Int) 1 4 = true) (h4 : allIn xs 0 (s - 1) = true) (h5 : inB st 0 (t - 1) = false) : ctxC s t rs st xs = 2 := by
  simp only [ctxC, ctxW, h1, h2, h3, h4, h5]; simp
theorem ctx_ok {s t st : Int} {rs : List Rul} {xs : List Int} (h1 : okM s t rs = true) (h2 : xs.length % 2 = 1) (h3 : inB ((xs.length / 2 : Nat) : Int) 1 4 = true) (h4 : allIn xs 0 (s - 1) = true) (h5 : inB st 0 (t - 1) = true) : ctxC s t rs st xs = 0 := by
  simp only [ctxC, ctxW, h1, h2, h3, h4, h5]; simp
theorem ctx_zero {s t st : Int} {rs : List Rul} {xs : List Int} (h : ctxC s t rs st xs = 0) : okM s t rs = true ∧ xs.length % 2 = 1 ∧ (1 ≤ xs.length / 2 ∧ xs.length / 2 ≤ 4) ∧ allIn xs 0 (s - 1) = true ∧ (0 ≤ st ∧ st ≤ t - 1) := by
  unfold ctxC at h
  split at h
  · rename_i h1
    simp only [ctxW, Bool.and_eq_true, decide_eq_true_eq] at h1
    split at h
    · rename_i h2
      have h3 := inB_true.1 h1.2.1.2
      have h4 := inB_true.1 h2
      exact ⟨h1.1, h1.2.1.1, ⟨by omega, by omega⟩, h1.2.2, h4⟩
    · simp at h
  · simp at h
/-- The place of a rule. -/
theorem rule_at {s t st x : Int} {rs : List Rul} (hs : 2 ≤ s ∧ s ≤ 6) (ht : 1 ≤ t ∧ t ≤ 1000) (hl : (rs.length : Int) = s * t) (h1 : 0 ≤ st ∧ st ≤ t - 1) (h2 : 0 ≤ x ∧ x ≤ s - 1) : 0 ≤ st * s ∧ st * s ≤ 6000 ∧ st * s + x < (rs.length : Int) ∧ 0 ≤ st * s + x := by
  have a1 : 0 ≤ st * s := Int.mul_nonneg h1.1 (by omega)
  have a2 : st * s ≤ (t - 1) * s := Int.mul_le_mul_of_nonneg_right h1.2 (by omega)
  have a3 : (t - 1) * s = s * t - s := by rw [Int.sub_mul, Int.one_mul, Int.mul_comm]
  have a4 : s * t ≤ 6 * t := Int.mul_le_mul_of_nonneg_right hs.2 (by omega)
  omega
def midOf (xs : List Int) : Int := xs.getD (xs.length / 2) 0
def ruleOf (s : Int) (rs : List Rul) (st : Int) (xs : List Int) : Rul := rs.getD (st * s + midOf xs).toNat noR
def lostOf (r : Rul) (xs : List Int) : List Int := if r.mv = 1 then xs.take (xs.length / 2) else xs.drop (xs.length / 2 + 1)
theorem mid_get {xs : List Int} (h : xs.length % 2 = 1) : xs[xs.length / 2]? = some (midOf xs) := by
  have : xs.length / 2 < xs.length := by omega
  simp [midOf, List.getD, List.getElem?_eq_getElem this]
theorem rule_get {s t st : Int} {rs : List Rul} {xs : List Int} (h : ctxC s t rs st xs = 0) : ∃ k : Nat, st * s + midOf xs = (k : Int) ∧ rs[k]? = some (ruleOf s rs st xs) ∧ 0 ≤ st * s ∧ st * s ≤ 6000 ∧ (0 ≤ midOf xs ∧ midOf xs ≤ 5) ∧ k < rs.length := by
  obtain ⟨h1, h2, h3, h4, h5⟩ := ctx_zero h
  obtain ⟨hs, ht, hl, _⟩ := okM_all h1
  have hm := allIn_true.1 h4 (midOf xs) (List.mem_of_getElem? (mid_get h2))
  obtain ⟨a1, a2, a3, a4⟩ := rule_at hs ht hl h5 hm
  refine ⟨(st * s + midOf xs).toNat, by omega, ?_, a1, a2, by omega, by omega⟩
  have hk : (st * s + midOf xs).toNat < rs.length := by omega
  simp [ruleOf, List.getD, List.getElem?_eq_getElem hk]
/-- What LostWindow answers. -/
def lwP (s t : Int) (rs : List Rul) (st : Int) (xs : List Int) : Int × List Int × Int :=
  if ctxC s t rs st xs = 0 then (if isR (ruleOf s rs st xs) then ((ruleOf s rs st xs).mv, lostOf (ruleOf s rs st xs) xs, 0) else (0, [], 6)) else (0, [], ctxC s t rs st xs)
theorem lw_bad {s t st : Int} {rs : List Rul} {xs : List Int} (h : ctxC s t rs st xs ≠ 0) : lwP s t rs st xs = (0, [], ctxC s t rs st xs) := by simp only [lwP, if_neg h]
theorem lw_no {s t st : Int} {rs : List Rul} {xs : List Int} (h : ctxC s t rs st xs = 0) (h2 : isR (ruleOf s rs st xs) = false) : lwP s t rs st xs = (0, [], 6) := by simp only [lwP, if_pos h, h2]; simp
theorem lw_ok {s t st : Int} {rs : List Rul} {xs : List Int} (h : ctxC s t rs st xs = 0) (h2 : isR (ruleOf s rs st xs) = true) : lwP s t rs st xs = ((ruleOf s rs st xs).mv, lostOf (ruleOf s rs st xs) xs, 0) := by simp only [lwP, if_pos h, h2]; simp
theorem lw_len (s t : Int) (rs : List Rul) (st : Int) (xs : List Int) : (lwP s t rs st xs).2.1.length ≤ 1000000 := by
  unfold lwP
  split
  · rename_i h
    obtain ⟨_, h2, h3, _⟩ := ctx_zero h
    split
    · unfold lostOf
      split
      · simp only [List.length_take]; omega
      · simp only [List.length_drop]; omega
    · simp
  · simp
theorem isR_mv {s t st : Int} {rs : List Rul} {xs : List Int} (h : ctxC s t rs st xs = 0) (h2 : isR (ruleOf s rs st xs) = true) : (ruleOf s rs st xs).mv = 1 ∨ (ruleOf s rs st xs).mv = -1 := by
  obtain ⟨h1, _⟩ := ctx_zero h
  obtain ⟨_, _, _, hall⟩ := okM_all h1
  obtain ⟨k, _, hk, _⟩ := rule_get h
  have h3 := List.all_eq_true.1 hall _ (List.mem_of_getElem? hk)
  simp only [okR, h2, Bool.not_true, Bool.false_or, Bool.and_eq_true, Bool.or_eq_true, decide_eq_true_eq] at h3
  exact h3.1.2
end Go.Proofs.Ytcpkhhammafchaa
