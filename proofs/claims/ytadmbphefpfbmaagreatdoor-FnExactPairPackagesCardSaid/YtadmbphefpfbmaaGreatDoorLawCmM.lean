/- Marking of commands, in plain Lean; commands that came in. -/
import Derived.Test.YtadmbphefpfbmaaGreatDoorGG
import Derived.Test.YtadmbphefpfbmaaGreatDoorGA
namespace Go.Proofs.YtadmbphefpfbmaaGreatDoor
open Go.RowKit
set_option linter.unusedVariables false
set_option linter.unusedSimpArgs false
def upE (k : Int) : Nat → List El
  | 0 => []
  | n + 1 => (k, k + 1) :: upE (k + 2) n
theorem upE_len (k : Int) (n : Nat) : (upE k n).length = n := by
  induction n generalizing k with
  | zero => rfl
  | succ n ih => simp [upE, ih]
theorem eNums_upE (k : Int) (n : Nat) : eNums (upE k n) = up k (n * 2) := by
  induction n generalizing k with
  | zero => rfl
  | succ n ih =>
    rw [show (n + 1) * 2 = n * 2 + 1 + 1 by omega]
    simp only [upE, eNums, ih, up]
    rw [show k + 1 + 1 = k + 2 by omega]
/-- How many numbers are set in commands. -/
def mkC : List Cmd → Nat
  | [] => 0
  | x :: r => 3 + x.e.length * 2 + mkC r
theorem mkC_eq (cs : List Cmd) : mkC cs = 3 * cs.length + 2 * totC cs := by
  induction cs with
  | nil => rfl
  | cons x r ih => simp only [mkC, totC, List.length_cons, ih]; omega
theorem mkC_snoc (cs : List Cmd) (x : Cmd) : mkC (cs ++ [x]) = mkC cs + (3 + x.e.length * 2) := by
  induction cs with
  | nil => simp [mkC]
  | cons y r ih => simp only [List.cons_append, mkC, ih]; omega
theorem mkC_take_succ {cs : List Cmd} {i : Nat} {x : Cmd} (h : cs[i]? = some x) : mkC (cs.take (i + 1)) = mkC (cs.take i) + (3 + x.e.length * 2) := by
  rw [List.take_add_one, h]; exact mkC_snoc _ _
theorem mkC_take_le (cs : List Cmd) (i : Nat) : mkC (cs.take i) ≤ mkC cs := by
  induction cs generalizing i with
  | nil => simp [mkC]
  | cons y r ih =>
    cases i with
    | zero => simp [mkC]
    | succ i => simp only [List.take_succ_cons, mkC]; have := ih i; omega
theorem totC_snoc (cs : List Cmd) (x : Cmd) : totC (cs ++ [x]) = totC cs + x.e.length := by
  rw [totC_append]; simp [totC]
theorem totC_take_succ {cs : List Cmd} {i : Nat} {x : Cmd} (h : cs[i]? = some x) : totC (cs.take (i + 1)) = totC (cs.take i) + x.e.length := by
  rw [List.take_add_one, h]; exact totC_snoc _ _
theorem totC_mem {cs : List Cmd} {x : Cmd} (h : x ∈ cs) : x.e.length ≤ totC cs := by
  induction cs with
  | nil => simp at h
  | cons y r ih =>
    simp only [totC]
    rcases List.mem_cons.1 h with rfl | h
    · omega
    · have := ih h; omega
def upC : Int → List Cmd → List Cmd
  | _, [] => []
  | k, x :: r => ⟨k, k + 1, k + 2, upE (k + 3) x.e.length⟩ :: upC (k + 3 + ((x.e.length * 2 : Nat) : Int)) r
theorem upC_len (k : Int) (cs : List Cmd) : (upC k cs).length = cs.length := by
  induction cs generalizing k with
  | nil => rfl
  | cons x r ih => simp [upC, ih]
theorem upC_snoc (k : Int) (cs : List Cmd) (x : Cmd) : upC k (cs ++ [x]) = upC k cs ++ [⟨k + mkC cs, k + mkC cs + 1, k + mkC cs + 2, upE (k + mkC cs + 3) x.e.length⟩] := by
  induction cs generalizing k with
  | nil => simp [upC, mkC]
  | cons y r ih =>
    simp only [List.cons_append, upC, mkC, ih]
    rw [show k + 3 + ((y.e.length * 2 : Nat) : Int) + (mkC r : Int) = k + ((3 + y.e.length * 2 + mkC r : Nat) : Int) by omega]
theorem upC_get {k : Int} {cs : List Cmd} {i : Nat} {x : Cmd} (h : cs[i]? = some x) : (upC k cs)[i]? = some ⟨k + mkC (cs.take i), k + mkC (cs.take i) + 1, k + mkC (cs.take i) + 2, upE (k + mkC (cs.take i) + 3) x.e.length⟩ := by
  induction cs generalizing k i with
  | nil => simp at h
  | cons y r ih =>
    cases i with
    | zero => simp at h; subst h; simp [upC, mkC]
    | succ i =>
      simp only [upC, List.getElem?_cons_succ, List.take_succ_cons, mkC]
      rw [ih (by simpa using h)]
      rw [show k + 3 + ((y.e.length * 2 : Nat) : Int) + (mkC (r.take i) : Int) = k + ((3 + y.e.length * 2 + mkC (r.take i) : Nat) : Int) by omega]
theorem mkC_get {k : Int} {cs : List Cmd} {i : Nat} {x : Cmd} (h : cs[i]? = some x) : (upC k (cs.take i) ++ cs.drop i)[i]? = some x := by
  have hi := (List.getElem?_eq_some_iff.1 h).1
  have hl : (upC k (cs.take i)).length = i := by rw [upC_len]; simp; omega
  rw [List.getElem?_append_right (by omega), hl, Nat.sub_self, drop_get h]; rfl
theorem mkC_set {k : Int} {cs : List Cmd} {i : Nat} {x : Cmd} (h : cs[i]? = some x) : (upC k (cs.take i) ++ cs.drop i).set i ⟨k + mkC (cs.take i), k + mkC (cs.take i) + 1, k + mkC (cs.take i) + 2, upE (k + mkC (cs.take i) + 3) x.e.length⟩ = upC k (cs.take (i + 1)) ++ cs.drop (i + 1) := by
  have hi := (List.getElem?_eq_some_iff.1 h).1
  have hl : (upC k (cs.take i)).length = i := by rw [upC_len]; simp; omega
  rw [List.set_append_right _ _ (by omega), hl, Nat.sub_self, drop_get h, List.set_cons_zero, List.take_add_one, h]
  show _ = upC k (cs.take i ++ [x]) ++ _
  rw [upC_snoc]; simp
/-- Setting the numbers of one command. -/
theorem flatC_set : ∀ {cs : List Cmd} {ss : List Value} {i : Nat} {x : Cmd}, cs[i]? = some x → ss.length = cs.length → ∀ (a b c : Int) (es : List El),
    ((((flatC cs ss).set (i * 4) (.int .i64 a)).set (i * 4 + 1) (.int .i64 b)).set (i * 4 + 2) (.int .i64 c)) = flatC (cs.set i ⟨a, b, c, es⟩) ss
  | [], _, i, x, h, _, _, _, _, _ => by simp at h
  | _ :: _, [], i, x, _, h, _, _, _, _ => by simp at h
  | y :: r, s :: ss, 0, x, h, h', a, b, c, es => by simp [flatC]
  | y :: r, s :: ss, i + 1, x, h, h', a, b, c, es => by
    have := flatC_set (cs := r) (ss := ss) (i := i) (x := x) (by simpa using h) (by simpa using h') a b c es
    rw [show (i + 1) * 4 = i * 4 + 1 + 1 + 1 + 1 by omega]
    simp only [flatC, List.set_cons_succ, Nat.add_right_comm _ 1 1, this]

/-- Commands that came in: no bound on the lengths but the language's own. -/
def RdCW (w : World) (A : Option Addr) (n : Nat) (cs : List Cmd) : Prop :=
  ∃ ss : List Value, Rd w A (n * 4) (flatC cs ss) ∧ ss.length = cs.length ∧ ∀ (i : Nat) (s : Value) (x : Cmd), ss[i]? = some s → cs[i]? = some x → ∃ A' n' c', s = .slice A' n' c' ∧ n' ≤ 9223372036854775807 ∧ RdE w A' n' x.e
/-- The same with small lengths. -/
def RdD (w : World) (A : Option Addr) (n : Nat) (cs : List Cmd) : Prop :=
  ∃ ss : List Value, Rd w A (n * 4) (flatC cs ss) ∧ ss.length = cs.length ∧ ∀ (i : Nat) (s : Value) (x : Cmd), ss[i]? = some s → cs[i]? = some x → ∃ A' n' c', s = .slice A' n' c' ∧ n' ≤ 1000000000 ∧ RdE w A' n' x.e
section
variable {w w' : World} {A : Option Addr} {n : Nat} {cs : List Cmd}
theorem RdCW.len (h : RdCW w A n cs) : cs.length = n := by
  obtain ⟨ss, h1, h2, _⟩ := h
  have h3 := h1.1
  rw [flatC_len cs ss h2] at h3
  omega
theorem RdD.len (h : RdD w A n cs) : cs.length = n := by
  obtain ⟨ss, h1, h2, _⟩ := h
  have h3 := h1.1
  rw [flatC_len cs ss h2] at h3
  omega
theorem RdCW.rdc (h : RdCW w A n cs) (ht : totC cs ≤ 1000000000) : RdD w A n cs := by
  obtain ⟨ss, h1, h2, h3⟩ := h
  refine ⟨ss, h1, h2, fun i v x hv hx => ?_⟩
  obtain ⟨A', n', c', rfl, hn', hr'⟩ := h3 i v x hv hx
  refine ⟨A', n', c', rfl, ?_, hr'⟩
  have hl := rdE_len hr'
  have := totC_mem (List.mem_of_getElem? hx)
  omega
theorem RdCW.below {B : Nat} (h : RdCW w A n cs) (hb : Below B w w') (hB : w.heap.size ≤ B) : RdCW w' A n cs := by
  obtain ⟨ss, h1, h2, h3⟩ := h
  refine ⟨ss, h1.below hb hB, h2, fun i v xs hv hx => ?_⟩
  obtain ⟨A', n', c', e, hn', hr'⟩ := h3 i v xs hv hx
  exact ⟨A', n', c', e, hn', hr'.below hb hB⟩
theorem RdD.below {B : Nat} (h : RdD w A n cs) (hb : Below B w w') (hB : w.heap.size ≤ B) : RdD w' A n cs := by
  obtain ⟨ss, h1, h2, h3⟩ := h
  refine ⟨ss, h1.below hb hB, h2, fun i v xs hv hx => ?_⟩
  obtain ⟨A', n', c', e, hn', hr'⟩ := h3 i v xs hv hx
  exact ⟨A', n', c', e, hn', hr'.below hb hB⟩
theorem RdCW.at_ {k : Nat} {x : Cmd} (h : RdCW w A n cs) (hx : cs[k]? = some x) :
    ∃ b off A' n' c', A = some ⟨b, off, none⟩ ∧ b < w.heap.size ∧ w.cell? ⟨b, off + k * 4, none⟩ = some (.int .i64 x.k) ∧ w.cell? ⟨b, off + k * 4 + 1, none⟩ = some (.int .i64 x.v) ∧ w.cell? ⟨b, off + k * 4 + 2, none⟩ = some (.int .i64 x.l) ∧ w.cell? ⟨b, off + k * 4 + 3, none⟩ = some (.slice A' n' c') ∧ n' ≤ 9223372036854775807 ∧ RdE w A' n' x.e := by
  obtain ⟨ss, h1, h2, h3⟩ := h
  have hk : k < ss.length := by rw [h2]; exact (List.getElem?_eq_some_iff.1 hx).1
  obtain ⟨s, hs⟩ := get_some hk
  obtain ⟨A', n', c', rfl, hn', hr'⟩ := h3 k s x hs hx
  obtain ⟨f0, f1, f2, f3⟩ := flatC_get hx hs
  obtain ⟨b, off, e, hb, hc⟩ := h1.2 (by have h4 := h1.1; have := (List.getElem?_eq_some_iff.1 f0).1; omega)
  have c1 := hc _ _ f1
  have c2 := hc _ _ f2
  have c3 := hc _ _ f3
  rw [← Nat.add_assoc] at c1 c2 c3
  exact ⟨b, off, A', n', c', e, hb, hc _ _ f0, c1, c2, c3, hn', hr'⟩
theorem RdD.toW (h : RdD w A n cs) : RdCW w A n cs := by
  obtain ⟨ss, h1, h2, h3⟩ := h
  refine ⟨ss, h1, h2, fun i v x hv hx => ?_⟩
  obtain ⟨A', n', c', e, hn', hr'⟩ := h3 i v x hv hx
  exact ⟨A', n', c', e, by omega, hr'⟩
theorem RdD.at_ {k : Nat} {x : Cmd} (h : RdD w A n cs) (hx : cs[k]? = some x) :
    ∃ b off A' n' c', A = some ⟨b, off, none⟩ ∧ b < w.heap.size ∧ w.cell? ⟨b, off + k * 4, none⟩ = some (.int .i64 x.k) ∧ w.cell? ⟨b, off + k * 4 + 1, none⟩ = some (.int .i64 x.v) ∧ w.cell? ⟨b, off + k * 4 + 2, none⟩ = some (.int .i64 x.l) ∧ w.cell? ⟨b, off + k * 4 + 3, none⟩ = some (.slice A' n' c') ∧ n' ≤ 1000000000 ∧ RdE w A' n' x.e := by
  obtain ⟨ss, h1, h2, h3⟩ := h
  have hk : k < ss.length := by rw [h2]; exact (List.getElem?_eq_some_iff.1 hx).1
  obtain ⟨s, hs⟩ := get_some hk
  obtain ⟨A', n', c', rfl, hn', hr'⟩ := h3 k s x hs hx
  obtain ⟨f0, f1, f2, f3⟩ := flatC_get hx hs
  obtain ⟨b, off, e, hb, hc⟩ := h1.2 (by have h4 := h1.1; have := (List.getElem?_eq_some_iff.1 f0).1; omega)
  have c1 := hc _ _ f1
  have c2 := hc _ _ f2
  have c3 := hc _ _ f3
  rw [← Nat.add_assoc] at c1 c2 c3
  exact ⟨b, off, A', n', c', e, hb, hc _ _ f0, c1, c2, c3, hn', hr'⟩
end
end Go.Proofs.YtadmbphefpfbmaaGreatDoor
