/- Programs of instructions and two counters, in plain Lean. -/
import Derived.Test.YtgnboemmlohahaaLawInstr
namespace Go.Proofs.Ytgnboemmlohahaa
open Go.RowKit
set_option linter.unusedVariables false

structure Ins where
  kind : Int
  reg : Int
  thn : Int
  els : Int
structure Cnt where
  at_ : Int
  a : Int
  b : Int
def flatI : List Ins → List Int
  | [] => []
  | x :: r => x.kind :: x.reg :: x.thn :: x.els :: flatI r
theorem flatI_len : ∀ ps : List Ins, (flatI ps).length = ps.length * 4
  | [] => rfl
  | x :: r => by simp only [flatI, List.length_cons, flatI_len r]; omega
theorem unflatI : ∀ (n : Nat) (xs : List Int), xs.length = n * 4 → ∃ ps : List Ins, xs = flatI ps ∧ ps.length = n
  | 0, xs, h => ⟨[], by simpa [flatI] using h, rfl⟩
  | n + 1, a :: b :: c :: d :: r, h => by
    obtain ⟨ps, rfl, hp⟩ := unflatI n r (by simp at h; omega)
    exact ⟨⟨a, b, c, d⟩ :: ps, rfl, by simp [hp]⟩
  | n + 1, [], h => by simp at h
  | n + 1, [_], h => by simp at h; omega
  | n + 1, [_, _], h => by simp at h; omega
  | n + 1, [_, _, _], h => by simp at h; omega
theorem flatI_get : ∀ {ps : List Ins} {k : Nat} {x : Ins}, ps[k]? = some x → (flatI ps)[k * 4]? = some x.kind ∧ (flatI ps)[k * 4 + 1]? = some x.reg ∧ (flatI ps)[k * 4 + 2]? = some x.thn ∧ (flatI ps)[k * 4 + 3]? = some x.els
  | [], k, x, h => by simp at h
  | y :: r, 0, x, h => by
    obtain rfl : y = x := by simpa using h
    exact ⟨rfl, rfl, rfl, rfl⟩
  | y :: r, k + 1, x, h => by
    have := flatI_get (ps := r) (k := k) (x := x) (by simpa using h)
    rw [show (k + 1) * 4 = k * 4 + 1 + 1 + 1 + 1 by omega]
    exact this
/-- The four cells of an instruction. -/
theorem rdI {w : World} {A : Option Addr} {n k : Nat} {ps : List Ins} {x : Ins} (hr : Rd w A (n * 4) (ints (flatI ps))) (hx : ps[k]? = some x) :
    ∃ b off, A = some ⟨b, off, none⟩ ∧ b < w.heap.size ∧ w.cell? ⟨b, off + k * 4, none⟩ = some (.int .i64 x.kind) ∧ w.cell? ⟨b, off + k * 4 + 1, none⟩ = some (.int .i64 x.reg) ∧ w.cell? ⟨b, off + k * 4 + 2, none⟩ = some (.int .i64 x.thn) ∧ w.cell? ⟨b, off + k * 4 + 3, none⟩ = some (.int .i64 x.els) := by
  obtain ⟨h0, h1, h2, h3⟩ := flatI_get hx
  obtain ⟨b, off, e, hb, q0⟩ := hr.at_ (ints_get h0)
  have hpos : 0 < n * 4 := by have h := hr.1; have := (List.getElem?_eq_some_iff.1 h0).1; simp at h; omega
  obtain ⟨b', off', e', _, hc⟩ := hr.2 hpos
  obtain ⟨rfl, rfl⟩ : b = b' ∧ off = off' := by rw [e] at e'; simpa using e'
  exact ⟨b, off, e, hb, q0, by have := hc _ _ (ints_get h1); rwa [← Nat.add_assoc] at this, by have := hc _ _ (ints_get h2); rwa [← Nat.add_assoc] at this, by have := hc _ _ (ints_get h3); rwa [← Nat.add_assoc] at this⟩

def okIns (n : Int) (x : Ins) : Bool := inB x.reg 0 23 && inB x.thn 0 n && ((decide (x.kind = 0) && decide (x.els = 0)) || (decide (x.kind = 1) && inB x.els 0 n))
def okProg (ps : List Ins) : Bool := ps.all (okIns ps.length) && decide (ps.length ≤ 400)
def lowReg (x : Ins) : Bool := decide (x.reg ≤ 1)
def twoC (ps : List Ins) : Bool := okProg ps && ps.all lowReg
def goodC (n : Int) (c : Cnt) : Bool := inB c.at_ 0 n && inB c.a 0 1000000000000 && inB c.b 0 1000000000000
theorem all_step {α : Type} {p : α → Bool} {xs : List α} {k : Nat} {x : α} (h : (xs.take k).all p = true) (hx : xs[k]? = some x) (hp : p x = true) : (xs.take (k + 1)).all p = true := by
  rw [List.take_add_one, hx]
  simp only [List.all_append, Bool.and_eq_true]
  exact ⟨h, by simp [hp]⟩
theorem all_out {α : Type} {p : α → Bool} {xs : List α} {k : Nat} {x : α} (hx : xs[k]? = some x) (hp : p x = false) : xs.all p = false := by
  obtain ⟨hk, rfl⟩ := List.getElem?_eq_some_iff.1 hx
  simp only [List.all_eq_false]
  exact ⟨_, List.getElem_mem hk, by simp [hp]⟩
theorem okIns_true {n : Int} {kd rg th el : Int} (h : okIns n ⟨kd, rg, th, el⟩ = true) : inB rg 0 23 = true ∧ inB th 0 n = true ∧ ((kd = 0 ∧ el = 0) ∨ (kd = 1 ∧ inB el 0 n = true)) := by
  simp only [okIns, Bool.and_eq_true, Bool.or_eq_true, decide_eq_true_eq] at h
  exact ⟨h.1.1, h.1.2, h.2⟩
theorem okIns_false {n : Int} {kd rg th el : Int} (h : okIns n ⟨kd, rg, th, el⟩ = false) : inB rg 0 23 = false ∨ (inB rg 0 23 = true ∧ inB th 0 n = false) ∨ (inB rg 0 23 = true ∧ inB th 0 n = true ∧
    ((kd = 0 ∧ (el == 0) = false) ∨ (kd = 1 ∧ inB el 0 n = false) ∨ ((kd == 0) = false ∧ (kd == 1) = false))) := by
  by_cases h1 : inB rg 0 23 = true
  · by_cases h2 : inB th 0 n = true
    · refine .inr (.inr ⟨h1, h2, ?_⟩)
      simp only [okIns, h1, h2, Bool.and_self, Bool.true_and] at h
      by_cases k0 : kd = 0
      · subst k0; left; simpa using h
      · by_cases k1 : kd = 1
        · subst k1; right; left; simpa using h
        · right; right; simp [k0, k1]
    · exact .inr (.inl ⟨h1, by simpa using h2⟩)
  · exact .inl (by simpa using h1)
def stepC (x : Ins) (c : Cnt) : Cnt × Bool :=
  if x.reg = 1 then
    if x.kind = 0 then (⟨x.thn, c.a, c.b + 1⟩, decide (c.b + 1 ≤ 1000000000000)) else if c.b = 0 then (⟨x.els, c.a, c.b⟩, decide (c.b ≤ 1000000000000)) else (⟨x.thn, c.a, c.b - 1⟩, decide (c.b - 1 ≤ 1000000000000))
  else
    if x.kind = 0 then (⟨x.thn, c.a + 1, c.b⟩, decide (c.a + 1 ≤ 1000000000000)) else if c.a = 0 then (⟨x.els, c.a, c.b⟩, decide (c.a ≤ 1000000000000)) else (⟨x.thn, c.a - 1, c.b⟩, decide (c.a - 1 ≤ 1000000000000))
end Go.Proofs.Ytgnboemmlohahaa
