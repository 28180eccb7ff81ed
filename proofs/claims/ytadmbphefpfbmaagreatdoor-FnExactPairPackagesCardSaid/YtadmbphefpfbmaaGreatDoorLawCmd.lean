/- The contracts of the laws' own helpers on commands. -/
import Derived.Test.YtadmbphefpfbmaaGreatDoorLawCmM
import Derived.Test.YtadmbphefpfbmaaGreatDoorOpenC
import Derived.Test.YtadmbphefpfbmaaGreatDoorGD
namespace Go.Proofs.YtadmbphefpfbmaaGreatDoor
open Go.RowKit
set_option linter.unusedVariables false
set_option linter.unusedSimpArgs false
def ToCmP (w : World) (x : Cmd) (e : Ending) (w' : World) : Prop :=
  ∃ A n c, e = .returned (.agg #[.int .i64 x.k, .int .i64 x.v, .int .i64 x.l, .slice A n c]) ∧ w'.ownsRow w.heap.size 110 2 (.slice A n c) n (ints (eNums x.e)) ∧ Below w.heap.size w w'
theorem zc_cells (n : Nat) : (madeCells (Value.agg #[.int .i64 0, .int .i64 0, .int .i64 0, .slice none 0 0]).cells (n * 4)).toList = flatC (List.replicate n ⟨0, 0, 0, []⟩) (List.replicate n (.slice none 0 0)) := by
  have e1 : flatC (List.replicate n ⟨0, 0, 0, []⟩) (List.replicate n (.slice none 0 0)) = (List.range (n * 4)).map (cellC (fun _ => (⟨0, 0, 0, []⟩, .slice none 0 0))) := by
    rw [← cellC_flat]
    congr 1
    · apply List.ext_getElem?; intro i; by_cases h : i < n <;> simp [h]
    · apply List.ext_getElem?; intro i; by_cases h : i < n <;> simp [h]
  rw [e1]
  apply List.ext_getElem?
  intro j
  by_cases hj : j < n * 4
  · have h4 : j % 4 = 0 ∨ j % 4 = 1 ∨ j % 4 = 2 ∨ j % 4 = 3 := by omega
    rcases h4 with h | h | h | h <;> simp [madeCells, hj, h, cellC, Value.cells]
  · simp [madeCells, hj]
theorem flatC_put : ∀ (a : List Cmd) (us : List Value) (z x : Cmd) (b : List Cmd) (s0 s : Value) (t : List Value), us.length = a.length →
    ((((flatC (a ++ z :: b) (us ++ s0 :: t)).set (a.length * 4) (.int .i64 x.k)).set (a.length * 4 + 1) (.int .i64 x.v)).set (a.length * 4 + 2) (.int .i64 x.l)).set (a.length * 4 + 3) s = flatC (a ++ x :: b) (us ++ s :: t)
  | [], [], z, x, b, s0, s, t, _ => by simp [flatC]
  | [], _ :: _, _, _, _, _, _, _, h => by simp at h
  | _ :: _, [], _, _, _, _, _, _, h => by simp at h
  | y :: a, u :: us, z, x, b, s0, s, t, h => by
    have := flatC_put a us z x b s0 s t (by simpa using h)
    simp only [List.cons_append, flatC, List.length_cons]
    rw [show (a.length + 1) * 4 = a.length * 4 + 1 + 1 + 1 + 1 by omega]
    simp only [List.set_cons_succ, Nat.add_right_comm _ 1 1, this]
end Go.Proofs.YtadmbphefpfbmaaGreatDoor
