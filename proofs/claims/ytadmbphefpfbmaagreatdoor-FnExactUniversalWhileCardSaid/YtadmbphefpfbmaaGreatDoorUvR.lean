/- The universal program: the replacement of three keys in a text (plain). -/
import Derived.Test.YtadmbphefpfbmaaGreatDoorPqK
import Derived.Test.YtadmbphefpfbmaaGreatDoorUvB
namespace Go.Proofs.YtadmbphefpfbmaaGreatDoor
open Go.RowKit
set_option linter.unusedVariables false
set_option linter.unusedSimpArgs false
/-- The second text is the first one with the keys T8, T10, T11 replaced. -/
inductive Rp (a b c : List Nat) : List Nat → List Nat → Prop
  | nil : Rp a b c [] []
  | lit {x : Nat} {q o : List Nat} : x ≠ 84 → Rp a b c q o → Rp a b c (x :: q) (x :: o)
  | k8 {q o : List Nat} : Rp a b c q o → Rp a b c (84 :: 56 :: q) (a ++ o)
  | k10 {q o : List Nat} : Rp a b c q o → Rp a b c (84 :: 49 :: 48 :: q) (b ++ o)
  | k11 {q o : List Nat} : Rp a b c q o → Rp a b c (84 :: 49 :: 49 :: q) (c ++ o)
/-- What stands at a place: the end, another byte, or a key. -/
theorem Rp.view {a b c l o : List Nat} (h : Rp a b c l o) : (l = [] ∧ o = []) ∨ (∃ x q p, x ≠ 84 ∧ l = x :: q ∧ o = x :: p ∧ Rp a b c q p) ∨ (∃ q p, l = 84 :: 56 :: q ∧ o = a ++ p ∧ Rp a b c q p) ∨ (∃ q p, l = 84 :: 49 :: 48 :: q ∧ o = b ++ p ∧ Rp a b c q p) ∨ (∃ q p, l = 84 :: 49 :: 49 :: q ∧ o = c ++ p ∧ Rp a b c q p) := by
  cases h with
  | nil => exact .inl ⟨rfl, rfl⟩
  | lit h1 h2 => exact .inr (.inl ⟨_, _, _, h1, rfl, rfl, h2⟩)
  | k8 h1 => exact .inr (.inr (.inl ⟨_, _, rfl, rfl, h1⟩))
  | k10 h1 => exact .inr (.inr (.inr (.inl ⟨_, _, rfl, rfl, h1⟩)))
  | k11 h1 => exact .inr (.inr (.inr (.inr ⟨_, _, rfl, rfl, h1⟩)))
end Go.Proofs.YtadmbphefpfbmaaGreatDoor
