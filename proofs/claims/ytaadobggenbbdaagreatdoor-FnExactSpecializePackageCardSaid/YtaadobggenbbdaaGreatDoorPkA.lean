/- Texts of expressions of one variable, in plain Lean: their bytes and their elements. -/
import Derived.Test.YtaadobggenbbdaaGreatDoorGD
namespace Go.Proofs.YtaadobggenbbdaaGreatDoor
open Go.RowKit
set_option linter.unusedVariables false
set_option linter.unusedSimpArgs false
inductive Tx where
  | v
  | h (a : Tx)
  | t (a : Tx)
  | p (a b : Tx)
def Tx.rn : Tx → List Nat
  | .v => [48]
  | .h a => 104 :: a.rn
  | .t a => 116 :: a.rn
  | .p a b => 40 :: (a.rn ++ 46 :: (b.rn ++ [41]))
def Tx.ex : Tx → Ex
  | .v => .leaf (1, 0)
  | .h a => .un (3, 0) a.ex
  | .t a => .un (4, 0) a.ex
  | .p a b => .bin (2, 0) a.ex b.ex
abbrev Tx.els (x : Tx) : List El := x.ex.els
def Tx.deep : Tx → Nat
  | .v => 1
  | .h a => a.deep + 1
  | .t a => a.deep + 1
  | .p a b => max a.deep b.deep + 1
theorem Tx.good : ∀ x : Tx, x.ex.good
  | .v => rfl
  | .h a => ⟨rfl, a.good⟩
  | .t a => ⟨rfl, a.good⟩
  | .p a b => ⟨rfl, a.good, b.good⟩
theorem Tx.rn_pos (x : Tx) : 1 ≤ x.rn.length := by cases x <;> simp [Tx.rn]
theorem Tx.els_pos (x : Tx) : 1 ≤ x.els.length := x.ex.els_pos
theorem Tx.rn_nz : ∀ (x : Tx), ∀ c ∈ x.rn, 0 < c ∧ c < 128
  | .v, c, hc => by simp [Tx.rn] at hc; omega
  | .h a, c, hc => by
    rcases List.mem_cons.1 hc with hc | hc
    · omega
    · exact a.rn_nz c hc
  | .t a, c, hc => by
    rcases List.mem_cons.1 hc with hc | hc
    · omega
    · exact a.rn_nz c hc
  | .p a b, c, hc => by
    rcases List.mem_cons.1 hc with hc | hc
    · omega
    · rcases List.mem_append.1 hc with hc | hc
      · exact a.rn_nz c hc
      · rcases List.mem_cons.1 hc with hc | hc
        · omega
        · rcases List.mem_append.1 hc with hc | hc
          · exact b.rn_nz c hc
          · have := List.mem_singleton.1 hc; omega
theorem Tx.els_ok : ∀ x : Tx, x.els.all okEl = true
  | .v => rfl
  | .h a => by
    have h := a.els_ok
    simp only [Tx.els, Tx.ex, Ex.els, List.all_cons, Bool.and_eq_true] at *
    exact ⟨rfl, h⟩
  | .t a => by
    have h := a.els_ok
    simp only [Tx.els, Tx.ex, Ex.els, List.all_cons, Bool.and_eq_true] at *
    exact ⟨rfl, h⟩
  | .p a b => by
    have h := a.els_ok
    have h2 := b.els_ok
    simp only [Tx.els, Tx.ex, Ex.els, List.all_cons, List.all_append, Bool.and_eq_true] at *
    exact ⟨rfl, h, h2⟩
theorem Tx.wf {x : Tx} (h : x.els.length ≤ 40) : wfE x.els = true := wfE_els x.good h x.els_ok
def tPlain : Tx := .t .v
def tQuine : Tx := .h .v
def tPad : Tx := .v
def tFix : Tx := .p (.p (.h .v) (.h .v)) (.t .v)
def tMut : Tx := .p (.p (.p (.h (.h .v)) (.h .v)) (.p (.t (.h .v)) (.h .v))) (.t .v)
def tSpec : Tx := .p (.h (.h .v)) (.p (.t (.h .v)) (.t .v))
end Go.Proofs.YtaadobggenbbdaaGreatDoor
