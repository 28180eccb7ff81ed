/- The mirror of a tree of pointers; the bits of a tree of pointers. -/
import Derived.Test.YtilbgbibddjdcaaTreeP
namespace Go.Proofs.Ytilbgbibddjdcaa
open Go.RowKit

def RetTr (w : World) (lo : Nat) (t : Tr) (en : Ending) (w' : World) : Prop := ∃ v, en = .returned v ∧ IsT w' lo w'.heap.size v t ∧ Below w.heap.size w w'

theorem tr_half {h t : Tr} {N : Nat} (hn : (Tr.node h t).nodes ≤ N) : h.nodes ≤ N ∧ t.nodes ≤ N := by
  simp only [Tr.nodes] at hn; exact ⟨by omega, by omega⟩

end Go.Proofs.Ytilbgbibddjdcaa
