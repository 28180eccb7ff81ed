/- The windows of a side (program). -/
import Derived.Test.YtcpkhhammafchaaWs
import Derived.Test.YtcpkhhammafchaaGJ
import Derived.Test.YtcpkhhammafchaaSr
import Derived.Test.YtcpkhhammafchaaGE
namespace Go.Proofs.Ytcpkhhammafchaa
open Go.RowKit
set_option linter.unusedVariables false
set_option linter.unusedSimpArgs false
theorem wl_gw {xs : List Int} {f len k : Nat} (hl : len ≤ 10) (hx : ∀ x ∈ xs, SmI x) : ∀ ys ∈ wl xs f len k, Gw ys ∧ ys.length = len := by
  intro ys hy
  have h := wl_len xs f len k ys hy
  refine ⟨⟨by omega, fun z hz => ?_⟩, h⟩
  rcases List.mem_cons.1 hy with rfl | hy
  · rw [List.eq_of_mem_replicate hz]; unfold SmI; omega
  · obtain ⟨i, _, rfl⟩ := List.mem_map.1 hy
    obtain ⟨j, _, rfl⟩ := List.mem_map.1 hz
    rw [List.getD_eq_getElem?_getD]
    cases hj : xs[f + i + j]? with
    | none => simp only [Option.getD_none]; unfold SmI; omega
    | some z => exact hx z (List.mem_of_getElem? hj)
theorem cells_gw {xs : List Int} {f len : Nat} (hl : len ≤ 10) (hx : ∀ x ∈ xs, SmI x) : Gw (cellsF xs f len) := by
  have h := wl_gw (f := f) (k := 1) hl hx (cellsF xs f len) (by simp [wl])
  exact h.1
def SetP (w : World) (len : Nat) (xss : List (List Int)) (e : Ending) (w' : World) : Prop := ∃ g mB, e = .returned (.pointer (some ⟨g, 0, none⟩)) ∧ IsSet w' g mB len xss ∧ w.heap.size ≤ g ∧ w.heap.size ≤ mB ∧ Below w.heap.size w w'
end Go.Proofs.Ytcpkhhammafchaa
