/- Small words: worlds below one another, rows, the element of a row of instructions. -/
import Derived.Test.YtgnboemmlohahaaRrM
import Derived.Test.YtgnboemmlohahaaGA
import Derived.Test.YtgnboemmlohahaaAppN2
import Derived.Test.YtgnboemmlohahaaEmq
import Derived.Deep.RegionHeld3
import Derived.Deep.DrawnRows
namespace Go.Proofs.Ytgnboemmlohahaa
open Go.RowKit
set_option linter.unusedVariables false
set_option linter.unusedSimpArgs false
theorem own_fo {w : World} {base e s n : Nat} {v : Value} {vs : List Value} (h : w.ownsRow base e s v n vs) {k : Nat} (hk : Fo v k) : ∃ cs, w.heap[k]? = some (.cells cs e (0, 0)) := by
  rcases h.2 with ⟨rfl, _⟩ | ⟨g, _, cs, rfl, _, hg, _⟩
  · cases hk
  · have e1 : g = k := by simpa [Fo, Value.ownBlock] using hk
    exact ⟨cs, e1 ▸ hg⟩
theorem wr_of {x : Int} (h1 : 0 ≤ x) (h2 : x ≤ 1000000000000) : IntKind.i64.wrap x = x := IntWalk.i64_in _ (by omega)
theorem bqd {a W : World} (h : Below a.heap.size a W) : Below a.heap.size a W.drew := ⟨h.os, h.tape, h.output, h.size, h.block⟩
theorem bqa {a W : World} {o : Obj} (h : Below a.heap.size a W) : Below a.heap.size a (W.alloc o) := h.alloc h.size _
theorem bqc {a V W : World} (hc : Below V.heap.size V W) (h : Below a.heap.size a V) : Below a.heap.size a W := h.trans (hc.mono h.size)
theorem cell_alX {w : World} {p : Addr} {v : Value} {o : Obj} (h : w.cell? p = some v) : (w.alloc o).cell? p = some v := (World.cell?_alloc_some w p o (by rw [h]; rfl)).trans h
theorem eltIn : EltN Try.prog 24 49 (.agg #[.int .i64 0, .int .i64 0, .int .i64 0, .int .i64 0]) 4 := EltN.mk_ (b := 32) Try.underlying24 (by kernel_rfl) rfl (by omega) (by omega)
theorem ints_two {a b : List Int} : ints a ++ ints b = ints (a ++ b) := by simp
theorem flatI_app (a b : List Ins) : flatI (a ++ b) = flatI a ++ flatI b := by
  induction a with
  | nil => rfl
  | cons x r ih => simp [flatI, ih]
end Go.Proofs.Ytgnboemmlohahaa
