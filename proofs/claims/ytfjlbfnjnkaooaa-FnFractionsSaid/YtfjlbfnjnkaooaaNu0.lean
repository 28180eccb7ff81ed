/- Nu0: collected by pick.py. -/
import Derived.Test.YtfjlbfnjnkaooaaSrc
import Derived.Test.YtfjlbfnjnkaooaaCpy
namespace Go.Proofs.Ytfjlbfnjnkaooaa
open Go.RowKit
set_option linter.unusedVariables false
set_option linter.unusedSimpArgs false
set_option maxHeartbeats 400000 in
theorem l00From_any (w : World) (A : Option Addr) (n c : Nat) : Calls Try.prog 28 #[.slice A n c] w fun e w' => e = .returned (.pointer (some ⟨w.heap.size, 0, none⟩)) ∧ w' = w.alloc (.cells #[.slice A n c, .int .i64 0, .int .u64 0] 93) := by
  go_enter Try.func28, Try.ntmps28
  go_wp2_with fail
  go_ret
  exact ⟨rfl, rfl⟩
end Go.Proofs.Ytfjlbfnjnkaooaa
