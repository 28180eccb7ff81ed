/- A new row of zeros. -/
import Derived.Test.YtcpkhhammafchaaGA
import Derived.Deep.OwnRows
import Derived.Test.YtcpkhhammafchaaGF
namespace Go.Proofs.Ytcpkhhammafchaa
open Go.RowKit
theorem run_mkz (n : Nat) (hn : n ≤ 100000) (w : World) : (Instr.makeSlice 25 (.int .i64 (n : Int)) (.int .i64 (n : Int))).run Try.prog w = .ok (.slice (some ⟨w.heap.size, 0, none⟩) n n) (w.alloc (.cells (madeCells #[.int .i64 0] n) 2)) := by
  obtain ⟨ht, hzc, i, hi, hz, hs1, hb⟩ := Try.eltI
  have hbn : i.bytes * n ≤ 24 * n := Nat.mul_le_mul_right _ hb
  exact run_make_row _ _ i _ ht hi hz hs1 hzc .i64 .i64 n (by omega) (by omega) w
theorem own_mkz (n : Nat) (hn : n ≤ 100000) (w : World) : (w.alloc (.cells (madeCells #[.int .i64 0] n) 2)).ownsRow w.heap.size 2 1 (.slice (some ⟨w.heap.size, 0, none⟩) n n) n (ints (List.replicate n 0)) := by
  have e : (madeCells #[Value.int .i64 0] n).toList = ints (List.replicate n 0) := by rw [toList_madeCells_one]; simp only [ints, List.map_replicate]
  have hs : (madeCells #[Value.int .i64 0] n).size = n := by have h := congrArg List.length e; simpa using h
  have h := own_lit w (madeCells #[.int .i64 0] n) n 2 hs (by omega)
  rwa [e] at h
end Go.Proofs.Ytcpkhhammafchaa
