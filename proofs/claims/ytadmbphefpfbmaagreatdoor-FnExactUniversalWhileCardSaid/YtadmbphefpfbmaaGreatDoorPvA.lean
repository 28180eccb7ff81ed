/- Small functions of the reference. -/
import Derived.Test.YtadmbphefpfbmaaGreatDoorGK
namespace Go.Proofs.YtadmbphefpfbmaaGreatDoor
open Go.RowKit
set_option linter.unusedVariables false
set_option linter.unusedSimpArgs false
attribute [local go_sem ↓] Go.wp_at_zero Go.wp_at_succ
set_option maxHeartbeats 400000 in
theorem l00Max_any (w : World) (a b : Int) : Calls Tryz.prog 171 #[.int .i64 a, .int .i64 b] w fun e w' => e = .returned (.int .i64 (max a b)) ∧ w = w' := by
  by_cases h : b < a
  · have hd : decide (b < a) = true := by simpa using h
    have HM : Hid (max a b = a) := Lib.hid (by omega)
    go_enter Tryz.func171, Tryz.ntmps171
    go_wp2_with fail
    go_ret
    exact ⟨by rw [HM.out]; rfl, rfl⟩
  · have hd : decide (b < a) = false := by simpa using h
    have HM : Hid (max a b = b) := Lib.hid (by omega)
    go_enter Tryz.func171, Tryz.ntmps171
    go_wp2_with fail
    go_ret
    exact ⟨by rw [HM.out]; rfl, rfl⟩
set_option maxHeartbeats 400000 in
theorem l22Set_any (w : World) (v : Int) (A : Option Addr) (n c : Nat) : Calls Tryz.prog 43 #[.int .i64 v, .slice A n c] w fun e w' => e = .returned (.agg #[.int .i64 0, .int .i64 v, .int .i64 0, .slice A n c]) ∧ Below w.heap.size w w' := by
  obtain ⟨w1, hw1⟩ : ∃ w1, w1 = w.alloc (.cells #[.int .i64 0, .int .i64 0, .int .i64 0, .slice none 0 0] 44) := ⟨_, rfl⟩
  have hb1 : Below w.heap.size w w1 := by rw [hw1]; exact below_new _ _
  have hx1 : w1.heap[w.heap.size]? = some (.cells #[.int .i64 0, .int .i64 0, .int .i64 0, .slice none 0 0] 44 (0, 0)) := by rw [hw1]; exact box_new _ _ _
  go_enter Tryz.func43, Tryz.ntmps43
  go_upto_region 1 with fail
  rw [← hw1]
  clear hw1
  have x0 := blk_cell hx1 0 rfl
  have x1 := blk_cell hx1 1 rfl
  have x2 := blk_cell hx1 2 rfl
  have x3 := blk_cell hx1 3 rfl
  have f0 := blk_free hx1 0
  have f1 := blk_free hx1 1
  have f2 := blk_free hx1 2
  have f3 := blk_free hx1 3
  have HB1 := Lib.hid hb1
  clear hb1
  go_wp2_with fail
  have hz := blk_set (blk_set (blk_set (blk_set hx1 0 (.int .i64 0)) 1 (.int .i64 v)) 2 (.int .i64 0)) 3 (.slice A n c)
  have hch := (((ch_set w1 w.heap.size 0 (.int .i64 0)).trans (ch_set _ w.heap.size 1 (.int .i64 v))).trans (ch_set _ w.heap.size 2 (.int .i64 0))).trans (ch_set _ w.heap.size 3 (.slice A n c))
  have hb2 := below_ch HB1.out hch (fun q e => by rw [show q = w.heap.size from e]; exact Nat.le_refl _) HB1.out.size
  generalize ((((w1.setCell ⟨w.heap.size, 0, none⟩ (.int .i64 0)).setCell ⟨w.heap.size, 1, none⟩ (.int .i64 v)).setCell ⟨w.heap.size, 2, none⟩ (.int .i64 0)).setCell ⟨w.heap.size, 3, none⟩ (.slice A n c)) = w9 at hz hb2 ⊢
  have hz9 : w9.heap[w.heap.size]? = some (.cells #[.int .i64 0, .int .i64 v, .int .i64 0, .slice A n c] 44 (0, 0)) := by simpa using hz
  clear hz hch x0 x1 x2 x3 f0 f1 f2 f3
  refine bodyPost_ret (v := .agg #[.int .i64 0, .int .i64 v, .int .i64 0, .slice A n c]) (by simp [results, Tryz.results43, go_sem, blk_cell hz9 0 rfl, blk_cell hz9 1 rfl, blk_cell hz9 2 rfl, blk_cell hz9 3 rfl]) rfl ⟨rfl, hb2⟩
theorem lit_elH (w : World) (k v : Int) : (w.alloc (.cells #[.int .i64 k, .int .i64 v] 110)).ownsRow w.heap.size 110 2 (.slice (some ⟨w.heap.size, 0, none⟩) 1 1) 1 (ints (eNums [(k, v)])) := by
  have h := ownN_lit w #[.int .i64 k, .int .i64 v] 1 2 110 rfl (by omega)
  exact h
set_option maxHeartbeats 400000 in
theorem l22Var_any (w : World) (v : Int) : Calls Tryz.prog 44 #[.int .i64 v] w (fun e w' => ∃ A c, e = .returned (.slice A 1 c) ∧ w'.ownsRow w.heap.size 110 2 (.slice A 1 c) 1 (ints (eNums [(1, v)])) ∧ Below w.heap.size w w') := by
  go_enter Tryz.func44, Tryz.ntmps44
  go_wp2_with fail
  go_ret
  exact ⟨_, _, rfl, lit_elH w 1 v, below_new _ _⟩
end Go.Proofs.YtadmbphefpfbmaaGreatDoor
