/- The reader of programs: expressions (program). Printed by mk_pqf.py. -/
import Derived.Test.YtadmbphefpfbmaaGreatDoorPqE
import Derived.Test.YtadmbphefpfbmaaGreatDoorPqA
import Derived.Test.YtadmbphefpfbmaaGreatDoorGE
namespace Go.Proofs.YtadmbphefpfbmaaGreatDoor
open Go.RowKit
set_option linter.unusedVariables false
set_option linter.unusedSimpArgs false
attribute [local go_sem ↓] Go.wp_at_zero Go.wp_at_succ
theorem lit_elG (w : World) (k v : Int) : (w.alloc (.cells #[.int .i64 k, .int .i64 v] 110)).ownsRow w.heap.size 110 2 (.slice (some ⟨w.heap.size, 0, none⟩) 1 1) 1 (ints (eNums [(k, v)])) := by
  have h := ownN_lit w #[.int .i64 k, .int .i64 v] 1 2 110 rfl (by omega)
  exact h
def ExQ (w : World) (g B : Nat) (x : Ex) (rest : List Nat) (L : Int) (e : Ending) (w' : World) : Prop :=
  ∃ A2 c2 A' n' c', e = .returned (.slice A2 x.els.length c2) ∧ w'.ownsRow w.heap.size 110 2 (.slice A2 x.els.length c2) x.els.length (ints (eNums x.els)) ∧ Rdr w' g B A' n' c' rest (L - (x.els.length : Int)) ∧ Ch (· = g) w w'
set_option maxHeartbeats 8000000 in
set_option maxRecDepth 100000 in
theorem exprY_n : ∀ (w : World) (g B : Nat) (A : Option Addr) (n c : Nat) (rest : List Nat) (L : Int), Rdr w g B A n c ((Ex.leaf (0, 0)).rn ++ rest) L → ((Ex.leaf (0, 0)).els.length : Int) ≤ L → L ≤ 100000 → B ≤ w.heap.size → Calls Tryz.prog 138 #[.pointer (some ⟨g, 0, none⟩)] w (ExQ w g B (Ex.leaf (0, 0)) rest L) := by
  intro w g B A n c rest L h hL hL2 hB
  have H0 : Hid (Rdr w g B A n c (110 :: rest) L) := Lib.hid (by have h9 := h; simp only [Ex.rn, lf, uf, sf, List.cons_append, List.append_assoc, List.nil_append, List.singleton_append] at h9; exact h9)
  obtain ⟨w1, hw1⟩ : ∃ w1, w1 = w.setCell ⟨g, 2, none⟩ (.int .i64 (L - 1)) := ⟨_, rfl⟩
  have HC1 : Hid (Ch (· = g) w w1) := Lib.hid (by rw [hw1]; exact ch_set _ _ _ _)
  have HR1 := Lib.hid (H0.out.set hw1)
  have HT := Lib.hid (take_any w1 g B _ _ _ _ _ _ HR1.out (by decide))
  have x2 := blk_cell H0.out.box 2 rfl
  have f2 := blk_free H0.out.box 2
  have HLL : Hid (1 ≤ L ∧ L ≤ 100000) := Lib.hid (by simp only [Ex.els, List.length_cons, List.length_append, List.length_nil] at hL; omega)
  have hwr : IntKind.i64.wrap (L - 1) = L - 1 := IntWalk.i64_in _ (by have := HLL.out; omega)
  have HEL := Lib.hid hL
  clear h hL hL2
  go_enter Tryz.func138, Tryz.ntmps138
  go_upto_region 2 with fail
  rw [← hw1]
  clear hw1 x2 f2 hwr
  have x1 := blk_cell HR1.out.box 1 rfl
  have x2 := blk_cell HR1.out.box 2 rfl
  have hd : decide (L - 1 < 0) = false := decide_eq_false (by have := HLL.out; omega)
  have hd2 : ¬ (L - 1 < 0) := by have := HLL.out; omega
  have hd3 : 0 ≤ L - 1 := by have := HLL.out; omega
  go_upto_region 6 with (go_at_call 137
                         refine HT.out.mono ?_
                         rintro e w2 ⟨rfl, ⟨A2, n2, c2, hr2⟩, hc2⟩
                         have HR2 := Lib.hid hr2
                         have HC2 : Hid (Ch (· = g) w w2) := Lib.hid (HC1.out.trans hc2)
                         clear hr2 hc2)
  clear x1 x2 hd hd2 hd3
  have HS2 : Hid (B ≤ w2.heap.size) := Lib.hid (Nat.le_trans hB HC2.out.size)
  have HGL : Hid (g < w.heap.size) := Lib.hid H0.out.lt
  go_wp2_with fail
  go_ret
  exact ⟨_, _, _, _, _, rfl, ownN_base (lit_elG w2 0 0) HC2.out.size, HR2.out.below (below_new _ _), HC2.out.trans (ch_below (below_new _ _))⟩
set_option maxHeartbeats 8000000 in
set_option maxRecDepth 100000 in
theorem exprY_v0 : ∀ (w : World) (g B : Nat) (A : Option Addr) (n c : Nat) (rest : List Nat) (L : Int), Rdr w g B A n c ((Ex.leaf (1, (0 : Int))).rn ++ rest) L → ((Ex.leaf (1, (0 : Int))).els.length : Int) ≤ L → L ≤ 100000 → B ≤ w.heap.size → Calls Tryz.prog 138 #[.pointer (some ⟨g, 0, none⟩)] w (ExQ w g B (Ex.leaf (1, (0 : Int))) rest L) := by
  intro w g B A n c rest L h hL hL2 hB
  have H0 : Hid (Rdr w g B A n c (48 :: rest) L) := Lib.hid (by have h9 := h; simp only [Ex.rn, lf, uf, sf, List.cons_append, List.append_assoc, List.nil_append, List.singleton_append] at h9; exact h9)
  obtain ⟨w1, hw1⟩ : ∃ w1, w1 = w.setCell ⟨g, 2, none⟩ (.int .i64 (L - 1)) := ⟨_, rfl⟩
  have HC1 : Hid (Ch (· = g) w w1) := Lib.hid (by rw [hw1]; exact ch_set _ _ _ _)
  have HR1 := Lib.hid (H0.out.set hw1)
  have HT := Lib.hid (take_any w1 g B _ _ _ _ _ _ HR1.out (by decide))
  have x2 := blk_cell H0.out.box 2 rfl
  have f2 := blk_free H0.out.box 2
  have HLL : Hid (1 ≤ L ∧ L ≤ 100000) := Lib.hid (by simp only [Ex.els, List.length_cons, List.length_append, List.length_nil] at hL; omega)
  have hwr : IntKind.i64.wrap (L - 1) = L - 1 := IntWalk.i64_in _ (by have := HLL.out; omega)
  have HEL := Lib.hid hL
  clear h hL hL2
  go_enter Tryz.func138, Tryz.ntmps138
  go_upto_region 2 with fail
  rw [← hw1]
  clear hw1 x2 f2 hwr
  have x1 := blk_cell HR1.out.box 1 rfl
  have x2 := blk_cell HR1.out.box 2 rfl
  have hd : decide (L - 1 < 0) = false := decide_eq_false (by have := HLL.out; omega)
  have hd2 : ¬ (L - 1 < 0) := by have := HLL.out; omega
  have hd3 : 0 ≤ L - 1 := by have := HLL.out; omega
  go_upto_region 6 with (go_at_call 137
                         refine HT.out.mono ?_
                         rintro e w2 ⟨rfl, ⟨A2, n2, c2, hr2⟩, hc2⟩
                         have HR2 := Lib.hid hr2
                         have HC2 : Hid (Ch (· = g) w w2) := Lib.hid (HC1.out.trans hc2)
                         clear hr2 hc2)
  clear x1 x2 hd hd2 hd3
  have HS2 : Hid (B ≤ w2.heap.size) := Lib.hid (Nat.le_trans hB HC2.out.size)
  have HGL : Hid (g < w.heap.size) := Lib.hid H0.out.lt
  have HD := Lib.hid (digit0_any w2 g B A2 n2 c2 (L - 1) rest HR2.out)
  go_wp2_with (go_at_call 140
               refine HD.out.mono ?_
               rintro e w3 ⟨rfl, hr3, hc3⟩
               have HR3 := Lib.hid hr3
               have HC3 : Hid (Ch (· = g) w w3) := Lib.hid (HC2.out.trans hc3)
               clear hr3 hc3)
  go_ret
  exact ⟨_, _, _, _, _, rfl, ownN_base (lit_elG w3 1 0) HC3.out.size, HR3.out.below (below_new _ _), HC3.out.trans (ch_below (below_new _ _))⟩
set_option maxHeartbeats 8000000 in
set_option maxRecDepth 100000 in
theorem exprY_v1 : ∀ (w : World) (g B : Nat) (A : Option Addr) (n c : Nat) (rest : List Nat) (L : Int), Rdr w g B A n c ((Ex.leaf (1, (1 : Int))).rn ++ rest) L → ((Ex.leaf (1, (1 : Int))).els.length : Int) ≤ L → L ≤ 100000 → B ≤ w.heap.size → Calls Tryz.prog 138 #[.pointer (some ⟨g, 0, none⟩)] w (ExQ w g B (Ex.leaf (1, (1 : Int))) rest L) := by
  intro w g B A n c rest L h hL hL2 hB
  have H0 : Hid (Rdr w g B A n c (49 :: rest) L) := Lib.hid (by have h9 := h; simp only [Ex.rn, lf, uf, sf, List.cons_append, List.append_assoc, List.nil_append, List.singleton_append] at h9; exact h9)
  obtain ⟨w1, hw1⟩ : ∃ w1, w1 = w.setCell ⟨g, 2, none⟩ (.int .i64 (L - 1)) := ⟨_, rfl⟩
  have HC1 : Hid (Ch (· = g) w w1) := Lib.hid (by rw [hw1]; exact ch_set _ _ _ _)
  have HR1 := Lib.hid (H0.out.set hw1)
  have HT := Lib.hid (take_any w1 g B _ _ _ _ _ _ HR1.out (by decide))
  have x2 := blk_cell H0.out.box 2 rfl
  have f2 := blk_free H0.out.box 2
  have HLL : Hid (1 ≤ L ∧ L ≤ 100000) := Lib.hid (by simp only [Ex.els, List.length_cons, List.length_append, List.length_nil] at hL; omega)
  have hwr : IntKind.i64.wrap (L - 1) = L - 1 := IntWalk.i64_in _ (by have := HLL.out; omega)
  have HEL := Lib.hid hL
  clear h hL hL2
  go_enter Tryz.func138, Tryz.ntmps138
  go_upto_region 2 with fail
  rw [← hw1]
  clear hw1 x2 f2 hwr
  have x1 := blk_cell HR1.out.box 1 rfl
  have x2 := blk_cell HR1.out.box 2 rfl
  have hd : decide (L - 1 < 0) = false := decide_eq_false (by have := HLL.out; omega)
  have hd2 : ¬ (L - 1 < 0) := by have := HLL.out; omega
  have hd3 : 0 ≤ L - 1 := by have := HLL.out; omega
  go_upto_region 6 with (go_at_call 137
                         refine HT.out.mono ?_
                         rintro e w2 ⟨rfl, ⟨A2, n2, c2, hr2⟩, hc2⟩
                         have HR2 := Lib.hid hr2
                         have HC2 : Hid (Ch (· = g) w w2) := Lib.hid (HC1.out.trans hc2)
                         clear hr2 hc2)
  clear x1 x2 hd hd2 hd3
  have HS2 : Hid (B ≤ w2.heap.size) := Lib.hid (Nat.le_trans hB HC2.out.size)
  have HGL : Hid (g < w.heap.size) := Lib.hid H0.out.lt
  have HD := Lib.hid (digit1_any w2 g B A2 n2 c2 (L - 1) rest HR2.out)
  go_wp2_with (go_at_call 140
               refine HD.out.mono ?_
               rintro e w3 ⟨rfl, hr3, hc3⟩
               have HR3 := Lib.hid hr3
               have HC3 : Hid (Ch (· = g) w w3) := Lib.hid (HC2.out.trans hc3)
               clear hr3 hc3)
  go_ret
  exact ⟨_, _, _, _, _, rfl, ownN_base (lit_elG w3 1 1) HC3.out.size, HR3.out.below (below_new _ _), HC3.out.trans (ch_below (below_new _ _))⟩
set_option maxHeartbeats 8000000 in
set_option maxRecDepth 100000 in
theorem exprY_v2 : ∀ (w : World) (g B : Nat) (A : Option Addr) (n c : Nat) (rest : List Nat) (L : Int), Rdr w g B A n c ((Ex.leaf (1, (2 : Int))).rn ++ rest) L → ((Ex.leaf (1, (2 : Int))).els.length : Int) ≤ L → L ≤ 100000 → B ≤ w.heap.size → Calls Tryz.prog 138 #[.pointer (some ⟨g, 0, none⟩)] w (ExQ w g B (Ex.leaf (1, (2 : Int))) rest L) := by
  intro w g B A n c rest L h hL hL2 hB
  have H0 : Hid (Rdr w g B A n c (50 :: rest) L) := Lib.hid (by have h9 := h; simp only [Ex.rn, lf, uf, sf, List.cons_append, List.append_assoc, List.nil_append, List.singleton_append] at h9; exact h9)
  obtain ⟨w1, hw1⟩ : ∃ w1, w1 = w.setCell ⟨g, 2, none⟩ (.int .i64 (L - 1)) := ⟨_, rfl⟩
  have HC1 : Hid (Ch (· = g) w w1) := Lib.hid (by rw [hw1]; exact ch_set _ _ _ _)
  have HR1 := Lib.hid (H0.out.set hw1)
  have HT := Lib.hid (take_any w1 g B _ _ _ _ _ _ HR1.out (by decide))
  have x2 := blk_cell H0.out.box 2 rfl
  have f2 := blk_free H0.out.box 2
  have HLL : Hid (1 ≤ L ∧ L ≤ 100000) := Lib.hid (by simp only [Ex.els, List.length_cons, List.length_append, List.length_nil] at hL; omega)
  have hwr : IntKind.i64.wrap (L - 1) = L - 1 := IntWalk.i64_in _ (by have := HLL.out; omega)
  have HEL := Lib.hid hL
  clear h hL hL2
  go_enter Tryz.func138, Tryz.ntmps138
  go_upto_region 2 with fail
  rw [← hw1]
  clear hw1 x2 f2 hwr
  have x1 := blk_cell HR1.out.box 1 rfl
  have x2 := blk_cell HR1.out.box 2 rfl
  have hd : decide (L - 1 < 0) = false := decide_eq_false (by have := HLL.out; omega)
  have hd2 : ¬ (L - 1 < 0) := by have := HLL.out; omega
  have hd3 : 0 ≤ L - 1 := by have := HLL.out; omega
  go_upto_region 6 with (go_at_call 137
                         refine HT.out.mono ?_
                         rintro e w2 ⟨rfl, ⟨A2, n2, c2, hr2⟩, hc2⟩
                         have HR2 := Lib.hid hr2
                         have HC2 : Hid (Ch (· = g) w w2) := Lib.hid (HC1.out.trans hc2)
                         clear hr2 hc2)
  clear x1 x2 hd hd2 hd3
  have HS2 : Hid (B ≤ w2.heap.size) := Lib.hid (Nat.le_trans hB HC2.out.size)
  have HGL : Hid (g < w.heap.size) := Lib.hid H0.out.lt
  have HD := Lib.hid (digit2_any w2 g B A2 n2 c2 (L - 1) rest HR2.out)
  go_wp2_with (go_at_call 140
               refine HD.out.mono ?_
               rintro e w3 ⟨rfl, hr3, hc3⟩
               have HR3 := Lib.hid hr3
               have HC3 : Hid (Ch (· = g) w w3) := Lib.hid (HC2.out.trans hc3)
               clear hr3 hc3)
  go_ret
  exact ⟨_, _, _, _, _, rfl, ownN_base (lit_elG w3 1 2) HC3.out.size, HR3.out.below (below_new _ _), HC3.out.trans (ch_below (below_new _ _))⟩
set_option maxHeartbeats 8000000 in
set_option maxRecDepth 100000 in
theorem exprY_v3 : ∀ (w : World) (g B : Nat) (A : Option Addr) (n c : Nat) (rest : List Nat) (L : Int), Rdr w g B A n c ((Ex.leaf (1, (3 : Int))).rn ++ rest) L → ((Ex.leaf (1, (3 : Int))).els.length : Int) ≤ L → L ≤ 100000 → B ≤ w.heap.size → Calls Tryz.prog 138 #[.pointer (some ⟨g, 0, none⟩)] w (ExQ w g B (Ex.leaf (1, (3 : Int))) rest L) := by
  intro w g B A n c rest L h hL hL2 hB
  have H0 : Hid (Rdr w g B A n c (51 :: rest) L) := Lib.hid (by have h9 := h; simp only [Ex.rn, lf, uf, sf, List.cons_append, List.append_assoc, List.nil_append, List.singleton_append] at h9; exact h9)
  obtain ⟨w1, hw1⟩ : ∃ w1, w1 = w.setCell ⟨g, 2, none⟩ (.int .i64 (L - 1)) := ⟨_, rfl⟩
  have HC1 : Hid (Ch (· = g) w w1) := Lib.hid (by rw [hw1]; exact ch_set _ _ _ _)
  have HR1 := Lib.hid (H0.out.set hw1)
  have HT := Lib.hid (take_any w1 g B _ _ _ _ _ _ HR1.out (by decide))
  have x2 := blk_cell H0.out.box 2 rfl
  have f2 := blk_free H0.out.box 2
  have HLL : Hid (1 ≤ L ∧ L ≤ 100000) := Lib.hid (by simp only [Ex.els, List.length_cons, List.length_append, List.length_nil] at hL; omega)
  have hwr : IntKind.i64.wrap (L - 1) = L - 1 := IntWalk.i64_in _ (by have := HLL.out; omega)
  have HEL := Lib.hid hL
  clear h hL hL2
  go_enter Tryz.func138, Tryz.ntmps138
  go_upto_region 2 with fail
  rw [← hw1]
  clear hw1 x2 f2 hwr
  have x1 := blk_cell HR1.out.box 1 rfl
  have x2 := blk_cell HR1.out.box 2 rfl
  have hd : decide (L - 1 < 0) = false := decide_eq_false (by have := HLL.out; omega)
  have hd2 : ¬ (L - 1 < 0) := by have := HLL.out; omega
  have hd3 : 0 ≤ L - 1 := by have := HLL.out; omega
  go_upto_region 6 with (go_at_call 137
                         refine HT.out.mono ?_
                         rintro e w2 ⟨rfl, ⟨A2, n2, c2, hr2⟩, hc2⟩
                         have HR2 := Lib.hid hr2
                         have HC2 : Hid (Ch (· = g) w w2) := Lib.hid (HC1.out.trans hc2)
                         clear hr2 hc2)
  clear x1 x2 hd hd2 hd3
  have HS2 : Hid (B ≤ w2.heap.size) := Lib.hid (Nat.le_trans hB HC2.out.size)
  have HGL : Hid (g < w.heap.size) := Lib.hid H0.out.lt
  have HD := Lib.hid (digit3_any w2 g B A2 n2 c2 (L - 1) rest HR2.out)
  go_wp2_with (go_at_call 140
               refine HD.out.mono ?_
               rintro e w3 ⟨rfl, hr3, hc3⟩
               have HR3 := Lib.hid hr3
               have HC3 : Hid (Ch (· = g) w w3) := Lib.hid (HC2.out.trans hc3)
               clear hr3 hc3)
  go_ret
  exact ⟨_, _, _, _, _, rfl, ownN_base (lit_elG w3 1 3) HC3.out.size, HR3.out.below (below_new _ _), HC3.out.trans (ch_below (below_new _ _))⟩
set_option maxHeartbeats 8000000 in
set_option maxRecDepth 100000 in
theorem exprY_v4 : ∀ (w : World) (g B : Nat) (A : Option Addr) (n c : Nat) (rest : List Nat) (L : Int), Rdr w g B A n c ((Ex.leaf (1, (4 : Int))).rn ++ rest) L → ((Ex.leaf (1, (4 : Int))).els.length : Int) ≤ L → L ≤ 100000 → B ≤ w.heap.size → Calls Tryz.prog 138 #[.pointer (some ⟨g, 0, none⟩)] w (ExQ w g B (Ex.leaf (1, (4 : Int))) rest L) := by
  intro w g B A n c rest L h hL hL2 hB
  have H0 : Hid (Rdr w g B A n c (52 :: rest) L) := Lib.hid (by have h9 := h; simp only [Ex.rn, lf, uf, sf, List.cons_append, List.append_assoc, List.nil_append, List.singleton_append] at h9; exact h9)
  obtain ⟨w1, hw1⟩ : ∃ w1, w1 = w.setCell ⟨g, 2, none⟩ (.int .i64 (L - 1)) := ⟨_, rfl⟩
  have HC1 : Hid (Ch (· = g) w w1) := Lib.hid (by rw [hw1]; exact ch_set _ _ _ _)
  have HR1 := Lib.hid (H0.out.set hw1)
  have HT := Lib.hid (take_any w1 g B _ _ _ _ _ _ HR1.out (by decide))
  have x2 := blk_cell H0.out.box 2 rfl
  have f2 := blk_free H0.out.box 2
  have HLL : Hid (1 ≤ L ∧ L ≤ 100000) := Lib.hid (by simp only [Ex.els, List.length_cons, List.length_append, List.length_nil] at hL; omega)
  have hwr : IntKind.i64.wrap (L - 1) = L - 1 := IntWalk.i64_in _ (by have := HLL.out; omega)
  have HEL := Lib.hid hL
  clear h hL hL2
  go_enter Tryz.func138, Tryz.ntmps138
  go_upto_region 2 with fail
  rw [← hw1]
  clear hw1 x2 f2 hwr
  have x1 := blk_cell HR1.out.box 1 rfl
  have x2 := blk_cell HR1.out.box 2 rfl
  have hd : decide (L - 1 < 0) = false := decide_eq_false (by have := HLL.out; omega)
  have hd2 : ¬ (L - 1 < 0) := by have := HLL.out; omega
  have hd3 : 0 ≤ L - 1 := by have := HLL.out; omega
  go_upto_region 6 with (go_at_call 137
                         refine HT.out.mono ?_
                         rintro e w2 ⟨rfl, ⟨A2, n2, c2, hr2⟩, hc2⟩
                         have HR2 := Lib.hid hr2
                         have HC2 : Hid (Ch (· = g) w w2) := Lib.hid (HC1.out.trans hc2)
                         clear hr2 hc2)
  clear x1 x2 hd hd2 hd3
  have HS2 : Hid (B ≤ w2.heap.size) := Lib.hid (Nat.le_trans hB HC2.out.size)
  have HGL : Hid (g < w.heap.size) := Lib.hid H0.out.lt
  have HD := Lib.hid (digit4_any w2 g B A2 n2 c2 (L - 1) rest HR2.out)
  go_wp2_with (go_at_call 140
               refine HD.out.mono ?_
               rintro e w3 ⟨rfl, hr3, hc3⟩
               have HR3 := Lib.hid hr3
               have HC3 : Hid (Ch (· = g) w w3) := Lib.hid (HC2.out.trans hc3)
               clear hr3 hc3)
  go_ret
  exact ⟨_, _, _, _, _, rfl, ownN_base (lit_elG w3 1 4) HC3.out.size, HR3.out.below (below_new _ _), HC3.out.trans (ch_below (below_new _ _))⟩
set_option maxHeartbeats 8000000 in
set_option maxRecDepth 100000 in
theorem exprY_v5 : ∀ (w : World) (g B : Nat) (A : Option Addr) (n c : Nat) (rest : List Nat) (L : Int), Rdr w g B A n c ((Ex.leaf (1, (5 : Int))).rn ++ rest) L → ((Ex.leaf (1, (5 : Int))).els.length : Int) ≤ L → L ≤ 100000 → B ≤ w.heap.size → Calls Tryz.prog 138 #[.pointer (some ⟨g, 0, none⟩)] w (ExQ w g B (Ex.leaf (1, (5 : Int))) rest L) := by
  intro w g B A n c rest L h hL hL2 hB
  have H0 : Hid (Rdr w g B A n c (53 :: rest) L) := Lib.hid (by have h9 := h; simp only [Ex.rn, lf, uf, sf, List.cons_append, List.append_assoc, List.nil_append, List.singleton_append] at h9; exact h9)
  obtain ⟨w1, hw1⟩ : ∃ w1, w1 = w.setCell ⟨g, 2, none⟩ (.int .i64 (L - 1)) := ⟨_, rfl⟩
  have HC1 : Hid (Ch (· = g) w w1) := Lib.hid (by rw [hw1]; exact ch_set _ _ _ _)
  have HR1 := Lib.hid (H0.out.set hw1)
  have HT := Lib.hid (take_any w1 g B _ _ _ _ _ _ HR1.out (by decide))
  have x2 := blk_cell H0.out.box 2 rfl
  have f2 := blk_free H0.out.box 2
  have HLL : Hid (1 ≤ L ∧ L ≤ 100000) := Lib.hid (by simp only [Ex.els, List.length_cons, List.length_append, List.length_nil] at hL; omega)
  have hwr : IntKind.i64.wrap (L - 1) = L - 1 := IntWalk.i64_in _ (by have := HLL.out; omega)
  have HEL := Lib.hid hL
  clear h hL hL2
  go_enter Tryz.func138, Tryz.ntmps138
  go_upto_region 2 with fail
  rw [← hw1]
  clear hw1 x2 f2 hwr
  have x1 := blk_cell HR1.out.box 1 rfl
  have x2 := blk_cell HR1.out.box 2 rfl
  have hd : decide (L - 1 < 0) = false := decide_eq_false (by have := HLL.out; omega)
  have hd2 : ¬ (L - 1 < 0) := by have := HLL.out; omega
  have hd3 : 0 ≤ L - 1 := by have := HLL.out; omega
  go_upto_region 6 with (go_at_call 137
                         refine HT.out.mono ?_
                         rintro e w2 ⟨rfl, ⟨A2, n2, c2, hr2⟩, hc2⟩
                         have HR2 := Lib.hid hr2
                         have HC2 : Hid (Ch (· = g) w w2) := Lib.hid (HC1.out.trans hc2)
                         clear hr2 hc2)
  clear x1 x2 hd hd2 hd3
  have HS2 : Hid (B ≤ w2.heap.size) := Lib.hid (Nat.le_trans hB HC2.out.size)
  have HGL : Hid (g < w.heap.size) := Lib.hid H0.out.lt
  have HD := Lib.hid (digit5_any w2 g B A2 n2 c2 (L - 1) rest HR2.out)
  go_wp2_with (go_at_call 140
               refine HD.out.mono ?_
               rintro e w3 ⟨rfl, hr3, hc3⟩
               have HR3 := Lib.hid hr3
               have HC3 : Hid (Ch (· = g) w w3) := Lib.hid (HC2.out.trans hc3)
               clear hr3 hc3)
  go_ret
  exact ⟨_, _, _, _, _, rfl, ownN_base (lit_elG w3 1 5) HC3.out.size, HR3.out.below (below_new _ _), HC3.out.trans (ch_below (below_new _ _))⟩
set_option maxHeartbeats 8000000 in
set_option maxRecDepth 100000 in
theorem exprY_u3 (a : Ex) (ih : (∀ (w : World) (g B : Nat) (A : Option Addr) (n c : Nat) (rest : List Nat) (L : Int), Rdr w g B A n c (a.rn ++ rest) L → (a.els.length : Int) ≤ L → L ≤ 100000 → B ≤ w.heap.size → Calls Tryz.prog 138 #[.pointer (some ⟨g, 0, none⟩)] w (ExQ w g B a rest L))) : ∀ (w : World) (g B : Nat) (A : Option Addr) (n c : Nat) (rest : List Nat) (L : Int), Rdr w g B A n c ((Ex.un (3, 0) a).rn ++ rest) L → ((Ex.un (3, 0) a).els.length : Int) ≤ L → L ≤ 100000 → B ≤ w.heap.size → Calls Tryz.prog 138 #[.pointer (some ⟨g, 0, none⟩)] w (ExQ w g B (Ex.un (3, 0) a) rest L) := by
  intro w g B A n c rest L h hL hL2 hB
  have H0 : Hid (Rdr w g B A n c (104 :: (a.rn ++ rest)) L) := Lib.hid (by have h9 := h; simp only [Ex.rn, lf, uf, sf, List.cons_append, List.append_assoc, List.nil_append, List.singleton_append] at h9; exact h9)
  obtain ⟨w1, hw1⟩ : ∃ w1, w1 = w.setCell ⟨g, 2, none⟩ (.int .i64 (L - 1)) := ⟨_, rfl⟩
  have HC1 : Hid (Ch (· = g) w w1) := Lib.hid (by rw [hw1]; exact ch_set _ _ _ _)
  have HR1 := Lib.hid (H0.out.set hw1)
  have HT := Lib.hid (take_any w1 g B _ _ _ _ _ _ HR1.out (by decide))
  have x2 := blk_cell H0.out.box 2 rfl
  have f2 := blk_free H0.out.box 2
  have HLL : Hid (1 ≤ L ∧ L ≤ 100000) := Lib.hid (by simp only [Ex.els, List.length_cons, List.length_append, List.length_nil] at hL; omega)
  have hwr : IntKind.i64.wrap (L - 1) = L - 1 := IntWalk.i64_in _ (by have := HLL.out; omega)
  have HEL := Lib.hid hL
  clear h hL hL2
  go_enter Tryz.func138, Tryz.ntmps138
  go_upto_region 2 with fail
  rw [← hw1]
  clear hw1 x2 f2 hwr
  have x1 := blk_cell HR1.out.box 1 rfl
  have x2 := blk_cell HR1.out.box 2 rfl
  have hd : decide (L - 1 < 0) = false := decide_eq_false (by have := HLL.out; omega)
  have hd2 : ¬ (L - 1 < 0) := by have := HLL.out; omega
  have hd3 : 0 ≤ L - 1 := by have := HLL.out; omega
  go_upto_region 6 with (go_at_call 137
                         refine HT.out.mono ?_
                         rintro e w2 ⟨rfl, ⟨A2, n2, c2, hr2⟩, hc2⟩
                         have HR2 := Lib.hid hr2
                         have HC2 : Hid (Ch (· = g) w w2) := Lib.hid (HC1.out.trans hc2)
                         clear hr2 hc2)
  clear x1 x2 hd hd2 hd3
  have HS2 : Hid (B ≤ w2.heap.size) := Lib.hid (Nat.le_trans hB HC2.out.size)
  have HGL : Hid (g < w.heap.size) := Lib.hid H0.out.lt
  obtain ⟨w3, hw3⟩ : ∃ w3, w3 = w2.alloc (.cells #[.int .i64 3, .int .i64 0] 110) := ⟨_, rfl⟩
  have hb3 : Below w2.heap.size w2 w3 := by rw [hw3]; exact below_new _ _
  have HB3 := Lib.hid hb3
  have HLT : Hid (w3.ownsRow w2.heap.size 110 2 (.slice (some ⟨w2.heap.size, 0, none⟩) 1 1) 1 (ints (eNums [(3, 0)]))) := Lib.hid (by rw [hw3]; exact lit_el w2 3)
  have HI := Lib.hid (ih w3 g B A2 n2 c2 rest (L - 1) (HR2.out.below hb3) (by have h9 := HEL.out; simp only [Ex.els, List.length_cons] at h9 ⊢; omega) (by have := HLL.out; omega) (Nat.le_trans HS2.out hb3.size))
  have HLN : Hid (1 + a.els.length ≤ 1099511627776) := Lib.hid (by have h8 := HLL.out; have h9 := HEL.out; simp only [Ex.els, List.length_cons] at h9 ⊢; omega)
  clear hb3 ih
  go_wp2_with (first
    | (go_at_call 138
       try rw [← hw3]
       refine HI.out.mono ?_
       rintro e w4 ⟨A4, c4, A5, n5, c5, rfl, ho4, hr4, hc4⟩
       have HO4 := Lib.hid (ownN_rd ho4)
       have HR4 := Lib.hid hr4
       have HC4 : Hid (Ch (· = g) w w4) := Lib.hid ((HC2.out.trans (ch_below HB3.out)).trans hc4)
       have HL4 := Lib.hid (own_ch HLT.out hc4 (fun q hq e => by
         have h1 := (HLT.out.lt q hq).1
         have h2 := HGL.out
         have h3 := HC2.out.size
         have e2 : q = g := e
         omega))
       have HZ4 : Hid (w2.heap.size ≤ w4.heap.size) := Lib.hid (Nat.le_trans HB3.out.size hc4.size)
       clear ho4 hr4 hc4)
    | (at_builtin; go_must (refine wpList_appSN eltEl rfl _ _ rfl w4 w2.heap.size _ 1 _ (by rfl) HL4.out A4 a.els.length c4 _ (by rfl) HO4.out (ints_one1 _) HZ4.out HLN.out ?_); rintro A6 c6 w6 ho6 hb6 hg6
       have HO6 := Lib.hid ho6
       have HR6 := Lib.hid (HR4.out.row HL4.out hg6 (by decide) HS2.out)
       have HC6 : Hid (Ch (· = g) w w6) := Lib.hid ⟨hg6.os.trans HC4.out.os, hg6.tape.trans HC4.out.tape, hg6.output.trans HC4.out.output, Nat.le_trans HC4.out.size hg6.size, fun q hq hn => (hg6.block q (Nat.lt_of_lt_of_le hq HC4.out.size) (fun e => by have h1 := (HL4.out.lt q e.symm).1; have h2 := HC2.out.size; omega)).trans (HC4.out.block q hq hn)⟩
       clear ho6 hb6 hg6))
  go_ret
  have e1 : (1 + a.els.length) = (Ex.un (3, 0) a).els.length := by simp only [Ex.els, List.length_cons]; omega
  have h6 := HO6.out
  have h7 := HR6.out
  rw [app_nums'] at h6
  rw [show L - 1 - (a.els.length : Int) = L - (((Ex.un (3, 0) a).els.length : Nat) : Int) by rw [← e1]; omega] at h7
  rw [e1] at h6 ⊢
  exact ⟨A6, c6, A5, n5, c5, rfl, ownN_base h6 HC2.out.size, h7, HC6.out⟩
set_option maxHeartbeats 8000000 in
set_option maxRecDepth 100000 in
theorem exprY_u4 (a : Ex) (ih : (∀ (w : World) (g B : Nat) (A : Option Addr) (n c : Nat) (rest : List Nat) (L : Int), Rdr w g B A n c (a.rn ++ rest) L → (a.els.length : Int) ≤ L → L ≤ 100000 → B ≤ w.heap.size → Calls Tryz.prog 138 #[.pointer (some ⟨g, 0, none⟩)] w (ExQ w g B a rest L))) : ∀ (w : World) (g B : Nat) (A : Option Addr) (n c : Nat) (rest : List Nat) (L : Int), Rdr w g B A n c ((Ex.un (4, 0) a).rn ++ rest) L → ((Ex.un (4, 0) a).els.length : Int) ≤ L → L ≤ 100000 → B ≤ w.heap.size → Calls Tryz.prog 138 #[.pointer (some ⟨g, 0, none⟩)] w (ExQ w g B (Ex.un (4, 0) a) rest L) := by
  intro w g B A n c rest L h hL hL2 hB
  have H0 : Hid (Rdr w g B A n c (116 :: (a.rn ++ rest)) L) := Lib.hid (by have h9 := h; simp only [Ex.rn, lf, uf, sf, List.cons_append, List.append_assoc, List.nil_append, List.singleton_append] at h9; exact h9)
  obtain ⟨w1, hw1⟩ : ∃ w1, w1 = w.setCell ⟨g, 2, none⟩ (.int .i64 (L - 1)) := ⟨_, rfl⟩
  have HC1 : Hid (Ch (· = g) w w1) := Lib.hid (by rw [hw1]; exact ch_set _ _ _ _)
  have HR1 := Lib.hid (H0.out.set hw1)
  have HT := Lib.hid (take_any w1 g B _ _ _ _ _ _ HR1.out (by decide))
  have x2 := blk_cell H0.out.box 2 rfl
  have f2 := blk_free H0.out.box 2
  have HLL : Hid (1 ≤ L ∧ L ≤ 100000) := Lib.hid (by simp only [Ex.els, List.length_cons, List.length_append, List.length_nil] at hL; omega)
  have hwr : IntKind.i64.wrap (L - 1) = L - 1 := IntWalk.i64_in _ (by have := HLL.out; omega)
  have HEL := Lib.hid hL
  clear h hL hL2
  go_enter Tryz.func138, Tryz.ntmps138
  go_upto_region 2 with fail
  rw [← hw1]
  clear hw1 x2 f2 hwr
  have x1 := blk_cell HR1.out.box 1 rfl
  have x2 := blk_cell HR1.out.box 2 rfl
  have hd : decide (L - 1 < 0) = false := decide_eq_false (by have := HLL.out; omega)
  have hd2 : ¬ (L - 1 < 0) := by have := HLL.out; omega
  have hd3 : 0 ≤ L - 1 := by have := HLL.out; omega
  go_upto_region 6 with (go_at_call 137
                         refine HT.out.mono ?_
                         rintro e w2 ⟨rfl, ⟨A2, n2, c2, hr2⟩, hc2⟩
                         have HR2 := Lib.hid hr2
                         have HC2 : Hid (Ch (· = g) w w2) := Lib.hid (HC1.out.trans hc2)
                         clear hr2 hc2)
  clear x1 x2 hd hd2 hd3
  have HS2 : Hid (B ≤ w2.heap.size) := Lib.hid (Nat.le_trans hB HC2.out.size)
  have HGL : Hid (g < w.heap.size) := Lib.hid H0.out.lt
  obtain ⟨w3, hw3⟩ : ∃ w3, w3 = w2.alloc (.cells #[.int .i64 4, .int .i64 0] 110) := ⟨_, rfl⟩
  have hb3 : Below w2.heap.size w2 w3 := by rw [hw3]; exact below_new _ _
  have HB3 := Lib.hid hb3
  have HLT : Hid (w3.ownsRow w2.heap.size 110 2 (.slice (some ⟨w2.heap.size, 0, none⟩) 1 1) 1 (ints (eNums [(4, 0)]))) := Lib.hid (by rw [hw3]; exact lit_el w2 4)
  have HI := Lib.hid (ih w3 g B A2 n2 c2 rest (L - 1) (HR2.out.below hb3) (by have h9 := HEL.out; simp only [Ex.els, List.length_cons] at h9 ⊢; omega) (by have := HLL.out; omega) (Nat.le_trans HS2.out hb3.size))
  have HLN : Hid (1 + a.els.length ≤ 1099511627776) := Lib.hid (by have h8 := HLL.out; have h9 := HEL.out; simp only [Ex.els, List.length_cons] at h9 ⊢; omega)
  clear hb3 ih
  go_wp2_with (first
    | (go_at_call 138
       try rw [← hw3]
       refine HI.out.mono ?_
       rintro e w4 ⟨A4, c4, A5, n5, c5, rfl, ho4, hr4, hc4⟩
       have HO4 := Lib.hid (ownN_rd ho4)
       have HR4 := Lib.hid hr4
       have HC4 : Hid (Ch (· = g) w w4) := Lib.hid ((HC2.out.trans (ch_below HB3.out)).trans hc4)
       have HL4 := Lib.hid (own_ch HLT.out hc4 (fun q hq e => by
         have h1 := (HLT.out.lt q hq).1
         have h2 := HGL.out
         have h3 := HC2.out.size
         have e2 : q = g := e
         omega))
       have HZ4 : Hid (w2.heap.size ≤ w4.heap.size) := Lib.hid (Nat.le_trans HB3.out.size hc4.size)
       clear ho4 hr4 hc4)
    | (at_builtin; go_must (refine wpList_appSN eltEl rfl _ _ rfl w4 w2.heap.size _ 1 _ (by rfl) HL4.out A4 a.els.length c4 _ (by rfl) HO4.out (ints_one1 _) HZ4.out HLN.out ?_); rintro A6 c6 w6 ho6 hb6 hg6
       have HO6 := Lib.hid ho6
       have HR6 := Lib.hid (HR4.out.row HL4.out hg6 (by decide) HS2.out)
       have HC6 : Hid (Ch (· = g) w w6) := Lib.hid ⟨hg6.os.trans HC4.out.os, hg6.tape.trans HC4.out.tape, hg6.output.trans HC4.out.output, Nat.le_trans HC4.out.size hg6.size, fun q hq hn => (hg6.block q (Nat.lt_of_lt_of_le hq HC4.out.size) (fun e => by have h1 := (HL4.out.lt q e.symm).1; have h2 := HC2.out.size; omega)).trans (HC4.out.block q hq hn)⟩
       clear ho6 hb6 hg6))
  go_ret
  have e1 : (1 + a.els.length) = (Ex.un (4, 0) a).els.length := by simp only [Ex.els, List.length_cons]; omega
  have h6 := HO6.out
  have h7 := HR6.out
  rw [app_nums'] at h6
  rw [show L - 1 - (a.els.length : Int) = L - (((Ex.un (4, 0) a).els.length : Nat) : Int) by rw [← e1]; omega] at h7
  rw [e1] at h6 ⊢
  exact ⟨A6, c6, A5, n5, c5, rfl, ownN_base h6 HC2.out.size, h7, HC6.out⟩
set_option maxHeartbeats 8000000 in
set_option maxRecDepth 100000 in
theorem exprY_b2 (a b : Ex) (iha : (∀ (w : World) (g B : Nat) (A : Option Addr) (n c : Nat) (rest : List Nat) (L : Int), Rdr w g B A n c (a.rn ++ rest) L → (a.els.length : Int) ≤ L → L ≤ 100000 → B ≤ w.heap.size → Calls Tryz.prog 138 #[.pointer (some ⟨g, 0, none⟩)] w (ExQ w g B a rest L))) (ihb : (∀ (w : World) (g B : Nat) (A : Option Addr) (n c : Nat) (rest : List Nat) (L : Int), Rdr w g B A n c (b.rn ++ rest) L → (b.els.length : Int) ≤ L → L ≤ 100000 → B ≤ w.heap.size → Calls Tryz.prog 138 #[.pointer (some ⟨g, 0, none⟩)] w (ExQ w g B b rest L))) : ∀ (w : World) (g B : Nat) (A : Option Addr) (n c : Nat) (rest : List Nat) (L : Int), Rdr w g B A n c ((Ex.bin (2, 0) a b).rn ++ rest) L → ((Ex.bin (2, 0) a b).els.length : Int) ≤ L → L ≤ 100000 → B ≤ w.heap.size → Calls Tryz.prog 138 #[.pointer (some ⟨g, 0, none⟩)] w (ExQ w g B (Ex.bin (2, 0) a b) rest L) := by
  intro w g B A n c rest L h hL hL2 hB
  have H0 : Hid (Rdr w g B A n c (40 :: (a.rn ++ (46 :: (b.rn ++ (41 :: rest))))) L) := Lib.hid (by have h9 := h; simp only [Ex.rn, lf, uf, sf, List.cons_append, List.append_assoc, List.nil_append, List.singleton_append] at h9; exact h9)
  obtain ⟨w1, hw1⟩ : ∃ w1, w1 = w.setCell ⟨g, 2, none⟩ (.int .i64 (L - 1)) := ⟨_, rfl⟩
  have HC1 : Hid (Ch (· = g) w w1) := Lib.hid (by rw [hw1]; exact ch_set _ _ _ _)
  have HR1 := Lib.hid (H0.out.set hw1)
  have HT := Lib.hid (take_any w1 g B _ _ _ _ _ _ HR1.out (by decide))
  have x2 := blk_cell H0.out.box 2 rfl
  have f2 := blk_free H0.out.box 2
  have HLL : Hid (1 ≤ L ∧ L ≤ 100000) := Lib.hid (by simp only [Ex.els, List.length_cons, List.length_append, List.length_nil] at hL; omega)
  have hwr : IntKind.i64.wrap (L - 1) = L - 1 := IntWalk.i64_in _ (by have := HLL.out; omega)
  have HEL := Lib.hid hL
  clear h hL hL2
  go_enter Tryz.func138, Tryz.ntmps138
  go_upto_region 2 with fail
  rw [← hw1]
  clear hw1 x2 f2 hwr
  have x1 := blk_cell HR1.out.box 1 rfl
  have x2 := blk_cell HR1.out.box 2 rfl
  have hd : decide (L - 1 < 0) = false := decide_eq_false (by have := HLL.out; omega)
  have hd2 : ¬ (L - 1 < 0) := by have := HLL.out; omega
  have hd3 : 0 ≤ L - 1 := by have := HLL.out; omega
  go_upto_region 6 with (go_at_call 137
                         refine HT.out.mono ?_
                         rintro e w2 ⟨rfl, ⟨A2, n2, c2, hr2⟩, hc2⟩
                         have HR2 := Lib.hid hr2
                         have HC2 : Hid (Ch (· = g) w w2) := Lib.hid (HC1.out.trans hc2)
                         clear hr2 hc2)
  clear x1 x2 hd hd2 hd3
  have HS2 : Hid (B ≤ w2.heap.size) := Lib.hid (Nat.le_trans hB HC2.out.size)
  have HGL : Hid (g < w.heap.size) := Lib.hid H0.out.lt
  have HEA : Hid ((a.els.length : Int) + (b.els.length : Int) + 1 ≤ L) := Lib.hid (by have h9 := HEL.out; simp only [Ex.els, List.length_cons, List.length_append] at h9 ⊢; omega)
  have HIA := Lib.hid (iha w2 g B A2 n2 c2 _ (L - 1) HR2.out (by have := HEA.out; omega) (by have := HLL.out; omega) HS2.out)
  clear iha
  go_upto_region 16 with (go_at_call 138
                          refine HIA.out.mono ?_
                          rintro e w3 ⟨A3, c3, A4, n4, c4, rfl, ho, hr, hc⟩
                          have HO3 := Lib.hid ho
                          have HR3 := Lib.hid hr
                          have HC3 : Hid (Ch (· = g) w w3) := Lib.hid (HC2.out.trans hc)
                          clear ho hr hc)
  have HTB := Lib.hid (take_any w3 g B _ _ _ _ _ _ HR3.out (by decide))
  go_upto_region 18 with (go_at_call 137
                          refine HTB.out.mono ?_
                          rintro e w5 ⟨rfl, ⟨A5, n5, c5, hr⟩, hc⟩
                          have HR5 := Lib.hid hr
                          have HO5 := Lib.hid (own_ch HO3.out hc (fun q hq e => by
                            have h1 := (HO3.out.lt q hq).1
                            have h2 := HGL.out
                            have h3 := HC2.out.size
                            have e2 : q = g := e
                            omega))
                          have HC5 : Hid (Ch (· = g) w w5) := Lib.hid (HC3.out.trans hc)
                          clear hr hc)
  have HS5 : Hid (B ≤ w5.heap.size) := Lib.hid (Nat.le_trans hB HC5.out.size)
  have HIB := Lib.hid (ihb w5 g B A5 n5 c5 _ (L - 1 - (a.els.length : Int)) HR5.out (by have := HEA.out; omega) (by have := HLL.out; omega) HS5.out)
  clear ihb
  go_upto_region 19 with (go_at_call 138
                          refine HIB.out.mono ?_
                          rintro e w6 ⟨A6, c6, A7, n7, c7, rfl, ho, hr, hc⟩
                          have HO6 := Lib.hid ho
                          have HR6 := Lib.hid hr
                          have HP6 := Lib.hid (own_ch HO5.out hc (fun q hq e => by
                            have h1 := (HO5.out.lt q hq).1
                            have h2 := HGL.out
                            have h3 := HC2.out.size
                            have e2 : q = g := e
                            omega))
                          have HC6 : Hid (Ch (· = g) w w6) := Lib.hid (HC5.out.trans hc)
                          clear ho hr hc)
  have HTC := Lib.hid (take_any w6 g B _ _ _ _ _ _ HR6.out (by decide))
  go_upto_region 20 with (go_at_call 137
                          refine HTC.out.mono ?_
                          rintro e w8 ⟨rfl, ⟨A8, n8, c8, hr⟩, hc⟩
                          have HR8 := Lib.hid hr
                          have HQ8 := Lib.hid (ownN_rd (own_ch HO6.out hc (fun q hq e => by
                            have h1 := (HO6.out.lt q hq).1
                            have h2 := HGL.out
                            have h3 := HC5.out.size
                            have e2 : q = g := e
                            omega)))
                          have HP8 := Lib.hid (ownN_rd (own_ch HP6.out hc (fun q hq e => by
                            have h1 := (HP6.out.lt q hq).1
                            have h2 := HGL.out
                            have h3 := HC2.out.size
                            have e2 : q = g := e
                            omega)))
                          have HC8 : Hid (Ch (· = g) w w8) := Lib.hid (HC6.out.trans hc)
                          clear hr hc)
  obtain ⟨w9, hw9⟩ : ∃ w9, w9 = w8.alloc (.cells #[.int .i64 2, .int .i64 0] 110) := ⟨_, rfl⟩
  obtain ⟨w10, hw10⟩ : ∃ w10, w10 = w9.alloc (.cells #[.slice (some ⟨w8.heap.size, 0, none⟩) 1 1, .slice A3 a.els.length c3, .slice A6 b.els.length c6] 42) := ⟨_, rfl⟩
  have s9 : w9.heap.size = w8.heap.size + 1 := by rw [hw9]; simp
  have hb9 : Below w8.heap.size w8 w9 := by rw [hw9]; exact below_new _ _
  have hb10 : Below w8.heap.size w8 w10 := by rw [hw10]; exact hb9.alloc hb9.size _
  have HLT : Hid (Rd w10 (some ⟨w8.heap.size, 0, none⟩) (1 * 2) (ints (eNums [(2, 0)]))) := Lib.hid (by
    have h1 := ownN_rd (lit_el w8 2)
    rw [← hw9] at h1
    rw [hw10]; exact h1.alloc _)
  have HV : Hid (RdX w10 (some ⟨w8.heap.size + 1, 0, none⟩) 3 [[(2, 0)], a.els, b.els]) := Lib.hid (by
    refine ⟨[.slice (some ⟨w8.heap.size, 0, none⟩) 1 1, .slice A3 a.els.length c3, .slice A6 b.els.length c6], ?_, rfl, ?_⟩
    · rw [hw10, ← s9]; exact own_rd (own_lit w9 #[.slice (some ⟨w8.heap.size, 0, none⟩) 1 1, .slice A3 a.els.length c3, .slice A6 b.els.length c6] 3 42 rfl (by omega))
    · intro j v ys hj hy
      match j, hj, hy with
      | 0, hj, hy => injection hj with hj; injection hy with hy; subst hj hy; exact ⟨_, _, _, rfl, HLT.out⟩
      | 1, hj, hy => injection hj with hj; injection hy with hy; subst hj hy; exact ⟨_, _, _, rfl, HP8.out.below hb10 (Nat.le_refl _)⟩
      | 2, hj, hy => injection hj with hj; injection hy with hy; subst hj hy; exact ⟨_, _, _, rfl, HQ8.out.below hb10 (Nat.le_refl _)⟩
      | j + 3, hj, hy => simp at hj)
  have HCT := Lib.hid (concatE_any w10 _ 3 3 _ HV.out (by omega) (by have h8 := HLL.out; have h9 := HEA.out; simp [totX]; omega))
  have HR10 := Lib.hid (HR8.out.below hb10)
  have HC10 : Hid (Ch (· = g) w w10) := Lib.hid (HC8.out.trans (ch_below hb10))
  have hW : w10 = (w8.alloc (.cells #[.int .i64 2, .int .i64 0] 110)).alloc (.cells #[.slice (some ⟨w8.heap.size, 0, none⟩) 1 1, .slice A3 a.els.length c3, .slice A6 b.els.length c6] 42) := by rw [hw10, hw9]
  clear hw9 hw10 s9 hb9 hb10
  go_wp2_with (go_at_call 133
               rw [← hW]
               refine HCT.out.mono ?_
               rintro e w11 ⟨A11, n11, c11, rfl, ho, hb⟩
               have HO11 := Lib.hid ho
               have HR11 := Lib.hid (HR10.out.below hb)
               have HC11 : Hid (Ch (· = g) w w11) := Lib.hid (HC10.out.trans (ch_below hb))
               clear ho hb)
  go_ret
  have h6 := HO11.out
  have h7 := HR11.out
  have e0 : ([[(2, 0)], a.els, b.els] : List (List El)).flatten = (Ex.bin (2, 0) a b).els := by simp [Ex.els]
  rw [e0] at h6
  have e1 : n11 = (Ex.bin (2, 0) a b).els.length := by have h9 := h6.1; simp [eNums_len] at h9; omega
  have e2 : (Ex.bin (2, 0) a b).els.length = a.els.length + b.els.length + 1 := by simp [Ex.els]
  subst e1
  rw [show L - 1 - (a.els.length : Int) - (b.els.length : Int) = L - (((Ex.bin (2, 0) a b).els.length : Nat) : Int) by rw [e2]; omega] at h7
  exact ⟨A11, c11, _, _, _, rfl, ownN_base h6 HC10.out.size, h7, HC11.out⟩
set_option maxHeartbeats 8000000 in
set_option maxRecDepth 100000 in
theorem exprY_b5 (a b : Ex) (iha : (∀ (w : World) (g B : Nat) (A : Option Addr) (n c : Nat) (rest : List Nat) (L : Int), Rdr w g B A n c (a.rn ++ rest) L → (a.els.length : Int) ≤ L → L ≤ 100000 → B ≤ w.heap.size → Calls Tryz.prog 138 #[.pointer (some ⟨g, 0, none⟩)] w (ExQ w g B a rest L))) (ihb : (∀ (w : World) (g B : Nat) (A : Option Addr) (n c : Nat) (rest : List Nat) (L : Int), Rdr w g B A n c (b.rn ++ rest) L → (b.els.length : Int) ≤ L → L ≤ 100000 → B ≤ w.heap.size → Calls Tryz.prog 138 #[.pointer (some ⟨g, 0, none⟩)] w (ExQ w g B b rest L))) : ∀ (w : World) (g B : Nat) (A : Option Addr) (n c : Nat) (rest : List Nat) (L : Int), Rdr w g B A n c ((Ex.bin (5, 0) a b).rn ++ rest) L → ((Ex.bin (5, 0) a b).els.length : Int) ≤ L → L ≤ 100000 → B ≤ w.heap.size → Calls Tryz.prog 138 #[.pointer (some ⟨g, 0, none⟩)] w (ExQ w g B (Ex.bin (5, 0) a b) rest L) := by
  intro w g B A n c rest L h hL hL2 hB
  have H0 : Hid (Rdr w g B A n c (40 :: (a.rn ++ (63 :: (b.rn ++ (41 :: rest))))) L) := Lib.hid (by have h9 := h; simp only [Ex.rn, lf, uf, sf, List.cons_append, List.append_assoc, List.nil_append, List.singleton_append] at h9; exact h9)
  obtain ⟨w1, hw1⟩ : ∃ w1, w1 = w.setCell ⟨g, 2, none⟩ (.int .i64 (L - 1)) := ⟨_, rfl⟩
  have HC1 : Hid (Ch (· = g) w w1) := Lib.hid (by rw [hw1]; exact ch_set _ _ _ _)
  have HR1 := Lib.hid (H0.out.set hw1)
  have HT := Lib.hid (take_any w1 g B _ _ _ _ _ _ HR1.out (by decide))
  have x2 := blk_cell H0.out.box 2 rfl
  have f2 := blk_free H0.out.box 2
  have HLL : Hid (1 ≤ L ∧ L ≤ 100000) := Lib.hid (by simp only [Ex.els, List.length_cons, List.length_append, List.length_nil] at hL; omega)
  have hwr : IntKind.i64.wrap (L - 1) = L - 1 := IntWalk.i64_in _ (by have := HLL.out; omega)
  have HEL := Lib.hid hL
  clear h hL hL2
  go_enter Tryz.func138, Tryz.ntmps138
  go_upto_region 2 with fail
  rw [← hw1]
  clear hw1 x2 f2 hwr
  have x1 := blk_cell HR1.out.box 1 rfl
  have x2 := blk_cell HR1.out.box 2 rfl
  have hd : decide (L - 1 < 0) = false := decide_eq_false (by have := HLL.out; omega)
  have hd2 : ¬ (L - 1 < 0) := by have := HLL.out; omega
  have hd3 : 0 ≤ L - 1 := by have := HLL.out; omega
  go_upto_region 6 with (go_at_call 137
                         refine HT.out.mono ?_
                         rintro e w2 ⟨rfl, ⟨A2, n2, c2, hr2⟩, hc2⟩
                         have HR2 := Lib.hid hr2
                         have HC2 : Hid (Ch (· = g) w w2) := Lib.hid (HC1.out.trans hc2)
                         clear hr2 hc2)
  clear x1 x2 hd hd2 hd3
  have HS2 : Hid (B ≤ w2.heap.size) := Lib.hid (Nat.le_trans hB HC2.out.size)
  have HGL : Hid (g < w.heap.size) := Lib.hid H0.out.lt
  have HEA : Hid ((a.els.length : Int) + (b.els.length : Int) + 1 ≤ L) := Lib.hid (by have h9 := HEL.out; simp only [Ex.els, List.length_cons, List.length_append] at h9 ⊢; omega)
  have HIA := Lib.hid (iha w2 g B A2 n2 c2 _ (L - 1) HR2.out (by have := HEA.out; omega) (by have := HLL.out; omega) HS2.out)
  clear iha
  go_upto_region 16 with (go_at_call 138
                          refine HIA.out.mono ?_
                          rintro e w3 ⟨A3, c3, A4, n4, c4, rfl, ho, hr, hc⟩
                          have HO3 := Lib.hid ho
                          have HR3 := Lib.hid hr
                          have HC3 : Hid (Ch (· = g) w w3) := Lib.hid (HC2.out.trans hc)
                          clear ho hr hc)
  have HTB := Lib.hid (take_any w3 g B _ _ _ _ _ _ HR3.out (by decide))
  go_upto_region 18 with (go_at_call 137
                          refine HTB.out.mono ?_
                          rintro e w5 ⟨rfl, ⟨A5, n5, c5, hr⟩, hc⟩
                          have HR5 := Lib.hid hr
                          have HO5 := Lib.hid (own_ch HO3.out hc (fun q hq e => by
                            have h1 := (HO3.out.lt q hq).1
                            have h2 := HGL.out
                            have h3 := HC2.out.size
                            have e2 : q = g := e
                            omega))
                          have HC5 : Hid (Ch (· = g) w w5) := Lib.hid (HC3.out.trans hc)
                          clear hr hc)
  have HS5 : Hid (B ≤ w5.heap.size) := Lib.hid (Nat.le_trans hB HC5.out.size)
  have HIB := Lib.hid (ihb w5 g B A5 n5 c5 _ (L - 1 - (a.els.length : Int)) HR5.out (by have := HEA.out; omega) (by have := HLL.out; omega) HS5.out)
  clear ihb
  go_upto_region 19 with (go_at_call 138
                          refine HIB.out.mono ?_
                          rintro e w6 ⟨A6, c6, A7, n7, c7, rfl, ho, hr, hc⟩
                          have HO6 := Lib.hid ho
                          have HR6 := Lib.hid hr
                          have HP6 := Lib.hid (own_ch HO5.out hc (fun q hq e => by
                            have h1 := (HO5.out.lt q hq).1
                            have h2 := HGL.out
                            have h3 := HC2.out.size
                            have e2 : q = g := e
                            omega))
                          have HC6 : Hid (Ch (· = g) w w6) := Lib.hid (HC5.out.trans hc)
                          clear ho hr hc)
  have HTC := Lib.hid (take_any w6 g B _ _ _ _ _ _ HR6.out (by decide))
  go_upto_region 20 with (go_at_call 137
                          refine HTC.out.mono ?_
                          rintro e w8 ⟨rfl, ⟨A8, n8, c8, hr⟩, hc⟩
                          have HR8 := Lib.hid hr
                          have HQ8 := Lib.hid (ownN_rd (own_ch HO6.out hc (fun q hq e => by
                            have h1 := (HO6.out.lt q hq).1
                            have h2 := HGL.out
                            have h3 := HC5.out.size
                            have e2 : q = g := e
                            omega)))
                          have HP8 := Lib.hid (ownN_rd (own_ch HP6.out hc (fun q hq e => by
                            have h1 := (HP6.out.lt q hq).1
                            have h2 := HGL.out
                            have h3 := HC2.out.size
                            have e2 : q = g := e
                            omega)))
                          have HC8 : Hid (Ch (· = g) w w8) := Lib.hid (HC6.out.trans hc)
                          clear hr hc)
  obtain ⟨w9, hw9⟩ : ∃ w9, w9 = w8.alloc (.cells #[.int .i64 5, .int .i64 0] 110) := ⟨_, rfl⟩
  obtain ⟨w10, hw10⟩ : ∃ w10, w10 = w9.alloc (.cells #[.slice (some ⟨w8.heap.size, 0, none⟩) 1 1, .slice A3 a.els.length c3, .slice A6 b.els.length c6] 42) := ⟨_, rfl⟩
  have s9 : w9.heap.size = w8.heap.size + 1 := by rw [hw9]; simp
  have hb9 : Below w8.heap.size w8 w9 := by rw [hw9]; exact below_new _ _
  have hb10 : Below w8.heap.size w8 w10 := by rw [hw10]; exact hb9.alloc hb9.size _
  have HLT : Hid (Rd w10 (some ⟨w8.heap.size, 0, none⟩) (1 * 2) (ints (eNums [(5, 0)]))) := Lib.hid (by
    have h1 := ownN_rd (lit_el w8 5)
    rw [← hw9] at h1
    rw [hw10]; exact h1.alloc _)
  have HV : Hid (RdX w10 (some ⟨w8.heap.size + 1, 0, none⟩) 3 [[(5, 0)], a.els, b.els]) := Lib.hid (by
    refine ⟨[.slice (some ⟨w8.heap.size, 0, none⟩) 1 1, .slice A3 a.els.length c3, .slice A6 b.els.length c6], ?_, rfl, ?_⟩
    · rw [hw10, ← s9]; exact own_rd (own_lit w9 #[.slice (some ⟨w8.heap.size, 0, none⟩) 1 1, .slice A3 a.els.length c3, .slice A6 b.els.length c6] 3 42 rfl (by omega))
    · intro j v ys hj hy
      match j, hj, hy with
      | 0, hj, hy => injection hj with hj; injection hy with hy; subst hj hy; exact ⟨_, _, _, rfl, HLT.out⟩
      | 1, hj, hy => injection hj with hj; injection hy with hy; subst hj hy; exact ⟨_, _, _, rfl, HP8.out.below hb10 (Nat.le_refl _)⟩
      | 2, hj, hy => injection hj with hj; injection hy with hy; subst hj hy; exact ⟨_, _, _, rfl, HQ8.out.below hb10 (Nat.le_refl _)⟩
      | j + 3, hj, hy => simp at hj)
  have HCT := Lib.hid (concatE_any w10 _ 3 3 _ HV.out (by omega) (by have h8 := HLL.out; have h9 := HEA.out; simp [totX]; omega))
  have HR10 := Lib.hid (HR8.out.below hb10)
  have HC10 : Hid (Ch (· = g) w w10) := Lib.hid (HC8.out.trans (ch_below hb10))
  have hW : w10 = (w8.alloc (.cells #[.int .i64 5, .int .i64 0] 110)).alloc (.cells #[.slice (some ⟨w8.heap.size, 0, none⟩) 1 1, .slice A3 a.els.length c3, .slice A6 b.els.length c6] 42) := by rw [hw10, hw9]
  clear hw9 hw10 s9 hb9 hb10
  go_wp2_with (go_at_call 133
               rw [← hW]
               refine HCT.out.mono ?_
               rintro e w11 ⟨A11, n11, c11, rfl, ho, hb⟩
               have HO11 := Lib.hid ho
               have HR11 := Lib.hid (HR10.out.below hb)
               have HC11 : Hid (Ch (· = g) w w11) := Lib.hid (HC10.out.trans (ch_below hb))
               clear ho hb)
  go_ret
  have h6 := HO11.out
  have h7 := HR11.out
  have e0 : ([[(5, 0)], a.els, b.els] : List (List El)).flatten = (Ex.bin (5, 0) a b).els := by simp [Ex.els]
  rw [e0] at h6
  have e1 : n11 = (Ex.bin (5, 0) a b).els.length := by have h9 := h6.1; simp [eNums_len] at h9; omega
  have e2 : (Ex.bin (5, 0) a b).els.length = a.els.length + b.els.length + 1 := by simp [Ex.els]
  subst e1
  rw [show L - 1 - (a.els.length : Int) - (b.els.length : Int) = L - (((Ex.bin (5, 0) a b).els.length : Nat) : Int) by rw [e2]; omega] at h7
  exact ⟨A11, c11, _, _, _, rfl, ownN_base h6 HC10.out.size, h7, HC11.out⟩
theorem exprY_any : ∀ (x : Ex), x.ok → (∀ (w : World) (g B : Nat) (A : Option Addr) (n c : Nat) (rest : List Nat) (L : Int), Rdr w g B A n c (x.rn ++ rest) L → (x.els.length : Int) ≤ L → L ≤ 100000 → B ≤ w.heap.size → Calls Tryz.prog 138 #[.pointer (some ⟨g, 0, none⟩)] w (ExQ w g B x rest L))
  | .leaf x, h => by
    rcases h with rfl | ⟨d, hd, rfl⟩
    · exact exprY_n
    · match d, hd with
      | 0, _ => exact exprY_v0
      | 1, _ => exact exprY_v1
      | 2, _ => exact exprY_v2
      | 3, _ => exact exprY_v3
      | 4, _ => exact exprY_v4
      | 5, _ => exact exprY_v5
  | .un x a, h => by
    obtain ⟨h1, h2⟩ := h
    rcases h1 with rfl | rfl
    · exact exprY_u3 a (exprY_any a h2)
    · exact exprY_u4 a (exprY_any a h2)
  | .bin x a b, h => by
    obtain ⟨h1, h2, h3⟩ := h
    rcases h1 with rfl | rfl
    · exact exprY_b2 a b (exprY_any a h2) (exprY_any b h3)
    · exact exprY_b5 a b (exprY_any a h2) (exprY_any b h3)
end Go.Proofs.YtadmbphefpfbmaaGreatDoor
