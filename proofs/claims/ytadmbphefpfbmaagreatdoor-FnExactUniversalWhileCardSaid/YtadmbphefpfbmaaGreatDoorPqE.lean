/- The reader of programs: digits (program). Printed by mk_pqe.py. -/
import Derived.Test.YtadmbphefpfbmaaGreatDoorGJ
import Derived.Test.YtadmbphefpfbmaaGreatDoorPqA
namespace Go.Proofs.YtadmbphefpfbmaaGreatDoor
open Go.RowKit
set_option linter.unusedVariables false
set_option linter.unusedSimpArgs false
attribute [local go_sem ↓] Go.wp_at_zero Go.wp_at_succ
set_option maxHeartbeats 400000 in
theorem digit0_any (w : World) (g B : Nat) (A : Option Addr) (n c : Nat) (L : Int) (rs : List Nat) (h : Rdr w g B A n c rs L) : Calls Tryz.prog 140 #[.pointer (some ⟨g, 0, none⟩), .int .i32 48] w fun e w' => e = .returned (.int .i64 0) ∧ Rdr w' g B A n c rs L ∧ Ch (· = g) w w' := by
  have x1 := blk_cell h.box 1 rfl
  have f1 := blk_free h.box 1
  obtain ⟨w2, hw2⟩ : ∃ w2, w2 = w.setCell ⟨g, 1, none⟩ (.bool false) := ⟨_, rfl⟩
  have HC : Hid (Ch (· = g) w w2) := Lib.hid (by rw [hw2]; exact ch_set _ _ _ _)
  have HR : Hid (Rdr w2 g B A n c rs L) := Lib.hid ⟨by rw [hw2]; simpa using blk_set h.box 1 (.bool false), ch_rdP h.rd HC.out (fun hn b off e => h.ne hn b off e), h.ne, h.cap, h.lo⟩
  clear h
  go_enter Tryz.func140, Tryz.ntmps140
  go_wp2_with fail
  go_ret
  try rw [← hw2]
  exact ⟨rfl, HR.out, HC.out⟩
set_option maxHeartbeats 400000 in
theorem digit1_any (w : World) (g B : Nat) (A : Option Addr) (n c : Nat) (L : Int) (rs : List Nat) (h : Rdr w g B A n c rs L) : Calls Tryz.prog 140 #[.pointer (some ⟨g, 0, none⟩), .int .i32 49] w fun e w' => e = .returned (.int .i64 1) ∧ Rdr w' g B A n c rs L ∧ Ch (· = g) w w' := by
  have x1 := blk_cell h.box 1 rfl
  have f1 := blk_free h.box 1
  obtain ⟨w2, hw2⟩ : ∃ w2, w2 = w.setCell ⟨g, 1, none⟩ (.bool false) := ⟨_, rfl⟩
  have HC : Hid (Ch (· = g) w w2) := Lib.hid (by rw [hw2]; exact ch_set _ _ _ _)
  have HR : Hid (Rdr w2 g B A n c rs L) := Lib.hid ⟨by rw [hw2]; simpa using blk_set h.box 1 (.bool false), ch_rdP h.rd HC.out (fun hn b off e => h.ne hn b off e), h.ne, h.cap, h.lo⟩
  clear h
  go_enter Tryz.func140, Tryz.ntmps140
  go_wp2_with fail
  go_ret
  try rw [← hw2]
  exact ⟨rfl, HR.out, HC.out⟩
set_option maxHeartbeats 400000 in
theorem digit2_any (w : World) (g B : Nat) (A : Option Addr) (n c : Nat) (L : Int) (rs : List Nat) (h : Rdr w g B A n c rs L) : Calls Tryz.prog 140 #[.pointer (some ⟨g, 0, none⟩), .int .i32 50] w fun e w' => e = .returned (.int .i64 2) ∧ Rdr w' g B A n c rs L ∧ Ch (· = g) w w' := by
  have x1 := blk_cell h.box 1 rfl
  have f1 := blk_free h.box 1
  obtain ⟨w2, hw2⟩ : ∃ w2, w2 = w.setCell ⟨g, 1, none⟩ (.bool false) := ⟨_, rfl⟩
  have HC : Hid (Ch (· = g) w w2) := Lib.hid (by rw [hw2]; exact ch_set _ _ _ _)
  have HR : Hid (Rdr w2 g B A n c rs L) := Lib.hid ⟨by rw [hw2]; simpa using blk_set h.box 1 (.bool false), ch_rdP h.rd HC.out (fun hn b off e => h.ne hn b off e), h.ne, h.cap, h.lo⟩
  clear h
  go_enter Tryz.func140, Tryz.ntmps140
  go_wp2_with fail
  go_ret
  try rw [← hw2]
  exact ⟨rfl, HR.out, HC.out⟩
set_option maxHeartbeats 400000 in
theorem digit3_any (w : World) (g B : Nat) (A : Option Addr) (n c : Nat) (L : Int) (rs : List Nat) (h : Rdr w g B A n c rs L) : Calls Tryz.prog 140 #[.pointer (some ⟨g, 0, none⟩), .int .i32 51] w fun e w' => e = .returned (.int .i64 3) ∧ Rdr w' g B A n c rs L ∧ Ch (· = g) w w' := by
  have x1 := blk_cell h.box 1 rfl
  have f1 := blk_free h.box 1
  obtain ⟨w2, hw2⟩ : ∃ w2, w2 = w.setCell ⟨g, 1, none⟩ (.bool false) := ⟨_, rfl⟩
  have HC : Hid (Ch (· = g) w w2) := Lib.hid (by rw [hw2]; exact ch_set _ _ _ _)
  have HR : Hid (Rdr w2 g B A n c rs L) := Lib.hid ⟨by rw [hw2]; simpa using blk_set h.box 1 (.bool false), ch_rdP h.rd HC.out (fun hn b off e => h.ne hn b off e), h.ne, h.cap, h.lo⟩
  clear h
  go_enter Tryz.func140, Tryz.ntmps140
  go_wp2_with fail
  go_ret
  try rw [← hw2]
  exact ⟨rfl, HR.out, HC.out⟩
set_option maxHeartbeats 400000 in
theorem digit4_any (w : World) (g B : Nat) (A : Option Addr) (n c : Nat) (L : Int) (rs : List Nat) (h : Rdr w g B A n c rs L) : Calls Tryz.prog 140 #[.pointer (some ⟨g, 0, none⟩), .int .i32 52] w fun e w' => e = .returned (.int .i64 4) ∧ Rdr w' g B A n c rs L ∧ Ch (· = g) w w' := by
  have x1 := blk_cell h.box 1 rfl
  have f1 := blk_free h.box 1
  obtain ⟨w2, hw2⟩ : ∃ w2, w2 = w.setCell ⟨g, 1, none⟩ (.bool false) := ⟨_, rfl⟩
  have HC : Hid (Ch (· = g) w w2) := Lib.hid (by rw [hw2]; exact ch_set _ _ _ _)
  have HR : Hid (Rdr w2 g B A n c rs L) := Lib.hid ⟨by rw [hw2]; simpa using blk_set h.box 1 (.bool false), ch_rdP h.rd HC.out (fun hn b off e => h.ne hn b off e), h.ne, h.cap, h.lo⟩
  clear h
  go_enter Tryz.func140, Tryz.ntmps140
  go_wp2_with fail
  go_ret
  try rw [← hw2]
  exact ⟨rfl, HR.out, HC.out⟩
set_option maxHeartbeats 400000 in
theorem digit5_any (w : World) (g B : Nat) (A : Option Addr) (n c : Nat) (L : Int) (rs : List Nat) (h : Rdr w g B A n c rs L) : Calls Tryz.prog 140 #[.pointer (some ⟨g, 0, none⟩), .int .i32 53] w fun e w' => e = .returned (.int .i64 5) ∧ Rdr w' g B A n c rs L ∧ Ch (· = g) w w' := by
  have x1 := blk_cell h.box 1 rfl
  have f1 := blk_free h.box 1
  obtain ⟨w2, hw2⟩ : ∃ w2, w2 = w.setCell ⟨g, 1, none⟩ (.bool false) := ⟨_, rfl⟩
  have HC : Hid (Ch (· = g) w w2) := Lib.hid (by rw [hw2]; exact ch_set _ _ _ _)
  have HR : Hid (Rdr w2 g B A n c rs L) := Lib.hid ⟨by rw [hw2]; simpa using blk_set h.box 1 (.bool false), ch_rdP h.rd HC.out (fun hn b off e => h.ne hn b off e), h.ne, h.cap, h.lo⟩
  clear h
  go_enter Tryz.func140, Tryz.ntmps140
  go_wp2_with fail
  go_ret
  try rw [← hw2]
  exact ⟨rfl, HR.out, HC.out⟩
theorem digitV_any (w : World) (g B : Nat) (A : Option Addr) (n c : Nat) (L : Int) (rs : List Nat) (h : Rdr w g B A n c rs L) (d : Nat) (hd : d ≤ 5) : Calls Tryz.prog 140 #[.pointer (some ⟨g, 0, none⟩), .int .i32 ((48 + d : Nat) : Int)] w fun e w' => e = .returned (.int .i64 (d : Int)) ∧ Rdr w' g B A n c rs L ∧ Ch (· = g) w w' := by
  match d, hd with
  | 0, _ => exact digit0_any w g B A n c L rs h
  | 1, _ => exact digit1_any w g B A n c L rs h
  | 2, _ => exact digit2_any w g B A n c L rs h
  | 3, _ => exact digit3_any w g B A n c L rs h
  | 4, _ => exact digit4_any w g B A n c L rs h
  | 5, _ => exact digit5_any w g B A n c L rs h
end Go.Proofs.YtadmbphefpfbmaaGreatDoor
