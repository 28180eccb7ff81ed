/- Programs of registers: joined programs (program). -/
import Derived.Test.YtgnboemmlohahaaRrB
namespace Go.Proofs.Ytgnboemmlohahaa
open Go.RowKit
set_option linter.unusedVariables false
set_option linter.unusedSimpArgs false
attribute [local go_sem ↓] Go.wp_at_zero Go.wp_at_succ
theorem join_eq {p q : List Ins} {n m : Nat} (hp : p.length = n) : p ++ q.map (redI (m : Int) ((n : Int) + (m : Int)) (n : Int)) = joinR p q := by
  rw [Int.add_comm, redI_sh, joinR, hp]
theorem rd_len {w : World} {A : Option Addr} {n : Nat} {p : List Ins} (h : Rd w A (n * 4) (ints (flatI p))) : p.length = n := by
  have h3 := h.1; simp only [List.length_map, flatI_len] at h3; omega
theorem ok_len {p : List Ins} (h : okProg p = true) : p.length ≤ 400 := by
  simp only [okProg, Bool.and_eq_true, decide_eq_true_eq] at h; exact h.2
set_option maxHeartbeats 2000000 in
set_option maxRecDepth 100000 in
theorem joinPrograms_any (w : World) (A : Option Addr) (n c : Nat) (p : List Ins) (hr : Rd w A (n * 4) (ints (flatI p))) (hp : okProg p = true) (A' : Option Addr) (n' c' : Nat) (q : List Ins) (hr' : Rd w A' (n' * 4) (ints (flatI q))) (hq : okProg q = true) :
    Calls Try.prog 15 #[.slice A n c, .slice A' n' c'] w (fun e w' => ∃ g A3 c3, e = .returned (.pointer (some ⟨g, 0, none⟩)) ∧ BL w' w.heap.size g A3 (n + n') c3 (joinR p q) ∧ Below w.heap.size w w') := by
  have hn : n ≤ 400 := by have := ok_len hp; have := rd_len hr; omega
  have hn' : n' ≤ 400 := by have := ok_len hq; have := rd_len hr'; omega
  have HPL := Lib.hid (rd_len hr)
  have HN := Lib.hid hn
  obtain ⟨w1, hw1⟩ : ∃ w1, w1 = w.alloc (.cells #[.slice none 0 0] 70) := ⟨_, rfl⟩
  have hb1 : Below w.heap.size w w1 := by rw [hw1]; exact below_new _ _
  have hx1 : BL w1 w.heap.size w.heap.size none 0 0 [] := ⟨by rw [hw1]; exact box_new _ _ _, ownN_nil _ _ _ _, Nat.le_refl _⟩
  have H1 := Lib.hid (part_any w w1 hb1 w.heap.size none 0 0 [] hx1 (by omega) A n c p hr hp (n : Int))
  have H2 := Lib.hid (fun (w2 : World) (A3 : Option Addr) (c3 : Nat) (hb2 : Below w.heap.size w w2) (hx2 : BL w2 w.heap.size w.heap.size A3 n c3 p) => part_any w w2 hb2 w.heap.size A3 n c3 p hx2 hn A' n' c' q hr' hq ((n : Int) + (n' : Int)))
  have hwr := wr_of (x := (n : Int) + (n' : Int)) (by omega) (by omega)
  clear hr hp hr' hq hx1 hb1
  go_enter Try.func15, Try.ntmps15
  go_upto_region 2 with fail
  rw [← hw1]
  clear hw1
  go_wp2_with (first
    | (go_at_call 21; refine (sizeInstr_any _ _ _ _ (by omega)).mono ?_; rintro e w' ⟨rfl, rfl⟩)
    | (go_at_call 35
       have hq := H1.out
       refine H1.out.mono ?_
       rintro e w2 ⟨A3, c3, rfl, hx2, hb2⟩
       rw [Nat.zero_add] at hx2
       have hx3 : BL w2 w.heap.size w.heap.size A3 n c3 p := by rw [List.nil_append, show ((0 : Nat) : Int) = 0 from rfl, redI_id] at hx2; exact hx2
       have H3 := Lib.hid (H2.out w2 A3 c3 hb2 hx3)
       clear hx2 hb2 H1 hx3 hq)
    | (go_at_call 35
       refine H3.out.mono ?_
       rintro e w4 ⟨A4, c4, rfl, hx4, hb4⟩
       have HX4 := Lib.hid hx4; have HB4 := Lib.hid hb4
       clear hx4 hb4))
  go_ret
  refine ⟨_, A4, c4, rfl, ?_, HB4.out⟩
  have h5 := HX4.out
  rwa [join_eq HPL.out] at h5
set_option maxHeartbeats 400000 in
theorem done_any (w : World) (lo g : Nat) (A : Option Addr) (n c : Nat) (ps : List Ins) (hx : BL w lo g A n c ps) (hn : n ≤ 400) :
    Calls Try.prog 16 #[.pointer (some ⟨g, 0, none⟩)] w (fun e w' => e = .returned (.tuple #[.slice A n c, .int .i64 0]) ∧ w = w') := by
  have x0 := blk_cell hx.box 0 rfl
  have hd : decide ((n : Int) > 400) = false := by simp; omega
  go_enter Try.func16, Try.ntmps16
  go_wp2_with fail
  go_ret2
  exact ⟨rfl, rfl⟩
set_option maxHeartbeats 1000000 in
theorem JoinPrograms_any (w : World) (A : Option Addr) (n c : Nat) (p : List Ins) (hr : Rd w A (n * 4) (ints (flatI p))) (hp : okProg p = true) (A' : Option Addr) (n' c' : Nat) (q : List Ins) (hr' : Rd w A' (n' * 4) (ints (flatI q))) (hq : okProg q = true) (hnn : n + n' ≤ 400) :
    Calls Try.prog 6 #[.slice A n c, .slice A' n' c'] w (fun e w' => ∃ A3 c3, e = .returned (.tuple #[.slice A3 (n + n') c3, .int .i64 0]) ∧ w'.ownsRow w.heap.size 49 4 (.slice A3 (n + n') c3) (n + n') (ints (flatI (joinR p q))) ∧ Below w.heap.size w w') := by
  have H1 := ValidProgram_any w A n c p hr (by omega)
  rw [hp] at H1
  replace H1 := Lib.hid H1
  have H2 := Lib.hid (fun (w2 : World) (hb2 : Below w.heap.size w w2) => ValidProgram_any w2 A' n' c' q (hr'.below hb2 (Nat.le_refl _)) (by omega))
  have H3 := Lib.hid (fun (w2 : World) (hb2 : Below w.heap.size w w2) => joinPrograms_any w2 A n c p (hr.below hb2 (Nat.le_refl _)) hp A' n' c' q (hr'.below hb2 (Nat.le_refl _)) hq)
  rw [hq] at H2
  have HNN := Lib.hid hnn
  clear hr hp hr' hq
  go_enter Try.func6, Try.ntmps6
  go_wp2_with (first
    | (go_at_call 8
       have hq := H1.out
       refine H1.out.mono ?_
       rintro e w2 ⟨rfl, hb2⟩
       have H22 := Lib.hid (H2.out w2 hb2)
       have HB2 := Lib.hid hb2
       clear hb2 H1 hq)
    | (go_at_call 8
       refine H22.out.mono ?_
       rintro e w3 ⟨rfl, hb3⟩
       have HB3 : Hid (Below w.heap.size w w3) := Lib.hid (bqc hb3 HB2.out)
       have H33 := Lib.hid (H3.out w3 HB3.out)
       clear hb3)
    | (go_at_call 15
       refine H33.out.mono ?_
       rintro e w4 ⟨g4, A4, c4, rfl, hx4, hb4⟩
       have HD := Lib.hid (done_any w4 _ g4 A4 (n + n') c4 _ hx4 hnn)
       have HX4 := Lib.hid hx4; have HB4 := Lib.hid hb4
       clear hx4 hb4)
    | (go_at_call 16
       refine HD.out.mono ?_
       rintro e w' ⟨rfl, rfl⟩))
  go_ret2
  exact ⟨A4, c4, rfl, ownN_base HX4.out.row HB3.out.size, bqc HB4.out HB3.out⟩
end Go.Proofs.Ytgnboemmlohahaa
