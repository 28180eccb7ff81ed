/- Whether no other variable than 0 occurs in a program: both functions. Partly written by mk_find.py. -/
import Derived.Test.YtaadobggenbbdaaGreatDoorCdM
namespace Go.Proofs.YtaadobggenbbdaaGreatDoor
open Go.RowKit
set_option linter.unusedVariables false
set_option linter.unusedSimpArgs false
set_option maxHeartbeats 1000000 in
theorem zeroClo_any (w : World) (x : Cmd) (A : Option Addr) (n c : Nat) (hr : RdE w A n x.e) (hn : n ≤ 1000000000) : Calls Tryz.prog 70 #[.agg #[.int .i64 x.k, .int .i64 x.v, .int .i64 x.l, .slice A n c]] w (RetV w (.bool (!ozC x))) := by
  obtain ⟨xk, xv, xl, xe⟩ := x
  simp only at hr ⊢
  have hr2 := hr.below (below_new w (.cells #[.int .i64 xk, .int .i64 xv, .int .i64 xl, .slice A n c] 53)) (Nat.le_refl _)
  by_cases h0 : xv = 0
  · subst h0
    have HQ : Hid (ozC ⟨xk, 0, xl, xe⟩ = only0 xe) := Lib.hid (by simp [ozC])
    go_enter Tryz.func70, Tryz.ntmps70
    go_wp2_with fail
    refine (onlyZero_any _ _ _ _ _ hr2 hn).mono ?_
    rintro e w2 ⟨rfl, hb2⟩
    generalize only0 xe = q at HQ
    go_wp2_with fail
    go_ret
    exact ⟨by rw [HQ.out]; rfl, (box_step hb2).1⟩
  · have b1 : (xv == 0) = false := by simpa using h0
    have b2 : (xv != 0) = true := by simpa using h0
    have HQ : Hid (ozC ⟨xk, xv, xl, xe⟩ = false) := Lib.hid (by simp [ozC, h0])
    go_enter Tryz.func70, Tryz.ntmps70
    go_wp2_with fail
    go_ret
    exact ⟨by rw [HQ.out]; rfl, below_new _ _⟩
set_option maxHeartbeats 1000000 in
theorem indexFuncZC (w : World) (A : Option Addr) (n c : Nat) (ps : List Cmd) (hr : RdC w A n ps) (hn : n ≤ 1000000) :
    Calls Tryz.prog 97 #[.slice A n c, .func (.func 70) #[] #[]] w (FoundN w (!ps.all ozC)) := by
  have HL : Hid (ps.length = n) := Lib.hid (hr.len)
  go_enter Tryz.func97, Tryz.ntmps97
  go_wp2_with fail
  go_loopw [8] (fun q wr => ∃ k : Nat, k ≤ n ∧ q = .int .i64 k ∧ Hid ((ps.take k).all ozC = true) ∧ Below w.heap.size w wr) (fun q _ => n - (intOf q).toNat)
  case atStart => exact ⟨0, Nat.zero_le _, rfl, Lib.hid (by simp), Below.refl _ _⟩
  case round =>
    obtain ⟨k, hk, rfl, hall, hb⟩ := hrel
    by_cases h1 : k < n
    · obtain ⟨x, hx⟩ := get_some (xs := ps) (k := k) (by rw [HL.out]; omega)
      obtain ⟨b, off, A', n', c', hA, hbs, q0, q1, q2, q3, hn', hnc', hre⟩ := hr.at_ hx
      subst hA
      replace q0 := (hb.cell (p := ⟨b, off + k * 4, none⟩) hbs).trans q0
      replace q1 := (hb.cell (p := ⟨b, off + k * 4 + 1, none⟩) hbs).trans q1
      replace q2 := (hb.cell (p := ⟨b, off + k * 4 + 2, none⟩) hbs).trans q2
      replace q3 := (hb.cell (p := ⟨b, off + k * 4 + 3, none⟩) hbs).trans q3
      replace hre := hre.below hb (Nat.le_refl _)
      have HX := Lib.hid hx
      clear hx
      by_cases hin : ozC x = true
      · go_wp2_with (go_at_call 70; refine (zeroClo_any _ x _ _ _ hre hn').mono ?_; rintro e w' ⟨rfl, hb2⟩)
        go_roundw
        case rel => exact ⟨k + 1, by omega, by go_num, Lib.hid (all_step hall.out HX.out hin), hb.trans (hb2.mono hb.size)⟩
        case measure => simp [intOf]; omega
      · have hin' : ozC x = false := by simpa using hin
        clear hin
        go_wp2_with (go_at_call 70; refine (zeroClo_any _ x _ _ _ hre hn').mono ?_; rintro e w' ⟨rfl, hb2⟩)
        go_ret
        exact ⟨k, rfl, by rw [all_out HX.out hin']; simp, hb.trans (hb2.mono hb.size)⟩
    · go_wp2_with fail
      go_ret
      have h := hall.out
      rw [List.take_of_length_le (by rw [HL.out]; omega)] at h
      exact ⟨-1, rfl, by rw [h]; rfl, hb⟩
set_option maxHeartbeats 400000 in
theorem containsFuncZC (w : World) (A : Option Addr) (n c : Nat) (ps : List Cmd) (hr : RdC w A n ps) (hn : n ≤ 1000000) :
    Calls Tryz.prog 69 #[.slice A n c, .func (.func 70) #[] #[]] w (RetV w (.bool (!ps.all ozC))) := by
  go_enter Tryz.func69, Tryz.ntmps69
  go_wp2_with fail
  refine (indexFuncZC _ _ _ _ _ hr hn).mono ?_
  rintro e w' ⟨i, rfl, hi, hb⟩
  have HI := Lib.hid hi; clear hi
  go_wp2_with fail
  go_ret
  exact ⟨by rw [← HI.out]; rfl, hb⟩
set_option maxHeartbeats 1000000 in
theorem zeroCode_any (w : World) (A : Option Addr) (n c : Nat) (ps : List Cmd) (hr : RdC w A n ps) (hn : n ≤ 1000000) : Calls Tryz.prog 40 #[.slice A n c] w (RetV w (.int .i64 (if ozW ps then 0 else 2))) := by
  cases hz : ozW ps with
  | true =>
    have HZ : Hid (ps.all ozC = true) := Lib.hid hz
    go_enter Tryz.func40, Tryz.ntmps40
    go_wp2_with fail
    refine (containsFuncZC _ _ _ _ _ hr hn).mono ?_
    rw [HZ.out]
    rintro e w2 ⟨rfl, hb2⟩
    go_wp2_with fail
    go_ret
    exact ⟨rfl, hb2⟩
  | false =>
    have HZ : Hid (ps.all ozC = false) := Lib.hid hz
    go_enter Tryz.func40, Tryz.ntmps40
    go_wp2_with fail
    refine (containsFuncZC _ _ _ _ _ hr hn).mono ?_
    rw [HZ.out]
    rintro e w2 ⟨rfl, hb2⟩
    go_wp2_with fail
    go_ret
    exact ⟨rfl, hb2⟩
set_option maxHeartbeats 2000000 in
theorem l23OnlyAll_any (w : World) (A : Option Addr) (n c : Nat) (ps : List Cmd) (hr : RdC w A n ps) (hn : n ≤ 1000000) : Calls Tryz.prog 129 #[.slice A n c] w (RetV w (.bool (ozW ps))) := by
  have HL : Hid (ps.length = n) := Lib.hid hr.len
  go_enter Tryz.func129, Tryz.ntmps129
  go_wp2_with fail
  go_loopw [3] (fun q wr => ∃ k : Nat, k ≤ n ∧ q = .int .i64 k ∧ Hid ((ps.take k).all ozC = true) ∧ Below w.heap.size w wr) (fun q _ => n - (intOf q).toNat)
  case atStart => exact ⟨0, Nat.zero_le _, rfl, Lib.hid (by simp), Below.refl _ _⟩
  case round =>
    obtain ⟨k, hk, rfl, hall, hb⟩ := hrel
    by_cases hlt : k < n
    · have hlt' : (k : Int) < (n : Int) := by omega
      obtain ⟨x, hx⟩ := get_some (xs := ps) (k := k) (by rw [HL.out]; omega)
      obtain ⟨b, off, A', n', c', hA, hbs, q0, q1, q2, q3, hn', hnc', hre⟩ := hr.at_ hx
      subst hA
      replace q0 := (hb.cell (p := ⟨b, off + k * 4, none⟩) hbs).trans q0
      replace q1 := (hb.cell (p := ⟨b, off + k * 4 + 1, none⟩) hbs).trans q1
      replace q2 := (hb.cell (p := ⟨b, off + k * 4 + 2, none⟩) hbs).trans q2
      replace q3 := (hb.cell (p := ⟨b, off + k * 4 + 3, none⟩) hbs).trans q3
      replace hre := hre.below hb (Nat.le_refl _)
      have HX := Lib.hid hx
      clear hx
      obtain ⟨xk, xv, xl, xe⟩ := x
      simp only at q0 q1 q2 hre
      by_cases h0 : xv = 0
      · subst h0
        cases hz : only0 xe with
        | true =>
          have HZ := Lib.hid hz
          have HQ : Hid (ozC ⟨xk, 0, xl, xe⟩ = true) := Lib.hid (by simp [ozC, hz])
          clear hz
          go_wp2_with (go_at_call 142; go_must (refine (l23Only_any _ _ _ _ _ hre hn').mono ?_; rw [HZ.out]; rintro e w' ⟨rfl, rfl⟩))
          go_roundw
          case rel => exact ⟨k + 1, by omega, by go_num, Lib.hid (all_step hall.out HX.out HQ.out), hb⟩
          case measure => simp [intOf]; omega
        | false =>
          have HZ := Lib.hid hz
          have HQ : Hid (ozW ps = false) := Lib.hid (all_out HX.out (by simp [ozC, hz]))
          clear hz
          go_wp2_with (go_at_call 142; go_must (refine (l23Only_any _ _ _ _ _ hre hn').mono ?_; rw [HZ.out]; rintro e w' ⟨rfl, rfl⟩))
          go_ret
          exact ⟨by rw [HQ.out]; rfl, hb⟩
      · have b1 : (xv == 0) = false := by simpa using h0
        have b2 : (xv != 0) = true := by simpa using h0
        have HQ : Hid (ozW ps = false) := Lib.hid (all_out HX.out (by simp [ozC, h0]))
        go_wp2_with fail
        go_ret
        exact ⟨by rw [HQ.out]; rfl, hb⟩
    · have h : ozW ps = true := by have h := hall.out; rw [List.take_of_length_le (by rw [HL.out]; omega)] at h; exact h
      have HQ := Lib.hid h
      clear h
      go_wp2_with fail
      go_ret
      exact ⟨by rw [HQ.out]; rfl, hb⟩
end Go.Proofs.YtaadobggenbbdaaGreatDoor
