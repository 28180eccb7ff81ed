/- Two counters: whether a program and its counters are valid; one step. Written by mk_cnti2.py. -/
import Derived.Test.YtbecofpklndpaaaCntI
import Derived.Test.YtbecofpklndpaaaFoot
namespace Go.Proofs.Ytbecofpklndpaaa
open Go.RowKit
set_option linter.unusedSimpArgs false
set_option linter.unusedVariables false

/-- The index that a search returns: not negative just where something was found. -/
def FoundN (w : World) (bad : Bool) (e : Ending) (w' : World) : Prop := ∃ i : Int, e = .returned (.int .i64 i) ∧ decide (0 ≤ i) = bad ∧ Below w.heap.size w w'
set_option maxHeartbeats 1000000 in
theorem indexFuncVP (w : World) (A : Option Addr) (n c : Nat) (ps : List Ins) (hr : Rd w A (n * 4) (ints (flatI ps))) (hn : n ≤ 1099511627776) (g c2 : Nat) (hg : g < w.heap.size) (hcg : w.cell? ⟨g, 0, none⟩ = some (.slice A n c2)) :
    Calls Try.prog 233 #[.slice A n c, .func (.func 174) #[] #[.pointer (some ⟨g, 0, none⟩)]] w (FoundN w (!ps.all (okIns n))) := by
  have HL : Hid (ps.length = n) := Lib.hid (by have := hr.1; simp [flatI_len] at this; omega)
  go_enter Try.func233, Try.ntmps233
  go_wp2_with fail
  go_loopw [8] (fun q wr => ∃ k : Nat, k ≤ n ∧ q = .int .i64 k ∧ Hid ((ps.take k).all (okIns n) = true) ∧ Below w.heap.size w wr) (fun q _ => n - (intOf q).toNat)
  case atStart => exact ⟨0, Nat.zero_le _, rfl, Lib.hid (by simp), Below.refl _ _⟩
  case round =>
    obtain ⟨k, hk, rfl, hall, hb⟩ := hrel
    by_cases h1 : k < n
    · obtain ⟨x, hx⟩ := get_some (xs := ps) (k := k) (by rw [HL.out]; omega)
      obtain ⟨b, off, rfl, hbs, q0, q1, q2, q3⟩ := rdI hr hx
      replace q0 := (hb.cell (p := ⟨b, off + k * 4, none⟩) hbs).trans q0
      replace q1 := (hb.cell (p := ⟨b, off + k * 4 + 1, none⟩) hbs).trans q1
      replace q2 := (hb.cell (p := ⟨b, off + k * 4 + 2, none⟩) hbs).trans q2
      replace q3 := (hb.cell (p := ⟨b, off + k * 4 + 3, none⟩) hbs).trans q3
      have HX := Lib.hid hx
      clear hx
      by_cases hin : (okIns n) x = true
      · go_wp2_with (go_at_call 174; refine (validProgram1_any _ x g _ n c2 (Nat.lt_of_lt_of_le hg hb.size) ((hb.cell (p := ⟨g, 0, none⟩) hg).trans hcg) hn).mono ?_; rintro e w' ⟨rfl, hb2⟩)
        go_roundw
        case rel => exact ⟨k + 1, by omega, by go_num, Lib.hid (all_step hall.out HX.out hin), hb.trans (hb2.mono hb.size)⟩
        case measure => simp [intOf]; omega
      · have hin' : (okIns n) x = false := by simpa using hin
        clear hin
        go_wp2_with (go_at_call 174; refine (validProgram1_any _ x g _ n c2 (Nat.lt_of_lt_of_le hg hb.size) ((hb.cell (p := ⟨g, 0, none⟩) hg).trans hcg) hn).mono ?_; rintro e w' ⟨rfl, hb2⟩)
        go_ret
        exact ⟨k, rfl, by rw [all_out HX.out hin']; simp, hb.trans (hb2.mono hb.size)⟩
    · go_wp2_with fail
      go_ret
      have h := hall.out
      rw [List.take_of_length_le (by rw [HL.out]; omega)] at h
      exact ⟨-1, rfl, by rw [h]; rfl, hb⟩
set_option maxHeartbeats 400000 in
theorem containsFuncVP (w : World) (A : Option Addr) (n c : Nat) (ps : List Ins) (hr : Rd w A (n * 4) (ints (flatI ps))) (hn : n ≤ 1099511627776) (g c2 : Nat) (hg : g < w.heap.size) (hcg : w.cell? ⟨g, 0, none⟩ = some (.slice A n c2)) :
    Calls Try.prog 173 #[.slice A n c, .func (.func 174) #[] #[.pointer (some ⟨g, 0, none⟩)]] w (RetV w (.bool (!ps.all (okIns n)))) := by
  go_enter Try.func173, Try.ntmps173
  go_wp2_with fail
  refine (indexFuncVP _ _ _ _ _ hr hn g c2 hg hcg).mono ?_
  rintro e w' ⟨i, rfl, hi, hb⟩
  have HI := Lib.hid hi; clear hi
  go_wp2_with fail
  go_ret
  exact ⟨by rw [← HI.out]; rfl, hb⟩

set_option maxHeartbeats 400000 in
theorem isTwoCounter1_any (w : World) (x : Ins) : Calls Try.prog 239 #[insV x] w fun e w' => e = .returned (.bool (!lowReg x)) ∧ Below w.heap.size w w' := by
  obtain ⟨kd, rg, th, el⟩ := x
  have HG : Hid (lowReg ⟨kd, rg, th, el⟩ = decide (rg ≤ 1)) := Lib.hid rfl
  go_enter Try.func239, Try.ntmps239
  go_wp2_with fail
  go_ret
  refine ⟨?_, below_new _ _⟩
  rw [HG.out]
  congr 2
  by_cases h : rg ≤ 1 <;> simp [h] <;> omega
set_option maxHeartbeats 1000000 in
theorem indexFuncTC (w : World) (A : Option Addr) (n c : Nat) (ps : List Ins) (hr : Rd w A (n * 4) (ints (flatI ps))) (hn : n ≤ 1099511627776) :
    Calls Try.prog 233 #[.slice A n c, .func (.func 239) #[] #[]] w (FoundN w (!ps.all lowReg)) := by
  have HL : Hid (ps.length = n) := Lib.hid (by have := hr.1; simp [flatI_len] at this; omega)
  go_enter Try.func233, Try.ntmps233
  go_wp2_with fail
  go_loopw [8] (fun q wr => ∃ k : Nat, k ≤ n ∧ q = .int .i64 k ∧ Hid ((ps.take k).all lowReg = true) ∧ Below w.heap.size w wr) (fun q _ => n - (intOf q).toNat)
  case atStart => exact ⟨0, Nat.zero_le _, rfl, Lib.hid (by simp), Below.refl _ _⟩
  case round =>
    obtain ⟨k, hk, rfl, hall, hb⟩ := hrel
    by_cases h1 : k < n
    · obtain ⟨x, hx⟩ := get_some (xs := ps) (k := k) (by rw [HL.out]; omega)
      obtain ⟨b, off, rfl, hbs, q0, q1, q2, q3⟩ := rdI hr hx
      replace q0 := (hb.cell (p := ⟨b, off + k * 4, none⟩) hbs).trans q0
      replace q1 := (hb.cell (p := ⟨b, off + k * 4 + 1, none⟩) hbs).trans q1
      replace q2 := (hb.cell (p := ⟨b, off + k * 4 + 2, none⟩) hbs).trans q2
      replace q3 := (hb.cell (p := ⟨b, off + k * 4 + 3, none⟩) hbs).trans q3
      have HX := Lib.hid hx
      clear hx
      by_cases hin : lowReg x = true
      · go_wp2_with (go_at_call 239; refine (isTwoCounter1_any _ x).mono ?_; rintro e w' ⟨rfl, hb2⟩)
        go_roundw
        case rel => exact ⟨k + 1, by omega, by go_num, Lib.hid (all_step hall.out HX.out hin), hb.trans (hb2.mono hb.size)⟩
        case measure => simp [intOf]; omega
      · have hin' : lowReg x = false := by simpa using hin
        clear hin
        go_wp2_with (go_at_call 239; refine (isTwoCounter1_any _ x).mono ?_; rintro e w' ⟨rfl, hb2⟩)
        go_ret
        exact ⟨k, rfl, by rw [all_out HX.out hin']; simp, hb.trans (hb2.mono hb.size)⟩
    · go_wp2_with fail
      go_ret
      have h := hall.out
      rw [List.take_of_length_le (by rw [HL.out]; omega)] at h
      exact ⟨-1, rfl, by rw [h]; rfl, hb⟩
set_option maxHeartbeats 400000 in
theorem containsFuncTC (w : World) (A : Option Addr) (n c : Nat) (ps : List Ins) (hr : Rd w A (n * 4) (ints (flatI ps))) (hn : n ≤ 1099511627776) :
    Calls Try.prog 173 #[.slice A n c, .func (.func 239) #[] #[]] w (RetV w (.bool (!ps.all lowReg))) := by
  go_enter Try.func173, Try.ntmps173
  go_wp2_with fail
  refine (indexFuncTC _ _ _ _ _ hr hn).mono ?_
  rintro e w' ⟨i, rfl, hi, hb⟩
  have HI := Lib.hid hi; clear hi
  go_wp2_with fail
  go_ret
  exact ⟨by rw [← HI.out]; rfl, hb⟩

set_option maxHeartbeats 1000000 in
theorem ValidProgram_any (w : World) (A : Option Addr) (n c : Nat) (ps : List Ins) (hr : Rd w A (n * 4) (ints (flatI ps))) (hn : n ≤ 1099511627776) : Calls Try.prog 84 #[.slice A n c] w (RetV w (.bool (okProg ps))) := by
  have HL : Hid (ps.length = n) := Lib.hid (by have := hr.1; simp [flatI_len] at this; omega)
  by_cases h4 : n ≤ 400
  · have hd : decide ((n : Int) ≤ 400) = true := by simp; omega
    have HO : Hid (okProg ps = ps.all (okIns n)) := Lib.hid (by rw [okProg, HL.out]; simp [h4])
    have hc0 : (w.alloc (.cells #[.slice A n c] 60)).cell? ⟨w.heap.size, 0, none⟩ = some (.slice A n c) := by
      rw [cell_of_row _ w.heap.size _ _ _ (0, 0) (heap_alloc_new w _)]; rfl
    have HC := Lib.hid hc0; clear hc0
    have hr1 := hr.alloc (.cells #[.slice A n c] 60)
    go_enter Try.func84, Try.ntmps84
    go_wp2_with (go_at_call 173; refine (containsFuncVP _ _ _ _ _ hr1 hn w.heap.size c (by simp) HC.out).mono ?_; rintro e w' ⟨rfl, hb2⟩)
    go_ret
    exact ⟨by rw [HO.out]; simp, (below_new _ _).trans (hb2.mono (by simp))⟩
  · have hd : decide ((n : Int) ≤ 400) = false := by simp; omega
    have HO : Hid (okProg ps = false) := Lib.hid (by rw [okProg, HL.out]; simp; omega)
    go_enter Try.func84, Try.ntmps84
    go_wp2_with fail
    go_ret
    exact ⟨by rw [HO.out]; rfl, below_new _ _⟩

set_option maxHeartbeats 400000 in
theorem IsTwoCounter_any (w : World) (A : Option Addr) (n c : Nat) (ps : List Ins) (hr : Rd w A (n * 4) (ints (flatI ps))) (hn : n ≤ 1099511627776) : Calls Try.prog 200 #[.slice A n c] w (RetV w (.bool (twoC ps))) := by
  cases hP : okProg ps with
  | false =>
    have HO : Hid (twoC ps = false) := Lib.hid (by rw [twoC, hP]; rfl)
    have HP := Lib.hid hP; clear hP
    go_enter Try.func200, Try.ntmps200
    go_wp2_with (go_at_call 84; refine (ValidProgram_any _ _ _ _ _ hr hn).mono ?_; rw [HP.out]; rintro e w1 ⟨rfl, hb1⟩)
    go_ret
    exact ⟨by rw [HO.out]; rfl, hb1⟩
  | true =>
    have HO : Hid (twoC ps = ps.all lowReg) := Lib.hid (by rw [twoC, hP]; rfl)
    have HP := Lib.hid hP; clear hP
    go_enter Try.func200, Try.ntmps200
    go_wp2_with (first
      | (go_at_call 84; refine (ValidProgram_any _ _ _ _ _ hr hn).mono ?_; rw [HP.out]; rintro e w1 ⟨rfl, hb1⟩)
      | (go_at_call 173; refine (containsFuncTC _ _ _ _ _ (hr.below hb1 (Nat.le_refl _)) hn).mono ?_; rintro e w2 ⟨rfl, hb2⟩))
    go_ret
    exact ⟨by rw [HO.out]; simp, hb1.trans (hb2.mono hb1.size)⟩

theorem box3 (w : World) (T : Nat) (a b c : Value) : ((w.alloc (.cells #[a, b, c] T)).cell? ⟨w.heap.size, 0, none⟩ = some a ∧ (w.alloc (.cells #[a, b, c] T)).cell? ⟨w.heap.size, 1, none⟩ = some b ∧ (w.alloc (.cells #[a, b, c] T)).cell? ⟨w.heap.size, 2, none⟩ = some c) := by
  refine ⟨?_, ?_, ?_⟩ <;> rw [cell_of_row _ w.heap.size _ _ T (0, 0) (heap_alloc_new w _)] <;> rfl

set_option maxHeartbeats 1000000 in
theorem validCounters_any (w : World) (A : Option Addr) (n c : Nat) (hn : n ≤ 1099511627776) (x : Cnt) : Calls Try.prog 201 #[.slice A n c, cntV x] w (RetV w (.bool (goodC n x))) := by
  obtain ⟨at_, a, b⟩ := x
  obtain ⟨q0, q1, q2⟩ := box3 w 57 (.int .i64 at_) (.int .i64 a) (.int .i64 b)
  rcases goodC_cases n at_ a b with ⟨h1, hG⟩ | ⟨h1, h2, hG⟩ | ⟨h1, h2, hG⟩
  all_goals
    have HG := Lib.hid hG
    clear hG
    go_enter Try.func201, Try.ntmps201
    go_wp2_with fail
    go_quiet ((first
      | (go_at_call 119; exact Calls.quiet_of_same ((sizeInstr_any _ _ _ _ hn).mono fun e w' h => ⟨h.1, h.2.symm⟩))
      | (go_at_call 98; exact Calls.quiet_of_same ((within_any _ _ _ _).mono fun e w' h => ⟨h.1, h.2.symm⟩))))
    go_wp2_with fail
    go_ret
    exact ⟨by rw [HG.out]; rfl, below_drewN (below_new _ _)⟩
end Go.Proofs.Ytbecofpklndpaaa
