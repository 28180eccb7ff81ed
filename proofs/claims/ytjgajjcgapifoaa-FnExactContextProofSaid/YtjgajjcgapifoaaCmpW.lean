/- Words: compared; the tests of a word and of words. Written by mk_cmpw.py out of Wr. -/
import Derived.Test.YtjgajjcgapifoaaPrfM
import Derived.Test.YtjgajjcgapifoaaCut
import Derived.Test.YtjgajjcgapifoaaMchN
namespace Go.Proofs.Ytjgajjcgapifoaa
open Go.RowKit
set_option linter.unusedVariables false
set_option linter.unusedSimpArgs false
set_option maxHeartbeats 400000 in
theorem isNaN_any (w : World) (x : Int) : Calls Try.prog 158 #[.int .i64 x] w fun e w' => e = .returned (.bool false) ∧ w = w' := by
  have h : (x != x) = false := by simp
  go_enter Try.func158, Try.ntmps158
  go_wp2_with fail
  go_ret
  exact ⟨rfl, rfl⟩
set_option maxHeartbeats 400000 in
theorem cmpI_any (w : World) (x y : Int) : Calls Try.prog 149 #[.int .i64 x, .int .i64 y] w fun e w' => e = .returned (.int .i64 (sgn x y)) ∧ w = w' := by
  by_cases h1 : x < y
  · have HS : Hid (sgn x y = -1) := Lib.hid (by simp [sgn, h1])
    go_enter Try.func149, Try.ntmps149
    go_wp2_with (go_at_call 158; refine (isNaN_any _ _).mono ?_; rintro e w' ⟨rfl, rfl⟩)
    go_ret
    exact ⟨by rw [HS.out]; rfl, rfl⟩
  · by_cases h2 : y < x
    · have HS : Hid (sgn x y = 1) := Lib.hid (by simp [sgn, h1, h2])
      go_enter Try.func149, Try.ntmps149
      go_wp2_with (go_at_call 158; refine (isNaN_any _ _).mono ?_; rintro e w' ⟨rfl, rfl⟩)
      go_ret
      exact ⟨by rw [HS.out]; rfl, rfl⟩
    · have HS : Hid (sgn x y = 0) := Lib.hid (by simp [sgn, h1, h2])
      go_enter Try.func149, Try.ntmps149
      go_wp2_with (go_at_call 158; refine (isNaN_any _ _).mono ?_; rintro e w' ⟨rfl, rfl⟩)
      go_ret
      exact ⟨by rw [HS.out]; rfl, rfl⟩
set_option maxHeartbeats 1000000 in
theorem compare_any (w : World) (A A' : Option Addr) (n c n' c' : Nat) (xs ys : List Int) (hr : Rd w A n (ints xs)) (hr' : Rd w A' n' (ints ys)) (hn : n ≤ 1000000000) (hn' : n' ≤ 1000000000) :
    Calls Try.prog 127 #[.slice A n c, .slice A' n' c'] w fun e w' => e = .returned (.int .i64 (cmpL xs ys)) ∧ w = w' := by
  have HL : Hid (xs.length = n) := Lib.hid (by simpa using hr.1)
  have HL' : Hid (ys.length = n') := Lib.hid (by simpa using hr'.1)
  go_enter Try.func127, Try.ntmps127
  go_wp2_with fail
  go_loop [11] (fun q => ∃ k : Nat, k ≤ n ∧ k ≤ n' ∧ q = .int .i64 k ∧ Hid (cmpL xs ys = cmpL (xs.drop k) (ys.drop k))) (fun q => n - (intOf q).toNat)
  case atStart => exact ⟨0, Nat.zero_le _, Nat.zero_le _, rfl, Lib.hid (by simp)⟩
  case round =>
    obtain ⟨k, hk, hk', rfl, HC⟩ := hrel
    by_cases h1 : k < n
    · obtain ⟨x, hx⟩ := get_some (xs := xs) (k := k) (by rw [HL.out]; omega)
      obtain ⟨b, off, rfl, hbk, hcx⟩ := hr.at_ (ints_get hx)
      by_cases h2 : k < n'
      · obtain ⟨y, hy⟩ := get_some (xs := ys) (k := k) (by rw [HL'.out]; omega)
        obtain ⟨b', off', rfl, hbk', hcy⟩ := hr'.at_ (ints_get hy)
        have hge : ¬ (n' : Int) ≤ (k : Int) := by omega
        have hge2 : ¬ n' ≤ k := by omega
        have HX := Lib.hid hx; have HY := Lib.hid hy; clear hx hy
        by_cases h3 : sgn x y = 0
        · have HN : Hid (cmpL xs ys = cmpL (xs.drop (k + 1)) (ys.drop (k + 1))) := Lib.hid (by rw [HC.out, drop_get HX.out, drop_get HY.out, cmpL_eq h3])
          have H3 := Lib.hid h3; clear h3
          go_wp2_with (go_at_call 149; refine (cmpI_any _ _ _).mono ?_; rw [H3.out]; rintro e w' ⟨rfl, rfl⟩)
          go_round
          case rel => exact ⟨k + 1, by omega, by omega, by go_num, HN⟩
          case measure => simp [intOf]; omega
        · have HN : Hid (cmpL xs ys = sgn x y) := Lib.hid (by rw [HC.out, drop_get HX.out, drop_get HY.out, cmpL_ne h3])
          have h4 : (sgn x y != 0) = true := by simpa using h3
          have h5 : ¬ sgn x y = 0 := h3
          go_wp2_with (go_at_call 149; refine (cmpI_any _ _ _).mono ?_; rintro e w' ⟨rfl, rfl⟩)
          go_ret
          exact ⟨by rw [HN.out]; rfl, rfl⟩
      · have hge : (n' : Int) ≤ (k : Int) := by omega
        have hge2 : n' ≤ k := by omega
        have HN : Hid (cmpL xs ys = 1) := Lib.hid (by rw [HC.out, drop_get hx, List.drop_of_length_le (l := ys) (by rw [HL'.out]; omega)]; rfl)
        clear hx
        go_wp2_with fail
        go_ret
        exact ⟨by rw [HN.out]; rfl, rfl⟩
    · have e1 : xs.drop k = [] := List.drop_of_length_le (by rw [HL.out]; omega)
      by_cases h2 : n < n'
      · have HN : Hid (cmpL xs ys = -1) := Lib.hid (by
          obtain ⟨y, hy⟩ := get_some (xs := ys) (k := k) (by rw [HL'.out]; omega)
          rw [HC.out, e1, drop_get hy]; rfl)
        clear e1
        go_wp2_with fail
        go_ret
        exact ⟨by rw [HN.out]; rfl, rfl⟩
      · have HN : Hid (cmpL xs ys = 0) := Lib.hid (by rw [HC.out, e1, List.drop_of_length_le (l := ys) (by rw [HL'.out]; omega)]; rfl)
        clear e1
        go_wp2_with fail
        go_ret
        exact ⟨by rw [HN.out]; rfl, rfl⟩
set_option maxHeartbeats 400000 in
theorem isLetters_any (w : World) (A : Option Addr) (n c : Nat) (xs : List Int) (hr : Rd w A n (ints xs)) (hn : n ≤ 1000000000) : Calls Try.prog 171 #[.slice A n c] w fun e w' => e = .returned (.bool (allIn xs 0 9)) ∧ w = w' := by
  go_enter Try.func171, Try.ntmps171
  go_wp2_with (go_at_call 77; refine (allWithin_any _ _ _ _ xs hr (by omega) _ _).mono ?_; rintro e w' ⟨rfl, rfl⟩)
  go_ret
  exact ⟨rfl, rfl⟩
set_option maxHeartbeats 400000 in
theorem IsWord_any (w : World) (A : Option Addr) (n c : Nat) (xs : List Int) (hr : Rd w A n (ints xs)) (hn : n ≤ 1000000000) : Calls Try.prog 156 #[.slice A n c] w fun e w' => e = .returned (.bool (wordB xs)) ∧ w = w' := by
  have hl : xs.length = n := by simpa using hr.1
  by_cases h : n ≤ 400
  · have h1 : decide ((n : Int) ≤ 400) = true := decide_eq_true (by omega)
    have h2 : decide (n ≤ 400) = true := decide_eq_true h
    have HO : Hid (wordB xs = allIn xs 0 9) := Lib.hid (by simp [wordB, hl, h])
    clear hl
    go_enter Try.func156, Try.ntmps156
    go_wp2_with (go_at_call 171; refine (isLetters_any _ _ _ _ xs hr (by omega)).mono ?_; rintro e w' ⟨rfl, rfl⟩)
    go_ret
    exact ⟨by rw [HO.out]; rfl, rfl⟩
  · have h1 : decide ((n : Int) ≤ 400) = false := decide_eq_false (by omega)
    have h2 : decide (n ≤ 400) = false := decide_eq_false h
    have HO : Hid (wordB xs = false) := Lib.hid (by simp [wordB, hl, h])
    clear hl
    go_enter Try.func156, Try.ntmps156
    go_wp2_with fail
    go_ret
    exact ⟨by rw [HO.out]; rfl, rfl⟩
set_option maxHeartbeats 400000 in
theorem areWords1_any (w : World) (A : Option Addr) (n c : Nat) (xs : List Int) (hr : Rd w A n (ints xs)) (hn : n ≤ 1000000000) :
    Calls Try.prog 155 #[.slice A n c] w (RetV w (.bool (!wordB xs))) := by
  go_enter Try.func155, Try.ntmps155
  go_wp2_with (go_at_call 156; refine (IsWord_any _ _ _ _ xs hr hn).mono ?_; rintro e w' ⟨rfl, rfl⟩)
  go_ret
  exact ⟨rfl, Below.refl _ _⟩
set_option maxHeartbeats 1000000 in
theorem indexFuncAW (w : World) (A : Option Addr) (n c : Nat) (ps : List (List Int)) (hr : RdL w A n ps) (hn : n ≤ 1000000000) :
    Calls Try.prog 148 #[.slice A n c, .func (.func 155) #[] #[]] w (FoundN w (!ps.all wordB)) := by
  have HL : Hid (ps.length = n) := Lib.hid (hr.len)
  go_enter Try.func148, Try.ntmps148
  go_wp2_with fail
  go_loopw [8] (fun q wr => ∃ k : Nat, k ≤ n ∧ q = .int .i64 k ∧ Hid ((ps.take k).all wordB = true) ∧ Below w.heap.size w wr) (fun q _ => n - (intOf q).toNat)
  case atStart => exact ⟨0, Nat.zero_le _, rfl, Lib.hid (by simp), Below.refl _ _⟩
  case round =>
    obtain ⟨k, hk, rfl, hall, hb⟩ := hrel
    by_cases h1 : k < n
    · obtain ⟨x, hx⟩ := get_some (xs := ps) (k := k) (by rw [HL.out]; omega)
      obtain ⟨b, off, A', n', c', rfl, hbs, hc, hn', hr'⟩ := hr.at_ hx
      replace hc := (hb.cell (p := ⟨b, off + k, none⟩) hbs).trans hc
      replace hr' := hr'.below hb (Nat.le_refl _)
      have HX := Lib.hid hx
      clear hx
      by_cases hin : wordB x = true
      · go_wp2_with (go_at_call 155; refine (areWords1_any _ _ _ _ x hr' hn').mono ?_; rintro e w' ⟨rfl, hb2⟩)
        go_roundw
        case rel => exact ⟨k + 1, by omega, by go_num, Lib.hid (all_step hall.out HX.out hin), hb.trans (hb2.mono hb.size)⟩
        case measure => simp [intOf]; omega
      · have hin' : wordB x = false := by simpa using hin
        clear hin
        go_wp2_with (go_at_call 155; refine (areWords1_any _ _ _ _ x hr' hn').mono ?_; rintro e w' ⟨rfl, hb2⟩)
        go_ret
        exact ⟨k, rfl, by rw [all_out HX.out hin']; simp, hb.trans (hb2.mono hb.size)⟩
    · go_wp2_with fail
      go_ret
      have h := hall.out
      rw [List.take_of_length_le (by rw [HL.out]; omega)] at h
      exact ⟨-1, rfl, by rw [h]; rfl, hb⟩
set_option maxHeartbeats 400000 in
theorem containsFuncAW (w : World) (A : Option Addr) (n c : Nat) (ps : List (List Int)) (hr : RdL w A n ps) (hn : n ≤ 1000000000) :
    Calls Try.prog 122 #[.slice A n c, .func (.func 155) #[] #[]] w (RetV w (.bool (!ps.all wordB))) := by
  go_enter Try.func122, Try.ntmps122
  go_wp2_with fail
  refine (indexFuncAW _ _ _ _ _ hr hn).mono ?_
  rintro e w' ⟨i, rfl, hi, hb⟩
  have HI := Lib.hid hi; clear hi
  go_wp2_with fail
  go_ret
  exact ⟨by rw [← HI.out]; rfl, hb⟩
set_option maxHeartbeats 400000 in
theorem areWords_any (w : World) (A : Option Addr) (n c : Nat) (xss : List (List Int)) (hr : RdL w A n xss) (hn : n ≤ 1000000000) : Calls Try.prog 141 #[.slice A n c] w (RetV w (.bool (xss.all wordB))) := by
  go_enter Try.func141, Try.ntmps141
  go_wp2_with (go_at_call 122; refine (containsFuncAW _ _ _ _ xss hr hn).mono ?_; rintro e w2 ⟨rfl, hb2⟩)
  go_ret
  exact ⟨by simp, hb2⟩
end Go.Proofs.Ytjgajjcgapifoaa
