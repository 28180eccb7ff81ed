/- The law on the ranks of words. -/
import Derived.Test.YtbecofpklndpaaaWr
namespace Go.Proofs.Ytbecofpklndpaaa
open Go.RowKit
set_option linter.unusedVariables false
set_option linter.unusedSimpArgs false
set_option maxHeartbeats 400000 in
theorem r8Long_any (w : World) (A A' : Option Addr) (n c n' c' : Nat) : Calls Try.prog 15 #[.slice A n c, .slice A' n' c'] w fun e w' => e = .returned (.bool (decide (1048576 < n ∨ 1048576 < n'))) ∧ w = w' := by
  by_cases h1 : 1048576 < n
  · have d1 : decide ((1048576 : Int) < (n : Int)) = true := decide_eq_true (by omega)
    have HO : Hid (decide (1048576 < n ∨ 1048576 < n') = true) := Lib.hid (decide_eq_true (.inl h1))
    go_enter Try.func15, Try.ntmps15
    go_wp2_with fail
    go_ret
    exact ⟨by rw [HO.out]; rfl, rfl⟩
  · have d1 : decide ((1048576 : Int) < (n : Int)) = false := decide_eq_false (by omega)
    have HO : Hid (decide (1048576 < n ∨ 1048576 < n') = decide (1048576 < n')) := Lib.hid (by simp [h1])
    go_enter Try.func15, Try.ntmps15
    go_wp2_with fail
    go_ret
    exact ⟨by rw [HO.out]; simp; omega, rfl⟩
set_option maxHeartbeats 4000000 in
set_option maxRecDepth 100000 in
theorem lawWordRanks (w : World) (A0 : Option Addr) (n0 c0 : Nat) (b0 : List Int) (hr0 : Rd w A0 n0 (bytesV b0)) (hb0 : ∀ b ∈ b0, 0 ≤ b ∧ b ≤ 255) (hnn0 : n0 ≤ 9223372036854775807) (A1 : Option Addr) (n1 c1 : Nat) (b1 : List Int) (hr1 : Rd w A1 n1 (bytesV b1)) (hb1 : ∀ b ∈ b1, 0 ≤ b ∧ b ≤ 255) (hnn1 : n1 ≤ 9223372036854775807) :
    Calls Try.prog 4 #[.slice A0 n0 c0, .slice A1 n1 c1] w fun e w' => e = .returned (.bool true) ∧ Below w.heap.size w w' := by
  have HB0 := Lib.hid hb0; have HB1 := Lib.hid hb1
  clear hb0 hb1
  by_cases hlong : 1048576 < n0 ∨ 1048576 < n1
  · have HLo := Lib.hid (decide_eq_true hlong)
    clear hlong
    go_enter Try.func4, Try.ntmps4
    go_wp2_with (go_at_call 15; refine (r8Long_any _ _ _ _ _ _ _).mono ?_; rw [HLo.out]; rintro e w' ⟨rfl, rfl⟩)
    go_ret
    exact ⟨rfl, Below.refl _ _⟩
  · have HLo := Lib.hid (decide_eq_false hlong)
    have hn0 : n0 ≤ 1048576 := by omega
    have hn1 : n1 ≤ 1048576 := by omega
    clear hlong hnn0 hnn1
    go_enter Try.func4, Try.ntmps4
    go_wp2_with fail
    refine (r8Long_any _ _ _ _ _ _ _).mono ?_
    rw [HLo.out]
    rintro e w' ⟨rfl, rfl⟩
    go_wp2_with fail
    refine (R8Word_any w A0 n0 c0 b0 hr0 HB0.out (by omega)).mono ?_
    rintro e w1 ⟨A2, n2, c2, xs, L, rfl, ho2, hn2, hL1, hL4, hall, hbw1⟩
    have HAll := Lib.hid hall; clear hall
    go_wp2_with fail
    refine (R8Word_any w1 A1 n1 c1 b1 (hr1.below hbw1 (Nat.le_refl _)) HB1.out (by omega)).mono ?_
    rintro e w2 ⟨A3, n3, c3, ys, L', rfl, ho3, hn3, hM1, hM4, hall', hbw2⟩
    have HAll' := Lib.hid hall'; clear hall'
    have hB := hbw1.trans (hbw2.mono hbw1.size)
    have hrx := own_rd (own_below ho2 hbw2 (Nat.le_refl _))
    have hry := own_rd ho3
    have HLX : Hid (xs.length = n2) := Lib.hid (by simpa using hrx.1)
    have HLY : Hid (ys.length = n3) := Lib.hid (by simpa using hry.1)
    clear ho2 ho3
    go_wp2_with fail
    refine (RankWord_yes w2 A2 n2 c2 xs hrx hn2 L hL1 hL4 HAll.out).mono ?_
    rintro e w' ⟨rfl, rfl⟩
    go_wp2_with fail
    refine (WordAt_any w2 xs (by rw [HLX.out]; exact hn2) L hL1 hL4 HAll.out).mono ?_
    rintro e w3 ⟨A4, n4, c4, rfl, ho4, hbw3⟩
    have hn4 : n4 ≤ 8 := by have h1 := ho4.1; simp at h1; have := HLX.out; omega
    have hB3 := hB.trans (hbw3.mono hB.size)
    go_wp2_with fail
    refine (r8Same_same w3 _ _ _ _ _ _ xs (own_rd ho4) (hrx.below hbw3 (Nat.le_refl _)) (by omega)).mono ?_
    rintro e w4 ⟨rfl, hbw4⟩
    have hB4 := hB3.trans (hbw4.mono hB3.size)
    have hrx4 := (hrx.below hbw3 (Nat.le_refl _)).below hbw4 (Nat.le_refl _)
    have hry4 := (hry.below hbw3 (Nat.le_refl _)).below hbw4 (Nat.le_refl _)
    cases hy : allIn ys 0 (L - 1) with
    | false =>
      have HY := Lib.hid hy; clear hy
      go_wp2_with fail
      refine (RankWord_no w4 A3 n3 c3 ys hry4 hn3 L hL1 hL4 (allIn_mono HAll'.out (by omega)) HY.out).mono ?_
      rintro e w' ⟨rfl, rfl⟩
      rcases Nat.eq_zero_or_pos n2 with h0 | h0
      · subst h0
        have HR : Hid (rk L xs = 0) := Lib.hid (by have := List.eq_nil_of_length_eq_zero HLX.out; subst this; rfl)
        rw [HR.out]
        go_wp2_with fail
        go_ret
        exact ⟨rfl, hB4⟩
      · have d1 : decide ((0 : Int) < (n2 : Int)) = true := decide_eq_true (by omega)
        have d2 : decide (0 < n2) = true := decide_eq_true h0
        go_wp2_with fail
        go_ret
        exact ⟨rfl, hB4⟩
    | true =>
      have HY := Lib.hid hy; clear hy
      have HS := Lib.hid (short_rk hL1 xs ys HAll.out HY.out)
      go_wp2_with fail
      refine (RankWord_yes w4 A3 n3 c3 ys hry4 hn3 L hL1 hL4 HY.out).mono ?_
      rintro e w' ⟨rfl, rfl⟩
      go_wp2_with fail
      refine (CompareShortlex_any w4 _ _ _ _ _ _ xs ys hrx4 hry4 (by omega) (by omega)).mono ?_
      rw [HS.out]
      rintro e w' ⟨rfl, rfl⟩
      generalize rk L xs = a at *
      generalize rk L ys = b at *
      have HT : Hid ((sgn a b = -1 ∧ a < b) ∨ (sgn a b = 0 ∧ a = b) ∨ (sgn a b = 1 ∧ b < a)) := Lib.hid (by
        unfold sgn
        rcases Int.lt_trichotomy a b with h | h | h
        · left; simp [h]
        · right; left; simp [h]
        · right; right; simp [h, show ¬ a < b by omega])
      rcases HT.out with ⟨e, h⟩ | ⟨e, h⟩ | ⟨e, h⟩
      · rw [e]
        clear e HS HT
        have d1 : decide (a < b) = true := decide_eq_true h
        have d2 : decide (b < a) = false := decide_eq_false (by omega)
        go_wp2_with fail
        go_ret
        exact ⟨rfl, hB4⟩
      · rw [e]
        clear e HS HT
        subst h
        have d1 : decide (a < a) = false := decide_eq_false (by omega)
        go_wp2_with fail
        go_ret
        exact ⟨rfl, hB4⟩
      · rw [e]
        clear e HS HT
        have d1 : decide (a < b) = false := decide_eq_false (by omega)
        have d2 : decide (b < a) = true := decide_eq_true h
        go_wp2_with fail
        go_ret
        exact ⟨rfl, hB4⟩
end Go.Proofs.Ytbecofpklndpaaa
