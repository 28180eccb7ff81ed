/- Words: turned round, compared, ranked, read back. -/
import Derived.Test.YtbecofpklndpaaaWrM
import Derived.Test.YtbecofpklndpaaaCpy
import Derived.Test.YtbecofpklndpaaaSrc
import Derived.RegionTactic
import Derived.ChangeAlike
namespace Go.Proofs.Ytbecofpklndpaaa
open Go.RowKit
set_option linter.unusedVariables false
set_option linter.unusedSimpArgs false
def RevPost (w : World) (base g n c : Nat) (ys : List Int) (e : Ending) (w' : World) : Prop := e = .returned (.tuple #[]) ∧ w'.ownsRow base 2 1 (.slice (some ⟨g, 0, none⟩) n c) n (ints ys) ∧ Below base w w'
set_option maxHeartbeats 4000000 in
set_option maxRecDepth 100000 in
theorem reverse_any (w : World) (base g n c : Nat) (xs : List Int) (ho : w.ownsRow base 2 1 (.slice (some ⟨g, 0, none⟩) n c) n (ints xs)) (hn : n ≤ 1000000000) :
    Calls Try.prog 168 #[.slice (some ⟨g, 0, none⟩) n c] w (RevPost w base g n c xs.reverse) := by
  have HL : Hid (xs.length = n) := Lib.hid (by simpa using ho.1)
  have HO0 : Hid (w.ownsRow base 2 1 (.slice (some ⟨g, 0, none⟩) n c) n (ints (revK xs 0))) := Lib.hid (by rw [revK_zero]; exact ho)
  clear ho
  go_enter Try.func168, Try.ntmps168
  go_wp2_with fail
  go_loopw [2, 3] (fun i j wr => ∃ k : Nat, i = .int .i64 k ∧ j = .int .i64 ((n : Int) - 1 - k) ∧ 2 * k ≤ n + 1 ∧ wr.ownsRow base 2 1 (.slice (some ⟨g, 0, none⟩) n c) n (ints (revK xs k)) ∧ Below base w wr) (fun i _ _ => n - (intOf i).toNat)
  case atStart => exact ⟨0, rfl, by simp, by omega, HO0.out, Below.refl _ _⟩
  case round =>
    obtain ⟨k, rfl, rfl, hk, ho, hb⟩ := hrel
    by_cases h : 2 * k + 1 < n
    · obtain ⟨a, ha⟩ := get_some (xs := revK xs k) (k := k) (by rw [revK_len, HL.out]; omega)
      obtain ⟨b, hbv⟩ := get_some (xs := revK xs k) (k := n - 1 - k) (by rw [revK_len, HL.out]; omega)
      have HST : Hid (((revK xs k).set k b).set (n - 1 - k) a = revK xs (k + 1)) := Lib.hid (by have := revK_step xs k (by rw [HL.out]; omega) a b ha (by rw [HL.out]; exact hbv); rwa [HL.out] at this)
      obtain ⟨c1, f1⟩ := ownN_at ho (ints_get ha)
      obtain ⟨c2, f2⟩ := ownN_at ho (ints_get hbv)
      have HP : Hid ((((wr.setCell ⟨g, k, none⟩ (.int .i64 b)).setCell ⟨g, n - 1 - k, none⟩ (.int .i64 a))).ownsRow base 2 1 (.slice (some ⟨g, 0, none⟩) n c) n (ints (revK xs (k + 1)))) := Lib.hid (by
        have h1 := own_put (own_put ho k (.int .i64 b)) (n - 1 - k) (.int .i64 a)
        rw [← HST.out]
        simpa [List.map_set] using h1)
      have HG : Hid (base ≤ g) := Lib.hid (by have := (ho.lt g rfl).1; exact this)
      have HBB := Lib.hid hb
      have e1 : (n : Int) - 1 - (k : Int) = ((n - 1 - k : Nat) : Int) := by omega
      rw [e1]
      have hlt : (k : Int) < ((n - 1 - k : Nat) : Int) := by omega
      have hltn : k < n - 1 - k := by omega
      have hi0 : (0 : Int) ≤ (k : Int) := by omega
      have hi1 : (k : Int) < (n : Int) := by omega
      have hj0 : (0 : Int) ≤ ((n - 1 - k : Nat) : Int) := by omega
      have hj1 : ((n - 1 - k : Nat) : Int) < (n : Int) := by omega
      have hne : ¬ k = n - 1 - k := by omega
      have hne2 : ¬ n - 1 - k = k := by omega
      have c1' := c1
      have c2' := c2
      clear ha hbv ho hb e1
      go_wp2_with fail
      go_region
      all_goals
        go_wp2_with fail
        go_roundw
        case rel => exact ⟨k + 1, by go_num, by congr 1; omega, by omega, HP.out, below_drew1 ((HBB.out.setCell (p := ⟨g, k, none⟩) HG.out _).setCell (p := ⟨g, n - 1 - k, none⟩) HG.out _)⟩
        case measure => simp [intOf]; omega
    · have HE : Hid (revK xs k = xs.reverse) := Lib.hid (revK_end xs k (by rw [HL.out]; omega))
      have hd : decide ((k : Int) < (n : Int) - 1 - (k : Int)) = false := decide_eq_false (by omega)
      have hd2 : ¬ (k : Int) < (n : Int) - 1 - (k : Int) := by omega
      have HOO := Lib.hid ho; clear ho
      have HBB := Lib.hid hb; clear hb
      go_wp2_with fail
      go_end0
      exact ⟨rfl, by rw [← HE.out]; exact HOO.out, HBB.out⟩
set_option maxHeartbeats 1000000 in
theorem reverse_nil (w : World) : Calls Try.prog 168 #[.slice none 0 0] w fun e w' => e = .returned (.tuple #[]) ∧ w = w' := by
  go_enter Try.func168, Try.ntmps168
  go_wp2_with fail
  refine wp_loop_rounds 1 ?_
  rw [rounds_succ]
  go_wp2_with fail
  go_end0
  exact ⟨rfl, rfl⟩
set_option maxHeartbeats 1000000 in
theorem reversed_any (w : World) (A : Option Addr) (n c : Nat) (xs : List Int) (hr : Rd w A n (ints xs)) (hn : n ≤ 1000000000) : Calls Try.prog 99 #[.slice A n c] w (RetS w 2 (ints xs.reverse)) := by
  go_enter Try.func99, Try.ntmps99
  go_wp2_with fail
  refine (clone_any w A n c xs hr hn).mono ?_
  rintro e w1 ⟨A1, n1, c1, rfl, ho1, hb1⟩
  have hn1 : n1 ≤ 1000000000 := by have h1 := ho1.1; have h2 := hr.1; simp at h1 h2; omega
  rcases ho1.2 with ⟨h', h0⟩ | ⟨g, cap, cur, h', hbs, r⟩
  · injection h' with h1 h2 h3
    subst h1 h2 h3
    have hx : xs = [] := by have := ho1.1; simpa using this
    subst hx
    go_wp2_with fail
    refine (reverse_nil w1).mono ?_
    rintro e w2 ⟨rfl, rfl⟩
    go_wp2_with fail
    go_ret
    exact ⟨none, 0, 0, rfl, own_nil _ _ _, hb1⟩
  · injection h' with h1 h2 h3
    subst h1 h3
    go_wp2_with fail
    refine (reverse_any w1 w.heap.size g n1 c1 xs ho1 hn1).mono ?_
    rintro e w2 ⟨rfl, ho2, hb2⟩
    go_wp2_with fail
    go_ret
    exact ⟨_, n1, c1, rfl, ho2, hb1.trans hb2⟩
set_option maxHeartbeats 400000 in
theorem isNaN_any (w : World) (x : Int) : Calls Try.prog 250 #[.int .i64 x] w fun e w' => e = .returned (.bool false) ∧ w = w' := by
  have h : (x != x) = false := by simp
  go_enter Try.func250, Try.ntmps250
  go_wp2_with fail
  go_ret
  exact ⟨rfl, rfl⟩
set_option maxHeartbeats 400000 in
theorem cmpI_any (w : World) (x y : Int) : Calls Try.prog 236 #[.int .i64 x, .int .i64 y] w fun e w' => e = .returned (.int .i64 (sgn x y)) ∧ w = w' := by
  by_cases h1 : x < y
  · have HS : Hid (sgn x y = -1) := Lib.hid (by simp [sgn, h1])
    go_enter Try.func236, Try.ntmps236
    go_wp2_with (go_at_call 250; refine (isNaN_any _ _).mono ?_; rintro e w' ⟨rfl, rfl⟩)
    go_ret
    exact ⟨by rw [HS.out]; rfl, rfl⟩
  · by_cases h2 : y < x
    · have HS : Hid (sgn x y = 1) := Lib.hid (by simp [sgn, h1, h2])
      go_enter Try.func236, Try.ntmps236
      go_wp2_with (go_at_call 250; refine (isNaN_any _ _).mono ?_; rintro e w' ⟨rfl, rfl⟩)
      go_ret
      exact ⟨by rw [HS.out]; rfl, rfl⟩
    · have HS : Hid (sgn x y = 0) := Lib.hid (by simp [sgn, h1, h2])
      go_enter Try.func236, Try.ntmps236
      go_wp2_with (go_at_call 250; refine (isNaN_any _ _).mono ?_; rintro e w' ⟨rfl, rfl⟩)
      go_ret
      exact ⟨by rw [HS.out]; rfl, rfl⟩
theorem cmpL_ne {x y : Int} {r s : List Int} (h : sgn x y ≠ 0) : cmpL (x :: r) (y :: s) = sgn x y := by
  unfold sgn at h ⊢
  simp only [cmpL]
  split
  · rfl
  · split
    · rfl
    · rename_i h1 h2; simp [h1, h2] at h
theorem cmpL_eq {x y : Int} {r s : List Int} (h : sgn x y = 0) : cmpL (x :: r) (y :: s) = cmpL r s := by
  unfold sgn at h
  simp only [cmpL]
  split at h
  · omega
  · split at h
    · omega
    · rename_i h1 h2; simp [h1, h2]
set_option maxHeartbeats 1000000 in
theorem compare_any (w : World) (A A' : Option Addr) (n c n' c' : Nat) (xs ys : List Int) (hr : Rd w A n (ints xs)) (hr' : Rd w A' n' (ints ys)) (hn : n ≤ 1000000000) (hn' : n' ≤ 1000000000) :
    Calls Try.prog 185 #[.slice A n c, .slice A' n' c'] w fun e w' => e = .returned (.int .i64 (cmpL xs ys)) ∧ w = w' := by
  have HL : Hid (xs.length = n) := Lib.hid (by simpa using hr.1)
  have HL' : Hid (ys.length = n') := Lib.hid (by simpa using hr'.1)
  go_enter Try.func185, Try.ntmps185
  go_wp2_with fail
  go_loop [11] (fun q => ∃ k : Nat, k ≤ n ∧ k ≤ n' ∧ q = .int .i64 k ∧ Hid (cmpL xs ys = cmpL (xs.drop k) (ys.drop k))) (fun q => n - (intOf q).toNat)
  case atStart => exact ⟨0, Nat.zero_le _, Nat.zero_le _, rfl, Lib.hid (by simp)⟩
  case round =>
    obtain ⟨k, hk, hk', rfl, HC⟩ := hrel
    by_cases h1 : k < n
    · obtain ⟨x, hx⟩ := get_some (xs := xs) (k := k) (by rw [HL.out]; omega)
      obtain ⟨b, off, rfl, hbk, hcx⟩ := hr.at_ (ints_get hx)
      by_cases h2 : k < n'
      · obtain ⟨y, hy⟩ := get_some (xs := ys) (k := k) (by rw [HL'.out]; omega)
        obtain ⟨b', off', rfl, hbk', hcy⟩ := hr'.at_ (ints_get hy)
        have hge : ¬ (n' : Int) ≤ (k : Int) := by omega
        have hge2 : ¬ n' ≤ k := by omega
        have HX := Lib.hid hx; have HY := Lib.hid hy; clear hx hy
        by_cases h3 : sgn x y = 0
        · have HN : Hid (cmpL xs ys = cmpL (xs.drop (k + 1)) (ys.drop (k + 1))) := Lib.hid (by rw [HC.out, drop_get HX.out, drop_get HY.out, cmpL_eq h3])
          have H3 := Lib.hid h3; clear h3
          go_wp2_with (go_at_call 236; refine (cmpI_any _ _ _).mono ?_; rw [H3.out]; rintro e w' ⟨rfl, rfl⟩)
          go_round
          case rel => exact ⟨k + 1, by omega, by omega, by go_num, HN⟩
          case measure => simp [intOf]; omega
        · have HN : Hid (cmpL xs ys = sgn x y) := Lib.hid (by rw [HC.out, drop_get HX.out, drop_get HY.out, cmpL_ne h3])
          have h4 : (sgn x y != 0) = true := by simpa using h3
          have h5 : ¬ sgn x y = 0 := h3
          go_wp2_with (go_at_call 236; refine (cmpI_any _ _ _).mono ?_; rintro e w' ⟨rfl, rfl⟩)
          go_ret
          exact ⟨by rw [HN.out]; rfl, rfl⟩
      · have hge : (n' : Int) ≤ (k : Int) := by omega
        have hge2 : n' ≤ k := by omega
        have HN : Hid (cmpL xs ys = 1) := Lib.hid (by rw [HC.out, drop_get hx, List.drop_of_length_le (l := ys) (by rw [HL'.out]; omega)]; rfl)
        clear hx
        go_wp2_with fail
        go_ret
        exact ⟨by rw [HN.out]; rfl, rfl⟩
    · have e1 : xs.drop k = [] := List.drop_of_length_le (by rw [HL.out]; omega)
      by_cases h2 : n < n'
      · have HN : Hid (cmpL xs ys = -1) := Lib.hid (by
          obtain ⟨y, hy⟩ := get_some (xs := ys) (k := k) (by rw [HL'.out]; omega)
          rw [HC.out, e1, drop_get hy]; rfl)
        clear e1
        go_wp2_with fail
        go_ret
        exact ⟨by rw [HN.out]; rfl, rfl⟩
      · have HN : Hid (cmpL xs ys = 0) := Lib.hid (by rw [HC.out, e1, List.drop_of_length_le (l := ys) (by rw [HL'.out]; omega)]; rfl)
        clear e1
        go_wp2_with fail
        go_ret
        exact ⟨by rw [HN.out]; rfl, rfl⟩
set_option maxHeartbeats 1000000 in
theorem shortlex_any (w : World) (A A' : Option Addr) (n c n' c' : Nat) (xs ys : List Int) (hr : Rd w A n (ints xs)) (hr' : Rd w A' n' (ints ys)) (hn : n ≤ 1000000000) (hn' : n' ≤ 1000000000) :
    Calls Try.prog 100 #[.slice A n c, .slice A' n' c'] w fun e w' => e = .returned (.int .i64 (shortL xs ys)) ∧ w = w' := by
  have hl : xs.length = n := by simpa using hr.1
  have hl' : ys.length = n' := by simpa using hr'.1
  by_cases h : n = n'
  · have HS : Hid (shortL xs ys = cmpL xs ys) := Lib.hid (by rw [shortL, if_pos (by omega)])
    clear hl hl'
    subst h
    have h1 : ((n : Int) != (n : Int)) = false := by simp
    go_enter Try.func100, Try.ntmps100
    go_wp2_with (go_at_call 185; refine (compare_any _ _ _ _ _ _ _ xs ys hr hr' hn hn').mono ?_; rintro e w' ⟨rfl, rfl⟩)
    go_ret
    exact ⟨by rw [HS.out]; rfl, rfl⟩
  · have h1 : ((n : Int) != (n' : Int)) = true := by rw [bne_iff_ne]; omega
    by_cases h2 : n < n'
    · have HS : Hid (shortL xs ys = -1) := Lib.hid (by rw [shortL, if_neg (by omega), if_pos (by omega)])
      clear hl hl'
      go_enter Try.func100, Try.ntmps100
      go_wp2_with fail
      go_ret
      exact ⟨by rw [HS.out]; rfl, rfl⟩
    · have HS : Hid (shortL xs ys = 1) := Lib.hid (by rw [shortL, if_neg (by omega), if_neg (by omega)])
      clear hl hl'
      go_enter Try.func100, Try.ntmps100
      go_wp2_with fail
      go_ret
      exact ⟨by rw [HS.out]; rfl, rfl⟩
set_option maxHeartbeats 400000 in
theorem CompareShortlex_any (w : World) (A A' : Option Addr) (n c n' c' : Nat) (xs ys : List Int) (hr : Rd w A n (ints xs)) (hr' : Rd w A' n' (ints ys)) (hn : n ≤ 1000000000) (hn' : n' ≤ 1000000000) :
    Calls Try.prog 24 #[.slice A n c, .slice A' n' c'] w fun e w' => e = .returned (.int .i64 (shortL xs ys)) ∧ w = w' := by
  go_enter Try.func24, Try.ntmps24
  go_wp2_with (go_at_call 100; refine (shortlex_any _ _ _ _ _ _ _ xs ys hr hr' hn hn').mono ?_; rintro e w' ⟨rfl, rfl⟩)
  go_ret
  exact ⟨rfl, rfl⟩
set_option maxHeartbeats 400000 in
theorem isLetters_any (w : World) (A : Option Addr) (n c : Nat) (xs : List Int) (hr : Rd w A n (ints xs)) (hn : n ≤ 1000000000) : Calls Try.prog 183 #[.slice A n c] w fun e w' => e = .returned (.bool (allIn xs 0 9)) ∧ w = w' := by
  go_enter Try.func183, Try.ntmps183
  go_wp2_with (go_at_call 92; refine (allWithin_any _ _ _ _ xs hr (by omega) _ _).mono ?_; rintro e w' ⟨rfl, rfl⟩)
  go_ret
  exact ⟨rfl, rfl⟩
set_option maxHeartbeats 400000 in
theorem IsWord_small (w : World) (A : Option Addr) (n c : Nat) (xs : List Int) (hr : Rd w A n (ints xs)) (hn : n ≤ 400) (hx : allIn xs 0 9 = true) : Calls Try.prog 94 #[.slice A n c] w fun e w' => e = .returned (.bool true) ∧ w = w' := by
  have HX := Lib.hid hx; clear hx
  have h1 : decide ((n : Int) ≤ 400) = true := decide_eq_true (by omega)
  have h2 : decide (n ≤ 400) = true := decide_eq_true hn
  go_enter Try.func94, Try.ntmps94
  go_wp2_with (go_at_call 183; refine (isLetters_any _ _ _ _ xs hr (by omega)).mono ?_; rw [HX.out]; rintro e w' ⟨rfl, rfl⟩)
  go_ret
  exact ⟨rfl, rfl⟩
theorem allIn_mono {xs : List Int} {lo hi hi' : Int} (h : allIn xs lo hi = true) (hh : hi ≤ hi') : allIn xs lo hi' = true := allIn_true.2 fun x hx => by have := allIn_true.1 h x hx; omega
theorem allIn_take {xs : List Int} {lo hi : Int} (h : allIn xs lo hi = true) (k : Nat) : allIn (xs.take k) lo hi = true := allIn_true.2 fun x hx => allIn_true.1 h x (List.mem_of_mem_take hx)
set_option maxHeartbeats 1000000 in
theorem RankWord_yes (w : World) (A : Option Addr) (n c : Nat) (xs : List Int) (hr : Rd w A n (ints xs)) (hn : n ≤ 8) (L : Int) (h1 : 1 ≤ L) (h4 : L ≤ 4) (hx : allIn xs 0 (L - 1) = true) :
    Calls Try.prog 22 #[.slice A n c, .int .i64 L] w fun e w' => e = .returned (.tuple #[.int .i64 (rk L xs), .int .i64 0]) ∧ w = w' := by
  have HL : Hid (xs.length = n) := Lib.hid (by simpa using hr.1)
  have HX := Lib.hid hx; clear hx
  have hin : inB L 1 10 = true := inB_true.2 ⟨by omega, by omega⟩
  have HIN := Lib.hid hin; clear hin
  go_enter Try.func22, Try.ntmps22
  go_wp2_with (first
    | (go_at_call 94; refine (IsWord_small _ _ _ _ xs hr (by omega) (allIn_mono HX.out (by omega))).mono ?_; rintro e w' ⟨rfl, rfl⟩)
    | (go_at_call 98; refine (within_any _ _ _ _).mono ?_; rw [HIN.out]; rintro e w' ⟨rfl, rfl⟩)
    | (go_at_call 92; refine (allWithin_any _ _ _ _ xs hr (by omega) _ _).mono ?_; rw [HX.out]; rintro e w' ⟨rfl, rfl⟩))
  go_loop [6, 24] (fun r q => ∃ k : Nat, k ≤ n ∧ q = .int .i64 k ∧ r = .int .i64 (rk L (xs.take k))) (fun _ q => n - (intOf q).toNat)
  case atStart => exact ⟨0, Nat.zero_le _, rfl, by simp [rk, rkF]⟩
  case round =>
    obtain ⟨k, hk, rfl, rfl⟩ := hrel
    obtain ⟨b1, b2⟩ := rk_small h1 h4 (xs := xs.take k) (by simp; omega) (allIn_take HX.out k)
    by_cases hlt : k < n
    · obtain ⟨x, hxk⟩ := get_some (xs := xs) (k := k) (by rw [HL.out]; omega)
      obtain ⟨b, off, rfl, hbk, hcx⟩ := hr.at_ (ints_get hxk)
      obtain ⟨hx0, hx1⟩ := allIn_true.1 HX.out x (List.mem_of_getElem? hxk)
      have HN : Hid (rk L (xs.take (k + 1)) = rk L (xs.take k) * L + x + 1) := Lib.hid (by rw [List.take_add_one, hxk]; exact rk_snoc L _ _)
      obtain ⟨d1, d2⟩ := rk_small h1 h4 (xs := xs.take (k + 1)) (by simp; omega) (allIn_take HX.out (k + 1))
      clear hxk
      generalize rk L (xs.take k) = R at *
      have m1 : 0 ≤ R * L := Int.mul_nonneg b1 (by omega)
      have m2 : R * L ≤ R * 4 := Int.mul_le_mul_of_nonneg_left h4 b1
      go_wp2_with fail
      go_round
      case rel => exact ⟨k + 1, by omega, by go_num, by rw [HN.out]⟩
      case measure => simp [intOf]; omega
    · have HE : Hid (xs.take k = xs) := Lib.hid (List.take_of_length_le (by rw [HL.out]; omega))
      go_wp2_with fail
      go_ret2
      exact ⟨by rw [HE.out]; rfl, rfl⟩
set_option maxHeartbeats 1000000 in
theorem RankWord_no (w : World) (A : Option Addr) (n c : Nat) (xs : List Int) (hr : Rd w A n (ints xs)) (hn : n ≤ 8) (L : Int) (h1 : 1 ≤ L) (h4 : L ≤ 4) (h9 : allIn xs 0 9 = true) (hx : allIn xs 0 (L - 1) = false) :
    Calls Try.prog 22 #[.slice A n c, .int .i64 L] w fun e w' => e = .returned (.tuple #[.int .i64 0, .int .i64 2]) ∧ w = w' := by
  have HX := Lib.hid hx; clear hx
  have H9 := Lib.hid h9; clear h9
  have HIN := Lib.hid (inB_true.2 ⟨by omega, by omega⟩ : inB L 1 10 = true)
  go_enter Try.func22, Try.ntmps22
  go_wp2_with (first
    | (go_at_call 94; refine (IsWord_small _ _ _ _ xs hr (by omega) H9.out).mono ?_; rintro e w' ⟨rfl, rfl⟩)
    | (go_at_call 98; refine (within_any _ _ _ _).mono ?_; rw [HIN.out]; rintro e w' ⟨rfl, rfl⟩)
    | (go_at_call 92; refine (allWithin_any _ _ _ _ xs hr (by omega) _ _).mono ?_; rw [HX.out]; rintro e w' ⟨rfl, rfl⟩))
  go_ret2
  exact ⟨rfl, rfl⟩
theorem rk_pos {L : Int} (h1 : 1 ≤ L) (h4 : L ≤ 4) {xs : List Int} {k : Nat} (hk : k < xs.length) (hl : xs.length ≤ 8) (ha : allIn xs 0 (L - 1) = true) : ∃ x, xs[k]? = some x ∧ 0 ≤ x ∧ x ≤ L - 1 ∧ rk L (xs.take (k + 1)) = rk L (xs.take k) * L + x + 1 ∧ 0 ≤ rk L (xs.take k) := by
  obtain ⟨x, hx⟩ := get_some hk
  obtain ⟨a, b⟩ := allIn_true.1 ha x (List.mem_of_getElem? hx)
  exact ⟨x, hx, a, b, by rw [List.take_add_one, hx]; exact rk_snoc L _ _, (rk_small h1 h4 (by simp; omega) (allIn_take ha k)).1⟩
def WordPost (w : World) (xs : List Int) (e : Ending) (w' : World) : Prop := RetSI w 2 (ints xs) 0 e w'
set_option maxHeartbeats 4000000 in
theorem WordAt_any (w : World) (xs : List Int) (hl : xs.length ≤ 8) (L : Int) (h1 : 1 ≤ L) (h4 : L ≤ 4) (hx : allIn xs 0 (L - 1) = true) :
    Calls Try.prog 23 #[.int .i64 (rk L xs), .int .i64 L] w (WordPost w xs) := by
  have HX := Lib.hid hx; clear hx
  obtain ⟨r1, r2⟩ := rk_small h1 h4 hl HX.out
  have HI1 := Lib.hid (inB_true.2 ⟨by omega, by omega⟩ : inB (rk L xs) 0 1000000000000 = true)
  have HI2 := Lib.hid (inB_true.2 ⟨by omega, by omega⟩ : inB L 1 10 = true)
  have HR0 : Hid (rk L xs = rk L (xs.take xs.length)) := Lib.hid (by rw [List.take_length])
  generalize hN : xs.length = N at *
  have HN := Lib.hid hN; clear hN
  have hown := own_lit w #[] 0 2 rfl (by omega)
  have hz : ¬ L = 0 := by omega
  go_enter Try.func23, Try.ntmps23
  go_wp2_with fail
  refine (within_any _ _ _ _).mono ?_
  rw [HI1.out]
  rintro e w' ⟨rfl, rfl⟩
  go_wp2_with fail
  refine (within_any _ _ _ _).mono ?_
  rw [HI2.out]
  rintro e w' ⟨rfl, rfl⟩
  go_wp2_with fail
  go_loopw [0, 6] (fun r v wr => ∃ (k : Nat) (A1 : Option Addr) (c1 : Nat), k ≤ N ∧ r = .int .i64 (rk L (xs.take k)) ∧ v = .slice A1 (N - k) c1 ∧ wr.ownsRow w.heap.size 2 1 (.slice A1 (N - k) c1) (N - k) (ints (xs.drop k).reverse) ∧ Below w.heap.size w wr) (fun r _ _ => (intOf r).toNat)
  case atStart => exact ⟨N, _, _, Nat.le_refl _, by rw [HR0.out], by rw [Nat.sub_self], by rw [Nat.sub_self, List.drop_of_length_le (by rw [HN.out]; exact Nat.le_refl _)]; exact hown, below_new _ _⟩
  case round =>
    obtain ⟨k, A1, c1, hk, rfl, rfl, ho, hb⟩ := hrel
    rcases Nat.eq_zero_or_pos k with h0 | h0
    · subst h0
      have e0 : rk L (xs.take 0) = 0 := by simp [rk, rkF]
      rw [e0]
      have HE : Hid ((xs.drop 0).reverse.reverse = xs) := Lib.hid (by simp)
      go_wp2_with (go_at_call 99; refine (reversed_any _ _ _ _ _ (own_rd ho) (by omega)).mono ?_; rw [HE.out]; rintro e w2 ⟨A2, n2, c2, rfl, ho2, hb2⟩)
      go_ret2
      exact ⟨A2, n2, c2, rfl, own_base ho2 hb.size, hb.trans (hb2.mono hb.size)⟩
    · obtain ⟨k, rfl⟩ : ∃ m, k = m + 1 := ⟨k - 1, by omega⟩
      obtain ⟨x, hxk, hx0, hx1, hstep, hr0⟩ := rk_pos h1 h4 (k := k) (by rw [HN.out]; omega) (by rw [HN.out]; omega) HX.out
      obtain ⟨s1, s2⟩ := rk_small h1 h4 (xs := xs.take (k + 1)) (by simp; omega) (allIn_take HX.out (k + 1))
      have HD : Hid ((xs.drop k).reverse = (xs.drop (k + 1)).reverse ++ [x]) := Lib.hid (by rw [drop_get hxk]; simp)
      have m0 : 0 ≤ rk L (xs.take k) * L := Int.mul_nonneg hr0 (by omega)
      have q1 : (rk L (xs.take k) * L + x) % L = x := by rw [Int.add_comm, Int.add_mul_emod_self_right]; exact Int.emod_eq_of_lt hx0 (by omega)
      have q2 : (rk L (xs.take k) * L + x) / L = rk L (xs.take k) := by rw [Int.add_comm, Int.add_mul_ediv_right _ _ (by omega), Int.ediv_eq_zero_of_lt hx0 (by omega)]; omega
      have HQ1 := Lib.hid q1; have HQ2 := Lib.hid q2; have HST := Lib.hid hstep
      clear hxk hstep q1 q2
      have hRpos : 0 < rk L (xs.take (k + 1)) := by rw [HST.out]; omega
      have HM : Hid (rk L (xs.take (k + 1)) - 1 = rk L (xs.take k) * L + x) := Lib.hid (by rw [HST.out]; omega)
      have HMO : Hid ((rk L (xs.take (k + 1)) - 1) % L = x) := Lib.hid (by rw [HM.out]; exact HQ1.out)
      have HDI : Hid ((rk L (xs.take (k + 1)) - 1) / L = rk L (xs.take k)) := Lib.hid (by rw [HM.out]; exact HQ2.out)
      have HLT : Hid (rk L (xs.take k) < rk L (xs.take (k + 1))) := Lib.hid (by
        rw [HST.out]
        have : rk L (xs.take k) * 1 ≤ rk L (xs.take k) * L := Int.mul_le_mul_of_nonneg_left h1 hr0
        omega)
      generalize rk L (xs.take (k + 1)) = R at *
      generalize hR0 : rk L (xs.take k) = R0 at *
      have HRk := Lib.hid hR0; clear hR0
      have hlen : ((N - (k + 1) : Nat) : Int) ≠ 400 := by omega
      have hlenb : (((N - (k + 1) : Nat) : Int) == 400) = false := beq_eq_false_iff_ne.2 hlen
      have hlen2 : ¬ N - (k + 1) = 400 := by omega
      generalize hm : N - (k + 1) = M at *
      have HMM := Lib.hid hm; clear hm
      clear hlen
      have hM8 : M ≤ 8 := by have := HMM.out; omega
      have HNK : Hid (N - k = M + 1) := Lib.hid (by have := HMM.out; omega)
      go_wp2_with (at_builtin; go_must (refine wpList_app1 Try.eltI rfl _ _ rfl wr w.heap.size _ M _ (by rfl) ho _ (by rfl) (by rfl) (by exact hb.size) (by omega) ?_); rintro A2 c2 w2 ho2 hb2)
      have HO2 := Lib.hid ho2; clear ho2
      go_wp2_with fail
      go_roundw
      case rel => exact ⟨k, A2, c2, by omega, by rw [HDI.out, HRk.out], by rw [HNK.out], by rw [HNK.out, HD.out]; have h := HO2.out; rw [HMO.out] at h; simpa using h, hb.trans hb2⟩
      case measure => have h1 := HDI.out; have h2 := HLT.out; simp [intOf]; omega
set_option maxHeartbeats 1000000 in
theorem r8Same_same (w : World) (A A' : Option Addr) (n c n' c' : Nat) (xs : List Int) (hr : Rd w A n (ints xs)) (hr' : Rd w A' n' (ints xs)) (hn : n ≤ 1000000000) :
    Calls Try.prog 20 #[.slice A n c, .slice A' n' c'] w (RetV w (.bool true)) := by
  have HL : Hid (xs.length = n) := Lib.hid (by simpa using hr.1)
  obtain rfl : n' = n := by have h1 := hr.1; have h2 := hr'.1; simp at h1 h2; omega
  have h0 : ((n' : Int) != (n' : Int)) = false := by simp
  go_enter Try.func20, Try.ntmps20
  go_wp2_with fail
  go_loopw [5] (fun q wr => ∃ k : Nat, k ≤ n' ∧ q = .int .i64 k ∧ Below w.heap.size w wr) (fun q _ => n' - (intOf q).toNat)
  case atStart => exact ⟨0, Nat.zero_le _, rfl, Below.refl _ _⟩
  case round =>
    obtain ⟨k, hk, rfl, hb⟩ := hrel
    by_cases h1 : k < n'
    · obtain ⟨x, hx⟩ := get_some (xs := xs) (k := k) (by rw [HL.out]; omega)
      obtain ⟨b, off, rfl, hbk, hcx⟩ := hr.at_ (ints_get hx)
      obtain ⟨b', off', rfl, hbk', hcy⟩ := hr'.at_ (ints_get hx)
      have c1 := (hb.cell (p := ⟨b, off + k, none⟩) hbk).trans hcx
      have c2 := (hb.cell (p := ⟨b', off' + k, none⟩) hbk').trans hcy
      have hi0 : (0 : Int) ≤ (k : Int) := by omega
      have hi1 : (k : Int) < (n' : Int) := by omega
      have hne : (x != x) = false := by simp
      have HBB := Lib.hid hb
      clear hx hcx hcy hb
      go_wp2_with fail
      go_quiet (fail)
      go_wp2_with fail
      go_roundw
      case rel => exact ⟨k + 1, by omega, by go_num, below_drewN HBB.out⟩
      case measure => simp [intOf]; omega
    · go_wp2_with fail
      go_ret
      exact ⟨rfl, hb⟩
theorem ints_snoc' (xs : List Int) (x : Int) : ints xs ++ [.int .i64 x] = ints (xs ++ [x]) := by simp
theorem own_blk_not {w : World} {base e s n g T : Nat} {v : Value} {vs : List Value} {cs : Array Value} (hg : w.heap[g]? = some (.cells cs T (0, 0))) (hT : T ≠ e) (h : w.ownsRow base e s v n vs) : ¬ Fo v g := fun hf => by
  rcases h.2 with ⟨rfl, _⟩ | ⟨g', cap, cur, rfl, _, hgg, _⟩
  · simp [Fo, Value.ownBlock] at hf
  · obtain rfl : g' = g := by simpa [Fo, Value.ownBlock] using hf
    exact blk_ne hg hgg hT rfl
def R8W (w : World) (e : Ending) (w' : World) : Prop := ∃ (A : Option Addr) (n c : Nat) (xs : List Int) (L : Int), e = .returned (.tuple #[.slice A n c, .int .i64 L]) ∧ w'.ownsRow w.heap.size 2 1 (.slice A n c) n (ints xs) ∧ n ≤ 8 ∧ 1 ≤ L ∧ L ≤ 4 ∧ allIn xs 0 (L - 1) = true ∧ Below w.heap.size w w'
set_option maxHeartbeats 400000 in
theorem l00From_any (w : World) (A : Option Addr) (n c : Nat) : Calls Try.prog 87 #[.slice A n c] w fun e w' => e = .returned (.pointer (some ⟨w.heap.size, 0, none⟩)) ∧ w' = w.alloc (.cells #[.slice A n c, .int .i64 0, .int .u64 0] 210) := by
  go_enter Try.func87, Try.ntmps87
  go_wp2_with fail
  go_ret
  exact ⟨rfl, rfl⟩
theorem snoc_in {xs : List Int} {L x : Int} (h : allIn xs 0 (L - 1) = true) (h0 : 0 ≤ x) (h1 : x ≤ L - 1) : allIn (xs ++ [x]) 0 (L - 1) = true := by
  rw [allIn_true] at h ⊢
  intro y hy
  rcases List.mem_append.1 hy with hy | hy
  · exact h y hy
  · have := List.mem_singleton.1 hy; omega
set_option maxHeartbeats 4000000 in
theorem R8Word_any (w : World) (A : Option Addr) (n c : Nat) (bs : List Int) (hr : Rd w A n (bytesV bs)) (hbs : ∀ b ∈ bs, 0 ≤ b ∧ b ≤ 255) (hn : n ≤ 1000000000) :
    Calls Try.prog 21 #[.slice A n c] w (R8W w) := by
  have HBS := Lib.hid hbs; clear hbs
  have hA : ∀ b off, A = some ⟨b, off, none⟩ → 0 < n → b < w.heap.size := fun b off e hp => by
    obtain ⟨b', off', e', hlt, _⟩ := hr.2 hp
    rw [e] at e'; injection e' with e'; injection e' with e1; omega
  go_enter Try.func21, Try.ntmps21
  go_wp2_with fail
  refine (l00From_any w A n c).mono ?_
  rintro e w1 ⟨rfl, hw1⟩
  have hb1 : Below w.heap.size w w1 := by rw [hw1]; exact below_new _ _
  have hg1 : w1.heap[w.heap.size]? = some (.cells #[.slice A n c, .int .i64 ((0 : Nat) : Int), .int .u64 0] 210 (0, 0)) := by rw [hw1]; exact box_new _ _ _
  clear hw1
  have hgA : 0 < n → ∀ b off, A = some ⟨b, off, none⟩ → b ≠ w.heap.size := fun hp b off e => by have := hA b off e hp; omega
  have HGA := Lib.hid hgA; clear hgA hA
  go_wp2_with fail
  refine (pick_any w1 w.heap.size A n c 0 0 hg1 bs (hr.below hb1 (Nat.le_refl _)) HGA.out HBS.out hn (by omega) 4 (by omega)).mono ?_
  rintro e w2 ⟨x, s2, k2, rfl, hx0, hx1, hk2, hg2, hc2⟩
  simp at hx1
  have hb2 := below_ch hb1 hc2 (fun k h => by omega) hb1.size
  go_wp2_with fail
  have hbB := hb2.alloc (o := .cells #[] 2) hb2.size
  refine (pick_any _ w.heap.size A n c k2 s2 (blk_alloc hg2 _) bs (by exact (hr.below hb2 (Nat.le_refl _)).alloc _) HGA.out HBS.out hn (by omega) 9 (by omega)).mono ?_
  rintro e w3 ⟨y, s3, k3, rfl, hy0, hy1, hk3, hg3, hc3⟩
  simp at hy1
  have hb3 := below_ch (hb2.alloc (o := .cells #[] 2) hb2.size) hc3 (fun k h => by omega) (by simp; have := hb2.size; omega)
  have ho3 : w3.ownsRow w.heap.size 2 1 (.slice (some ⟨w2.heap.size, 0, none⟩) 0 0) 0 (ints []) := own_ch (own_base (own_lit w2 #[] 0 2 rfl (by omega)) hb2.size) hc3 (fun k h1 h2 => by
    subst h2
    have h3 := blk_lt hg2
    have : w2.heap.size = w.heap.size := by simpa [Fo, Value.ownBlock] using h1
    omega)
  obtain ⟨M, rfl⟩ := Int.eq_ofNat_of_zero_le hy0
  clear hbB hb2 hb1 hg1 hg2 hc2 hc3 hy0
  obtain ⟨L, hL⟩ : ∃ L, L = 1 + x := ⟨_, rfl⟩
  rw [← hL]
  have hL1 : 1 ≤ L := by omega
  have hL4 : L ≤ 4 := by omega
  clear hL hx0 hx1
  have hif : (if L ≤ 1 then (0 : Int) else L - 1) = L - 1 := by split <;> omega
  have HIF := Lib.hid hif; clear hif
  go_wp2_with fail
  go_loopw [6, 7] (fun v q wr => ∃ (m : Nat) (A1 : Option Addr) (n1 c1 : Nat) (xs : List Int) (at1 : Nat) (s1 : Int), q = .int .i64 m ∧ v = .slice A1 n1 c1 ∧ m + n1 ≤ 8 ∧ at1 + 2 * m ≤ 100 ∧ wr.ownsRow w.heap.size 2 1 (.slice A1 n1 c1) n1 (ints xs) ∧ Hid (allIn xs 0 (L - 1) = true) ∧ wr.heap[w.heap.size]? = some (.cells #[.slice A n c, .int .i64 at1, .int .u64 s1] 210 (0, 0)) ∧ Below w.heap.size w wr) (fun _ q _ => (intOf q).toNat)
  case atStart => exact ⟨M, _, 0, 0, [], k3, s3, rfl, rfl, by omega, by omega, ho3, Lib.hid (by simp [allIn]), hg3, hb3⟩
  case round =>
    obtain ⟨m, A1, n1, c1, xs, at1, s1, rfl, rfl, hm, hat, ho, HAll, hg, hb⟩ := hrel
    by_cases h0 : 0 < m
    · go_wp2_with fail
      refine (pick_any wr w.heap.size A n c at1 s1 hg bs (hr.below hb (Nat.le_refl _)) HGA.out HBS.out hn (by omega) L (by omega)).mono ?_
      rw [HIF.out]
      rintro e w4 ⟨z, s4, k4, rfl, hz0, hz1, hk4, hg4, hc4⟩
      have ho4 := own_ch ho hc4 (fun k h1 h2 => by subst h2; exact own_blk_not hg (by decide) ho h1)
      have hb4 := below_ch hb hc4 (fun k h => by omega) hb.size
      go_wp2_with (at_builtin; go_must (refine wpList_app1g Try.eltI rfl _ _ rfl w4 w.heap.size _ n1 _ (by rfl) ho4 _ (by rfl) (by rfl) (by exact hb4.size) (by omega) ?_); rintro A5 c5 w5 ho5 hb5 hgr5)
      have hg5 := blk_ch hg4 (ch_row hgr5) (own_blk_not hg4 (by decide) ho4)
      have HO5 := Lib.hid ho5; clear ho5
      go_wp2_with fail
      go_roundw
      case rel => exact ⟨m - 1, A5, n1 + 1, c5, xs ++ [z], k4, s4, by congr 1; omega, rfl, by omega, by omega, by have h := HO5.out; rw [ints_snoc'] at h; exact h, Lib.hid (snoc_in HAll.out hz0 hz1), hg5, hb4.trans hb5⟩
      case measure => simp [intOf]; omega
    · obtain rfl : m = 0 := by omega
      go_wp2_with fail
      go_ret2
      exact ⟨A1, n1, c1, xs, L, rfl, ho, by omega, hL1, hL4, HAll.out, hb⟩
end Go.Proofs.Ytbecofpklndpaaa
