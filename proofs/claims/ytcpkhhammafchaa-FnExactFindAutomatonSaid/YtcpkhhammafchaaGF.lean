/- Texts in one file: CmpW, PrfS, PrfI, PrfT, AppO, Nx, Nb, It, Ik, NcM. -/
import Derived.Test.YtcpkhhammafchaaGD
import Derived.Test.YtcpkhhammafchaaGC
import Derived.Test.YtcpkhhammafchaaGB
import Derived.Test.YtcpkhhammafchaaGE
import Derived.Test.YtcpkhhammafchaaGA
import Derived.Maps.OwnOps
import Derived.Maps.OwnSet
import Derived.DeepKeys4
import Derived.Laws.CopyOwn
import Derived.Deep.MidRow
/- Words: compared; the tests of a word and of words. Written by mk_cmpw.py out of Wr. -/
namespace Go.Proofs.Ytcpkhhammafchaa
open Go.RowKit
set_option linter.unusedVariables false
set_option linter.unusedSimpArgs false
set_option maxHeartbeats 400000 in
theorem isNaN_any (w : World) (x : Int) : Calls Try.prog 183 #[.int .i64 x] w fun e w' => e = .returned (.bool false) ∧ w = w' := by
  have h : (x != x) = false := by simp
  go_enter Try.func183, Try.ntmps183
  go_wp2_with fail
  go_ret
  exact ⟨rfl, rfl⟩
set_option maxHeartbeats 400000 in
theorem cmpI_any (w : World) (x y : Int) : Calls Try.prog 161 #[.int .i64 x, .int .i64 y] w fun e w' => e = .returned (.int .i64 (sgn x y)) ∧ w = w' := by
  by_cases h1 : x < y
  · have HS : Hid (sgn x y = -1) := Lib.hid (by simp [sgn, h1])
    go_enter Try.func161, Try.ntmps161
    go_wp2_with (go_at_call 183; refine (isNaN_any _ _).mono ?_; rintro e w' ⟨rfl, rfl⟩)
    go_ret
    exact ⟨by rw [HS.out]; rfl, rfl⟩
  · by_cases h2 : y < x
    · have HS : Hid (sgn x y = 1) := Lib.hid (by simp [sgn, h1, h2])
      go_enter Try.func161, Try.ntmps161
      go_wp2_with (go_at_call 183; refine (isNaN_any _ _).mono ?_; rintro e w' ⟨rfl, rfl⟩)
      go_ret
      exact ⟨by rw [HS.out]; rfl, rfl⟩
    · have HS : Hid (sgn x y = 0) := Lib.hid (by simp [sgn, h1, h2])
      go_enter Try.func161, Try.ntmps161
      go_wp2_with (go_at_call 183; refine (isNaN_any _ _).mono ?_; rintro e w' ⟨rfl, rfl⟩)
      go_ret
      exact ⟨by rw [HS.out]; rfl, rfl⟩
set_option maxHeartbeats 1000000 in
theorem compare_any (w : World) (A A' : Option Addr) (n c n' c' : Nat) (xs ys : List Int) (hr : Rd w A n (ints xs)) (hr' : Rd w A' n' (ints ys)) (hn : n ≤ 1000000000) (hn' : n' ≤ 1000000000) :
    Calls Try.prog 134 #[.slice A n c, .slice A' n' c'] w fun e w' => e = .returned (.int .i64 (cmpL xs ys)) ∧ w = w' := by
  have HL : Hid (xs.length = n) := Lib.hid (by simpa using hr.1)
  have HL' : Hid (ys.length = n') := Lib.hid (by simpa using hr'.1)
  go_enter Try.func134, Try.ntmps134
  go_wp2_with fail
  go_loop [11] (fun q => ∃ k : Nat, k ≤ n ∧ k ≤ n' ∧ q = .int .i64 k ∧ Hid (cmpL xs ys = cmpL (xs.drop k) (ys.drop k))) (fun q => n - (intOf q).toNat)
  case atStart => exact ⟨0, Nat.zero_le _, Nat.zero_le _, rfl, Lib.hid (by simp)⟩
  case round =>
    obtain ⟨k, hk, hk', rfl, HC⟩ := hrel
    by_cases h1 : k < n
    · obtain ⟨x, hx⟩ := get_some (xs := xs) (k := k) (by rw [HL.out]; omega)
      obtain ⟨b, off, rfl, hbk, hcx⟩ := hr.at_ (ints_get hx)
      by_cases h2 : k < n'
      · obtain ⟨y, hy⟩ := get_some (xs := ys) (k := k) (by rw [HL'.out]; omega)
        obtain ⟨b', off', rfl, hbk', hcy⟩ := hr'.at_ (ints_get hy)
        have hge : ¬ (n' : Int) ≤ (k : Int) := by omega
        have hge2 : ¬ n' ≤ k := by omega
        have HX := Lib.hid hx; have HY := Lib.hid hy; clear hx hy
        by_cases h3 : sgn x y = 0
        · have HN : Hid (cmpL xs ys = cmpL (xs.drop (k + 1)) (ys.drop (k + 1))) := Lib.hid (by rw [HC.out, drop_get HX.out, drop_get HY.out, cmpL_eq h3])
          have H3 := Lib.hid h3; clear h3
          go_wp2_with (go_at_call 161; refine (cmpI_any _ _ _).mono ?_; rw [H3.out]; rintro e w' ⟨rfl, rfl⟩)
          go_round
          case rel => exact ⟨k + 1, by omega, by omega, by go_num, HN⟩
          case measure => simp [intOf]; omega
        · have HN : Hid (cmpL xs ys = sgn x y) := Lib.hid (by rw [HC.out, drop_get HX.out, drop_get HY.out, cmpL_ne h3])
          have h4 : (sgn x y != 0) = true := by simpa using h3
          have h5 : ¬ sgn x y = 0 := h3
          go_wp2_with (go_at_call 161; refine (cmpI_any _ _ _).mono ?_; rintro e w' ⟨rfl, rfl⟩)
          go_ret
          exact ⟨by rw [HN.out]; rfl, rfl⟩
      · have hge : (n' : Int) ≤ (k : Int) := by omega
        have hge2 : n' ≤ k := by omega
        have HN : Hid (cmpL xs ys = 1) := Lib.hid (by rw [HC.out, drop_get hx, List.drop_of_length_le (l := ys) (by rw [HL'.out]; omega)]; rfl)
        clear hx
        go_wp2_with fail
        go_ret
        exact ⟨by rw [HN.out]; rfl, rfl⟩
    · have e1 : xs.drop k = [] := List.drop_of_length_le (by rw [HL.out]; omega)
      by_cases h2 : n < n'
      · have HN : Hid (cmpL xs ys = -1) := Lib.hid (by
          obtain ⟨y, hy⟩ := get_some (xs := ys) (k := k) (by rw [HL'.out]; omega)
          rw [HC.out, e1, drop_get hy]; rfl)
        clear e1
        go_wp2_with fail
        go_ret
        exact ⟨by rw [HN.out]; rfl, rfl⟩
      · have HN : Hid (cmpL xs ys = 0) := Lib.hid (by rw [HC.out, e1, List.drop_of_length_le (l := ys) (by rw [HL'.out]; omega)]; rfl)
        clear e1
        go_wp2_with fail
        go_ret
        exact ⟨by rw [HN.out]; rfl, rfl⟩
set_option maxHeartbeats 400000 in
theorem isLetters_any (w : World) (A : Option Addr) (n c : Nat) (xs : List Int) (hr : Rd w A n (ints xs)) (hn : n ≤ 1000000000) : Calls Try.prog 172 #[.slice A n c] w fun e w' => e = .returned (.bool (allIn xs 0 9)) ∧ w = w' := by
  go_enter Try.func172, Try.ntmps172
  go_wp2_with (go_at_call 39; refine (allWithin_any _ _ _ _ xs hr (by omega) _ _).mono ?_; rintro e w' ⟨rfl, rfl⟩)
  go_ret
  exact ⟨rfl, rfl⟩
set_option maxHeartbeats 400000 in
theorem IsWord_any (w : World) (A : Option Addr) (n c : Nat) (xs : List Int) (hr : Rd w A n (ints xs)) (hn : n ≤ 1000000000) : Calls Try.prog 155 #[.slice A n c] w fun e w' => e = .returned (.bool (wordB xs)) ∧ w = w' := by
  have hl : xs.length = n := by simpa using hr.1
  by_cases h : n ≤ 400
  · have h1 : decide ((n : Int) ≤ 400) = true := decide_eq_true (by omega)
    have h2 : decide (n ≤ 400) = true := decide_eq_true h
    have HO : Hid (wordB xs = allIn xs 0 9) := Lib.hid (by simp [wordB, hl, h])
    clear hl
    go_enter Try.func155, Try.ntmps155
    go_wp2_with (go_at_call 172; refine (isLetters_any _ _ _ _ xs hr (by omega)).mono ?_; rintro e w' ⟨rfl, rfl⟩)
    go_ret
    exact ⟨by rw [HO.out]; rfl, rfl⟩
  · have h1 : decide ((n : Int) ≤ 400) = false := decide_eq_false (by omega)
    have h2 : decide (n ≤ 400) = false := decide_eq_false h
    have HO : Hid (wordB xs = false) := Lib.hid (by simp [wordB, hl, h])
    clear hl
    go_enter Try.func155, Try.ntmps155
    go_wp2_with fail
    go_ret
    exact ⟨by rw [HO.out]; rfl, rfl⟩
set_option maxHeartbeats 400000 in
theorem areWords1_any (w : World) (A : Option Addr) (n c : Nat) (xs : List Int) (hr : Rd w A n (ints xs)) (hn : n ≤ 1000000000) :
    Calls Try.prog 154 #[.slice A n c] w (RetV w (.bool (!wordB xs))) := by
  go_enter Try.func154, Try.ntmps154
  go_wp2_with (go_at_call 155; refine (IsWord_any _ _ _ _ xs hr hn).mono ?_; rintro e w' ⟨rfl, rfl⟩)
  go_ret
  exact ⟨rfl, Below.refl _ _⟩
set_option maxHeartbeats 1000000 in
theorem indexFuncAW (w : World) (A : Option Addr) (n c : Nat) (ps : List (List Int)) (hr : RdL w A n ps) (hn : n ≤ 1000000000) :
    Calls Try.prog 171 #[.slice A n c, .func (.func 154) #[] #[]] w (FoundN w (!ps.all wordB)) := by
  have HL : Hid (ps.length = n) := Lib.hid (hr.len)
  go_enter Try.func171, Try.ntmps171
  go_wp2_with fail
  go_loopw [8] (fun q wr => ∃ k : Nat, k ≤ n ∧ q = .int .i64 k ∧ Hid ((ps.take k).all wordB = true) ∧ Below w.heap.size w wr) (fun q _ => n - (intOf q).toNat)
  case atStart => exact ⟨0, Nat.zero_le _, rfl, Lib.hid (by simp), Below.refl _ _⟩
  case round =>
    obtain ⟨k, hk, rfl, hall, hb⟩ := hrel
    by_cases h1 : k < n
    · obtain ⟨x, hx⟩ := get_some (xs := ps) (k := k) (by rw [HL.out]; omega)
      obtain ⟨b, off, A', n', c', rfl, hbs, hc, hn', hr'⟩ := hr.at_ hx
      replace hc := (hb.cell (p := ⟨b, off + k, none⟩) hbs).trans hc
      replace hr' := hr'.below hb (Nat.le_refl _)
      have HX := Lib.hid hx
      clear hx
      by_cases hin : wordB x = true
      · go_wp2_with (go_at_call 154; refine (areWords1_any _ _ _ _ x hr' hn').mono ?_; rintro e w' ⟨rfl, hb2⟩)
        go_roundw
        case rel => exact ⟨k + 1, by omega, by go_num, Lib.hid (all_step hall.out HX.out hin), hb.trans (hb2.mono hb.size)⟩
        case measure => simp [intOf]; omega
      · have hin' : wordB x = false := by simpa using hin
        clear hin
        go_wp2_with (go_at_call 154; refine (areWords1_any _ _ _ _ x hr' hn').mono ?_; rintro e w' ⟨rfl, hb2⟩)
        go_ret
        exact ⟨k, rfl, by rw [all_out HX.out hin']; simp, hb.trans (hb2.mono hb.size)⟩
    · go_wp2_with fail
      go_ret
      have h := hall.out
      rw [List.take_of_length_le (by rw [HL.out]; omega)] at h
      exact ⟨-1, rfl, by rw [h]; rfl, hb⟩
set_option maxHeartbeats 400000 in
theorem containsFuncAW (w : World) (A : Option Addr) (n c : Nat) (ps : List (List Int)) (hr : RdL w A n ps) (hn : n ≤ 1000000000) :
    Calls Try.prog 153 #[.slice A n c, .func (.func 154) #[] #[]] w (RetV w (.bool (!ps.all wordB))) := by
  go_enter Try.func153, Try.ntmps153
  go_wp2_with fail
  refine (indexFuncAW _ _ _ _ _ hr hn).mono ?_
  rintro e w' ⟨i, rfl, hi, hb⟩
  have HI := Lib.hid hi; clear hi
  go_wp2_with fail
  go_ret
  exact ⟨by rw [← HI.out]; rfl, hb⟩
set_option maxHeartbeats 400000 in
theorem areWords_any (w : World) (A : Option Addr) (n c : Nat) (xss : List (List Int)) (hr : RdL w A n xss) (hn : n ≤ 1000000000) : Calls Try.prog 123 #[.slice A n c] w (RetV w (.bool (xss.all wordB))) := by
  go_enter Try.func123, Try.ntmps123
  go_wp2_with (go_at_call 153; refine (containsFuncAW _ _ _ _ xss hr hn).mono ?_; rintro e w2 ⟨rfl, hb2⟩)
  go_ret
  exact ⟨by simp, hb2⟩
end Go.Proofs.Ytcpkhhammafchaa
/- Proofs by contexts: the reference's small functions. -/
namespace Go.Proofs.Ytcpkhhammafchaa
open Go.RowKit
set_option linter.unusedVariables false
set_option linter.unusedSimpArgs false
set_option maxHeartbeats 1000000 in
theorem l03Is_any (w : World) (A : Option Addr) (n c : Nat) (xs : List Int) (hr : Rd w A n (ints xs)) (hn : n ≤ 1000000000) :
    Calls Try.prog 151 #[.slice A n c] w fun e w' => e = .returned (.bool (wordB xs)) ∧ w = w' := by
  have HL : Hid (xs.length = n) := Lib.hid (by simpa using hr.1)
  go_enter Try.func151, Try.ntmps151
  go_wp2_with fail
  go_loop [3] (fun q => ∃ k : Nat, k ≤ n ∧ q = .int .i64 k ∧ Hid (allIn (xs.take k) 0 9 = true)) (fun q => n - (intOf q).toNat)
  case atStart => exact ⟨0, Nat.zero_le _, rfl, Lib.hid (by simp [allIn])⟩
  case round =>
    obtain ⟨k, hk, rfl, hall⟩ := hrel
    by_cases h1 : k < n
    · obtain ⟨x, hx⟩ := get_some (xs := xs) (k := k) (by rw [HL.out]; omega)
      obtain ⟨b, off, rfl, hbk, hcx⟩ := hr.at_ (ints_get hx)
      have HX := Lib.hid hx
      clear hx
      cases hin : inB x 0 9 with
      | true =>
        go_wp2_with (go_at_call 110; refine (l00In_any _ _ _ _).mono ?_; rintro e w' ⟨rfl, rfl⟩)
        go_round
        case rel => exact ⟨k + 1, by omega, by go_num, Lib.hid (allIn_take_step hall.out HX.out hin)⟩
        case measure => simp [intOf]; omega
      | false =>
        go_wp2_with (go_at_call 110; refine (l00In_any _ _ _ _).mono ?_; rintro e w' ⟨rfl, rfl⟩)
        go_ret
        exact ⟨by rw [wordB, allIn_out HX.out hin]; rfl, rfl⟩
    · have h := hall.out
      rw [List.take_of_length_le (by rw [HL.out]; omega)] at h
      have HO : Hid (wordB xs = decide ((n : Int) ≤ 400)) := Lib.hid (by rw [wordB, h, HL.out]; simp only [Bool.true_and, decide_eq_decide]; omega)
      clear h
      go_wp2_with fail
      go_ret
      exact ⟨by rw [HO.out]; rfl, rfl⟩
set_option maxHeartbeats 1000000 in
theorem l03All_any (w : World) (A : Option Addr) (n c : Nat) (xss : List (List Int)) (hr : RdL w A n xss) (hn : n ≤ 1000000000) :
    Calls Try.prog 115 #[.slice A n c] w fun e w' => e = .returned (.bool (xss.all wordB)) ∧ w = w' := by
  have HL : Hid (xss.length = n) := Lib.hid hr.len
  go_enter Try.func115, Try.ntmps115
  go_wp2_with fail
  go_loop [3] (fun q => ∃ k : Nat, k ≤ n ∧ q = .int .i64 k ∧ Hid ((xss.take k).all wordB = true)) (fun q => n - (intOf q).toNat)
  case atStart => exact ⟨0, Nat.zero_le _, rfl, Lib.hid (by simp)⟩
  case round =>
    obtain ⟨k, hk, rfl, hall⟩ := hrel
    by_cases h1 : k < n
    · obtain ⟨xs, hx⟩ := get_some (xs := xss) (k := k) (by rw [HL.out]; omega)
      obtain ⟨b, off, A', n', c', rfl, hbs, hc, hn', hr'⟩ := hr.at_ hx
      have HX := Lib.hid hx
      clear hx
      cases hin : wordB xs with
      | true =>
        have HIN := Lib.hid hin; clear hin
        go_wp2_with (go_at_call 151; refine (l03Is_any _ _ _ _ _ hr' (by omega)).mono ?_; rw [HIN.out]; rintro e w' ⟨rfl, rfl⟩)
        go_round
        case rel => exact ⟨k + 1, by omega, by go_num, Lib.hid (all_step hall.out HX.out HIN.out)⟩
        case measure => simp [intOf]; omega
      | false =>
        have HIN := Lib.hid hin; clear hin
        go_wp2_with (go_at_call 151; refine (l03Is_any _ _ _ _ _ hr' (by omega)).mono ?_; rw [HIN.out]; rintro e w' ⟨rfl, rfl⟩)
        go_ret
        exact ⟨by rw [all_out HX.out HIN.out]; rfl, rfl⟩
    · have h := hall.out
      rw [List.take_of_length_le (by rw [HL.out]; omega)] at h
      have HO := Lib.hid h
      clear h
      go_wp2_with fail
      go_ret
      exact ⟨by rw [HO.out]; rfl, rfl⟩
theorem okP_cases' (k : Int) (ns : List Int) (ws : List (List Int)) (n1 n2 : Nat) (h1 : ns.length = n1) (h2 : ws.length = n2) :
    (inB k 1 8 = false ∧ okP k ns ws = false) ∨ (inB k 1 8 = true ∧ 300 < n1 ∧ okP k ns ws = false) ∨ (inB k 1 8 = true ∧ ¬ 300 < n1 ∧ 300 < n2 ∧ okP k ns ws = false) ∨ (inB k 1 8 = true ∧ ¬ 300 < n1 ∧ ¬ 300 < n2 ∧ okP k ns ws = (allIn ns (-1000000000000) 1000000000000 && ws.all wordB)) := by
  subst h1 h2
  unfold okP
  cases inB k 1 8
  · left; simp
  · right
    by_cases h1 : ns.length ≤ 300
    · right
      by_cases h2 : ws.length ≤ 300
      · right; refine ⟨rfl, by omega, by omega, by simp [h1, h2]⟩
      · left; refine ⟨rfl, by omega, by omega, by simp [h2]⟩
    · left; refine ⟨rfl, by omega, by simp [h1]⟩
/-- A proof in a box. -/
def BP (w : World) (g : Nat) (k : Int) (A1 : Option Addr) (n1 c1 : Nat) (A2 : Option Addr) (n2 c2 : Nat) : Prop := w.heap[g]? = some (.cells #[.int .i64 k, .slice A1 n1 c1, .slice A2 n2 c2] 48 (0, 0))
theorem BP.bel {w w' : World} {g : Nat} {k : Int} {A1 : Option Addr} {n1 c1 : Nat} {A2 : Option Addr} {n2 c2 : Nat} (h : BP w g k A1 n1 c1 A2 n2 c2) (hb : Below w.heap.size w w') : BP w' g k A1 n1 c1 A2 n2 c2 := blk_bel h hb
theorem BP.cells {w : World} {g : Nat} {k : Int} {A1 : Option Addr} {n1 c1 : Nat} {A2 : Option Addr} {n2 c2 : Nat} (h : BP w g k A1 n1 c1 A2 n2 c2) :
    w.cell? ⟨g, 0, none⟩ = some (.int .i64 k) ∧ w.cell? ⟨g, 1, none⟩ = some (.slice A1 n1 c1) ∧ w.cell? ⟨g, 2, none⟩ = some (.slice A2 n2 c2) := ⟨blk_cell h 0 rfl, blk_cell h 1 rfl, blk_cell h 2 rfl⟩
set_option maxHeartbeats 4000000 in
theorem l25Is_any (w : World) (g : Nat) (k : Int) (A1 : Option Addr) (n1 c1 : Nat) (A2 : Option Addr) (n2 c2 : Nat) (hp : BP w g k A1 n1 c1 A2 n2 c2) (ns : List Int) (hr1 : Rd w A1 n1 (ints ns)) (hn1 : n1 ≤ 1000000000) (ws : List (List Int)) (hr2 : RdL w A2 n2 ws) (hn2 : n2 ≤ 1000000000) :
    Calls Try.prog 74 #[.pointer (some ⟨g, 0, none⟩)] w (RetV w (.bool (okP k ns ws))) := by
  obtain ⟨q0, q1, q2⟩ := hp.cells
  have HL : Hid (ns.length = n1) := Lib.hid (by simpa using hr1.1)
  rcases okP_cases' k ns ws n1 n2 (by simpa using hr1.1) hr2.len with ⟨h1, hO⟩ | ⟨h1, h2, hO⟩ | ⟨h1, h2, h3, hO⟩ | ⟨h1, h2, h3, hO⟩
  · have HO := Lib.hid hO; have H1 := Lib.hid h1; clear hO h1
    go_enter Try.func74, Try.ntmps74
    go_wp2_with (go_at_call 110; refine (l00In_any _ _ _ _).mono ?_; rw [H1.out]; rintro e w' ⟨rfl, rfl⟩)
    go_ret
    exact ⟨by rw [HO.out]; rfl, Below.refl _ _⟩
  · have HO := Lib.hid hO; have H1 := Lib.hid h1; clear hO h1
    have d1 : (300 : Int) < (n1 : Int) := by omega
    go_enter Try.func74, Try.ntmps74
    go_wp2_with (go_at_call 110; refine (l00In_any _ _ _ _).mono ?_; rw [H1.out]; rintro e w' ⟨rfl, rfl⟩)
    go_ret
    exact ⟨by rw [HO.out]; rfl, Below.refl _ _⟩
  · have HO := Lib.hid hO; have H1 := Lib.hid h1; clear hO h1
    have d1 : ¬ (300 : Int) < (n1 : Int) := by omega
    have d2 : (300 : Int) < (n2 : Int) := by omega
    go_enter Try.func74, Try.ntmps74
    go_wp2_with (go_at_call 110; refine (l00In_any _ _ _ _).mono ?_; rw [H1.out]; rintro e w' ⟨rfl, rfl⟩)
    go_ret
    exact ⟨by rw [HO.out]; rfl, Below.refl _ _⟩
  · have HO := Lib.hid hO; have H1 := Lib.hid h1; clear hO h1
    have d1 : ¬ (300 : Int) < (n1 : Int) := by omega
    have d2 : ¬ (300 : Int) < (n2 : Int) := by omega
    go_enter Try.func74, Try.ntmps74
    go_wp2_with (go_at_call 110; refine (l00In_any _ _ _ _).mono ?_; rw [H1.out]; rintro e w' ⟨rfl, rfl⟩)
    go_loopw [3] (fun q wr => ∃ j : Nat, j ≤ n1 ∧ q = .int .i64 j ∧ Hid (allIn (ns.take j) (-1000000000000) 1000000000000 = true) ∧ wr = w) (fun q _ => n1 - (intOf q).toNat)
    case atStart => exact ⟨0, Nat.zero_le _, rfl, Lib.hid (by simp [allIn]), rfl⟩
    case round =>
      obtain ⟨j, hj, rfl, hall, rfl⟩ := hrel
      by_cases hlt : j < n1
      · have hlt' : (j : Int) < (n1 : Int) := by omega
        obtain ⟨x, hx⟩ := get_some (xs := ns) (k := j) (by rw [HL.out]; omega)
        obtain ⟨b, off, hA, hbk, hcx⟩ := hr1.at_ (ints_get hx)
        subst hA
        have HX := Lib.hid hx
        clear hx
        cases hin : inB x (-1000000000000) 1000000000000 with
        | true =>
          have HIN := Lib.hid hin; clear hin
          go_wp2_with (go_at_call 110; refine (l00In_any _ _ _ _).mono ?_; rw [HIN.out]; rintro e w' ⟨rfl, rfl⟩)
          go_roundw
          case rel => exact ⟨j + 1, by omega, by go_num, Lib.hid (allIn_take_step hall.out HX.out HIN.out), by trivial⟩
          case measure => simp [intOf]; omega
        | false =>
          have HIN := Lib.hid hin; clear hin
          have HO2 : Hid (okP k ns ws = false) := Lib.hid (by rw [HO.out, allIn_out HX.out HIN.out]; rfl)
          go_wp2_with (go_at_call 110; refine (l00In_any _ _ _ _).mono ?_; rw [HIN.out]; rintro e w' ⟨rfl, rfl⟩)
          go_ret
          exact ⟨by rw [HO2.out]; rfl, Below.refl _ _⟩
      · have h := hall.out
        rw [List.take_of_length_le (by rw [HL.out]; omega)] at h
        have HO2 : Hid (okP k ns ws = ws.all wordB) := Lib.hid (by rw [HO.out, h]; rfl)
        clear h
        go_wp2_with (go_at_call 115; refine (l03All_any _ _ _ _ ws hr2 hn2).mono ?_; rw [← HO2.out]; rintro e w' ⟨rfl, rfl⟩)
        go_ret
        exact ⟨rfl, Below.refl _ _⟩
set_option maxHeartbeats 2000000 in
theorem l01Compare_any (w : World) (A A' : Option Addr) (n c n' c' : Nat) (xs ys : List Int) (hr : Rd w A n (ints xs)) (hr' : Rd w A' n' (ints ys)) (hn : n ≤ 1000000000) (hn' : n' ≤ 1000000000) :
    Calls Try.prog 120 #[.slice A n c, .slice A' n' c'] w (DrP w (.int .i64 (cmpL xs ys))) := by
  have HL : Hid (xs.length = n) := Lib.hid (by simpa using hr.1)
  have HL' : Hid (ys.length = n') := Lib.hid (by simpa using hr'.1)
  go_enter Try.func120, Try.ntmps120
  go_wp2_with fail
  go_loopw [5] (fun q wr => ∃ k : Nat, k ≤ n ∧ k ≤ n' ∧ q = .int .i64 k ∧ Hid (cmpL xs ys = cmpL (xs.drop k) (ys.drop k)) ∧ Hid (∃ nq, wr = w.drewN nq)) (fun q _ => n - (intOf q).toNat)
  case atStart => exact ⟨0, Nat.zero_le _, Nat.zero_le _, rfl, Lib.hid (by simp), Lib.hid ⟨0, rfl⟩⟩
  case round =>
    obtain ⟨k, hk, hk', rfl, HC, hw⟩ := hrel
    have hb : Below w.heap.size w wr := by obtain ⟨nr, h⟩ := hw.out; rw [h]; exact below_drewN (Below.refl _ _)
    by_cases h1 : k < n
    · have h1' : (k : Int) < (n : Int) := by omega
      obtain ⟨x, hx⟩ := get_some (xs := xs) (k := k) (by rw [HL.out]; omega)
      obtain ⟨b, off, hA, hbk, hcx⟩ := hr.at_ (ints_get hx)
      subst hA
      replace hcx := (hb.cell (p := ⟨b, off + k, none⟩) hbk).trans hcx
      by_cases h2 : k < n'
      · have h2' : (k : Int) < (n' : Int) := by omega
        have hk0 : (0 : Int) ≤ (k : Int) := by omega
        obtain ⟨y, hy⟩ := get_some (xs := ys) (k := k) (by rw [HL'.out]; omega)
        obtain ⟨b', off', hA, hbk', hcy⟩ := hr'.at_ (ints_get hy)
        subst hA
        replace hcy := (hb.cell (p := ⟨b', off' + k, none⟩) hbk').trans hcy
        have HX := Lib.hid hx; have HY := Lib.hid hy
        clear hx hy hb
        by_cases h3 : x < y
        · have HN : Hid (cmpL xs ys = -1) := Lib.hid (by rw [HC.out, drop_get HX.out, drop_get HY.out]; simp [cmpL, h3])
          go_wp2_with fail
          go_quiet (fail)
          go_wp2_with fail
          go_ret
          exact ⟨by rw [HN.out]; rfl, drn_step hw.out _⟩
        · by_cases h4 : y < x
          · have HN : Hid (cmpL xs ys = 1) := Lib.hid (by rw [HC.out, drop_get HX.out, drop_get HY.out]; simp [cmpL, h3, h4])
            go_wp2_with fail
            go_quiet (fail)
            go_wp2_with fail
            go_quiet (fail)
            go_wp2_with fail
            go_ret
            exact ⟨by rw [HN.out]; rfl, by first | exact drn_step hw.out _ | exact drn_step (drn_step hw.out _) _⟩
          · have HN : Hid (cmpL xs ys = cmpL (xs.drop (k + 1)) (ys.drop (k + 1))) := Lib.hid (by rw [HC.out, drop_get HX.out, drop_get HY.out]; simp [cmpL, h3, h4])
            go_wp2_with fail
            go_quiet (fail)
            go_wp2_with fail
            go_quiet (fail)
            go_wp2_with fail
            go_roundw
            case rel => exact ⟨k + 1, by omega, by omega, by go_num, HN, Lib.hid (by first | exact drn_step hw.out _ | exact drn_step (drn_step hw.out _) _)⟩
            case measure => simp [intOf]; omega
      · have h2' : ¬ (k : Int) < (n' : Int) := by omega
        have h3 : ¬ n < n' := by omega
        have h4 : n' < n := by omega
        have h3' : ¬ (n : Int) < (n' : Int) := by omega
        have h4' : (n' : Int) < (n : Int) := by omega
        have HN : Hid (cmpL xs ys = 1) := Lib.hid (by rw [HC.out, drop_get hx, List.drop_of_length_le (l := ys) (by rw [HL'.out]; omega)]; rfl)
        clear hx
        go_wp2_with fail
        go_ret
        exact ⟨by rw [HN.out]; rfl, hw.out⟩
    · have h1' : ¬ (k : Int) < (n : Int) := by omega
      have e1 : xs.drop k = [] := List.drop_of_length_le (by rw [HL.out]; omega)
      by_cases h2 : n < n'
      · have h2' : (n : Int) < (n' : Int) := by omega
        have HN : Hid (cmpL xs ys = -1) := Lib.hid (by
          obtain ⟨y, hy⟩ := get_some (xs := ys) (k := k) (by rw [HL'.out]; omega)
          rw [HC.out, e1, drop_get hy]; rfl)
        clear e1
        go_wp2_with fail
        go_ret
        exact ⟨by rw [HN.out]; rfl, hw.out⟩
      · have h2' : ¬ (n : Int) < (n' : Int) := by omega
        have h3 : ¬ n' < n := by omega
        have h3' : ¬ (n' : Int) < (n : Int) := by omega
        have HN : Hid (cmpL xs ys = 0) := Lib.hid (by rw [HC.out, e1, List.drop_of_length_le (l := ys) (by rw [HL'.out]; omega)]; rfl)
        clear e1
        go_wp2_with fail
        go_ret
        exact ⟨by rw [HN.out]; rfl, hw.out⟩
theorem order_cmp {a b : Int} {x y : List Int} : cmpL (a :: x) (b :: y) = if a < b then -1 else if b < a then 1 else cmpL x y := rfl
set_option maxHeartbeats 1000000 in
theorem l29Order_any (w : World) (A A' : Option Addr) (n c n' c' : Nat) (a b : Int) (xs ys : List Int) (hr : Rd w A n (ints xs)) (hr' : Rd w A' n' (ints ys)) (hn : n ≤ 1000000000) (hn' : n' ≤ 1000000000) :
    Calls Try.prog 122 #[.int .i64 a, .slice A n c, .int .i64 b, .slice A' n' c'] w (DrP w (.int .i64 (cmpL (a :: xs) (b :: ys)))) := by
  by_cases h1 : a < b
  · have HO : Hid (cmpL (a :: xs) (b :: ys) = -1) := Lib.hid (by simp [order_cmp, h1])
    go_enter Try.func122, Try.ntmps122
    go_wp2_with fail
    go_ret
    exact ⟨by rw [HO.out]; rfl, ⟨0, rfl⟩⟩
  · by_cases h2 : b < a
    · have HO : Hid (cmpL (a :: xs) (b :: ys) = 1) := Lib.hid (by simp [order_cmp, h1, h2])
      go_enter Try.func122, Try.ntmps122
      go_wp2_with fail
      go_ret
      exact ⟨by rw [HO.out]; rfl, ⟨0, rfl⟩⟩
    · have HO : Hid (cmpL (a :: xs) (b :: ys) = cmpL xs ys) := Lib.hid (by simp [order_cmp, h1, h2])
      go_enter Try.func122, Try.ntmps122
      go_wp2_with fail
      refine (l01Compare_any _ _ _ _ _ _ _ xs ys hr hr' hn hn').mono ?_
      rw [← HO.out]
      rintro e w2 ⟨rfl, hb2⟩
      go_wp2_with fail
      go_ret
      exact ⟨rfl, hb2⟩
set_option maxHeartbeats 1000000 in
theorem l29Lengths_any (w : World) (A : Option Addr) (n c : Nat) (xss : List (List Int)) (hr : RdL w A n xss) (hn : n ≤ 1000000000) (m : Int) :
    Calls Try.prog 118 #[.slice A n c, .int .i64 m] w fun e w' => e = .returned (.bool (xss.all (lenW m))) ∧ w = w' := by
  have HL : Hid (xss.length = n) := Lib.hid hr.len
  go_enter Try.func118, Try.ntmps118
  go_wp2_with fail
  go_loop [5] (fun q => ∃ k : Nat, k ≤ n ∧ q = .int .i64 k ∧ Hid ((xss.take k).all (lenW m) = true)) (fun q => n - (intOf q).toNat)
  case atStart => exact ⟨0, Nat.zero_le _, rfl, Lib.hid (by simp)⟩
  case round =>
    obtain ⟨k, hk, rfl, hall⟩ := hrel
    by_cases h1 : k < n
    · obtain ⟨xs, hx⟩ := get_some (xs := xss) (k := k) (by rw [HL.out]; omega)
      obtain ⟨b, off, A', n', c', rfl, hbs, hc, hn', hr'⟩ := hr.at_ hx
      have hl' : xs.length = n' := by simpa using hr'.1
      have HX := Lib.hid hx
      clear hx
      by_cases hm : (n' : Int) = m
      · have hne : ((n' : Int) != m) = false := by simp [hm]
        have HE : Hid (lenW m xs = wordB xs) := Lib.hid (by simp [lenW, hl', hm])
        clear hm hl'
        cases hin : wordB xs with
        | true =>
          have HIN := Lib.hid hin; clear hin
          go_wp2_with (go_at_call 151; refine (l03Is_any _ _ _ _ _ hr' (by omega)).mono ?_; rw [HIN.out]; rintro e w' ⟨rfl, rfl⟩)
          go_round
          case rel => exact ⟨k + 1, by omega, by go_num, Lib.hid (all_step hall.out HX.out (by rw [HE.out, HIN.out]))⟩
          case measure => simp [intOf]; omega
        | false =>
          have HIN := Lib.hid hin; clear hin
          go_wp2_with (go_at_call 151; refine (l03Is_any _ _ _ _ _ hr' (by omega)).mono ?_; rw [HIN.out]; rintro e w' ⟨rfl, rfl⟩)
          go_ret
          exact ⟨by rw [all_out HX.out (by rw [HE.out, HIN.out])]; rfl, rfl⟩
      · have hne : ((n' : Int) != m) = true := by simpa using hm
        have HE : Hid (lenW m xs = false) := Lib.hid (by simp [lenW, hl', hm])
        clear hm hl'
        go_wp2_with fail
        go_ret
        exact ⟨by rw [all_out HX.out HE.out]; rfl, rfl⟩
    · have h := hall.out
      rw [List.take_of_length_le (by rw [HL.out]; omega)] at h
      have HO := Lib.hid h
      clear h
      go_wp2_with fail
      go_ret
      exact ⟨by rw [HO.out]; rfl, rfl⟩
end Go.Proofs.Ytcpkhhammafchaa
/- Proofs by contexts: lists of lists, the program's small functions. -/
namespace Go.Proofs.Ytcpkhhammafchaa
open Go.RowKit
set_option linter.unusedVariables false
set_option linter.unusedSimpArgs false
/-- The blocks of rows. -/
def FU (us : List Value) (k : Nat) : Prop := ∃ u ∈ us, Fo u k
theorem inner_fu {w : World} {F : Nat → Prop} {us : List Value} {xss : List (List Int)} (h : InnerP w F us xss) : InnerP w (FU us) us xss := by
  obtain ⟨h1, h2, h3⟩ := h
  refine ⟨h1, fun i u xs hu hx => ?_, h3⟩
  obtain ⟨A, n, c, rfl, hn, ho, _⟩ := h2 i u xs hu hx
  exact ⟨A, n, c, rfl, hn, ho, fun k hk => ⟨_, List.mem_of_getElem? hu, hk⟩⟩
theorem own_fo {w : World} {base e s n : Nat} {v : Value} {vs : List Value} (h : w.ownsRow base e s v n vs) {k : Nat} (hk : Fo v k) : ∃ cs, w.heap[k]? = some (.cells cs e (0, 0)) := by
  rcases h.2 with ⟨rfl, _⟩ | ⟨g, _, cs, rfl, _, hg, _⟩
  · cases hk
  · have e1 : g = k := by simpa [Fo, Value.ownBlock] using hk
    exact ⟨cs, e1 ▸ hg⟩
theorem inner_fo {w : World} {F : Nat → Prop} {us : List Value} {xss : List (List Int)} (h : InnerP w F us xss) {k : Nat} (hk : FU us k) : ∃ cs, w.heap[k]? = some (.cells cs 2 (0, 0)) := by
  obtain ⟨u, hu, hf⟩ := hk
  obtain ⟨i, hi, rfl⟩ := List.mem_iff_getElem.1 hu
  obtain ⟨xs, hx⟩ := get_some (xs := xss) (k := i) (by rw [← h.1]; exact hi)
  obtain ⟨A, n, c, e, _, ho, _⟩ := h.2.1 i _ xs (List.getElem?_eq_getElem hi) hx
  rw [e] at hf
  exact own_fo ho hf
theorem fu_types {w : World} {F : Nat → Prop} {base n : Nat} {v : Value} {vs us : List Value} {xss : List (List Int)} (ho : w.ownsRow base 25 1 v n vs) (h : InnerP w F us xss) (k : Nat) (h1 : FU us k) (h2 : Fo v k) : False := by
  obtain ⟨cs, hc⟩ := inner_fo h h1
  obtain ⟨ds, hd⟩ := own_fo ho h2
  exact blk_ne hc hd (by decide) rfl
/-- A list of rows that is being built, from block lo on. -/
def Bld (w : World) (lo : Nat) (A : Option Addr) (n c : Nat) (xss : List (List Int)) : Prop :=
  ∃ us, w.ownsRow lo 25 1 (.slice A n c) n us ∧ InnerP w (FU us) us xss ∧ ∀ k, FU us k → lo ≤ k ∧ k < w.heap.size
theorem Bld.ownp {w : World} {lo n c : Nat} {A : Option Addr} {xss : List (List Int)} (h : Bld w lo A n c xss) : OwnP w (InR lo w.heap.size) A n c xss := by
  obtain ⟨us, h1, h2, h3⟩ := h
  exact ⟨us, ownN_base h1 (Nat.zero_le _), fun k hk => h1.lt k hk, h2.mono h3, fun k hk => hk.2⟩
theorem Bld.ch {w w' : World} {lo n c : Nat} {A : Option Addr} {xss : List (List Int)} {F : Nat → Prop} (h : Bld w lo A n c xss) (hc : Ch F w w') (hd : ∀ k, lo ≤ k → k < w.heap.size → ¬ F k) : Bld w' lo A n c xss := by
  obtain ⟨us, h1, h2, h3⟩ := h
  refine ⟨us, own_ch h1 hc (fun k h4 h5 => hd k (h1.lt k h4).1 (h1.lt k h4).2 h5), h2.ch hc (fun k h4 h5 => hd k (h3 k h4).1 (h3 k h4).2 h5), fun k hk => ⟨(h3 k hk).1, Nat.lt_of_lt_of_le (h3 k hk).2 hc.size⟩⟩
theorem Bld.below {w w' : World} {lo n c : Nat} {A : Option Addr} {xss : List (List Int)} (h : Bld w lo A n c xss) (hb : Below w.heap.size w w') : Bld w' lo A n c xss := h.ch (ch_below (F := fun _ => False) hb) (fun _ _ _ h => h)
theorem Bld.len {w : World} {lo n c : Nat} {A : Option Addr} {xss : List (List Int)} (h : Bld w lo A n c xss) : xss.length = n := h.ownp.len
theorem Bld.nil (w : World) (T : TypeId) (hT : T = 25) : Bld (w.alloc (.cells #[] T)) w.heap.size (some ⟨w.heap.size, 0, none⟩) 0 0 [] := by
  subst hT
  exact ⟨[], by simpa using own_lit w #[] 0 25 rfl (by omega), InnerP.nil _ _, fun k hk => by obtain ⟨u, hu, _⟩ := hk; simp at hu⟩
theorem Bld.nil0 (w : World) (lo : Nat) : Bld w lo none 0 0 [] := ⟨[], own_nil _ _ _, InnerP.nil _ _, fun k hk => by obtain ⟨u, hu, _⟩ := hk; simp at hu⟩
/-- One row more: a call made it, an append lays it. -/
theorem Bld.step {w w2 : World} {lo k c n2 c2 : Nat} {A A2 : Option Addr} {xss : List (List Int)} {xs : List Int} (h : Bld w lo A k c xss) (hb : Below w.heap.size w w2) (ho : w2.ownsRow w.heap.size 2 1 (.slice A2 n2 c2) n2 (ints xs)) (hn : n2 ≤ 1000000000) (hlo : lo ≤ w.heap.size) :
    ∃ us, w2.ownsRow lo 25 1 (.slice A k c) k us ∧ ∀ A4 c4 w4, w4.ownsRow lo 25 1 (.slice A4 (k + 1) c4) (k + 1) (us ++ [.slice A2 n2 c2]) → w2.grownBy w4 (Value.slice A k c).ownBlock → Bld w4 lo A4 (k + 1) c4 (xss ++ [xs]) := by
  obtain ⟨us, h1, h2, h3⟩ := h
  have h1' := ownN_below h1 hb (Nat.le_refl _)
  have h2' := h2.ch (ch_below (F := fun _ => False) hb) (fun _ _ h => h)
  have hs := h2'.snoc (G := FU (us ++ [.slice A2 n2 c2])) ho hn (fun q a b => by have := (h3 q a).2; have := (ho.lt q b).1; omega) (fun q hq => by obtain ⟨u, hu, hf⟩ := hq; exact ⟨u, by simp [hu], hf⟩) (fun q hq => ⟨_, by simp, hq⟩)
  refine ⟨us, h1', fun A4 c4 w4 ho4 hg4 => ⟨_, ho4, hs.ch (ch_row hg4) (fun q a b => fu_types h1' hs q a b), fun q hq => ?_⟩⟩
  obtain ⟨u, hu, hf⟩ := hq
  have hsz := hg4.size
  have hsb := hb.size
  rcases List.mem_append.1 hu with hu | hu
  · have := h3 q ⟨u, hu, hf⟩; omega
  · simp at hu; subst hu; have := ho.lt q hf; omega
set_option maxHeartbeats 1000000 in
theorem areLists1_any (w : World) (A : Option Addr) (n c : Nat) (xs : List Int) (hr : Rd w A n (ints xs)) (hn : n ≤ 1000000000) (g1 g2 T1 T2 : Nat) (m g : Int) (h1 : w.heap[g1]? = some (.cells #[.int .i64 m] T1 (0, 0))) (h2 : w.heap[g2]? = some (.cells #[.int .i64 g] T2 (0, 0))) :
    Calls Try.prog 156 #[.slice A n c, .pointer (some ⟨g1, 0, none⟩), .pointer (some ⟨g2, 0, none⟩)] w (RetV w (.bool (!lenB m g xs))) := by
  have hl : xs.length = n := by simpa using hr.1
  have q0 := blk_cell h1 0 (v := .int .i64 m) rfl
  have p0 := blk_cell h2 0 (v := .int .i64 g) rfl
  clear h1 h2
  by_cases h : (n : Int) = m
  · have hne : ((n : Int) != m) = false := by simp [h]
    have HO : Hid (lenB m g xs = allIn xs 0 g) := Lib.hid (by simp [lenB, hl, h])
    clear h hl
    go_enter Try.func156, Try.ntmps156
    go_wp2_with (go_at_call 39; refine (allWithin_any _ _ _ _ xs hr (by omega) _ _).mono ?_; rintro e w' ⟨rfl, rfl⟩)
    go_ret
    exact ⟨by rw [HO.out]; rfl, Below.refl _ _⟩
  · have hne : ((n : Int) != m) = true := by simpa using h
    have HO : Hid (lenB m g xs = false) := Lib.hid (by simp [lenB, hl, h])
    clear h hl
    go_enter Try.func156, Try.ntmps156
    go_wp2_with fail
    go_ret
    exact ⟨by rw [HO.out]; rfl, Below.refl _ _⟩
set_option maxHeartbeats 1000000 in
theorem indexFuncAL (w : World) (A : Option Addr) (n c : Nat) (ps : List (List Int)) (hr : RdL w A n ps) (hn : n ≤ 1000000000) (g1 g2 T1 T2 : Nat) (m g : Int) (h1g : w.heap[g1]? = some (.cells #[.int .i64 m] T1 (0, 0))) (h2g : w.heap[g2]? = some (.cells #[.int .i64 g] T2 (0, 0))) :
    Calls Try.prog 171 #[.slice A n c, .func (.func 156) #[] #[.pointer (some ⟨g1, 0, none⟩), .pointer (some ⟨g2, 0, none⟩)]] w (FoundN w (!ps.all (lenB m g))) := by
  have HL : Hid (ps.length = n) := Lib.hid (hr.len)
  go_enter Try.func171, Try.ntmps171
  go_wp2_with fail
  go_loopw [8] (fun q wr => ∃ k : Nat, k ≤ n ∧ q = .int .i64 k ∧ Hid ((ps.take k).all (lenB m g) = true) ∧ Below w.heap.size w wr) (fun q _ => n - (intOf q).toNat)
  case atStart => exact ⟨0, Nat.zero_le _, rfl, Lib.hid (by simp), Below.refl _ _⟩
  case round =>
    obtain ⟨k, hk, rfl, hall, hb⟩ := hrel
    by_cases h1 : k < n
    · obtain ⟨x, hx⟩ := get_some (xs := ps) (k := k) (by rw [HL.out]; omega)
      obtain ⟨b, off, A', n', c', rfl, hbs, hc, hn', hr'⟩ := hr.at_ hx
      replace hc := (hb.cell (p := ⟨b, off + k, none⟩) hbs).trans hc
      replace hr' := hr'.below hb (Nat.le_refl _)
      have HX := Lib.hid hx
      clear hx
      by_cases hin : (lenB m g) x = true
      · go_wp2_with (go_at_call 156; refine (areLists1_any _ _ _ _ x hr' hn' g1 g2 T1 T2 m g (blk_below h1g hb (blk_lt h1g)) (blk_below h2g hb (blk_lt h2g))).mono ?_; rintro e w' ⟨rfl, hb2⟩)
        go_roundw
        case rel => exact ⟨k + 1, by omega, by go_num, Lib.hid (all_step hall.out HX.out hin), hb.trans (hb2.mono hb.size)⟩
        case measure => simp [intOf]; omega
      · have hin' : (lenB m g) x = false := by simpa using hin
        clear hin
        go_wp2_with (go_at_call 156; refine (areLists1_any _ _ _ _ x hr' hn' g1 g2 T1 T2 m g (blk_below h1g hb (blk_lt h1g)) (blk_below h2g hb (blk_lt h2g))).mono ?_; rintro e w' ⟨rfl, hb2⟩)
        go_ret
        exact ⟨k, rfl, by rw [all_out HX.out hin']; simp, hb.trans (hb2.mono hb.size)⟩
    · go_wp2_with fail
      go_ret
      have h := hall.out
      rw [List.take_of_length_le (by rw [HL.out]; omega)] at h
      exact ⟨-1, rfl, by rw [h]; rfl, hb⟩
set_option maxHeartbeats 400000 in
theorem containsFuncAL (w : World) (A : Option Addr) (n c : Nat) (ps : List (List Int)) (hr : RdL w A n ps) (hn : n ≤ 1000000000) (g1 g2 T1 T2 : Nat) (m g : Int) (h1g : w.heap[g1]? = some (.cells #[.int .i64 m] T1 (0, 0))) (h2g : w.heap[g2]? = some (.cells #[.int .i64 g] T2 (0, 0))) :
    Calls Try.prog 153 #[.slice A n c, .func (.func 156) #[] #[.pointer (some ⟨g1, 0, none⟩), .pointer (some ⟨g2, 0, none⟩)]] w (RetV w (.bool (!ps.all (lenB m g)))) := by
  go_enter Try.func153, Try.ntmps153
  go_wp2_with fail
  refine (indexFuncAL _ _ _ _ _ hr hn g1 g2 T1 T2 m g h1g h2g).mono ?_
  rintro e w' ⟨i, rfl, hi, hb⟩
  have HI := Lib.hid hi; clear hi
  go_wp2_with fail
  go_ret
  exact ⟨by rw [← HI.out]; rfl, hb⟩
set_option maxHeartbeats 1000000 in
theorem areLists_any (w : World) (A : Option Addr) (n c : Nat) (xss : List (List Int)) (hr : RdL w A n xss) (hn : n ≤ 1000000000) (m g : Int) :
    Calls Try.prog 128 #[.slice A n c, .int .i64 m, .int .i64 g] w (RetV w (.bool (xss.all (lenB m g)))) := by
  have hb : Below w.heap.size w ((w.alloc (.cells #[.int .i64 m] 3)).alloc (.cells #[.int .i64 g] 2)) := (below_new w _).trans ((below_new _ _).mono (by simp))
  have HX0 := Lib.hid (blk_alloc (box_new w #[.int .i64 m] 3) (.cells #[.int .i64 g] 2))
  have HX1 : Hid (((w.alloc (.cells #[.int .i64 m] 3)).alloc (.cells #[.int .i64 g] 2)).heap[w.heap.size + 1]? = some (.cells #[.int .i64 g] 2 (0, 0))) := Lib.hid (by have h := box_new (w.alloc (.cells #[.int .i64 m] 3)) #[.int .i64 g] 2; simpa using h)
  have HR := Lib.hid (hr.below hb (Nat.le_refl _))
  have HB := Lib.hid hb
  clear hb
  go_enter Try.func128, Try.ntmps128
  go_wp2_with (go_at_call 153; refine (containsFuncAL _ _ _ _ xss HR.out hn w.heap.size (w.heap.size + 1) _ _ m g HX0.out HX1.out).mono ?_; rintro e w2 ⟨rfl, hb2⟩)
  go_ret
  exact ⟨by simp, HB.out.trans (hb2.mono HB.out.size)⟩
set_option maxHeartbeats 1000000 in
theorem copyLists_any (w : World) (A : Option Addr) (n c : Nat) (xss : List (List Int)) (hr : RdL w A n xss) (hn : n ≤ 1000000000) :
    Calls Try.prog 127 #[.slice A n c] w (RetP w xss) := by
  have HL : Hid (xss.length = n) := Lib.hid hr.len
  have H0 := Lib.hid (Bld.nil w _ rfl)
  have HB0 := Lib.hid (below_new w (.cells #[] 25))
  go_enter Try.func127, Try.ntmps127
  go_wp2_with fail
  go_loopw [3, 9] (fun q i wr => ∃ (k : Nat) (A3 : Option Addr) (c3 : Nat), k ≤ n ∧ i = .int .i64 k ∧ q = .slice A3 k c3 ∧ Bld wr w.heap.size A3 k c3 (xss.take k) ∧ Below w.heap.size w wr) (fun _ i _ => n - (intOf i).toNat)
  case atStart => exact ⟨0, _, _, by omega, rfl, rfl, by simpa using H0.out, HB0.out⟩
  case round =>
    obtain ⟨k, A3, c3, hk, rfl, rfl, hbl, hb⟩ := hrel
    by_cases hlt : k < n
    · have hlt' : (k : Int) < (n : Int) := by omega
      obtain ⟨xs, hx⟩ := get_some (xs := xss) (k := k) (by rw [HL.out]; exact hlt)
      obtain ⟨b, off, A', n', c', rfl, hbs, hc, hn', hr'⟩ := hr.at_ hx
      have hc1 := (hb.cell (p := ⟨b, off + k, none⟩) hbs).trans hc
      have HT : Hid (xss.take (k + 1) = xss.take k ++ [xs]) := Lib.hid (by rw [List.take_add_one, hx]; rfl)
      have HBL := Lib.hid hbl
      have HB := Lib.hid hb
      clear hx hc hbl
      go_wp2_with fail
      refine (clone_any _ _ _ _ xs (hr'.below hb (Nat.le_refl _)) (by omega)).mono ?_
      rintro e w2 ⟨A2, n2, c2, rfl, ho2, hb2⟩
      have hn2 : n2 ≤ 1000000000 := by have h1 := ho2.1; have h2 := hr'.1; simp at h1 h2; omega
      obtain ⟨us, hu1, hu2⟩ := HBL.out.step hb2 ho2 hn2 HB.out.size
      have HU2 := Lib.hid hu2
      have HB2 := Lib.hid (HB.out.trans (hb2.mono HB.out.size))
      clear hu2 ho2 hb2 hb hn2
      go_wp2_with (at_builtin; go_must (refine wpList_app1g Try.eltS rfl _ _ rfl w2 w.heap.size _ k us (by rfl) hu1 (.slice A2 n2 c2) rfl (by rfl) HB2.out.size (by omega) ?_); rintro A4 c4 w4 ho4 hb4 hg4)
      go_roundw
      case rel => exact ⟨k + 1, A4, c4, by omega, by go_num, rfl, by rw [HT.out]; exact HU2.out A4 c4 w4 ho4 hg4, HB2.out.trans hb4⟩
      case measure => simp [intOf]; omega
    · obtain rfl : k = n := by omega
      have HE : Hid (xss.take k = xss) := Lib.hid (List.take_of_length_le (by rw [HL.out]; omega))
      go_wp2_with fail
      go_ret
      rw [HE.out] at hbl
      exact ⟨A3, k, c3, _, rfl, hbl.ownp, fun q hq => hq, hb⟩
theorem stated_take {sts : List Int} {cs : List (List Int)} {k : Nat} {x : Int} {w : List Int} (h1 : sts[k]? = some x) (h2 : cs[k]? = some w) : (stated sts cs).take (k + 1) = (stated sts cs).take k ++ [x :: w] := by
  rw [List.take_add_one, stated_at h1 h2]; rfl
set_option maxHeartbeats 4000000 in
theorem stated_any (w : World) (A1 : Option Addr) (n c1 : Nat) (sts : List Int) (hr1 : Rd w A1 n (ints sts)) (hc1 : n ≤ c1) (A : Option Addr) (c : Nat) (xss : List (List Int)) (hr : RdL w A n xss) (hn : n ≤ 1000000000) (hs : ∀ xs ∈ xss, xs.length ≤ 100000) :
    Calls Try.prog 129 #[.slice A1 n c1, .slice A n c] w (RetP w (stated sts xss)) := by
  have HL : Hid (xss.length = n) := Lib.hid hr.len
  have HL1 : Hid (sts.length = n) := Lib.hid (by simpa using hr1.1)
  have H0 := Lib.hid (Bld.nil w _ rfl)
  have HB0 := Lib.hid (below_new w (.cells #[] 25))
  have HS := Lib.hid hs
  have HSL : Hid ((stated sts xss).length = n) := Lib.hid (by rw [stated_len (by rw [HL.out, HL1.out]), HL.out])
  clear hs
  go_enter Try.func129, Try.ntmps129
  go_wp2_with fail
  go_loopw [5, 11] (fun q i wr => ∃ (k : Nat) (A3 : Option Addr) (c3 : Nat), k ≤ n ∧ i = .int .i64 k ∧ q = .slice A3 k c3 ∧ Bld wr w.heap.size A3 k c3 ((stated sts xss).take k) ∧ Below w.heap.size w wr) (fun _ i _ => n - (intOf i).toNat)
  case atStart => exact ⟨0, _, _, by omega, rfl, rfl, by simpa using H0.out, HB0.out⟩
  case round =>
    obtain ⟨k, A3, c3, hk, rfl, rfl, hbl, hb⟩ := hrel
    by_cases hlt : k < n
    · have hlt' : (k : Int) < (n : Int) := by omega
      obtain ⟨xs, hx⟩ := get_some (xs := xss) (k := k) (by rw [HL.out]; exact hlt)
      obtain ⟨x, hx1⟩ := get_some (xs := sts) (k := k) (by rw [HL1.out]; exact hlt)
      obtain ⟨b, off, A', n', c', rfl, hbs, hc, hn', hr'⟩ := hr.at_ hx
      have hc1' := (hb.cell (p := ⟨b, off + k, none⟩) hbs).trans hc
      have HT : Hid ((stated sts xss).take (k + 1) = (stated sts xss).take k ++ [x :: xs]) := Lib.hid (stated_take hx1 hx)
      have hw1 : IntKind.i64.wrap ((k : Int) + 1) = (k : Int) + 1 := IntWalk.i64_in _ (by omega)
      have hcut : ∀ w, (Instr.slice 25 (.slice A1 n c1) (some (.int .i64 (k : Int))) (some (.int .i64 ((k : Int) + 1))) none).run Try.prog w = .ok (.slice (cutA A1 k c1 1) (k + 1 - k) (c1 - k)) w := fun w => run_cutFH Try.underlying25 Try.szI w A1 n c1 k (k + 1) _ _ _ _ rfl (by push_cast; rfl) (by omega) (by omega)
      have e1 : k + 1 - k = 1 := by omega
      rw [e1] at hcut
      have HR1 : Hid (Rd wr (cutA A1 k c1 1) 1 (ints [x])) := Lib.hid (by
        have h1 := ((hr1.below hb (Nat.le_refl _)).cut k c1 (by omega) hc1).take 1 (by omega)
        have h2 : ((ints sts).drop k).take 1 = ints [x] := by rw [← List.map_drop, drop_get hx1]; rfl
        rwa [h2] at h1)
      have HRX := Lib.hid (hr'.below hb (Nat.le_refl _))
      have HXL : Hid (xs.length ≤ 100000) := Lib.hid (HS.out xs (List.mem_of_getElem? hx))
      have HBL := Lib.hid hbl
      have HB := Lib.hid hb
      clear hx hx1 hc hbl hr'
      go_wp2_with fail
      refine (joined_any _ _ 2 _ [[x], xs] (rdL2 HR1.out HRX.out (by omega) (by omega)) (by decide) (by have := HXL.out; simp; omega)).mono ?_
      rintro e w2 ⟨A2, n2, c2, rfl, ho2, hb2⟩
      have hn2 : n2 ≤ 1000000000 := by have h1 := ho2.1; have := HXL.out; simp at h1; omega
      have hb2' : Below wr.heap.size wr w2 := (below_new wr _).trans (hb2.mono (by simp))
      have ho2' := ownN_base (base' := wr.heap.size) ho2 (by simp)
      have ej : [[x], xs].flatten = x :: xs := by simp
      rw [ej] at ho2'
      obtain ⟨us, hu1, hu2⟩ := HBL.out.step hb2' ho2' hn2 HB.out.size
      have HU2 := Lib.hid hu2
      have HB2 := Lib.hid (HB.out.trans (hb2'.mono HB.out.size))
      clear hu2 ho2 hb2 hb hn2 ho2' hb2'
      go_wp2_with (at_builtin; go_must (refine wpList_app1g Try.eltS rfl _ _ rfl w2 w.heap.size _ k us (by rfl) hu1 (.slice A2 n2 c2) rfl (by rfl) HB2.out.size (by omega) ?_); rintro A4 c4 w4 ho4 hb4 hg4)
      go_roundw
      case rel => exact ⟨k + 1, A4, c4, by omega, by go_num, rfl, by rw [HT.out]; exact HU2.out A4 c4 w4 ho4 hg4, HB2.out.trans hb4⟩
      case measure => simp [intOf]; omega
    · obtain rfl : k = n := by omega
      have HE : Hid ((stated sts xss).take k = stated sts xss) := Lib.hid (List.take_of_length_le (by rw [HSL.out]; omega))
      go_wp2_with fail
      go_ret
      rw [HE.out] at hbl
      exact ⟨A3, k, c3, _, rfl, hbl.ownp, fun q hq => hq, hb⟩
theorem allTo_le {p : Nat → Bool} {k n : Nat} (h : allTo p k = true) (hn : n ≤ k) : allTo p n = true := allTo_true.2 fun i hi => allTo_true.1 h i (by omega)
theorem upAt_of {xss : List (List Int)} {k : Nat} {xs ys : List Int} (h0 : 1 ≤ k) (h1 : xss[k - 1]? = some xs) (h2 : xss[k]? = some ys) : upAt xss k = decide (cmpL xs ys < 0) := by
  simp only [upAt, getD_of h1, getD_of h2, decide_eq_false (show ¬ k = 0 by omega), Bool.false_or]
set_option maxHeartbeats 1000000 in
theorem risingLists_any (w : World) (A : Option Addr) (n c : Nat) (xss : List (List Int)) (hr : RdL w A n xss) (hn : n ≤ 1000000000) :
    Calls Try.prog 157 #[.slice A n c] w (RetV w (.bool (rises xss))) := by
  have HL : Hid (xss.length = n) := Lib.hid hr.len
  have HO : Hid (rises xss = allTo (upAt xss) n) := Lib.hid (by rw [rises, HL.out])
  go_enter Try.func157, Try.ntmps157
  go_wp2_with fail
  go_loopw [3] (fun q wr => ∃ k : Nat, 1 ≤ k ∧ (k ≤ n ∨ k = 1) ∧ q = .int .i64 k ∧ Hid (allTo (upAt xss) k = true) ∧ Below w.heap.size w wr) (fun q _ => n - (intOf q).toNat)
  case atStart => exact ⟨1, by omega, .inr rfl, rfl, Lib.hid (by simp [allTo, upAt]), Below.refl _ _⟩
  case round =>
    obtain ⟨k, h1k, hk, rfl, hall, hb⟩ := hrel
    by_cases hlt : k < n
    · have hlt' : (k : Int) < (n : Int) := by omega
      have hk0 : (0 : Int) ≤ (k : Int) := by omega
      obtain ⟨ys, hy⟩ := get_some (xs := xss) (k := k) (by rw [HL.out]; exact hlt)
      obtain ⟨xs, hx⟩ := get_some (xs := xss) (k := k - 1) (by rw [HL.out]; omega)
      obtain ⟨b, off, A1, n1, c1, rfl, hbs, hc1, hn1, hr1⟩ := hr.at_ hx
      obtain ⟨b', off', A2, n2, c2, hAA, hbs', hc2, hn2, hr2⟩ := hr.at_ hy
      injection hAA with hAA
      injection hAA with e1 e2
      subst e1 e2
      replace hc1 := (hb.cell (p := ⟨b, off + (k - 1), none⟩) hbs).trans hc1
      replace hc2 := (hb.cell (p := ⟨b, off + k, none⟩) hbs).trans hc2
      have hw : IntKind.i64.wrap ((k : Int) - 1) = (k : Int) - 1 := IntWalk.i64_in _ (by omega)
      have ht : ((k : Int) - 1).toNat = k - 1 := by omega
      have hi0 : (0 : Int) ≤ (k : Int) - 1 := by omega
      have hi1 : (k : Int) - 1 < (n : Int) := by omega
      have HU := Lib.hid (upAt_of h1k hx hy)
      have hcmp : ∀ m, Calls Try.prog 134 #[.slice A1 n1 c1, .slice A2 n2 c2] (wr.drewN m) (fun e w' => e = .returned (.int .i64 (cmpL xs ys)) ∧ w' = wr.drewN m) := fun m => (compare_any _ _ _ _ _ _ _ xs ys (by have h := hr1.below hb (Nat.le_refl _); exact h) (by have h := hr2.below hb (Nat.le_refl _); exact h) hn1 hn2).mono fun e w' h => ⟨h.1, h.2.symm⟩
      have HCMP := Lib.hid (fun m => Calls.quiet_of_same (hcmp m))
      clear hx hy hcmp hr1 hr2
      generalize cmpL xs ys = z at *
      by_cases hz : z < 0
      · have hz2 : decide ((0 : Int) ≤ z) = false := decide_eq_false (by omega)
        have hz3 : ¬ (0 : Int) ≤ z := by omega
        have HN := Lib.hid (allTo_next hall.out (by rw [HU.out]; exact decide_eq_true hz))
        go_wp2_with fail
        go_quiet ((go_at_call 134; with_reducible exact HCMP.out _))
        go_wp2_with fail
        go_roundw
        case rel => exact ⟨k + 1, by omega, .inl (by omega), by go_num, HN, below_drewN hb⟩
        case measure => simp [intOf]; omega
      · have hz2 : decide ((0 : Int) ≤ z) = true := decide_eq_true (by omega)
        have hz3 : (0 : Int) ≤ z := by omega
        have HN : Hid (allTo (upAt xss) n = false) := Lib.hid (allTo_out hlt (by rw [HU.out]; exact decide_eq_false hz))
        go_wp2_with fail
        go_quiet ((go_at_call 134; with_reducible exact HCMP.out _))
        go_wp2_with fail
        go_ret
        exact ⟨by rw [HO.out, HN.out]; rfl, below_drewN hb⟩
    · have HN := Lib.hid (allTo_le hall.out (show n ≤ k by omega))
      go_wp2_with fail
      go_ret
      exact ⟨by rw [HO.out, HN.out]; rfl, hb⟩
end Go.Proofs.Ytcpkhhammafchaa
/- Proofs by contexts: rising and sorted lists (reference). -/
namespace Go.Proofs.Ytcpkhhammafchaa
open Go.RowKit
set_option linter.unusedVariables false
set_option linter.unusedSimpArgs false
set_option maxHeartbeats 4000000 in
theorem l29Rises_any (w : World) (A : Option Addr) (n c : Nat) (xss : List (List Int)) (hr : RdL w A n xss) (hn : n ≤ 1000000000) (m : Int) :
    Calls Try.prog 152 #[.slice A n c, .int .i64 m] w (DrP w (.bool (allTo (lenUp xss m) n))) := by
  have HL : Hid (xss.length = n) := Lib.hid hr.len
  go_enter Try.func152, Try.ntmps152
  go_wp2_with fail
  go_loopw [5] (fun q wr => ∃ k : Nat, k ≤ n ∧ q = .int .i64 k ∧ Hid (allTo (lenUp xss m) k = true) ∧ Hid (∃ nq, wr = w.drewN nq)) (fun q _ => n - (intOf q).toNat)
  case atStart => exact ⟨0, by omega, rfl, Lib.hid (allTo_zero _), Lib.hid ⟨0, rfl⟩⟩
  case round =>
    obtain ⟨k, hk, rfl, hall, hw0⟩ := hrel
    have hb : Below w.heap.size w wr := by obtain ⟨nr, h⟩ := hw0.out; rw [h]; exact below_drewN (Below.refl _ _)
    by_cases hlt : k < n
    · have hlt' : (k : Int) < (n : Int) := by omega
      have hk0 : (0 : Int) ≤ (k : Int) := by omega
      obtain ⟨ys, hy⟩ := get_some (xs := xss) (k := k) (by rw [HL.out]; exact hlt)
      obtain ⟨b, off, A2, n2, c2, hA, hbs, hc2, hn2, hr2⟩ := hr.at_ hy
      subst hA
      replace hc2 := (hb.cell (p := ⟨b, off + k, none⟩) hbs).trans hc2
      have hl2 : ys.length = n2 := by simpa using hr2.1
      have hr2' := hr2.below hb (Nat.le_refl _)
      have h3 : ∀ q, Calls Try.prog 151 #[.slice A2 n2 c2] (wr.drewN q) (fun e w' => e = .returned (.bool (wordB ys)) ∧ w' = wr.drewN q) := fun q => (l03Is_any _ _ _ _ ys (by have h := hr2'; exact h) hn2).mono fun e w' h => ⟨h.1, h.2.symm⟩
      have H3 := Lib.hid (fun q => Calls.quiet_of_same (h3 q))
      have HY := Lib.hid (getD_of hy)
      have HE : Hid (lenUp xss m k = (decide ((n2 : Int) = m) && wordB ys && upAt xss k)) := Lib.hid (by rw [lenUp, HY.out, lenW, hl2])
      clear h3 hl2
      by_cases hm : (n2 : Int) = m
      · have hne : ((n2 : Int) != m) = false := by simp [hm]
        have HM : Hid (decide ((n2 : Int) = m) = true) := Lib.hid (decide_eq_true hm)
        clear hm
        generalize wordB ys = u at *
        cases u with
        | false =>
          have HN : Hid (allTo (lenUp xss m) n = false) := Lib.hid (allTo_out hlt (by rw [HE.out]; simp))
          clear hy hr2 hr2'
          go_wp2_with fail
          go_quiet ((go_at_call 151; with_reducible exact H3.out _))
          go_wp2_with fail
          go_ret
          exact ⟨by rw [HN.out]; rfl, drn_step hw0.out _⟩
        | true =>
          by_cases h0 : k = 0
          · subst h0
            simp only [Nat.add_zero] at hc2
            have HN := Lib.hid (allTo_next hall.out (by rw [HE.out, HM.out]; rfl))
            clear hy hr2 hr2'
            go_wp2_with fail
            go_quiet ((go_at_call 151; with_reducible exact H3.out _))
            go_wp2_with fail
            go_roundw
            case rel => exact ⟨1, by omega, by go_num, HN, Lib.hid (drn_step hw0.out _)⟩
            case measure => simp [intOf]; omega
          · obtain ⟨xs, hx⟩ := get_some (xs := xss) (k := k - 1) (by rw [HL.out]; omega)
            obtain ⟨b', off', A1, n1, c1, hAA, hbs', hc1, hn1, hr1⟩ := hr.at_ hx
            injection hAA with hAA
            injection hAA with e1 e2
            subst e1 e2
            replace hc1 := (hb.cell (p := ⟨b, off + (k - 1), none⟩) hbs').trans hc1
            have hw : IntKind.i64.wrap ((k : Int) - 1) = (k : Int) - 1 := IntWalk.i64_in _ (by omega)
            have ht : ((k : Int) - 1).toNat = k - 1 := by omega
            have hi0 : (0 : Int) ≤ (k : Int) - 1 := by omega
            have hi1 : (k : Int) - 1 < (n : Int) := by omega
            have hk1 : (0 : Int) < (k : Int) := by omega
            have hk1' : 0 < k := by omega
            have HU := Lib.hid (upAt_of (by omega) hx hy)
            have hr1' := hr1.below hb (Nat.le_refl _)
            have hcmp : ∀ q, Calls Try.prog 120 #[.slice A1 n1 c1, .slice A2 n2 c2] (wr.drewN q) (DrP (wr.drewN q) (.int .i64 (cmpL xs ys))) := fun q => l01Compare_any _ _ _ _ _ _ _ xs ys (by have h := hr1'; exact h) (by have h := hr2'; exact h) hn1 hn2
            have HCMP := Lib.hid (fun q => Calls.quiet_of (hcmp q))
            clear hx hy hcmp hr1 hr2 hr1' hr2'
            generalize cmpL xs ys = zz at *
            have HZ2 := Lib.hid HU.out
            by_cases hz : zz < 0
            · have hz2 : decide ((0 : Int) ≤ zz) = false := decide_eq_false (by omega)
              have hz3 : ¬ (0 : Int) ≤ zz := by omega
              have HN := Lib.hid (allTo_next hall.out (by rw [HE.out, HM.out, HU.out, decide_eq_true hz]; rfl))
              go_wp2_with fail
              go_quiet (first
                | (go_at_call 151; with_reducible exact H3.out _)
                | (go_at_call 120; with_reducible exact HCMP.out _))
              go_wp2_with fail
              go_roundw
              case rel => exact ⟨k + 1, by omega, by go_num, HN, Lib.hid (drn_step hw0.out _)⟩
              case measure => simp [intOf]; omega
            · have hz2 : decide ((0 : Int) ≤ zz) = true := decide_eq_true (by omega)
              have hz3 : (0 : Int) ≤ zz := by omega
              have HN : Hid (allTo (lenUp xss m) n = false) := Lib.hid (allTo_out hlt (by rw [HE.out, HM.out, HU.out, decide_eq_false hz]; rfl))
              go_wp2_with fail
              go_quiet (first
                | (go_at_call 151; with_reducible exact H3.out _)
                | (go_at_call 120; with_reducible exact HCMP.out _))
              go_wp2_with fail
              go_ret
              exact ⟨by rw [HN.out]; rfl, drn_step hw0.out _⟩
      · have hne : ((n2 : Int) != m) = true := by simpa using hm
        have HN : Hid (allTo (lenUp xss m) n = false) := Lib.hid (allTo_out hlt (by rw [HE.out]; simp [hm]))
        clear hm hy hr2 hr2'
        go_wp2_with fail
        go_quiet ((go_at_call 151; with_reducible exact H3.out _))
        go_wp2_with fail
        go_ret
        exact ⟨by rw [HN.out]; rfl, drn_step hw0.out _⟩
    · obtain rfl : k = n := by omega
      go_wp2_with fail
      go_ret
      exact ⟨by rw [hall.out]; rfl, hw0.out⟩
/-- Windows and contexts in a box. -/
def BS (w : World) (g : Nat) (m : Int) (A1 : Option Addr) (n1 c1 : Nat) (A2 : Option Addr) (n2 c2 : Nat) (A3 : Option Addr) (n3 c3 : Nat) (A4 : Option Addr) (n4 c4 : Nat) : Prop := w.heap[g]? = some (.cells #[.int .i64 m, .slice A1 n1 c1, .slice A2 n2 c2, .slice A3 n3 c3, .slice A4 n4 c4] 117 (0, 0))
section
variable {w w' : World} {g : Nat} {m : Int} {A1 : Option Addr} {n1 c1 : Nat} {A2 : Option Addr} {n2 c2 : Nat} {A3 : Option Addr} {n3 c3 : Nat} {A4 : Option Addr} {n4 c4 : Nat}
theorem BS.bel (h : BS w g m A1 n1 c1 A2 n2 c2 A3 n3 c3 A4 n4 c4) (hb : Below w.heap.size w w') : BS w' g m A1 n1 c1 A2 n2 c2 A3 n3 c3 A4 n4 c4 := blk_bel h hb
theorem BS.cells (h : BS w g m A1 n1 c1 A2 n2 c2 A3 n3 c3 A4 n4 c4) :
    w.cell? ⟨g, 0, none⟩ = some (.int .i64 m) ∧ w.cell? ⟨g, 1, none⟩ = some (.slice A1 n1 c1) ∧ w.cell? ⟨g, 2, none⟩ = some (.slice A2 n2 c2) ∧ w.cell? ⟨g, 3, none⟩ = some (.slice A3 n3 c3) ∧ w.cell? ⟨g, 4, none⟩ = some (.slice A4 n4 c4) := ⟨blk_cell h 0 rfl, blk_cell h 1 rfl, blk_cell h 2 rfl, blk_cell h 3 rfl, blk_cell h 4 rfl⟩
end
theorem ordAt_of {sts : List Int} {cs : List (List Int)} {k : Nat} {a b : Int} {xs ys : List Int} (h0 : 1 ≤ k) (h1 : sts[k - 1]? = some a) (h2 : cs[k - 1]? = some xs) (h3 : sts[k]? = some b) (h4 : cs[k]? = some ys) : ordAt sts cs k = decide (cmpL (a :: xs) (b :: ys) < 0) := by
  simp only [ordAt, getD_of h2, getD_of h4, getI_of h1, getI_of h3, decide_eq_false (show ¬ k = 0 by omega), Bool.false_or]
def sortS (m : Int) (ls rs cs : List (List Int)) (sts : List Int) : Bool := allTo (lenUp ls m) ls.length && allTo (lenUp rs m) rs.length && allTo (ordAt sts cs) cs.length
set_option maxHeartbeats 8000000 in
theorem l29Sorted_any (w : World) (g : Nat) (m : Int) (A1 : Option Addr) (n1 c1 : Nat) (A2 : Option Addr) (n2 c2 : Nat) (A3 : Option Addr) (n3 c3 : Nat) (A4 : Option Addr) (n4 c4 : Nat) (hp : BS w g m A1 n1 c1 A2 n2 c2 A3 n3 c3 A4 n4 c4)
    (ls rs cs : List (List Int)) (sts : List Int) (hr1 : RdL w A1 n1 ls) (hn1 : n1 ≤ 1000000000) (hr2 : RdL w A2 n2 rs) (hn2 : n2 ≤ 1000000000) (hr3 : RdL w A3 n3 cs) (hn3 : n3 ≤ 1000000000) (hr4 : Rd w A4 n4 (ints sts)) (h34 : n4 = n3) :
    Calls Try.prog 119 #[.pointer (some ⟨g, 0, none⟩)] w (DrP w (.bool (sortS m ls rs cs sts))) := by
  subst h34
  have HL3 : Hid (cs.length = n4) := Lib.hid hr3.len
  have HL4 : Hid (sts.length = n4) := Lib.hid (by simpa using hr4.1)
  have HP := Lib.hid hp
  obtain ⟨y0, y1, y2, y3, y4⟩ := hp.cells
  have hs1 : ∀ q, Calls Try.prog 152 #[.slice A1 n1 c1, .int .i64 m] (w.drewN q) (DrP (w.drewN q) (.bool (allTo (lenUp ls m) n1))) := fun q => l29Rises_any (w.drewN q) A1 n1 c1 ls (by have h := hr1; exact h) hn1 m
  have hs2 : ∀ q, Calls Try.prog 152 #[.slice A2 n2 c2, .int .i64 m] (w.drewN q) (DrP (w.drewN q) (.bool (allTo (lenUp rs m) n2))) := fun q => l29Rises_any (w.drewN q) A2 n2 c2 rs (by have h := hr2; exact h) hn2 m
  have HS1 := Lib.hid (fun q => Calls.quiet_of (hs1 q))
  have HS2 := Lib.hid (fun q => Calls.quiet_of (hs2 q))
  have HO : Hid (sortS m ls rs cs sts = (allTo (lenUp ls m) n1 && allTo (lenUp rs m) n2 && allTo (ordAt sts cs) n4)) := Lib.hid (by rw [sortS, hr1.len, hr2.len, hr3.len])
  clear hs1 hs2 hp hr1 hr2
  generalize allTo (lenUp ls m) n1 = u1 at *
  generalize allTo (lenUp rs m) n2 = u2 at *
  cases u1 with
  | false =>
    go_enter Try.func119, Try.ntmps119
    go_wp2_with fail
    go_quiet (first
      | (go_at_call 152; with_reducible exact HS1.out _)
      | (go_at_call 152; with_reducible exact HS2.out _))
    go_wp2_with fail
    go_ret
    exact ⟨by rw [HO.out]; rfl, ⟨_, rfl⟩⟩
  | true =>
    cases u2 with
    | false =>
      go_enter Try.func119, Try.ntmps119
      go_wp2_with fail
      go_quiet (first
        | (go_at_call 152; with_reducible exact HS1.out _)
        | (go_at_call 152; with_reducible exact HS2.out _))
      go_wp2_with fail
      go_ret
      exact ⟨by rw [HO.out]; rfl, ⟨_, rfl⟩⟩
    | true =>
      have HO2 : Hid (sortS m ls rs cs sts = allTo (ordAt sts cs) n4) := Lib.hid (by rw [HO.out]; rfl)
      go_enter Try.func119, Try.ntmps119
      go_wp2_with fail
      go_quiet (first
        | (go_at_call 152; with_reducible exact HS1.out _)
        | (go_at_call 152; with_reducible exact HS2.out _))
      go_wp2_with fail
      go_loopw [3] (fun q wr => ∃ k : Nat, 1 ≤ k ∧ (k ≤ n4 ∨ k = 1) ∧ q = .int .i64 k ∧ Hid (allTo (ordAt sts cs) k = true) ∧ Hid (∃ nq, wr = w.drewN nq)) (fun q _ => n4 - (intOf q).toNat)
      case atStart => exact ⟨1, by omega, .inr rfl, rfl, Lib.hid (by simp [allTo, ordAt]), Lib.hid ⟨_, rfl⟩⟩
      case round =>
        obtain ⟨k, h1k, hk, rfl, hall, hw0⟩ := hrel
        have hb : Below w.heap.size w wr := by obtain ⟨nr, h⟩ := hw0.out; rw [h]; exact below_drewN (Below.refl _ _)
        clear y0 y1 y2 y3 y4
        obtain ⟨y0, y1, y2, y3, y4⟩ := (HP.out.bel hb).cells
        by_cases hlt : k < n4
        · have hlt' : (k : Int) < (n4 : Int) := by omega
          have hk0 : (0 : Int) ≤ (k : Int) := by omega
          obtain ⟨ys, hy⟩ := get_some (xs := cs) (k := k) (by rw [HL3.out]; exact hlt)
          obtain ⟨xs, hx⟩ := get_some (xs := cs) (k := k - 1) (by rw [HL3.out]; omega)
          obtain ⟨sb, hsb⟩ := get_some (xs := sts) (k := k) (by rw [HL4.out]; exact hlt)
          obtain ⟨sa, hsa⟩ := get_some (xs := sts) (k := k - 1) (by rw [HL4.out]; omega)
          obtain ⟨b, off, A5, n5, c5, hA, hbs, hc1, hn5, hr5⟩ := hr3.at_ hx
          obtain ⟨b', off', A6, n6, c6, hAA, hbs', hc2, hn6, hr6⟩ := hr3.at_ hy
          obtain ⟨d, of, hD, hds, hc3⟩ := hr4.at_ (ints_get hsa)
          obtain ⟨d', of', hDD, hds', hc4⟩ := hr4.at_ (ints_get hsb)
          subst hA hD
          injection hAA with hAA
          injection hAA with e1 e2
          subst e1 e2
          injection hDD with hDD
          injection hDD with e1 e2
          subst e1 e2
          replace hc1 := (hb.cell (p := ⟨b, off + (k - 1), none⟩) hbs).trans hc1
          replace hc2 := (hb.cell (p := ⟨b, off + k, none⟩) hbs).trans hc2
          replace hc3 := (hb.cell (p := ⟨d, of + (k - 1), none⟩) hds).trans hc3
          replace hc4 := (hb.cell (p := ⟨d, of + k, none⟩) hds).trans hc4
          have hw : IntKind.i64.wrap ((k : Int) - 1) = (k : Int) - 1 := IntWalk.i64_in _ (by omega)
          have ht : ((k : Int) - 1).toNat = k - 1 := by omega
          have hi0 : (0 : Int) ≤ (k : Int) - 1 := by omega
          have hi1 : (k : Int) - 1 < (n4 : Int) := by omega
          have HU := Lib.hid (ordAt_of h1k hsa hx hsb hy)
          have hr5' := hr5.below hb (Nat.le_refl _)
          have hr6' := hr6.below hb (Nat.le_refl _)
          have hcmp : ∀ q, Calls Try.prog 122 #[.int .i64 sa, .slice A5 n5 c5, .int .i64 sb, .slice A6 n6 c6] (wr.drewN q) (DrP (wr.drewN q) (.int .i64 (cmpL (sa :: xs) (sb :: ys)))) := fun q => l29Order_any _ _ _ _ _ _ _ sa sb xs ys (by have h := hr5'; exact h) (by have h := hr6'; exact h) hn5 hn6
          have HCMP := Lib.hid (fun q => Calls.quiet_of (hcmp q))
          clear hx hy hsa hsb hcmp hr5 hr6 hr5' hr6'
          generalize cmpL (sa :: xs) (sb :: ys) = z at *
          by_cases hz : z < 0
          · have hz2 : decide ((0 : Int) ≤ z) = false := decide_eq_false (by omega)
            have hz3 : ¬ (0 : Int) ≤ z := by omega
            have HN := Lib.hid (allTo_next hall.out (by rw [HU.out]; exact decide_eq_true hz))
            go_wp2_with fail
            go_quiet ((go_at_call 122; with_reducible exact HCMP.out _))
            go_wp2_with fail
            go_roundw
            case rel => exact ⟨k + 1, by omega, .inl (by omega), by go_num, HN, Lib.hid (drn_step hw0.out _)⟩
            case measure => simp [intOf]; omega
          · have hz2 : decide ((0 : Int) ≤ z) = true := decide_eq_true (by omega)
            have hz3 : (0 : Int) ≤ z := by omega
            have HN : Hid (allTo (ordAt sts cs) n4 = false) := Lib.hid (allTo_out hlt (by rw [HU.out]; exact decide_eq_false hz))
            go_wp2_with fail
            go_quiet ((go_at_call 122; with_reducible exact HCMP.out _))
            go_wp2_with fail
            go_ret
            exact ⟨by rw [HO2.out, HN.out]; rfl, drn_step hw0.out _⟩
        · have HN := Lib.hid (allTo_le hall.out (show n4 ≤ k by omega))
          go_wp2_with fail
          go_ret
          exact ⟨by rw [HO2.out, HN.out]; rfl, hw0.out⟩
end Go.Proofs.Ytcpkhhammafchaa
/- Append to a row of the call's own: the new row lies in the old block or in a new one. Lists of lists that grow, by footprint. -/
namespace Go.Proofs.Ytcpkhhammafchaa
open Go.RowKit
set_option linter.unusedVariables false
set_option linter.unusedSimpArgs false
theorem run_appO {P : Program} {t ty e : TypeId} {z : Value} (hE : Elt P t e z) {w : World} {base : Nat} {A A0 : Option Addr} {n c m c0 : Nat} {vs us : List Value} (hown : w.ownsRow base e 1 (.slice A n c) n vs) (hr : Rd w A0 m us) (hu : ∀ u ∈ us, u.oneCell' = true) (hm : 0 < m) (hn : n + m ≤ 1099511627776) :
    ∃ A' c' w', (Builtin.append_ #[t, t] ty #[.slice A n c, .slice A0 m c0]).run P w = .ok (.slice A' (n + m) c') w' ∧ w'.ownsRow 0 e 1 (.slice A' (n + m) c') (n + m) (vs ++ us) ∧ Ch (Fo (.slice A n c)) w w' ∧ (∀ k, Fo (.slice A' (n + m) c') k → Fo (.slice A n c) k ∨ w.heap.size ≤ k) := by
  obtain ⟨ht, hzc, i, hi, hz, hs1, hb⟩ := hE
  have hbn : (n + m) * i.bytes ≤ (n + m) * 24 := Nat.mul_le_mul_left _ hb
  obtain ⟨b, off', rfl, hlt, hc⟩ := hr.2 hm
  have hc' : ∀ j u, us[j]? = some u → w.cell? ((⟨b, off', none⟩ : Addr).add j) = some u := by
    intro j u hj
    have := hc j u hj
    unfold Addr.add
    split
    · rename_i h0; subst h0; simpa using this
    · exact this
  have hul : us.length = m := hr.1
  have hvl : vs.length = n := by simpa using hown.1
  rcases hown.2 with ⟨hv, h0⟩ | ⟨g, cap, cur, hv, hbs, hg, hnc, hcm, hcs, htk⟩
  · injection hv with h1 h2 h3
    subst h1 h2 h3
    have hvs : vs = [] := List.eq_nil_of_length_eq_zero hvl
    subst hvs
    obtain ⟨v', w', hrun, ho, hgr, _⟩ := run_append_own (P := P) w w.heap.size t ty e i z 1 i.bytes ht hi hz hs1 rfl (by rw [hzc]; rfl) (by decide) (.slice none 0 0) 0 [] (World.ownsRow_nil w w.heap.size e 1) ⟨b, off', none⟩ m c0 us (by simpa using hul) hc' hu (by unfold maxLen; omega) (by omega) (Nat.le_refl _)
    obtain ⟨A', c', rfl, _, _⟩ := ownN_form ho
    exact ⟨A', c', w', hrun, ownN_base ho (Nat.zero_le _), ch_row hgr, fun k hk => .inr (ho.lt k hk).1⟩
  · injection hv with h1 h2 h3
    subst h1 h3
    by_cases hroom : n + m ≤ c
    · have hrun := run_append_room_cells (P := P) w t ty e i ht hi g 0 n c ⟨b, off', none⟩ m c0 us (by rw [hs1]; simpa using hul) hc' hu hroom
        (fun j hj => by rw [hs1, cell_of_row w g _ cur e (0, 0) hg, Array.getElem?_eq_getElem (by omega)]; rfl) (fun j hj => frozen_of_row w g _ cur e hg)
      have hbg : g < w.heap.size := blk_lt hg
      obtain ⟨v', w', hrun', ho, hgr, _⟩ := run_append_own (P := P) (ty := ty) w base t e i z 1 i.bytes ht hi hz hs1 rfl (by rw [hzc]; rfl) (by decide) (.slice (some ⟨g, 0, none⟩) n c) n vs hown ⟨b, off', none⟩ m c0 us (by simpa using hul) hc' hu (by unfold maxLen; omega) (by omega) (by omega)
      rw [hrun] at hrun'
      injection hrun' with e1 e2
      subst e1 e2
      exact ⟨_, _, _, hrun, ownN_base ho (Nat.zero_le _), ch_row hgr, fun k hk => .inl hk⟩
    · obtain ⟨v', w', hrun, ho, hgr⟩ := run_append_arg_grows (P := P) w t ty e i z 1 i.bytes ht hi hz hs1 rfl (by rw [hzc]; rfl) (by decide) ⟨g, 0, none⟩ n c vs (by simpa using hvl)
        (fun j u hj => by
          have h1 : w.cell? ⟨g, 0 + j, none⟩ = some u := by
            rw [Nat.zero_add, cell_of_row w g _ cur e (0, 0) hg, ← Array.getElem?_toList]
            rw [← htk, List.getElem?_take] at hj
            split at hj
            · exact hj
            · cases hj
          unfold Addr.add
          split
          · rename_i h0; subst h0; simpa using h1
          · exact h1) ⟨b, off', none⟩ m c0 us (by simpa using hul) hc' (by omega) (by unfold maxLen; omega) (by omega)
      obtain ⟨A', c', rfl, _, _⟩ := ownN_form ho
      exact ⟨A', c', w', hrun, ownN_base ho (Nat.zero_le _), ch_grown hgr (by simp), fun k hk => .inr (ho.lt k hk).1⟩
/-- 'append(s, y)' in a plain region, by footprint. -/
theorem wpList_app1O {P : Program} {ops : Array Oper} {rest : List Oper} {o : Oper} {a : Act} {Q : Exit → Act → World → Prop} {t e : TypeId} {z : Value} (hE : Elt P t e z) (hgd : o.guard = none) (s x : Operand)
    (ho : o.op = .call { callee := .builtin .append, args := #[s, x], argTypes := #[t, t] }) (W : World) (base : Nat) (A : Option Addr) (n c : Nat) (vs : List Value) (hs : a.eval s = .slice A n c) (hown : W.ownsRow base e 1 (.slice A n c) n vs)
    (y : Value) (hy : y.oneCell' = true) (hx : a.eval x = .slice (some ⟨W.heap.size, 0, none⟩) 1 1) (hn : n ≤ 1000000000)
    (h : ∀ A' c' w', w'.ownsRow 0 e 1 (.slice A' (n + 1) c') (n + 1) (vs ++ [y]) → Ch (Fo (.slice A n c)) W w' → (∀ k, Fo (.slice A' (n + 1) c') k → Fo (.slice A n c) k ∨ W.heap.size ≤ k) → wpList P ops Q rest (a.put o.dst (.slice A' (n + 1) c')) w') :
    wpList P ops Q (o :: rest) a (W.alloc (.cells #[y] e)) := by
  have hr : Rd (W.alloc (.cells #[y] e)) (some ⟨W.heap.size, 0, none⟩) 1 [y] := own_rd (own_lit W #[y] 1 e rfl (by omega))
  obtain ⟨A', c', w', hrun, k1, k2, k3⟩ := run_appO (ty := o.type) (c0 := 1) hE (ownN_below hown (below_new W _) (Nat.le_refl _)) hr (by simpa using hy) (by omega) (by omega)
  refine wpList_plain hgd fun K hK => ?_
  unfold Oper.wp execOp
  simp only [ho, resolve, invoke, builtin, Sem.run_bind, Sem.run_pure, Result.andThen_ok, List.map_toArray, List.map_cons, List.map_nil, hs, hx, hrun]
  refine hK _ _ (h A' c' w' k1 ((ch_alloc (Fo (.slice A n c)) W _).trans k2) (fun k hk => ?_))
  rcases k3 k hk with h' | h'
  · exact .inl h'
  · exact .inr (by simp at h'; omega)
/-- A list of lists by its exact footprint. -/
def FX (A : Option Addr) (n c : Nat) (us : List Value) (k : Nat) : Prop := Fo (.slice A n c) k ∨ FU us k
def OwnX (w : World) (A : Option Addr) (n c : Nat) (us : List Value) (xss : List (List Int)) : Prop := w.ownsRow 0 25 1 (.slice A n c) n us ∧ InnerP w (FU us) us xss
theorem OwnX.nil (w : World) : OwnX w none 0 0 [] [] := ⟨own_nil _ _ _, InnerP.nil _ _⟩
theorem fx_nil (k : Nat) : ¬ FX none 0 0 [] k := by
  rintro (h | ⟨u, hu, _⟩)
  · simp [Fo, Value.ownBlock] at h
  · simp at hu
theorem OwnX.lt {w : World} {A : Option Addr} {n c : Nat} {us : List Value} {xss : List (List Int)} (h : OwnX w A n c us xss) {k : Nat} (hk : FX A n c us k) : k < w.heap.size := by
  rcases hk with hk | hk
  · exact (h.1.lt k hk).2
  · obtain ⟨cs, hc⟩ := inner_fo h.2 hk; exact blk_lt hc
theorem OwnX.ch {w w' : World} {A : Option Addr} {n c : Nat} {us : List Value} {xss : List (List Int)} {F : Nat → Prop} (h : OwnX w A n c us xss) (hc : Ch F w w') (hd : ∀ k, FX A n c us k → ¬ F k) : OwnX w' A n c us xss :=
  ⟨own_ch h.1 hc (fun k h1 h2 => hd k (.inl h1) h2), h.2.ch hc (fun k h1 h2 => hd k (.inr h1) h2)⟩
theorem OwnX.below {w w' : World} {A : Option Addr} {n c : Nat} {us : List Value} {xss : List (List Int)} (h : OwnX w A n c us xss) (hb : Below w.heap.size w w') : OwnX w' A n c us xss := h.ch (ch_below (F := fun _ => False) hb) (fun _ _ h => h)
theorem OwnX.ownp {w : World} {A : Option Addr} {n c : Nat} {us : List Value} {xss : List (List Int)} (h : OwnX w A n c us xss) : OwnP w (FX A n c us) A n c xss :=
  ⟨us, h.1, fun k hk => .inl hk, h.2.mono (fun k hk => .inr hk), fun k hk => h.lt hk⟩
/-- One row more. -/
theorem OwnX.step {w w2 : World} {k c n2 c2 : Nat} {A A2 : Option Addr} {us : List Value} {xss : List (List Int)} {xs : List Int} (h : OwnX w A k c us xss) (hb : Below w.heap.size w w2) (ho : w2.ownsRow w.heap.size 2 1 (.slice A2 n2 c2) n2 (ints xs)) (hn : n2 ≤ 1000000000)
    {A4 : Option Addr} {c4 : Nat} {w4 : World} (ho4 : w4.ownsRow 0 25 1 (.slice A4 (k + 1) c4) (k + 1) (us ++ [.slice A2 n2 c2])) (hc4 : Ch (Fo (.slice A k c)) w2 w4) (hf : ∀ q, Fo (.slice A4 (k + 1) c4) q → Fo (.slice A k c) q ∨ w2.heap.size ≤ q) :
    OwnX w4 A4 (k + 1) c4 (us ++ [.slice A2 n2 c2]) (xss ++ [xs]) ∧ ∀ q, FX A4 (k + 1) c4 (us ++ [.slice A2 n2 c2]) q → FX A k c us q ∨ w.heap.size ≤ q := by
  have h2' := h.2.ch (ch_below (F := fun _ => False) hb) (fun _ _ h => h)
  have hs := h2'.snoc (G := FU (us ++ [.slice A2 n2 c2])) ho hn (fun q a b => by have := h.lt (.inr a); have := (ho.lt q b).1; omega) (fun q hq => by obtain ⟨u, hu, hf⟩ := hq; exact ⟨u, by simp [hu], hf⟩) (fun q hq => ⟨_, by simp, hq⟩)
  refine ⟨⟨ho4, hs.ch hc4 (fun q a b => fu_types (ownN_below h.1 hb (Nat.le_refl _)) hs q a b)⟩, fun q hq => ?_⟩
  rcases hq with hq | ⟨u, hu, hf'⟩
  · rcases hf q hq with h1 | h1
    · exact .inl (.inl h1)
    · exact .inr (Nat.le_trans hb.size h1)
  · rcases List.mem_append.1 hu with hu | hu
    · exact .inl (.inr ⟨u, hu, hf'⟩)
    · simp at hu; subst hu; exact .inr (ho.lt q hf').1
end Go.Proofs.Ytcpkhhammafchaa
/- Contexts that follow, in plain Lean; the reference's small functions on words. -/
namespace Go.Proofs.Ytcpkhhammafchaa
open Go.RowKit
set_option linter.unusedVariables false
set_option linter.unusedSimpArgs false
/-- The contexts for the symbols below s: P F x Q, where F x is on the list. -/
def nx (P F Q : List Int) (ws : List (List Int)) : Nat → List (List Int)
  | 0 => []
  | s + 1 => nx P F Q ws s ++ (if F ++ [(s : Int)] ∈ ws then [P ++ F ++ [(s : Int)] ++ Q] else [])
theorem nx_yes {P F Q : List Int} {ws : List (List Int)} {s : Nat} (h : F ++ [(s : Int)] ∈ ws) : nx P F Q ws (s + 1) = nx P F Q ws s ++ [P ++ F ++ [(s : Int)] ++ Q] := by simp [nx, h]
theorem nx_no {P F Q : List Int} {ws : List (List Int)} {s : Nat} (h : ¬ F ++ [(s : Int)] ∈ ws) : nx P F Q ws (s + 1) = nx P F Q ws s := by simp [nx, h]
theorem nx_mem {P F Q : List Int} {ws : List (List Int)} : ∀ {s : Nat} {x : List Int}, x ∈ nx P F Q ws s → ∃ i : Nat, i < s ∧ x = P ++ F ++ [(i : Int)] ++ Q
  | 0, x, h => by simp [nx] at h
  | s + 1, x, h => by
    rw [nx] at h
    rcases List.mem_append.1 h with h | h
    · obtain ⟨i, h1, h2⟩ := nx_mem h
      exact ⟨i, by omega, h2⟩
    · split at h
      · simp at h; exact ⟨s, by omega, by simpa using h⟩
      · simp at h
theorem nx_len (P F Q : List Int) (ws : List (List Int)) : ∀ s, (nx P F Q ws s).length ≤ s
  | 0 => by simp [nx]
  | s + 1 => by
    have := nx_len P F Q ws s
    rw [nx, List.length_append]
    split <;> simp <;> omega
theorem cmpL_pre (a x y : List Int) : cmpL (a ++ x) (a ++ y) = cmpL x y := by
  induction a with
  | nil => rfl
  | cons h t ih => rw [List.cons_append, List.cons_append, cmpL_eq (by simp [sgn])]; exact ih
theorem cmpL_lt {P F Q : List Int} {i s : Nat} (h : i < s) : cmpL (P ++ F ++ [(i : Int)] ++ Q) (P ++ F ++ [(s : Int)] ++ Q) = -1 := by
  rw [List.append_assoc, List.append_assoc (P ++ F), cmpL_pre]
  show cmpL ((i : Int) :: ([] ++ Q)) ((s : Int) :: ([] ++ Q)) = -1
  rw [cmpL_ne] <;> simp [sgn] <;> omega
theorem nx_last {P F Q : List Int} {ws : List (List Int)} {s k : Nat} {x : List Int} (h : (nx P F Q ws s)[k]? = some x) : cmpL x (P ++ F ++ [(s : Int)] ++ Q) = -1 := by
  obtain ⟨i, h1, rfl⟩ := nx_mem (List.mem_of_getElem? h)
  exact cmpL_lt h1
set_option maxHeartbeats 2000000 in
theorem l00Same_any (w : World) (A A' : Option Addr) (n c n' c' : Nat) (xs ys : List Int) (hr : Rd w A n (ints xs)) (hr' : Rd w A' n' (ints ys)) (hn : n ≤ 1000000000) (hn' : n' ≤ 1000000000) :
    Calls Try.prog 121 #[.slice A n c, .slice A' n' c'] w (DrP w (.bool (decide (xs = ys)))) := by
  have HL : Hid (xs.length = n) := Lib.hid (by simpa using hr.1)
  have HL' : Hid (ys.length = n') := Lib.hid (by simpa using hr'.1)
  by_cases hne : n = n'
  · subst hne
    go_enter Try.func121, Try.ntmps121
    go_wp2_with fail
    go_loopw [5] (fun q wr => ∃ k : Nat, k ≤ n ∧ q = .int .i64 k ∧ Hid (xs.take k = ys.take k) ∧ Hid (∃ nq, wr = w.drewN nq)) (fun q _ => n - (intOf q).toNat)
    case atStart => exact ⟨0, Nat.zero_le _, rfl, Lib.hid (by simp), Lib.hid ⟨0, rfl⟩⟩
    case round =>
      obtain ⟨k, hk, rfl, HC, hw⟩ := hrel
      have hb : Below w.heap.size w wr := by obtain ⟨nr, h⟩ := hw.out; rw [h]; exact below_drewN (Below.refl _ _)
      by_cases h1 : k < n
      · have h1' : (k : Int) < (n : Int) := by omega
        have hk0 : (0 : Int) ≤ (k : Int) := by omega
        obtain ⟨x, hx⟩ := get_some (xs := xs) (k := k) (by rw [HL.out]; omega)
        obtain ⟨y, hy⟩ := get_some (xs := ys) (k := k) (by rw [HL'.out]; omega)
        obtain ⟨b, off, hA, hbk, hcx⟩ := hr.at_ (ints_get hx)
        subst hA
        replace hcx := (hb.cell (p := ⟨b, off + k, none⟩) hbk).trans hcx
        obtain ⟨b', off', hA, hbk', hcy⟩ := hr'.at_ (ints_get hy)
        subst hA
        replace hcy := (hb.cell (p := ⟨b', off' + k, none⟩) hbk').trans hcy
        have HX := Lib.hid hx; have HY := Lib.hid hy
        clear hx hy hb
        by_cases h3 : x = y
        · have h3' : (x != y) = false := by simp [h3]
          have HN : Hid (xs.take (k + 1) = ys.take (k + 1)) := Lib.hid (by rw [List.take_add_one, List.take_add_one, HC.out, HX.out, HY.out, h3])
          clear h3
          go_wp2_with fail
          go_quiet (fail)
          go_wp2_with fail
          go_roundw
          case rel => exact ⟨k + 1, by omega, by go_num, HN, Lib.hid (drn_step hw.out _)⟩
          case measure => simp [intOf]; omega
        · have h3' : (x != y) = true := by simpa using h3
          have HN : Hid (decide (xs = ys) = false) := Lib.hid (decide_eq_false (fun e => h3 (by subst e; have h := HX.out.symm.trans HY.out; injection h)))
          clear h3
          go_wp2_with fail
          go_quiet (fail)
          go_wp2_with fail
          go_ret
          exact ⟨by rw [HN.out]; rfl, drn_step hw.out _⟩
      · have HN : Hid (decide (xs = ys) = true) := Lib.hid (decide_eq_true (by
          have h := HC.out
          rw [List.take_of_length_le (by rw [HL.out]; omega), List.take_of_length_le (by rw [HL'.out]; omega)] at h
          exact h))
        go_wp2_with fail
        go_ret
        exact ⟨by rw [HN.out]; rfl, hw.out⟩
  · have hne' : ((n : Int) != (n' : Int)) = true := bne_iff_ne.2 (by omega)
    have HN : Hid (decide (xs = ys) = false) := Lib.hid (decide_eq_false (fun e => hne (by rw [← HL.out, ← HL'.out, e])))
    clear hne
    go_enter Try.func121, Try.ntmps121
    go_wp2_with fail
    go_ret
    exact ⟨by rw [HN.out]; rfl, 0, rfl⟩
end Go.Proofs.Ytcpkhhammafchaa
/- The reference: words of a machine's symbols; a word that is put behind all others. -/
namespace Go.Proofs.Ytcpkhhammafchaa
open Go.RowKit
set_option linter.unusedVariables false
set_option linter.unusedSimpArgs false
def overB (s : Int) (xss : List (List Int)) : Bool := xss.all (fun xs => allIn xs 0 (s - 1))
theorem over_step {s : Int} {xss : List (List Int)} {k : Nat} {xs : List Int} (h : overB s (xss.take k) = true) (hx : xss[k]? = some xs) (hi : allIn xs 0 (s - 1) = true) : overB s (xss.take (k + 1)) = true := by
  rw [overB, List.take_add_one, hx, List.all_append]
  simp [hi]
  simpa [overB] using h
theorem over_no {s : Int} {xss : List (List Int)} {k : Nat} {xs : List Int} (hx : xss[k]? = some xs) (hi : allIn xs 0 (s - 1) = false) : overB s xss = false := by
  rw [overB, List.all_eq_false]
  exact ⟨xs, List.mem_of_getElem? hx, by simp [hi]⟩
theorem cmpL_self (a : List Int) : cmpL a a = 0 := by have h := cmpL_pre a [] []; simpa [cmpL] using h
theorem own_addr {w : World} {base e n c : Nat} {A : Option Addr} {vs : List Value} (h : w.ownsRow base e 1 (.slice A n c) n vs) (hn : 0 < n) : ∃ g, A = some ⟨g, 0, none⟩ := by
  rcases h.2 with ⟨hv, h0⟩ | ⟨g, cap, cur, hv, _⟩
  · injection hv with _ h2; omega
  · injection hv with h1; exact ⟨g, h1⟩
theorem own_cell0 {w : World} {base e n c g j : Nat} {vs : List Value} (h : w.ownsRow base e 1 (.slice (some ⟨g, 0, none⟩) n c) n vs) (hj : j < n) : (∃ v, w.cell? ⟨g, j, none⟩ = some v) ∧ w.frozen? ⟨g, j, none⟩ = false := by
  obtain ⟨v, hv⟩ := get_some (xs := vs) (k := j) (by have h1 := h.1; omega)
  obtain ⟨b, off, e1, hb, hc⟩ := (own_rd h).at_ hv
  injection e1 with e1
  injection e1 with e1 e2
  subst e1 e2
  rcases h.2 with ⟨hv', _⟩ | ⟨g', cap, cur, hv', _, hg, _⟩
  · cases hv'
  · injection hv' with h1
    injection h1 with h1
    injection h1 with h1
    subst h1
    exact ⟨⟨v, by simpa using hc⟩, frozen_of_row w g j cur e hg⟩
/-- What putting a word behind all others leaves. -/
def PutP (w : World) (A : Option Addr) (n c : Nat) (us : List Value) (u : Value) (e : Ending) (w' : World) : Prop :=
  ∃ A' c', e = .returned (.slice A' (n + 1) c') ∧ w'.ownsRow 0 25 1 (.slice A' (n + 1) c') (n + 1) (us ++ [u]) ∧ Ch (Fo (.slice A n c)) w w' ∧ (∀ q, Fo (.slice A' (n + 1) c') q → Fo (.slice A n c) q ∨ w.heap.size ≤ q)
theorem put_end {w w4 : World} {A : Option Addr} {g n c c4 : Nat} {us : List Value} {u v : Value} (ho : w4.ownsRow 0 25 1 (.slice (some ⟨g, 0, none⟩) (n + 1) c4) (n + 1) (us ++ [v])) (hl : us.length = n) (hc : Ch (Fo (.slice A n c)) w w4) (hf : ∀ q, Fo (.slice (some ⟨g, 0, none⟩) (n + 1) c4) q → Fo (.slice A n c) q ∨ w.heap.size ≤ q) :
    PutP w A n c us u (.returned (.slice (some ⟨g, 0, none⟩) (n + 1) c4)) (w4.setCell ⟨g, n, none⟩ u) := by
  have h := own_put ho n u
  rw [List.set_append_right _ _ (by omega), hl, Nat.sub_self, List.set_cons_zero] at h
  refine ⟨some ⟨g, 0, none⟩, c4, rfl, h, ?_, hf⟩
  have hs := ch_set w4 g n u
  exact ⟨hs.os.trans hc.os, hs.tape.trans hc.tape, hs.output.trans hc.output, Nat.le_trans hc.size hs.size, fun k hk hn => by
    have e : ¬ k = g := fun e => by
      rcases hf k (by simp [Fo, Value.ownBlock, e]) with h1 | h1
      · exact hn h1
      · omega
    rw [hs.block k (Nat.lt_of_lt_of_le hk hc.size) e, hc.block k hk hn]⟩
set_option maxHeartbeats 4000000 in
set_option maxRecDepth 100000 in
theorem l29Put_end (w : World) (A : Option Addr) (n c : Nat) (us : List Value) (xss : List (List Int)) (hx : OwnX w A n c us xss) (hn : n ≤ 1000000) (A2 : Option Addr) (n2 c2 : Nat) (ys : List Int) (hr : Rd w A2 n2 (ints ys)) (hn2 : n2 ≤ 1000000) (hlast : ∀ (k : Nat) (x : List Int), xss[k]? = some x → cmpL x ys = -1) :
    Calls Try.prog 76 #[.slice A n c, .slice A2 n2 c2] w (PutP w A n c us (.slice A2 n2 c2)) := by
  have hrd := hx.ownp.rdl
  have HX := Lib.hid hx
  have HR := Lib.hid hr
  have HUL : Hid (us.length = n) := Lib.hid (by simpa using hx.1.1)
  have hlen := hrd.len
  rcases Nat.eq_zero_or_pos n with hz | hp
  · subst hz
    clear hrd hlast hx hr hlen
    go_enter Try.func76, Try.ntmps76
    go_wp2_with fail
    go_loopw [5] (fun q wr => q = .int .i64 0 ∧ wr = w) (fun _ _ => 0)
    case atStart => exact ⟨rfl, rfl⟩
    case round =>
      as_aux_lemma =>
      obtain ⟨rfl, rfl⟩ := hrel
      go_upto_region 7 with (at_builtin; go_must (refine wpList_app1O Try.eltS rfl _ _ rfl wr 0 A 0 c us (by rfl) HX.out.1 (.slice none 0 0) rfl (by rfl) (by decide) ?_); intro A4 c4 w4 ho4 hc4 hf4)
      obtain ⟨g, rfl⟩ : ∃ g, A4 = some ⟨g, 0, none⟩ := own_addr ho4 (Nat.succ_pos _)
      obtain ⟨⟨vz, hcell⟩, hfr⟩ := own_cell0 ho4 (j := 0) (by omega)
      have HO4 := Lib.hid ho4; have HC4 := Lib.hid hc4; have HF4 := Lib.hid hf4
      clear ho4 hc4 hf4
      go_wp2_with fail
      go_loopw [7] (fun q wx => q = .int .i64 0 ∧ wx = w4) (fun _ _ => 0)
      case atStart => exact ⟨rfl, rfl⟩
      case round =>
        as_aux_lemma =>
        obtain ⟨rfl, rfl⟩ := hrel
        go_wp2_with fail
        go_ret
        exact put_end HO4.out HUL.out HC4.out HF4.out
  · obtain ⟨xs, hxs⟩ := get_some (xs := xss) (k := n - 1) (by omega)
    obtain ⟨b, off, A', n', c', rfl, hbs, hc, hn', hr'⟩ := hrd.at_ hxs
    have HLT := Lib.hid (hlast (n - 1) xs hxs)
    have HNE : Hid (decide (xs = ys) = false) := Lib.hid (decide_eq_false (fun e => by have h := hlast (n - 1) xs hxs; rw [e] at h; have h2 : cmpL ys ys = 0 := cmpL_self ys; omega))
    have hp' : (0 : Int) < (n : Int) := by omega
    have hw1 : IntKind.i64.wrap ((n : Int) - 1) = ((n - 1 : Nat) : Int) := by rw [IntWalk.i64_in _ (by omega)]; omega
    have hi1 : n - 1 < n := by omega
    have hi2 : ((n - 1 : Nat) : Int) < (n : Int) := by omega
    have HRX := Lib.hid hr'
    obtain ⟨p, hpn⟩ : ∃ p, p = n - 1 := ⟨_, rfl⟩
    rw [← hpn] at hw1 hi1 hi2 hc
    clear hrd hlast hx hr hlen hxs hr' hpn
    go_enter Try.func76, Try.ntmps76
    go_wp2_with fail
    go_loopw [5] (fun q wr => q = .int .i64 n ∧ wr = w) (fun _ _ => 0)
    case atStart => exact ⟨rfl, rfl⟩
    case round =>
      as_aux_lemma =>
      obtain ⟨rfl, rfl⟩ := hrel
      go_wp2_with fail
      refine (l01Compare_any _ A' A2 n' c' n2 c2 xs ys HRX.out HR.out hn' (by omega)).mono ?_
      rw [HLT.out]
      rintro e w2 ⟨rfl, m2, rfl⟩
      go_wp2_with fail
      refine (l00Same_any _ A' A2 n' c' n2 c2 xs ys (by have h := HRX.out; exact h) (by have h := HR.out; exact h) hn' (by omega)).mono ?_
      rw [HNE.out]
      rintro e w3 ⟨rfl, m3, rfl⟩
      obtain ⟨w3, hw3⟩ : ∃ w3, w3 = (wr.drewN m2).drewN m3 := ⟨_, rfl⟩
      have HXC : Hid (w3.ownsRow 0 25 1 (.slice (some ⟨b, off, none⟩) n c) n us) := Lib.hid (by rw [hw3]; exact HX.out.1)
      have HCW : Hid (Ch (Fo (.slice (some ⟨b, off, none⟩) n c)) wr w3) := Lib.hid (by rw [hw3]; exact ch_drewN (ch_drewN (Ch.refl _ _)))
      rw [← hw3]
      clear hw3 hc
      go_upto_region 7 with (at_builtin; go_must (refine wpList_app1O Try.eltS rfl _ _ rfl w3 0 (some ⟨b, off, none⟩) n c us (by rfl) HXC.out (.slice none 0 0) rfl (by rfl) (by omega) ?_); intro A4 c4 w4 ho4 hc4 hf4)
      obtain ⟨g, rfl⟩ : ∃ g, A4 = some ⟨g, 0, none⟩ := own_addr ho4 (Nat.succ_pos _)
      obtain ⟨⟨vz, hcell⟩, hfr⟩ := own_cell0 ho4 (j := n) (by omega)
      have HO4 := Lib.hid ho4
      have HC4 := Lib.hid (HCW.out.trans hc4)
      have HF4 : Hid (∀ q, Fo (.slice (some ⟨g, 0, none⟩) (n + 1) c4) q → Fo (.slice (some ⟨b, off, none⟩) n c) q ∨ wr.heap.size ≤ q) := Lib.hid (fun q hq => (hf4 q hq).elim .inl (fun h => .inr (Nat.le_trans HCW.out.size h)))
      have hw2 : IntKind.i64.wrap ((n : Int) + 1 - 1) = (n : Int) := by rw [IntWalk.i64_in _ (by omega)]; omega
      have hi3 : (n : Int) < (n : Int) + 1 := by omega
      have hi4 : n < n + 1 := by omega
      clear ho4 hc4 hf4
      go_wp2_with fail
      go_loopw [7] (fun q wx => q = .int .i64 n ∧ wx = w4) (fun _ _ => 0)
      case atStart => exact ⟨by go_num, rfl⟩
      case round =>
        as_aux_lemma =>
        obtain ⟨rfl, rfl⟩ := hrel
        go_wp2_with fail
        go_ret
        exact put_end HO4.out HUL.out HC4.out HF4.out
end Go.Proofs.Ytcpkhhammafchaa
/- Items: an array of ten numbers out of a list; sets of items. -/
namespace Go.Proofs.Ytcpkhhammafchaa
open Go.RowKit
open Go.Maps (Keyed Tidy IsMap)
set_option linter.unusedVariables false
set_option linter.unusedSimpArgs false
def pad (xs : List Int) : List Int := xs ++ List.replicate (10 - xs.length) 0
theorem pad_len {xs : List Int} (h : xs.length ≤ 10) : (pad xs).length = 10 := by simp [pad]; omega
theorem pad_inj {xs ys : List Int} (h : xs.length = ys.length) (he : pad xs = pad ys) : xs = ys := by
  have h1 := congrArg (List.take xs.length) he
  rw [pad, pad, List.take_left, h, List.take_left] at h1
  exact h1
abbrev itV (ps : List Int) : Value := .agg (ints ps).toArray
abbrev z10 : Array Value := #[.int .i64 0, .int .i64 0, .int .i64 0, .int .i64 0, .int .i64 0, .int .i64 0, .int .i64 0, .int .i64 0, .int .i64 0, .int .i64 0]
theorem blk_range {w : World} {g T : Nat} {cs : List Value} (h : w.heap[g]? = some (.cells cs.toArray T (0, 0))) : w.rangeAt g 0 cs := fun j v hv => by
  rw [Nat.zero_add]
  exact blk_cell h j (by simpa using hv)
theorem blk_there {w : World} {g T n : Nat} {cs : Array Value} (h : w.heap[g]? = some (.cells cs T (0, 0))) (hn : cs.size = n) : w.there g 0 n := fun j hj => by
  rw [Nat.zero_add]
  exact ⟨by rw [blk_cell h j (Array.getElem?_eq_getElem (by omega))]; rfl, blk_free h j⟩
theorem Try.itSize : (Try.prog.info? 185).map (·.size) = some 10 := by kernel_rfl
theorem it_len {xs : List Int} {n : Nat} (hl : xs.length = n) (hn : n ≤ 10) : (ints xs).length = Nat.min n 10 := by
  have h : Nat.min n 10 = n := Nat.min_eq_left hn
  rw [h]; simpa using hl
theorem it_pos {w : World} {A : Option Addr} {n g : Nat} {xs : List Int} (hr : Rd w A n (ints xs)) (hl : xs.length = n) : 0 < (ints xs).length → some (⟨g, 0, none⟩ : Addr) = some ⟨g, 0, none⟩ ∧ ∃ ad, A = some ad ∧ ∀ j v, (ints xs)[j]? = some v → w.cell? (ad.add j) = some v := fun h => by
  obtain ⟨b, off, e, _, hc⟩ := hr.2 (by simp at h; omega)
  refine ⟨rfl, _, e, fun j v hj => ?_⟩
  have := hc j v hj
  unfold Addr.add
  split
  · rename_i h0; subst h0; simpa using this
  · exact this
theorem it_fit {xs : List Int} {n : Nat} (hl : xs.length = n) (hn : n ≤ 10) : 0 + (ints xs).length ≤ (List.replicate 10 (Value.int .i64 0)).length := by simp; omega
theorem it_there {w : World} {g : Nat} {cs : List Value} (h : w.there g 0 10) (hl : cs.length = 10) : w.there g 0 cs.toArray.size := by
  rw [List.size_toArray, hl]; exact h
theorem splice_pad {xs : List Int} : splice (List.replicate 10 (Value.int .i64 0)) 0 (ints xs) = ints (pad xs) := by
  rw [splice, pad]
  have e : (ints xs).length = xs.length := by simp
  rw [e, List.take_zero, List.nil_append, Nat.zero_add, List.drop_replicate]
  show _ = List.map _ _
  rw [List.map_append, List.map_replicate]
set_option maxHeartbeats 4000000 in
set_option maxRecDepth 100000 in
theorem itemOf_any (w : World) (A : Option Addr) (n c : Nat) (xs : List Int) (hr : Rd w A n (ints xs)) (hn : n ≤ 10) :
    Calls Try.prog 131 #[.slice A n c] w (RetV w (itV (pad xs))) := by
  have hl : xs.length = n := by simpa using hr.1
  have HPL : Hid ((ints (pad xs)).length = 10) := Lib.hid (by rw [List.length_map, pad_len (by omega)])
  obtain ⟨w0, hw0⟩ : ∃ w0, w0 = (w.alloc (.cells z10 185)).alloc (.cells z10 185) := ⟨_, rfl⟩
  have hB : Below w.heap.size w w0 := by rw [hw0]; exact (below_new w _).trans ((below_new _ _).mono (by simp))
  have hx0 : w0.heap[w.heap.size + 1]? = some (.cells (List.replicate 10 (Value.int .i64 0)).toArray 185 (0, 0)) := by rw [hw0]; have h := box_new (w.alloc (.cells z10 185)) z10 185; simpa using h
  have hz : w0.heap[w.heap.size]? = some (.cells z10 185 (0, 0)) := by rw [hw0]; exact blk_alloc (box_new w _ _) _
  have hr0 := hr.below hB (Nat.le_refl _)
  have HZ := Lib.hid hz; have HX := Lib.hid hx0; have HR := Lib.hid hr0; have HB := Lib.hid hB; have HL := Lib.hid hl
  clear hz hx0 hr0 hB hr
  go_enter Try.func131, Try.ntmps131
  go_upto_region 2 with fail
  rw [← hw0]
  clear hw0 hl
  as_aux_lemma =>
  go_upto_region 3 with ((refine wpList_copy_splice rfl (.tmp 5) (.tmp 6) 25 25 (by rfl) 2 Try.underlying25 Try.szI (some ⟨w.heap.size + 1, 0, none⟩) A 10 10 n c (by rfl) (by rfl) (w.heap.size + 1) 0 (List.replicate 10 (Value.int .i64 0)) 185 HX.out (ints xs) (it_len HL.out hn) (it_pos HR.out HL.out) (it_fit HL.out hn) ints_one (w.heap.size + 1) w0 (Below.refl _ _) (Nat.le_refl _) ?_); intro w4 hg4 hb4)
  have hx4 := hg4.out
  rw [splice_pad] at hx4
  have HRG := Lib.hid (blk_range hx4)
  have HTH := Lib.hid (blk_there (n := 10) (((hb4.block w.heap.size (Nat.lt_succ_self _)).trans HZ.out : w4.heap[w.heap.size]? = some (.cells z10 185 (0, 0)))) rfl)
  have HBB : Hid (Below w.heap.size w w4) := Lib.hid (HB.out.trans (hb4.mono (Nat.le_succ _)))
  have HSZ : Hid ((Try.prog.info? 185).map (·.size) = some (ints (pad xs)).length) := Lib.hid (by rw [HPL.out]; exact Try.itSize)
  have HSA : Hid ((Try.prog.info? 185).map (·.size) = some ((ints (pad xs)).toArray).size) := Lib.hid (by rw [List.size_toArray, HPL.out]; exact Try.itSize)
  have HTA : Hid (w4.there w.heap.size 0 ((ints (pad xs)).toArray).size) := Lib.hid (it_there HTH.out HPL.out)
  clear hx4 hg4 hb4
  go_wp2_with (first
    | (refine wpList_load_mid (by rfl) 185 (.tmp 3) (by rfl) (w.heap.size + 1) 0 (by rfl) (ints (pad xs)) _ HRG.out Try.underlying185 rfl HSZ.out ?_)
    | (refine wpList_store_mid (by rfl) 185 (.tmp 2) (.tmp 8) (by rfl) w.heap.size 0 (ints (pad xs)).toArray (by rfl) (by rfl) HTA.out HSA.out (all_oneCell_toArray ints_one) ?_))
  have hrr : ((w4.setCells w.heap.size 0 (ints (pad xs)).toArray.toList)).rangeAt w.heap.size 0 (ints (pad xs)) := World.rangeAt_setCells_same w4 w.heap.size 0 (ints (pad xs)) (by have h := HTA.out; simpa using h)
  have hld := run_loadVar_mid (P := Try.prog) (w4.setCells w.heap.size 0 (ints (pad xs)).toArray.toList) w.heap.size 0 185 (ints (pad xs)) _ hrr Try.underlying185 rfl HSZ.out
  have HBE := Lib.hid (below_ch HBB.out (ch_setCells w.heap.size (ints (pad xs)).toArray.toList 0 w4) (fun k hk => by have e : k = w.heap.size := hk; omega) HBB.out.size)
  generalize w4.setCells w.heap.size 0 (ints (pad xs)).toArray.toList = w5 at *
  refine bodyPost_ret (v := itV (pad xs)) (by simp [results, Try.results131, hld, Act.put, asAddr]) rfl ⟨rfl, HBE.out⟩
end Go.Proofs.Ytcpkhhammafchaa
/- Items as keys of a map; sets of items. -/
namespace Go.Proofs.Ytcpkhhammafchaa
open Go.RowKit
open Go.Maps (Keyed Tidy IsMap)
set_option linter.unusedVariables false
set_option linter.unusedSimpArgs false
theorem laidI : laidOutB Try.prog = true := by kernel_rfl
theorem rowIt : (185 : TypeId) < Try.prog.types.size := of_decide_eq_true (by kernel_rfl)
theorem lawIt : Keyed Try.prog 185 := Keyed.of_law (deep_law_laid laidI (m := 2) (by omega) rowIt (by kernel_rfl) (by rw [Try.underlying185]))
theorem zeroB (w : World) : (zeroValue 4).run Try.prog w = .ok (.bool false) w := by kernel_rfl
theorem itCells : Try.prog.cellsOf 185 = 10 := by kernel_rfl
theorem i64Cells : Try.prog.cellsOf 2 = 1 := by kernel_rfl
theorem itKT : Try.prog.keyType 185 = true := by kernel_rfl
theorem szTwo : ∃ m, Try.prog.types.size = m + 1 + 1 := ⟨Try.prog.types.size - 2, by have := rowIt; have h2 : (1 : Nat) < Try.prog.types.size := of_decide_eq_true (by kernel_rfl); omega⟩
/-- The value of an item. -/
def kV (ps : List Int) : Value := itV ps
def kIt (ps : List Int) : Lit := .string (keyBytes (ps.map (Lit.int .i64)))
def SmI (x : Int) : Prop := -1000000000000 ≤ x ∧ x ≤ 1000000000000
theorem wf_sm {x : Int} (h : SmI x) : (Lit.int .i64 x).wf = true := by
  simp [Lit.wf, IntKind.min, IntKind.max, IntKind.bits, IntKind.signed]; unfold SmI at h; omega
set_option maxRecDepth 10000 in
theorem keyIt {ps : List Int} (hl : ps.length = 10) (hw : ∀ x ∈ ps, SmI x) : keyOf Try.prog 185 (kV ps) = some (kIt ps) := by
  obtain _ | ⟨a0, _ | ⟨a1, _ | ⟨a2, _ | ⟨a3, _ | ⟨a4, _ | ⟨a5, _ | ⟨a6, _ | ⟨a7, _ | ⟨a8, _ | ⟨a9, _ | ⟨a10, r⟩⟩⟩⟩⟩⟩⟩⟩⟩⟩⟩ := ps
  all_goals simp at hl
  have w0 := wf_sm (hw a0 (by simp)); have w1 := wf_sm (hw a1 (by simp)); have w2 := wf_sm (hw a2 (by simp)); have w3 := wf_sm (hw a3 (by simp)); have w4 := wf_sm (hw a4 (by simp))
  have w5 := wf_sm (hw a5 (by simp)); have w6 := wf_sm (hw a6 (by simp)); have w7 := wf_sm (hw a7 (by simp)); have w8 := wf_sm (hw a8 (by simp)); have w9 := wf_sm (hw a9 (by simp))
  obtain ⟨m, hm⟩ := szTwo
  unfold keyOf kV itV
  simp only [Try.underlying185]
  rw [if_pos (by simp [itKT, Value.formed, Try.underlying185, itCells]), hm]
  unfold Program.keyLits
  simp only [Try.underlying185, Value.cells]
  rw [if_pos (by simp [itCells])]
  simp [List.range, List.range.loop, Program.keyLits, i64Cells, Try.underlying2, w0, w1, w2, w3, w4, w5, w6, w7, w8, w9, kIt]
theorem ints_eq : ∀ {ps qs : List Int}, ints ps = ints qs → ps = qs
  | [], [], _ => rfl
  | [], _ :: _, h => by cases h
  | _ :: _, [], h => by cases h
  | x :: r, y :: t, h => by
    injection h with h1 h2
    injection h1 with _ h1
    rw [h1, ints_eq h2]
theorem kIt_inj {ps qs : List Int} (hl : ps.length = 10) (hw : ∀ x ∈ ps, SmI x) (hl' : qs.length = 10) (hw' : ∀ x ∈ qs, SmI x) (h : kIt ps = kIt qs) : ps = qs := by
  have h1 := lawIt.inj (keyIt hl hw) (h ▸ keyIt hl' hw')
  simp only [kV, itV] at h1
  injection h1 with h1
  have h2 := congrArg Array.toList h1
  exact ints_eq h2
theorem kIt_key {ps : List Int} (hl : ps.length = 10) (hw : ∀ x ∈ ps, SmI x) : WideAt.IsKeyLit (kIt ps) := lawIt.key (keyIt hl hw)
/-- A word that an item holds. -/
def Gw (xs : List Int) : Prop := xs.length ≤ 10 ∧ ∀ x ∈ xs, SmI x
theorem Gw.pad {xs : List Int} (h : Gw xs) : ∀ x ∈ pad xs, SmI x := by
  intro x hx
  rcases List.mem_append.1 hx with hx | hx
  · exact h.2 x hx
  · obtain rfl := (List.mem_replicate.1 hx).2; unfold SmI; omega
def uT : DataW Unit := .lit (.bool true)
def setD (xss : List (List Int)) : DataW Unit := Maps.setOf uT (xss.map (fun xs => kIt (pad xs)))
theorem setD_snoc (xss : List (List Int)) (xs : List Int) : setD (xss ++ [xs]) = (setD xss).put (kIt (pad xs)) uT := by
  rw [setD, List.map_append]; exact Maps.setOf_snoc _ _ _
open Classical in
theorem at_fold (k : Lit) (z : DataW Unit) : ∀ (acc : List Lit) (m : DataW Unit), IsMap m → (∀ x ∈ acc, WideAt.IsKeyLit x) → (acc.foldl (fun m x => m.put x uT) m).atKey k z = if k ∈ acc then uT else m.atKey k z := by
  intro acc
  induction acc with
  | nil => intro m _ _; simp
  | cons x r ih =>
    intro m hm h
    rw [List.foldl_cons, ih (m.put x uT) (hm.put x uT) (fun y hy => h y (by simp [hy]))]
    by_cases hr : k ∈ r
    · simp [hr]
    · rw [if_neg hr]
      by_cases e : k = x
      · subst e; rw [Maps.atKey_put_same hm (h k (by simp))]; simp
      · rw [Maps.atKey_put_other e]; simp [hr, e]
/-- Words of one length: being in the set is being on the list. -/
theorem setD_at {xss : List (List Int)} {n : Nat} {w : List Int} (hx : ∀ xs ∈ xss, Gw xs ∧ xs.length = n) (hw : Gw w) (hl : w.length = n) (z : DataW Unit) : (setD xss).atKey (kIt (pad w)) z = if w ∈ xss then uT else z := by
  rw [setD, Maps.setOf, at_fold _ _ _ _ ⟨[], rfl⟩ (fun x hx' => by
    obtain ⟨xs, h1, rfl⟩ := List.mem_map.1 hx'
    exact kIt_key (pad_len (hx xs h1).1.1) (hx xs h1).1.pad)]
  have e : (kIt (pad w) ∈ xss.map (fun xs => kIt (pad xs))) ↔ w ∈ xss := by
    constructor
    · intro h
      obtain ⟨xs, h1, h2⟩ := List.mem_map.1 h
      have h3 := kIt_inj (pad_len (hx xs h1).1.1) (hx xs h1).1.pad (pad_len hw.1) hw.pad h2
      rw [pad_inj (by rw [(hx xs h1).2, hl]) h3] at h1
      exact h1
    · exact fun h => List.mem_map.2 ⟨w, h, rfl⟩
  by_cases h : w ∈ xss
  · rw [if_pos (e.2 h), if_pos h]
  · rw [if_neg (fun h' => h (e.1 h')), if_neg h]; rfl
/-- A set of words, in memory. -/
structure IsSet (w : World) (g mB : Nat) (len : Int) (xss : List (List Int)) : Prop where
  box : w.heap[g]? = some (.cells #[.map (some mB), .int .i64 len] 183 (0, 0))
  own : w.ownsMap Try.prog 185 (plainElem (H := Unit) Try.prog 4) mB xss.length (setD xss)
theorem ownsMap_ch {w w' : World} {F : Nat → Prop} {mB n : Nat} {D : DataW Unit} (h : w.ownsMap Try.prog 185 (plainElem (H := Unit) Try.prog 4) mB n D) (hc : Ch F w w') (hn : ¬ F mB) : w'.ownsMap Try.prog 185 (plainElem (H := Unit) Try.prog 4) mB n D := by
  obtain ⟨es, clock, hb, F', hs, e⟩ := h
  exact ⟨es, clock, (hc.block mB (Array.getElem?_eq_some_iff.1 hb).1 hn).trans hb, F', hs, e⟩
theorem IsSet.ch {w w' : World} {F : Nat → Prop} {g mB : Nat} {len : Int} {xss : List (List Int)} (h : IsSet w g mB len xss) (hc : Ch F w w') (h1 : ¬ F g) (h2 : ¬ F mB) : IsSet w' g mB len xss := ⟨blk_ch h.box hc h1, ownsMap_ch h.own hc h2⟩
theorem IsSet.below {w w' : World} {g mB : Nat} {len : Int} {xss : List (List Int)} (h : IsSet w g mB len xss) (hb : Below w.heap.size w w') : IsSet w' g mB len xss := h.ch (ch_below (F := fun _ => False) hb) (fun h => h) (fun h => h)
theorem IsSet.ne {w : World} {g mB : Nat} {len : Int} {xss : List (List Int)} (h : IsSet w g mB len xss) : g ≠ mB := by
  rintro rfl
  obtain ⟨es, clock, hb, _⟩ := h.own
  rw [h.box] at hb
  cases hb
theorem itemOf_k (w : World) (A : Option Addr) (n c : Nat) (xs : List Int) (hr : Rd w A n (ints xs)) (hn : n ≤ 10) : Calls Try.prog 131 #[.slice A n c] w (RetV w (kV (pad xs))) := itemOf_any w A n c xs hr hn
end Go.Proofs.Ytcpkhhammafchaa
/- The contexts that follow, in plain Lean: what NextContexts answers. -/
namespace Go.Proofs.Ytcpkhhammafchaa
open Go.RowKit
set_option linter.unusedVariables false
set_option linter.unusedSimpArgs false
theorem allIn_wide {xs : List Int} {lo a b : Int} (h : allIn xs lo a = true) (hab : a ≤ b) : allIn xs lo b = true := allIn_true.2 fun x hx => by have := allIn_true.1 h x hx; omega
/-- The windows of one side are good: of one length, over the symbols, rising. -/
def winB (m s : Int) (ls : List (List Int)) : Bool := ls.all (lenB m (s - 1)) && rises ls
theorem winB_spec {m s : Int} {ls : List (List Int)} (hs : s ≤ 6) (hm : m ≤ 9) : (allTo (lenUp ls m) ls.length && overB s ls) = winB m s ls := by
  rw [lenUp_all, Bool.eq_iff_iff]
  unfold winB overB
  simp only [Bool.and_eq_true, List.all_eq_true, lenW, lenB, wordB, decide_eq_true_eq]
  constructor
  · rintro ⟨⟨h1, h2⟩, h3⟩
    exact ⟨fun x hx => ⟨(h1 x hx).1, h3 x hx⟩, h2⟩
  · rintro ⟨h1, h2⟩
    refine ⟨⟨fun x hx => ⟨(h1 x hx).1, allIn_wide (h1 x hx).2 (by omega), ?_⟩, h2⟩, fun x hx => (h1 x hx).2⟩
    have := (h1 x hx).1
    omega
theorem winB_gw {m : Nat} {s : Int} {ls : List (List Int)} (hm : m ≤ 9) (hs : s ≤ 6) (h : winB m s ls = true) : ∀ ys ∈ ls, Gw ys ∧ ys.length = m := by
  intro ys hy
  unfold winB at h
  simp only [Bool.and_eq_true, List.all_eq_true, lenB, decide_eq_true_eq] at h
  obtain ⟨h1, h2⟩ := h.1 ys hy
  refine ⟨⟨by omega, fun x hx => ?_⟩, by omega⟩
  have := allIn_true.1 h2 x hx
  unfold SmI; omega
/-- The contexts that follow one, for the windows on both sides. -/
def nextsOf (s : Nat) (r : Rul) (xs : List Int) (ls ws : List (List Int)) : List (List Int) :=
  if r.mv = 1 then nx ((r.wr :: xs.take (xs.length / 2 - 1)) ++ [xs.getD (xs.length / 2 + 1) 0]) (xs.drop (xs.length / 2 + 2)) [] ws s
  else nx [] ((xs.take (xs.length / 2)).drop 1) ([xs.getD 0 0] ++ (r.wr :: (xs.drop (xs.length / 2 + 1)).take (xs.length / 2 - 1))) ls s
theorem nexts_len (s : Nat) (r : Rul) (xs : List Int) (ls ws : List (List Int)) : (nextsOf s r xs ls ws).length ≤ s := by
  unfold nextsOf; split <;> exact nx_len _ _ _ _ _
/-- What NextContexts answers. -/
def ncP (s t : Int) (rs : List Rul) (st : Int) (xs : List Int) (ls ws : List (List Int)) : Int × List (List Int) × Int :=
  if ctxC s t rs st xs = 0 then
    (if (winB (xs.length / 2 : Nat) s ls && winB (xs.length / 2 : Nat) s ws) = true then
      (if isR (ruleOf s rs st xs) = true then ((ruleOf s rs st xs).nx, nextsOf s.toNat (ruleOf s rs st xs) xs ls ws, 0) else (0, [], 6))
    else (0, [], 7))
  else (0, [], ctxC s t rs st xs)
theorem nc_bad {s t st : Int} {rs : List Rul} {xs : List Int} {ls ws : List (List Int)} (h : ctxC s t rs st xs ≠ 0) : ncP s t rs st xs ls ws = (0, [], ctxC s t rs st xs) := by simp only [ncP, if_neg h]
theorem nc_win {s t st : Int} {rs : List Rul} {xs : List Int} {ls ws : List (List Int)} (h : ctxC s t rs st xs = 0) (h2 : (winB (xs.length / 2 : Nat) s ls && winB (xs.length / 2 : Nat) s ws) = false) : ncP s t rs st xs ls ws = (0, [], 7) := by simp only [ncP, if_pos h, h2]; simp
theorem nc_no {s t st : Int} {rs : List Rul} {xs : List Int} {ls ws : List (List Int)} (h : ctxC s t rs st xs = 0) (h2 : (winB (xs.length / 2 : Nat) s ls && winB (xs.length / 2 : Nat) s ws) = true) (h3 : isR (ruleOf s rs st xs) = false) : ncP s t rs st xs ls ws = (0, [], 6) := by simp only [ncP, if_pos h, if_pos h2, h3]; simp
theorem nc_ok {s t st : Int} {rs : List Rul} {xs : List Int} {ls ws : List (List Int)} (h : ctxC s t rs st xs = 0) (h2 : (winB (xs.length / 2 : Nat) s ls && winB (xs.length / 2 : Nat) s ws) = true) (h3 : isR (ruleOf s rs st xs) = true) : ncP s t rs st xs ls ws = ((ruleOf s rs st xs).nx, nextsOf s.toNat (ruleOf s rs st xs) xs ls ws, 0) := by simp only [ncP, if_pos h, if_pos h2, if_pos h3]
theorem nc_len {s t st : Int} {rs : List Rul} {xs : List Int} {ls ws : List (List Int)} (hs : ctxC s t rs st xs = 0 → s ≤ 6) : (ncP s t rs st xs ls ws).2.1.length ≤ 6 := by
  unfold ncP
  by_cases h : ctxC s t rs st xs = 0
  · have h6 := hs h
    rw [if_pos h]
    split
    · split
      · have := nexts_len s.toNat (ruleOf s rs st xs) xs ls ws
        simp only
        omega
      · simp
    · simp
  · rw [if_neg h]; simp
theorem getD_some {α : Type} {xs : List α} {k : Nat} {z : α} (h : k < xs.length) : xs[k]? = some (xs.getD k z) := by
  rw [List.getElem?_eq_getElem h, List.getD_eq_getElem?_getD, List.getElem?_eq_getElem h]; rfl
/-- The parts of a context, for a move to the right. -/
theorem nexts_r {s h : Nat} {xs : List Int} {ls ws : List (List Int)} {ra rc : Int} (hl : xs.length = 2 * h + 1) (hh : 1 ≤ h) (hsm : ∀ x ∈ xs, SmI x) : ∃ (f0 : Int) (F bh P Q : List Int), xs.drop (h + 2) = F ∧ xs[h + 1]? = some f0 ∧ bh = ra :: xs.take (h - 1) ∧ P = bh ++ [f0] ∧ Q = [] ∧ (∀ x ∈ F, SmI x) ∧ nextsOf s ⟨ra, 1, rc⟩ xs ls ws = nx P F Q ws s := by
  have e : xs.length / 2 = h := by omega
  refine ⟨xs.getD (h + 1) 0, _, _, _, _, rfl, getD_some (by omega), rfl, rfl, rfl, fun x hx => hsm x (List.mem_of_mem_drop hx), ?_⟩
  unfold nextsOf
  rw [if_pos rfl, e]
/-- The parts of a context, for a move to the left. -/
theorem nexts_l {s h : Nat} {xs : List Int} {ls ws : List (List Int)} {ra rc : Int} (hl : xs.length = 2 * h + 1) (hh : 1 ≤ h) (hsm : ∀ x ∈ xs, SmI x) : ∃ (f0 : Int) (F bh P Q : List Int), (xs.take h).drop 1 = F ∧ xs[0]? = some f0 ∧ bh = ra :: (xs.drop (h + 1)).take (h - 1) ∧ P = [] ∧ Q = [f0] ++ bh ∧ (∀ x ∈ F, SmI x) ∧ nextsOf s ⟨ra, -1, rc⟩ xs ls ws = nx P F Q ls s := by
  have e : xs.length / 2 = h := by omega
  refine ⟨xs.getD 0 0, _, _, _, _, rfl, getD_some (by omega), rfl, rfl, rfl, fun x hx => hsm x (List.mem_of_mem_take (List.mem_of_mem_drop hx)), ?_⟩
  unfold nextsOf
  rw [if_neg (by show ¬ ((-1 : Int) = 1); omega), e]
end Go.Proofs.Ytcpkhhammafchaa
