/- Cyclic tag systems: the tests of both sides. Written by mk_cycm.py. -/
import Derived.Test.YtbecofpklndpaaaLawP
import Derived.Test.YtbecofpklndpaaaApp
import Derived.Test.YtbecofpklndpaaaMchM
namespace Go.Proofs.Ytbecofpklndpaaa
open Go.RowKit
set_option linter.unusedVariables false
set_option linter.unusedSimpArgs false
/-- The index that a search returns: not negative just where something was found. -/
def FoundN (w : World) (bad : Bool) (e : Ending) (w' : World) : Prop := ∃ i : Int, e = .returned (.int .i64 i) ∧ decide (0 ≤ i) = bad ∧ Below w.heap.size w w'

def okW (xs : List Int) : Bool := allIn xs 0 1 && decide (xs.length ≤ 1000)
def okC (xss : List (List Int)) : Bool := xss.all okW && decide (0 < xss.length) && decide (xss.length ≤ 400)
def okT (xss : List (List Int)) (at_ : Int) (xs : List Int) : Bool := inB at_ 0 ((xss.length : Int) - 1) && okW xs
set_option maxHeartbeats 1000000 in
theorem l09Over_any (w : World) (A : Option Addr) (n c : Nat) (xs : List Int) (hr : Rd w A n (ints xs)) (hn : n ≤ 1099511627776) :
    Calls Try.prog 251 #[.slice A n c, .int .i64 2] w fun e w' => e = .returned (.bool (okW xs)) ∧ w = w' := by
  have HL : Hid (xs.length = n) := Lib.hid (by simpa using hr.1)
  go_enter Try.func251, Try.ntmps251
  go_wp2_with fail
  go_loop [5] (fun q => ∃ k : Nat, k ≤ n ∧ q = .int .i64 k ∧ Hid (allIn (xs.take k) 0 1 = true)) (fun q => n - (intOf q).toNat)
  case atStart => exact ⟨0, Nat.zero_le _, rfl, Lib.hid (by simp [allIn])⟩
  case round =>
    obtain ⟨k, hk, rfl, hall⟩ := hrel
    by_cases h1 : k < n
    · obtain ⟨x, hx⟩ := get_some (xs := xs) (k := k) (by rw [HL.out]; omega)
      obtain ⟨b, off, rfl, hbk, hcx⟩ := hr.at_ (ints_get hx)
      have HX := Lib.hid hx
      clear hx
      cases hin : inB x 0 1 with
      | true =>
        go_wp2_with (go_at_call 154; refine (l00In_any _ _ _ _).mono ?_; rintro e w' ⟨rfl, rfl⟩)
        go_round
        case rel => exact ⟨k + 1, by omega, by go_num, Lib.hid (allIn_take_step hall.out HX.out hin)⟩
        case measure => simp [intOf]; omega
      | false =>
        go_wp2_with (go_at_call 154; refine (l00In_any _ _ _ _).mono ?_; rintro e w' ⟨rfl, rfl⟩)
        go_ret
        exact ⟨by rw [okW, allIn_out HX.out hin]; rfl, rfl⟩
    · have h := hall.out
      rw [List.take_of_length_le (by rw [HL.out]; omega)] at h
      have HO : Hid (okW xs = decide ((n : Int) ≤ 1000)) := Lib.hid (by rw [okW, h, HL.out]; simp only [Bool.true_and, decide_eq_decide]; omega)
      clear h
      go_wp2_with fail
      go_ret
      exact ⟨by rw [HO.out]; rfl, rfl⟩
set_option maxHeartbeats 400000 in
theorem l09Bits_any (w : World) (A : Option Addr) (n c : Nat) (xs : List Int) (hr : Rd w A n (ints xs)) (hn : n ≤ 1099511627776) :
    Calls Try.prog 240 #[.slice A n c] w fun e w' => e = .returned (.bool (okW xs)) ∧ w = w' := by
  go_enter Try.func240, Try.ntmps240
  go_wp2_with (go_at_call 251; refine (l09Over_any _ _ _ _ _ hr hn).mono ?_; rintro e w' ⟨rfl, rfl⟩)
  go_ret
  exact ⟨rfl, rfl⟩
theorem okC_all {xss : List (List Int)} (h : xss.all okW = true) (n : Nat) (hn : xss.length = n) : okC xss = (decide (0 < n) && decide (n ≤ 400)) := by rw [okC, h, hn]; simp
set_option maxHeartbeats 1000000 in
theorem l09IsCyclic_any (w : World) (g T : Nat) (A : Option Addr) (n c : Nat) (hg : w.heap[g]? = some (.cells #[.slice A n c] T (0, 0))) (xss : List (List Int)) (hr : RdL w A n xss) (hn : n ≤ 1000000000) :
    Calls Try.prog 202 #[.pointer (some ⟨g, 0, none⟩)] w fun e w' => e = .returned (.bool (okC xss)) ∧ w = w' := by
  have HL : Hid (xss.length = n) := Lib.hid hr.len
  have q0 := blk_cell hg 0 (v := .slice A n c) rfl
  clear hg
  go_enter Try.func202, Try.ntmps202
  go_wp2_with fail
  go_loop [3] (fun q => ∃ k : Nat, k ≤ n ∧ q = .int .i64 k ∧ Hid ((xss.take k).all okW = true)) (fun q => n - (intOf q).toNat)
  case atStart => exact ⟨0, Nat.zero_le _, rfl, Lib.hid (by simp)⟩
  case round =>
    obtain ⟨k, hk, rfl, hall⟩ := hrel
    by_cases h1 : k < n
    · obtain ⟨xs, hx⟩ := get_some (xs := xss) (k := k) (by rw [HL.out]; omega)
      obtain ⟨b, off, A', n', c', rfl, hbs, hc, hn', hr'⟩ := hr.at_ hx
      have HX := Lib.hid hx
      clear hx
      cases hin : okW xs with
      | true =>
        have HIN := Lib.hid hin; clear hin
        go_wp2_with (go_at_call 240; refine (l09Bits_any _ _ _ _ _ hr' (by omega)).mono ?_; rw [HIN.out]; rintro e w' ⟨rfl, rfl⟩)
        go_round
        case rel => exact ⟨k + 1, by omega, by go_num, Lib.hid (all_step hall.out HX.out HIN.out)⟩
        case measure => simp [intOf]; omega
      | false =>
        have HIN := Lib.hid hin; clear hin
        go_wp2_with (go_at_call 240; refine (l09Bits_any _ _ _ _ _ hr' (by omega)).mono ?_; rw [HIN.out]; rintro e w' ⟨rfl, rfl⟩)
        go_ret
        exact ⟨by rw [okC, all_out HX.out HIN.out]; rfl, rfl⟩
    · have h := hall.out
      rw [List.take_of_length_le (by rw [HL.out]; omega)] at h
      have HO := Lib.hid (okC_all h n HL.out)
      clear h
      by_cases h0 : 0 < n
      · have hd : decide ((0 : Int) < (n : Int)) = true := decide_eq_true (by omega)
        go_wp2_with fail
        go_ret
        exact ⟨by rw [HO.out]; congr 2; simp [h0]; omega, rfl⟩
      · have hd : decide ((0 : Int) < (n : Int)) = false := decide_eq_false (by omega)
        go_wp2_with fail
        go_ret
        exact ⟨by rw [HO.out]; simp [h0], rfl⟩
theorem okT_cases (xss : List (List Int)) (n : Nat) (hn : xss.length = n) (a : Int) (xs : List Int) : (inB a 0 ((n : Int) - 1) = false ∧ okT xss a xs = false) ∨ (inB a 0 ((n : Int) - 1) = true ∧ okT xss a xs = okW xs) := by
  subst hn
  unfold okT
  cases inB a 0 ((xss.length : Int) - 1) <;> simp
set_option maxHeartbeats 1000000 in
theorem l09Turn_any (w : World) (g T g2 T2 : Nat) (A A2 : Option Addr) (n c n2 c2 : Nat) (a : Int) (hg : w.heap[g]? = some (.cells #[.slice A n c] T (0, 0))) (hg2 : w.heap[g2]? = some (.cells #[.int .i64 a, .slice A2 n2 c2] T2 (0, 0))) (xss : List (List Int)) (hl : xss.length = n) (hn : n ≤ 1000000000) (xs : List Int) (hr : Rd w A2 n2 (ints xs)) (hn2 : n2 ≤ 1000000000) :
    Calls Try.prog 203 #[.pointer (some ⟨g, 0, none⟩), .pointer (some ⟨g2, 0, none⟩)] w fun e w' => e = .returned (.bool (okT xss a xs)) ∧ Below w.heap.size w w' := by
  have q0 := blk_cell hg 0 (v := .slice A n c) rfl
  have p0 := blk_cell hg2 0 (v := .int .i64 a) rfl
  have p1 := blk_cell hg2 1 (v := .slice A2 n2 c2) rfl
  have hw : IntKind.i64.wrap ((n : Int) - 1) = (n : Int) - 1 := IntWalk.i64_in _ (by omega)
  clear hg hg2
  rcases okT_cases xss n hl a xs with ⟨h1, hO⟩ | ⟨h1, hO⟩
  all_goals
    have HO := Lib.hid hO; have HL := Lib.hid hl; clear hO hl
    go_enter Try.func203, Try.ntmps203
    go_wp2_with fail
    go_quiet ((first
      | (go_at_call 154; exact Calls.quiet_of_same ((l00In_any _ _ _ _).mono fun e w' h => ⟨h.1, h.2.symm⟩))
      | (go_at_call 240; exact Calls.quiet_of_same ((l09Bits_any _ _ _ _ xs (by exact hr) (by omega)).mono fun e w' h => ⟨h.1, h.2.symm⟩))))
    go_wp2_with fail
    go_ret
    exact ⟨by rw [HO.out]; rfl, below_drewN (Below.refl _ _)⟩
def askN (xss : List (List Int)) (a : Int) (xs : List Int) : Int := if okC xss = true ∧ okT xss a xs = true then 0 else 1
set_option maxHeartbeats 1000000 in
theorem l09AskCyclic_any (w : World) (g T g2 T2 : Nat) (A A2 : Option Addr) (n c n2 c2 : Nat) (a : Int) (hg : w.heap[g]? = some (.cells #[.slice A n c] T (0, 0))) (hg2 : w.heap[g2]? = some (.cells #[.int .i64 a, .slice A2 n2 c2] T2 (0, 0))) (xss : List (List Int)) (hrl : RdL w A n xss) (hn : n ≤ 1000000000) (xs : List Int) (hr : Rd w A2 n2 (ints xs)) (hn2 : n2 ≤ 1000000000) :
    Calls Try.prog 129 #[.pointer (some ⟨g, 0, none⟩), .pointer (some ⟨g2, 0, none⟩)] w fun e w' => e = .returned (.int .i64 (askN xss a xs)) ∧ Below w.heap.size w w' := by
  cases h1 : okC xss with
  | false =>
    have HA : Hid (askN xss a xs = 1) := Lib.hid (by simp [askN, h1])
    have H1 := Lib.hid h1; clear h1
    go_enter Try.func129, Try.ntmps129
    go_wp2_with (go_at_call 202; refine (l09IsCyclic_any _ _ _ _ _ _ hg xss hrl hn).mono ?_; rw [H1.out]; rintro e w' ⟨rfl, rfl⟩)
    go_ret
    exact ⟨by rw [HA.out]; rfl, Below.refl _ _⟩
  | true =>
    cases h2 : okT xss a xs with
    | false =>
      have HA : Hid (askN xss a xs = 1) := Lib.hid (by simp [askN, h2])
      have H1 := Lib.hid h1; have H2 := Lib.hid h2; clear h1 h2
      go_enter Try.func129, Try.ntmps129
      go_wp2_with (first
        | (go_at_call 202; refine (l09IsCyclic_any _ _ _ _ _ _ hg xss hrl hn).mono ?_; rw [H1.out]; rintro e w' ⟨rfl, rfl⟩)
        | (go_at_call 203; refine (l09Turn_any _ _ _ _ _ _ _ _ _ _ _ a hg hg2 xss hrl.len hn xs hr hn2).mono ?_; rw [H2.out]; rintro e w2 ⟨rfl, hb2⟩))
      go_ret
      exact ⟨by rw [HA.out]; rfl, hb2⟩
    | true =>
      have HA : Hid (askN xss a xs = 0) := Lib.hid (by simp [askN, h1, h2])
      have H1 := Lib.hid h1; have H2 := Lib.hid h2; clear h1 h2
      go_enter Try.func129, Try.ntmps129
      go_wp2_with (first
        | (go_at_call 202; refine (l09IsCyclic_any _ _ _ _ _ _ hg xss hrl hn).mono ?_; rw [H1.out]; rintro e w' ⟨rfl, rfl⟩)
        | (go_at_call 203; refine (l09Turn_any _ _ _ _ _ _ _ _ _ _ _ a hg hg2 xss hrl.len hn xs hr hn2).mono ?_; rw [H2.out]; rintro e w2 ⟨rfl, hb2⟩))
      go_ret
      exact ⟨by rw [HA.out]; rfl, hb2⟩

set_option maxHeartbeats 400000 in
theorem sizeSS_any (w : World) (A : Option Addr) (n c : Nat) (hn : n ≤ 1099511627776) : Calls Try.prog 93 #[.slice A n c] w fun e w' => e = .returned (.int .i64 n) ∧ w = w' := by
  go_enter Try.func93, Try.ntmps93
  go_wp2_with fail
  go_ret
  exact ⟨rfl, rfl⟩
theorem okW_cases (xs : List Int) (n : Nat) (hn : xs.length = n) : (decide ((n : Int) ≤ 1000) = true ∧ okW xs = allIn xs 0 1) ∨ (decide ((n : Int) ≤ 1000) = false ∧ okW xs = false) := by
  subst hn
  by_cases h : xs.length ≤ 1000
  · left; exact ⟨decide_eq_true (by omega), by simp [okW, h]⟩
  · right; exact ⟨decide_eq_false (by omega), by simp [okW, h]⟩
set_option maxHeartbeats 400000 in
theorem isTagWord_any (w : World) (A : Option Addr) (n c : Nat) (xs : List Int) (hr : Rd w A n (ints xs)) (hn : n ≤ 1099511627776) :
    Calls Try.prog 206 #[.slice A n c, .int .i64 2] w fun e w' => e = .returned (.bool (okW xs)) ∧ w = w' := by
  rcases okW_cases xs n (by simpa using hr.1) with ⟨h, hO⟩ | ⟨h, hO⟩
  all_goals
    have HO := Lib.hid hO; clear hO
    go_enter Try.func206, Try.ntmps206
    go_wp2_with (go_at_call 92; refine (allWithin_any _ _ _ _ xs hr hn _ _).mono ?_; rintro e w' ⟨rfl, rfl⟩)
    go_ret
    exact ⟨by rw [HO.out]; rfl, rfl⟩
set_option maxHeartbeats 400000 in
theorem wordsOk1_any (w : World) (A : Option Addr) (n c : Nat) (xs : List Int) (hr : Rd w A n (ints xs)) (hn : n ≤ 1000000000) (g : Nat) (hg : w.cell? ⟨g, 0, none⟩ = some (.int .i64 2)) :
    Calls Try.prog 252 #[.slice A n c, .pointer (some ⟨g, 0, none⟩)] w fun e w' => e = .returned (.bool (!okW xs)) ∧ Below w.heap.size w w' := by
  go_enter Try.func252, Try.ntmps252
  go_wp2_with (go_at_call 206; refine (isTagWord_any _ _ _ _ xs hr (by omega)).mono ?_; rintro e w' ⟨rfl, rfl⟩)
  go_ret
  exact ⟨rfl, Below.refl _ _⟩
set_option maxHeartbeats 1000000 in
theorem indexFuncWO (w : World) (A : Option Addr) (n c : Nat) (xss : List (List Int)) (hr : RdL w A n xss) (hn : n ≤ 1000000000) (g : Nat) (hgl : g < w.heap.size) (hg : w.cell? ⟨g, 0, none⟩ = some (.int .i64 2)) :
    Calls Try.prog 95 #[.slice A n c, .func (.func 252) #[] #[.pointer (some ⟨g, 0, none⟩)]] w (FoundN w (!xss.all okW)) := by
  have HL : Hid (xss.length = n) := Lib.hid (hr.len)
  go_enter Try.func95, Try.ntmps95
  go_wp2_with fail
  go_loopw [8] (fun q wr => ∃ k : Nat, k ≤ n ∧ q = .int .i64 k ∧ Hid ((xss.take k).all okW = true) ∧ Below w.heap.size w wr) (fun q _ => n - (intOf q).toNat)
  case atStart => exact ⟨0, Nat.zero_le _, rfl, Lib.hid (by simp), Below.refl _ _⟩
  case round =>
    obtain ⟨k, hk, rfl, hall, hb⟩ := hrel
    by_cases h1 : k < n
    · obtain ⟨x, hx⟩ := get_some (xs := xss) (k := k) (by rw [HL.out]; omega)
      obtain ⟨b, off, A', n', c', rfl, hbs, hc, hn', hr'⟩ := hr.at_ hx
      have hc1 := (hb.cell (p := ⟨b, off + k, none⟩) hbs).trans hc
      have HX := Lib.hid hx
      clear hx
      by_cases hin : okW x = true
      · go_wp2_with (go_at_call 252; refine (wordsOk1_any _ _ _ _ x (hr'.below hb (Nat.le_refl _)) hn' g ((hb.cell (p := ⟨g, 0, none⟩) hgl).trans hg)).mono ?_; rintro e w' ⟨rfl, hb2⟩)
        go_roundw
        case rel => exact ⟨k + 1, by omega, by go_num, Lib.hid (all_step hall.out HX.out hin), hb.trans (hb2.mono hb.size)⟩
        case measure => simp [intOf]; omega
      · have hin' : okW x = false := by simpa using hin
        clear hin
        go_wp2_with (go_at_call 252; refine (wordsOk1_any _ _ _ _ x (hr'.below hb (Nat.le_refl _)) hn' g ((hb.cell (p := ⟨g, 0, none⟩) hgl).trans hg)).mono ?_; rintro e w' ⟨rfl, hb2⟩)
        go_ret
        exact ⟨k, rfl, by rw [all_out HX.out hin']; simp, hb.trans (hb2.mono hb.size)⟩
    · go_wp2_with fail
      go_ret
      have h := hall.out
      rw [List.take_of_length_le (by rw [HL.out]; omega)] at h
      exact ⟨-1, rfl, by rw [h]; rfl, hb⟩
set_option maxHeartbeats 400000 in
theorem containsFuncWO (w : World) (A : Option Addr) (n c : Nat) (xss : List (List Int)) (hr : RdL w A n xss) (hn : n ≤ 1000000000) (g : Nat) (hgl : g < w.heap.size) (hg : w.cell? ⟨g, 0, none⟩ = some (.int .i64 2)) :
    Calls Try.prog 181 #[.slice A n c, .func (.func 252) #[] #[.pointer (some ⟨g, 0, none⟩)]] w (RetV w (.bool (!xss.all okW))) := by
  go_enter Try.func181, Try.ntmps181
  go_wp2_with fail
  refine (indexFuncWO _ _ _ _ _ hr hn g hgl hg).mono ?_
  rintro e w' ⟨i, rfl, hi, hb⟩
  have HI := Lib.hid hi; clear hi
  go_wp2_with fail
  go_ret
  exact ⟨by rw [← HI.out]; rfl, hb⟩

set_option maxHeartbeats 400000 in
theorem wordsOk_any (w : World) (A : Option Addr) (n c : Nat) (xss : List (List Int)) (hr : RdL w A n xss) (hn : n ≤ 1000000000) :
    Calls Try.prog 241 #[.slice A n c, .int .i64 2] w (RetV w (.bool (xss.all okW))) := by
  have hc0 := Lib.hid (blk_cell (box_new w #[.int .i64 2] 2) 0 (v := .int .i64 2) rfl)
  have hr1 := hr.below (below_new w (.cells #[.int .i64 2] 2)) (Nat.le_refl _)
  go_enter Try.func241, Try.ntmps241
  go_wp2_with (go_at_call 181; refine (containsFuncWO _ _ _ _ _ hr1 hn w.heap.size (by simp) hc0.out).mono ?_; rintro e w2 ⟨rfl, hb2⟩)
  go_ret
  exact ⟨by simp, (below_new _ _).trans (hb2.mono (by simp))⟩
theorem okC_cases (xss : List (List Int)) (n : Nat) (hn : xss.length = n) : (inB (n : Int) 1 400 = false ∧ okC xss = false) ∨ (inB (n : Int) 1 400 = true ∧ okC xss = xss.all okW) := by
  subst hn
  cases h : inB (xss.length : Int) 1 400
  · left
    refine ⟨rfl, ?_⟩
    have := inB_false.1 h
    simp only [okC, Bool.and_eq_false_iff, decide_eq_false_iff_not]
    omega
  · right
    have := inB_true.1 h
    refine ⟨rfl, ?_⟩
    have h1 : 0 < xss.length := by omega
    have h2 : xss.length ≤ 400 := by omega
    simp [okC, h1, h2]
set_option maxHeartbeats 1000000 in
theorem ValidCyclic_any (w : World) (A : Option Addr) (n c : Nat) (xss : List (List Int)) (hr : RdL w A n xss) (hn : n ≤ 1000000000) :
    Calls Try.prog 205 #[.agg #[.slice A n c]] w (RetV w (.bool (okC xss))) := by
  have hr1 := hr.below (below_new w (.cells #[.slice A n c] 78)) (Nat.le_refl _)
  rcases okC_cases xss n hr.len with ⟨h, hO⟩ | ⟨h, hO⟩
  · have HO := Lib.hid hO; clear hO
    go_enter Try.func205, Try.ntmps205
    go_wp2_with (first
      | (go_at_call 93; refine (sizeSS_any _ _ _ _ (by omega)).mono ?_; rintro e w' ⟨rfl, rfl⟩)
      | (go_at_call 98; refine (within_any _ _ _ _).mono ?_; rintro e w' ⟨rfl, rfl⟩))
    go_ret
    exact ⟨by rw [HO.out]; rfl, below_new _ _⟩
  · have HO := Lib.hid hO; clear hO
    go_enter Try.func205, Try.ntmps205
    go_wp2_with (first
      | (go_at_call 93; refine (sizeSS_any _ _ _ _ (by omega)).mono ?_; rintro e w' ⟨rfl, rfl⟩)
      | (go_at_call 98; refine (within_any _ _ _ _).mono ?_; rintro e w' ⟨rfl, rfl⟩)
      | (go_at_call 241; refine (wordsOk_any _ _ _ _ _ hr1 hn).mono ?_; rintro e w2 ⟨rfl, hb2⟩))
    go_ret
    exact ⟨by rw [HO.out]; rfl, (below_new _ _).trans (hb2.mono (by simp))⟩
end Go.Proofs.Ytbecofpklndpaaa
