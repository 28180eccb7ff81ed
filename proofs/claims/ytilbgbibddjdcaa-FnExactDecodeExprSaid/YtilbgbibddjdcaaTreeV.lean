/- Whether bits are a tree: the reference's scan and the program's. -/
import Derived.Test.YtilbgbibddjdcaaTreeU
import Derived.Deep.LoopGhost
namespace Go.Proofs.Ytilbgbibddjdcaa
open Go.RowKit

theorem scan_false {bs : List Bool} {k m : Nat} (h : bs[k]? = some false) : scan (bs.drop k) (m + 1) = scan (bs.drop (k + 1)) m := by rw [drop_get h]; rfl
theorem scan_true {bs : List Bool} {k m : Nat} (h : bs[k]? = some true) : scan (bs.drop k) (m + 1) = scan (bs.drop (k + 1)) (m + 2) := by rw [drop_get h]; rfl
/-- Where the tree that begins at k ends, and whether it ends. -/
def endAt (bs : List Bool) (k : Nat) : Nat × Bool := match scan (bs.drop k) 1 with
  | some r => (bs.length - r.length, true)
  | none => (bs.length, false)
theorem endAt_some {bs : List Bool} {k j : Nat} (h : scan (bs.drop k) 1 = some (bs.drop j)) (hj : j ≤ bs.length) : endAt bs k = (j, true) := by
  simp only [endAt, h, List.length_drop]
  congr 1
  omega
theorem endAt_none {bs : List Bool} {k : Nat} (h : scan (bs.drop k) 1 = none) : endAt bs k = (bs.length, false) := by simp only [endAt, h]

set_option maxHeartbeats 800000 in
theorem l21End_any (w : World) (A : Option Addr) (n c : Nat) (bs : List Bool) (hr : Rd w A n (bools bs)) (hn : n ≤ 1099511627776) (k0 : Nat) (hk0 : k0 ≤ n) :
    Calls Try.prog 142 #[.slice A n c, .int .i64 k0] w fun e w' => e = .returned (.tuple #[.int .i64 (endAt bs k0).1, .bool (endAt bs k0).2]) ∧ w = w' := by
  have HL : Hid (bs.length = n) := Lib.hid (by simpa using hr.1)
  go_enter Try.func142, Try.ntmps142
  go_wp2_with fail
  go_loop [1, 6] (fun q o => ∃ k m : Nat, k ≤ n ∧ m ≤ k + 1 ∧ q = .int .i64 k ∧ o = .int .i64 m ∧ Hid (scan (bs.drop k0) 1 = scan (bs.drop k) m)) (fun q _ => n + 1 - (intOf q).toNat)
  case atStart => exact ⟨k0, 1, hk0, by omega, rfl, rfl, Lib.hid rfl⟩
  case round =>
    obtain ⟨k, m, hk, hm, rfl, rfl, HS⟩ := hrel
    rcases m with _ | m
    · have HE := Lib.hid (endAt_some (bs := bs) (k := k0) (j := k) (by rw [HS.out]; cases bs.drop k <;> rfl) (by rw [HL.out]; exact hk))
      go_wp2_with fail
      go_ret2
      exact ⟨by rw [HE.out]; rfl, rfl⟩
    · have hm1 : (0 : Int) < (m : Int) + 1 := by omega
      by_cases hkn : k = n
      · subst hkn
        have HE := Lib.hid (endAt_none (bs := bs) (k := k0) (by rw [HS.out, List.drop_of_length_le (by rw [HL.out]; omega)]; rfl))
        go_wp2_with fail
        go_ret2
        exact ⟨by rw [HE.out, HL.out]; rfl, rfl⟩
      · have hlt : k < n := by omega
        have hne : ((k : Int) == (n : Int)) = false := by simp; omega
        obtain ⟨b, hb⟩ := get_some (xs := bs) (k := k) (by rw [HL.out]; exact hlt)
        obtain ⟨blk, off, rfl, hbs, hc⟩ := hr.at_ (k := k) (u := .bool b) (by simp [hb])
        cases b
        · have HG := Lib.hid (scan_false (m := m) hb)
          clear hb hkn
          go_wp2_with fail
          go_round
          case rel => exact ⟨k + 1, m, by omega, by omega, by go_num, by go_num, Lib.hid (by rw [HS.out, HG.out])⟩
          case measure => simp [intOf]; omega
        · have HG := Lib.hid (scan_true (m := m) hb)
          clear hb hkn
          go_wp2_with fail
          go_round
          case rel => exact ⟨k + 1, m + 2, by omega, by omega, by go_num, by go_num, Lib.hid (by rw [HS.out, HG.out])⟩
          case measure => simp [intOf]; omega
theorem endAt_whole (bs : List Bool) : (scan bs 1 == some []) = ((endAt bs 0).2 && decide ((endAt bs 0).1 = bs.length)) := by
  simp only [endAt, List.drop_zero]
  cases h : scan bs 1 with
  | none => simp
  | some r =>
    have hlen : r.length ≤ bs.length := by
      have key : ∀ (bs : List Bool) (n : Nat) (r : List Bool), scan bs n = some r → r.length ≤ bs.length := by
        intro bs
        induction bs with
        | nil => intro n r h; cases n <;> simp [scan] at h; simp [← h]
        | cons b bs ih =>
          intro n r h
          cases n with
          | zero => simp [scan] at h; simp [← h]
          | succ n => have := ih _ _ h; simp; omega
      exact key _ _ _ h
    cases r with
    | nil => simp
    | cons x xs => simp; intro hh; simp at hlen; omega
set_option maxHeartbeats 400000 in
theorem l21Whole_any (w : World) (A : Option Addr) (n c : Nat) (bs : List Bool) (hr : Rd w A n (bools bs)) (hn : n ≤ 1099511627776) : Calls Try.prog 102 #[.slice A n c] w fun e w' => e = .returned (.bool (scan bs 1 == some [])) ∧ w = w' := by
  have HL : Hid (bs.length = n) := Lib.hid (by simpa using hr.1)
  have HE := Lib.hid (endAt_whole bs)
  rcases hq : endAt bs 0 with ⟨j, b⟩
  have HQ := Lib.hid hq
  clear hq
  cases b
  · go_enter Try.func102, Try.ntmps102
    go_wp2_with (go_at_call 142; go_must (refine (l21End_any _ _ _ _ _ hr hn 0 (by omega)).mono ?_; rw [HQ.out]; rintro e w' ⟨rfl, rfl⟩))
    go_ret
    exact ⟨by rw [HE.out, HQ.out]; rfl, rfl⟩
  · by_cases hj : j = n
    · have ht : ((j : Int) == (n : Int)) = true := by simp; omega
      have HJ := Lib.hid hj
      clear hj
      go_enter Try.func102, Try.ntmps102
      go_wp2_with (go_at_call 142; go_must (refine (l21End_any _ _ _ _ _ hr hn 0 (by omega)).mono ?_; rw [HQ.out]; rintro e w' ⟨rfl, rfl⟩))
      go_ret
      exact ⟨by rw [HE.out, HQ.out, HL.out]; simp [HJ.out], rfl⟩
    · have ht : ((j : Int) == (n : Int)) = false := by simp; omega
      have HJ := Lib.hid hj
      clear hj
      go_enter Try.func102, Try.ntmps102
      go_wp2_with (go_at_call 142; go_must (refine (l21End_any _ _ _ _ _ hr hn 0 (by omega)).mono ?_; rw [HQ.out]; rintro e w' ⟨rfl, rfl⟩))
      go_ret
      exact ⟨by rw [HE.out, HQ.out, HL.out]; simp [HJ.out], rfl⟩
set_option maxHeartbeats 400000 in
theorem l21Is_any (w : World) (A : Option Addr) (n c : Nat) (bs : List Bool) (hr : Rd w A n (bools bs)) (hn : n ≤ 1099511627776) : Calls Try.prog 58 #[.slice A n c] w fun e w' => e = .returned (.bool (isTr bs)) ∧ w = w' := by
  have HL : Hid (bs.length = n) := Lib.hid (by simpa using hr.1)
  by_cases h2 : n ≤ 2000
  · have HI : Hid (isTr bs = (scan bs 1 == some [])) := Lib.hid (by simp [isTr, HL.out, h2])
    generalize hq : (scan bs 1 == some []) = q at HI
    have HQ := Lib.hid hq
    clear hq
    go_enter Try.func58, Try.ntmps58
    go_wp2_with (go_at_call 102; go_must (refine (l21Whole_any _ _ _ _ _ hr hn).mono ?_; rw [HQ.out]; rintro e w' ⟨rfl, rfl⟩))
    go_ret
    exact ⟨by rw [HI.out]; rfl, rfl⟩
  · have HI : Hid (isTr bs = false) := Lib.hid (by simp [isTr, HL.out, h2])
    go_enter Try.func58, Try.ntmps58
    go_wp2_with fail
    go_ret
    exact ⟨by rw [HI.out]; rfl, rfl⟩

set_option maxHeartbeats 400000 in
theorem follows_any (w : World) (b : Bool) : Calls Try.prog 65 #[.bool b] w fun e w' => e = .returned (.int .i64 (if b then 2 else 0)) ∧ w = w' := by
  cases b
  all_goals
    go_enter Try.func65, Try.ntmps65
    go_wp2_with fail
    go_ret
    exact ⟨rfl, rfl⟩
set_option maxHeartbeats 400000 in
theorem sizeB_any (w : World) (A : Option Addr) (n c : Nat) : Calls Try.prog 60 #[.slice A n c] w fun e w' => e = .returned (.int .i64 n) ∧ w = w' := by
  go_enter Try.func60, Try.ntmps60
  go_wp2_with fail
  go_ret
  exact ⟨rfl, rfl⟩
/-- The place behind the first tree, or -1. -/
def endOf (bs : List Bool) : Int := if (endAt bs 0).2 then (endAt bs 0).1 else -1
theorem endOf_whole (bs : List Bool) : (scan bs 1 == some []) = (endOf bs == (bs.length : Int)) := by
  rw [endAt_whole]
  unfold endOf
  rcases endAt bs 0 with ⟨j, b⟩
  cases b
  · simp
  · simp only [Bool.true_and, if_true]
    by_cases h : j = bs.length
    · subst h; simp
    · have : ¬ ((j : Int) = (bs.length : Int)) := by omega
      simp [h, this]
set_option maxHeartbeats 800000 in
theorem termEnd_any (w : World) (A : Option Addr) (n c : Nat) (bs : List Bool) (hr : Rd w A n (bools bs)) (hn : n ≤ 1099511627776) :
    Calls Try.prog 64 #[.slice A n c, .int .i64 0, .func (.func 65) #[] #[]] w fun e w' => e = .returned (.int .i64 (endOf bs)) ∧ w = w' := by
  have HL : Hid (bs.length = n) := Lib.hid (by simpa using hr.1)
  go_enter Try.func64, Try.ntmps64
  go_wp2_with fail
  go_loop [1, 7] (fun q o => ∃ k m : Nat, k ≤ n ∧ m ≤ k + 1 ∧ q = .int .i64 k ∧ o = .int .i64 m ∧ Hid (scan (bs.drop 0) 1 = scan (bs.drop k) m)) (fun q _ => n + 1 - (intOf q).toNat)
  case atStart => exact ⟨0, 1, by omega, by omega, rfl, rfl, Lib.hid rfl⟩
  case round =>
    obtain ⟨k, m, hk, hm, rfl, rfl, HS⟩ := hrel
    rcases m with _ | m
    · have HE := Lib.hid (endAt_some (bs := bs) (k := 0) (j := k) (by rw [HS.out]; cases bs.drop k <;> rfl) (by rw [HL.out]; exact hk))
      go_wp2_with fail
      go_ret
      exact ⟨by rw [endOf, HE.out]; rfl, rfl⟩
    · have hm1 : (0 : Int) < (m : Int) + 1 := by omega
      by_cases hkn : k = n
      · subst hkn
        have HE := Lib.hid (endAt_none (bs := bs) (k := 0) (by rw [HS.out, List.drop_of_length_le (by rw [HL.out]; omega)]; rfl))
        go_wp2_with fail
        go_ret
        exact ⟨by rw [endOf, HE.out]; rfl, rfl⟩
      · have hlt : k < n := by omega
        obtain ⟨b, hb⟩ := get_some (xs := bs) (k := k) (by rw [HL.out]; exact hlt)
        obtain ⟨blk, off, rfl, hbs, hc⟩ := hr.at_ (k := k) (u := .bool b) (by simp [hb])
        cases b
        · have HG := Lib.hid (scan_false (m := m) hb)
          clear hb hkn
          go_wp2_with (go_at_call 65; go_must (refine (follows_any _ _).mono ?_; rintro e w' ⟨rfl, rfl⟩))
          go_round
          case rel => exact ⟨k + 1, m, by omega, by omega, by go_num, by go_num, Lib.hid (by rw [HS.out, HG.out])⟩
          case measure => simp [intOf]; omega
        · have HG := Lib.hid (scan_true (m := m) hb)
          clear hb hkn
          go_wp2_with (go_at_call 65; go_must (refine (follows_any _ _).mono ?_; rintro e w' ⟨rfl, rfl⟩))
          go_round
          case rel => exact ⟨k + 1, m + 2, by omega, by omega, by go_num, by go_num, Lib.hid (by rw [HS.out, HG.out])⟩
          case measure => simp [intOf]; omega
set_option maxHeartbeats 800000 in
theorem IsTree_any (w : World) (A : Option Addr) (n c : Nat) (bs : List Bool) (hr : Rd w A n (bools bs)) (hn : n ≤ 1099511627776) : Calls Try.prog 22 #[.slice A n c] w fun e w' => e = .returned (.bool (isTr bs)) ∧ w = w' := by
  have HL : Hid (bs.length = n) := Lib.hid (by simpa using hr.1)
  by_cases h2 : inB n 1 2000 = true
  · have HI : Hid (isTr bs = (endOf bs == (n : Int))) := Lib.hid (by
      have := inB_true.1 h2
      rw [isTr, endOf_whole, HL.out]
      have h3 : n ≤ 2000 := by omega
      simp [h3])
    generalize hq : endOf bs = q at HI
    have HQ := Lib.hid hq
    clear hq
    by_cases hj : q = (n : Int)
    · have ht : (q == (n : Int)) = true := by simpa using hj
      have HT := Lib.hid ht
      clear hj
      go_enter Try.func22, Try.ntmps22
      go_wp2_with (first
        | (go_at_call 60; go_must (refine (sizeB_any _ _ _ _).mono ?_; rintro e w' ⟨rfl, rfl⟩))
        | (go_at_call 62; go_must (refine (within_any _ _ _ _).mono ?_; rw [h2]; rintro e w' ⟨rfl, rfl⟩))
        | (go_at_call 64; go_must (refine (termEnd_any _ _ _ _ _ hr hn).mono ?_; rw [HQ.out]; rintro e w' ⟨rfl, rfl⟩)))
      go_ret
      exact ⟨by rw [HI.out, HT.out]; rfl, rfl⟩
    · have ht : (q == (n : Int)) = false := by simpa using hj
      have HT := Lib.hid ht
      clear hj
      go_enter Try.func22, Try.ntmps22
      go_wp2_with (first
        | (go_at_call 60; go_must (refine (sizeB_any _ _ _ _).mono ?_; rintro e w' ⟨rfl, rfl⟩))
        | (go_at_call 62; go_must (refine (within_any _ _ _ _).mono ?_; rw [h2]; rintro e w' ⟨rfl, rfl⟩))
        | (go_at_call 64; go_must (refine (termEnd_any _ _ _ _ _ hr hn).mono ?_; rw [HQ.out]; rintro e w' ⟨rfl, rfl⟩)))
      go_ret
      exact ⟨by rw [HI.out, HT.out]; rfl, rfl⟩
  · have h2' : inB n 1 2000 = false := by simpa using h2
    have HI : Hid (isTr bs = false) := Lib.hid (by
      have := inB_false.1 h2'
      by_cases h3 : n ≤ 2000
      · have h0 : n = 0 := by omega
        have : bs = [] := List.eq_nil_of_length_eq_zero (by rw [HL.out, h0])
        subst this
        rfl
      · simp [isTr, HL.out, h3])
    clear h2
    go_enter Try.func22, Try.ntmps22
    go_wp2_with (first
      | (go_at_call 60; go_must (refine (sizeB_any _ _ _ _).mono ?_; rintro e w' ⟨rfl, rfl⟩))
      | (go_at_call 62; go_must (refine (within_any _ _ _ _).mono ?_; rw [h2']; rintro e w' ⟨rfl, rfl⟩)))
    go_ret
    exact ⟨by rw [HI.out]; rfl, rfl⟩
end Go.Proofs.Ytilbgbibddjdcaa
