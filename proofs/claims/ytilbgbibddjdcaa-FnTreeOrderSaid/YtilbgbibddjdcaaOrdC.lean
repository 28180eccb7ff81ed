/- TreeAt, CompareTrees, r8Tree. -/
import Derived.Test.YtilbgbibddjdcaaOrdM
import Derived.Test.YtilbgbibddjdcaaCdK
namespace Go.Proofs.Ytilbgbibddjdcaa
open Go.RowKit
set_option linter.unusedVariables false
set_option linter.unusedSimpArgs false
theorem lexB_drop {xs ys : List Bool} {k : Nat} {x : Bool} (hx : xs[k]? = some x) (hy : ys[k]? = some x) : lexB (xs.drop k) (ys.drop k) = lexB (xs.drop (k + 1)) (ys.drop (k + 1)) := by
  rw [drop_get hx, drop_get hy]; simp [lexB]
theorem lexB_ft {xs ys : List Bool} {k : Nat} (hx : xs[k]? = some false) (hy : ys[k]? = some true) : lexB (xs.drop k) (ys.drop k) = -1 := by
  rw [drop_get hx, drop_get hy]; simp [lexB]
theorem lexB_tf {xs ys : List Bool} {k : Nat} (hx : xs[k]? = some true) (hy : ys[k]? = some false) : lexB (xs.drop k) (ys.drop k) = 1 := by
  rw [drop_get hx, drop_get hy]; simp [lexB]
set_option maxHeartbeats 1000000 in
theorem TreeAt_any (w : World) (rank n r : Nat) (h : AtR rank n r) (hn : n ≤ 60) (hr : rank ≤ 1000000) : Calls Try.prog 20 #[.int .i64 rank] w (RetSI w 4 (bools (greedy n 1 r)) 0) := by
  have HI : Hid (inB (rank : Int) 0 1000000000000 = true) := Lib.hid (inB_true.2 (by omega))
  go_enter Try.func20, Try.ntmps20
  go_wp2_with (go_at_call 62; go_must (refine (within_any _ _ _ _).mono ?_; rw [HI.out]; rintro e w' ⟨rfl, rfl⟩))
  refine (treeAt_any _ rank n r h hn (by omega)).mono ?_
  rintro e w2 ⟨A, m, c, rfl, ho, hb⟩
  go_wp2_with fail
  go_ret2
  exact ⟨A, m, c, rfl, ho, hb⟩
set_option maxHeartbeats 2000000 in
theorem CompareTrees_any (w : World) (A : Option Addr) (n c : Nat) (xs : List Bool) (hr : Rd w A n (bools xs)) (hn : n ≤ 1000000000) (A' : Option Addr) (n' c' : Nat) (ys : List Bool) (hr' : Rd w A' n' (bools ys)) (hn' : n' ≤ 1000000000) :
    Calls Try.prog 21 #[.slice A n c, .slice A' n' c'] w (RetV w (.int .i64 (cmpB xs ys))) := by
  have HL : Hid (xs.length = n) := Lib.hid (by simpa using hr.1)
  have HL' : Hid (ys.length = n') := Lib.hid (by simpa using hr'.1)
  by_cases h1 : n < n'
  · have HQ : Hid (cmpB xs ys = -1) := Lib.hid (by unfold cmpB; rw [HL.out, HL'.out, if_pos h1])
    have b1 : ((n : Int) == (n' : Int)) = false := by simp; omega
    have b2 : ((n : Int) != (n' : Int)) = true := by simp; omega
    have b3 : ¬ n = n' := by omega
    go_enter Try.func21, Try.ntmps21
    go_wp2_with fail
    go_ret
    exact ⟨by rw [HQ.out]; rfl, Below.refl _ _⟩
  · by_cases h2 : n' < n
    · have HQ : Hid (cmpB xs ys = 1) := Lib.hid (by unfold cmpB; rw [HL.out, HL'.out, if_neg h1, if_pos h2])
      have b1 : ((n : Int) == (n' : Int)) = false := by simp; omega
      have b2 : ((n : Int) != (n' : Int)) = true := by simp; omega
      have b3 : ¬ n = n' := by omega
      go_enter Try.func21, Try.ntmps21
      go_wp2_with fail
      go_ret
      exact ⟨by rw [HQ.out]; rfl, Below.refl _ _⟩
    · obtain rfl : n = n' := by omega
      have HC : Hid (cmpB xs ys = lexB xs ys) := Lib.hid (by unfold cmpB; rw [HL.out, HL'.out, if_neg h1, if_neg h2])
      clear h1 h2
      go_enter Try.func21, Try.ntmps21
      go_wp2_with fail
      go_loopw [19] (fun q wr => ∃ k : Nat, k ≤ n ∧ q = .int .i64 k ∧ Hid (lexB xs ys = lexB (xs.drop k) (ys.drop k)) ∧ Below w.heap.size w wr) (fun q _ => n - (intOf q).toNat)
      case atStart => exact ⟨0, by omega, rfl, Lib.hid (by simp), Below.refl _ _⟩
      case round =>
        obtain ⟨k, hk, rfl, HT, hb⟩ := hrel
        by_cases hlt : k < n
        · have hlt' : (k : Int) < (n : Int) := by omega
          obtain ⟨x, hx⟩ := get_some (xs := xs) (k := k) (by rw [HL.out]; exact hlt)
          obtain ⟨y, hy⟩ := get_some (xs := ys) (k := k) (by rw [HL'.out]; exact hlt)
          obtain ⟨b1, off1, rfl, hbs1, q1⟩ := hr.at_ (k := k) (u := .bool x) (by simp [hx])
          obtain ⟨b2, off2, rfl, hbs2, q2⟩ := hr'.at_ (k := k) (u := .bool y) (by simp [hy])
          replace q1 := (hb.cell (p := ⟨b1, off1 + k, none⟩) hbs1).trans q1
          replace q2 := (hb.cell (p := ⟨b2, off2 + k, none⟩) hbs2).trans q2
          have HX := Lib.hid hx
          have HY := Lib.hid hy
          clear hx hy
          cases x <;> cases y
          case false.false =>
            go_wp2_with fail
            go_roundw
            case rel => exact ⟨k + 1, by omega, by go_num, Lib.hid (HT.out.trans (lexB_drop HX.out HY.out)), hb⟩
            case measure => simp [intOf]; omega
          case true.true =>
            go_wp2_with fail
            go_roundw
            case rel => exact ⟨k + 1, by omega, by go_num, Lib.hid (HT.out.trans (lexB_drop HX.out HY.out)), hb⟩
            case measure => simp [intOf]; omega
          case false.true =>
            have HQ := Lib.hid (HC.out.trans (HT.out.trans (lexB_ft HX.out HY.out)))
            go_wp2_with fail
            go_ret
            exact ⟨by rw [HQ.out]; rfl, hb⟩
          case true.false =>
            have HQ := Lib.hid (HC.out.trans (HT.out.trans (lexB_tf HX.out HY.out)))
            go_wp2_with fail
            go_ret
            exact ⟨by rw [HQ.out]; rfl, hb⟩
        · have HQ : Hid (cmpB xs ys = 0) := Lib.hid (by
            rw [HC.out, HT.out, List.drop_of_length_le (by rw [HL.out]; omega)]; rfl)
          go_wp2_with fail
          go_ret
          exact ⟨by rw [HQ.out]; rfl, hb⟩
set_option maxHeartbeats 1000000 in
theorem r8Tree_same (w : World) (A : Option Addr) (n c : Nat) (xs : List Bool) (hr : Rd w A n (bools xs)) (hn : n ≤ 1000000000) (A' : Option Addr) (n' c' : Nat) (hr' : Rd w A' n' (bools xs)) :
    Calls Try.prog 27 #[.slice A n c, .slice A' n' c'] w (RetV w (.bool true)) := by
  have HL : Hid (xs.length = n) := Lib.hid (by simpa using hr.1)
  obtain rfl : n = n' := by have h1 := hr.1; have h2 := hr'.1; omega
  go_enter Try.func27, Try.ntmps27
  go_wp2_with fail
  go_loopw [5] (fun q wr => ∃ k : Nat, k ≤ n ∧ q = .int .i64 k ∧ Below w.heap.size w wr) (fun q _ => n - (intOf q).toNat)
  case atStart => exact ⟨0, by omega, rfl, Below.refl _ _⟩
  case round =>
    obtain ⟨k, hk, rfl, hb⟩ := hrel
    by_cases hlt : k < n
    · have hlt' : (k : Int) < (n : Int) := by omega
      have hk0 : (0 : Int) ≤ (k : Int) := by omega
      obtain ⟨x, hx⟩ := get_some (xs := xs) (k := k) (by rw [HL.out]; exact hlt)
      obtain ⟨b1, off1, rfl, hbs1, q1⟩ := hr.at_ (k := k) (u := .bool x) (by simp [hx])
      obtain ⟨b2, off2, rfl, hbs2, q2⟩ := hr'.at_ (k := k) (u := .bool x) (by simp [hx])
      replace q1 := (hb.cell (p := ⟨b1, off1 + k, none⟩) hbs1).trans q1
      replace q2 := (hb.cell (p := ⟨b2, off2 + k, none⟩) hbs2).trans q2
      clear hx
      cases x
      all_goals
        go_wp2_with fail
        go_quiet (fail)
        go_wp2_with fail
        go_roundw
        case rel => exact ⟨k + 1, by omega, by go_num, below_drewN hb⟩
        case measure => simp [intOf]; omega
    · go_wp2_with fail
      go_ret
      exact ⟨rfl, hb⟩
end Go.Proofs.Ytilbgbibddjdcaa
