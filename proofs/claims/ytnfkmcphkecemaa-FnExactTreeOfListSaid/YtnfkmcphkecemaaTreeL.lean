/- Slices of slices of bools that are read; whether all are trees. -/
import Derived.Test.YtnfkmcphkecemaaTreeV
namespace Go.Proofs.Ytnfkmcphkecemaa
open Go.RowKit

/-- A slice of slices of bools: its cells are slice values, and each reads as a list. -/
def RdB (w : World) (A : Option Addr) (n : Nat) (xss : List (List Bool)) : Prop :=
  ∃ vs : List Value, Rd w A n vs ∧ vs.length = xss.length ∧ ∀ (i : Nat) (v : Value) (xs : List Bool), vs[i]? = some v → xss[i]? = some xs → ∃ A' n' c', v = .slice A' n' c' ∧ n' ≤ 1000000000 ∧ Rd w A' n' (bools xs)
theorem RdB.len {w : World} {A : Option Addr} {n : Nat} {xss : List (List Bool)} (h : RdB w A n xss) : xss.length = n := by
  obtain ⟨vs, h1, h2, _⟩ := h; rw [← h2, h1.1]
theorem RdB.at_ {w : World} {A : Option Addr} {n k : Nat} {xss : List (List Bool)} {xs : List Bool} (h : RdB w A n xss) (hx : xss[k]? = some xs) :
    ∃ b off A' n' c', A = some ⟨b, off, none⟩ ∧ b < w.heap.size ∧ w.cell? ⟨b, off + k, none⟩ = some (.slice A' n' c') ∧ n' ≤ 1000000000 ∧ Rd w A' n' (bools xs) := by
  obtain ⟨vs, h1, h2, h3⟩ := h
  have hk : k < vs.length := by rw [h2]; exact (List.getElem?_eq_some_iff.1 hx).1
  obtain ⟨v, hv⟩ := get_some hk
  obtain ⟨A', n', c', rfl, hn', hr'⟩ := h3 k v xs hv hx
  obtain ⟨b, off, e, hb, hc⟩ := h1.at_ hv
  exact ⟨b, off, A', n', c', e, hb, hc, hn', hr'⟩
theorem RdB.below {w w' : World} {A : Option Addr} {n B : Nat} {xss : List (List Bool)} (h : RdB w A n xss) (hb : Below B w w') (hB : w.heap.size ≤ B) : RdB w' A n xss := by
  obtain ⟨vs, h1, h2, h3⟩ := h
  refine ⟨vs, h1.below hb hB, h2, fun i v xs hv hx => ?_⟩
  obtain ⟨A', n', c', e, hn', hr'⟩ := h3 i v xs hv hx
  exact ⟨A', n', c', e, hn', hr'.below hb hB⟩

def allTr (xss : List (List Bool)) : Bool := xss.all isTr

set_option maxHeartbeats 400000 in
theorem areTrees1_any (w : World) (A : Option Addr) (n c : Nat) (xs : List Bool) (hr : Rd w A n (bools xs)) (hn : n ≤ 1000000000) :
    Calls Try.prog 70 #[.slice A n c] w fun e w' => e = .returned (.bool (!isTr xs)) ∧ w = w' := by
  go_enter Try.func70, Try.ntmps70
  go_wp2_with (go_at_call 26; refine (IsTree_any _ _ _ _ _ hr (by omega)).mono ?_; rintro e w' ⟨rfl, rfl⟩)
  go_ret
  exact ⟨rfl, rfl⟩

theorem allTr_take_step {xss : List (List Bool)} {k : Nat} {xs : List Bool} (h : allTr (xss.take k) = true) (hx : xss[k]? = some xs) (hn : isTr xs = true) : allTr (xss.take (k + 1)) = true := by
  rw [List.take_add_one, hx]
  simp only [allTr, List.all_append, Bool.and_eq_true] at h ⊢
  exact ⟨h, by simp [hn]⟩
theorem allTr_out {xss : List (List Bool)} {k : Nat} {xs : List Bool} (hx : xss[k]? = some xs) (hn : isTr xs = false) : allTr xss = false := by
  obtain ⟨hk, rfl⟩ := List.getElem?_eq_some_iff.1 hx
  simp only [allTr, List.all_eq_false]
  exact ⟨_, List.getElem_mem hk, by simp [hn]⟩

/-- The index that a search returns: not negative just where something was found. -/
def FoundB (w : World) (bad : Bool) (e : Ending) (w' : World) : Prop := ∃ i : Int, e = .returned (.int .i64 i) ∧ decide (0 ≤ i) = bad ∧ w = w'

set_option maxHeartbeats 1000000 in
theorem indexFuncB_any (w : World) (A : Option Addr) (n c : Nat) (xss : List (List Bool)) (hr : RdB w A n xss) (hn : n ≤ 1000000000) :
    Calls Try.prog 78 #[.slice A n c, .func (.func 70) #[] #[]] w (FoundB w (!allTr xss)) := by
  have HL : Hid (xss.length = n) := Lib.hid hr.len
  go_enter Try.func78, Try.ntmps78
  go_wp2_with fail
  go_loop [8] (fun q => ∃ k : Nat, k ≤ n ∧ q = .int .i64 k ∧ Hid (allTr (xss.take k) = true)) (fun q => n - (intOf q).toNat)
  case atStart => exact ⟨0, Nat.zero_le _, rfl, Lib.hid (by simp [allTr])⟩
  case round =>
    obtain ⟨k, hk, rfl, hall⟩ := hrel
    by_cases h1 : k < n
    · obtain ⟨xs, hx⟩ := get_some (xs := xss) (k := k) (by rw [HL.out]; omega)
      obtain ⟨b, off, A', n', c', rfl, hbk, hcx, hn', hr'⟩ := hr.at_ hx
      have HX := Lib.hid hx
      clear hx
      by_cases hin : isTr xs = true
      · go_wp2_with (go_at_call 70; refine (areTrees1_any _ _ _ _ _ hr' hn').mono ?_; rintro e w' ⟨rfl, rfl⟩)
        go_round
        case rel => exact ⟨k + 1, by omega, by go_num, Lib.hid (allTr_take_step hall.out HX.out hin)⟩
        case measure => simp [intOf]; omega
      · have hin' : isTr xs = false := by simpa using hin
        clear hin
        go_wp2_with (go_at_call 70; refine (areTrees1_any _ _ _ _ _ hr' hn').mono ?_; rintro e w' ⟨rfl, rfl⟩)
        go_ret
        exact ⟨k, rfl, by rw [allTr_out HX.out hin']; simp, rfl⟩
    · go_wp2_with fail
      go_ret
      have h := hall.out
      rw [List.take_of_length_le (by rw [HL.out]; omega)] at h
      exact ⟨-1, rfl, by rw [h]; rfl, rfl⟩

set_option maxHeartbeats 400000 in
theorem containsFuncB_any (w : World) (A : Option Addr) (n c : Nat) (xss : List (List Bool)) (hr : RdB w A n xss) (hn : n ≤ 1000000000) :
    Calls Try.prog 69 #[.slice A n c, .func (.func 70) #[] #[]] w fun e w' => e = .returned (.bool (!allTr xss)) ∧ w = w' := by
  go_enter Try.func69, Try.ntmps69
  go_wp2_with fail
  refine (indexFuncB_any _ _ _ _ _ hr hn).mono ?_
  rintro e w' ⟨i, rfl, hi, rfl⟩
  have HI := Lib.hid hi; clear hi
  go_wp2_with fail
  go_ret
  exact ⟨by rw [← HI.out]; rfl, rfl⟩

set_option maxHeartbeats 400000 in
theorem areTrees_any (w : World) (A : Option Addr) (n c : Nat) (xss : List (List Bool)) (hr : RdB w A n xss) (hn : n ≤ 1000000000) :
    Calls Try.prog 47 #[.slice A n c] w fun e w' => e = .returned (.bool (allTr xss)) ∧ w = w' := by
  go_enter Try.func47, Try.ntmps47
  go_wp2_with (go_at_call 69; refine (containsFuncB_any _ _ _ _ _ hr hn).mono ?_; rintro e w' ⟨rfl, rfl⟩)
  go_ret
  exact ⟨by simp, rfl⟩

end Go.Proofs.Ytnfkmcphkecemaa
