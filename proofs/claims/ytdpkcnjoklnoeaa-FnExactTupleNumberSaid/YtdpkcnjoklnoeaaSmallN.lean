/- Contracts of the small tests on numbers and lists: within, l00In, allWithin; results that are a list and a code. -/
import Derived.Test.YtdpkcnjoklnoeaaImplM
import Derived.Deep.RegionHeld3
import Derived.Deep.DeepCutAuto
namespace Go.Proofs.Ytdpkcnjoklnoeaa
open Go.RowKit Limb

def inB (n lo hi : Int) : Bool := decide (lo ≤ n ∧ n ≤ hi)
theorem inB_true {n lo hi : Int} : inB n lo hi = true ↔ lo ≤ n ∧ n ≤ hi := by simp [inB]
theorem inB_false {n lo hi : Int} : inB n lo hi = false ↔ ¬ (lo ≤ n ∧ n ≤ hi) := by simp [inB]
def allIn (xs : List Int) (lo hi : Int) : Bool := xs.all fun x => inB x lo hi
theorem allIn_true {xs : List Int} {lo hi : Int} : allIn xs lo hi = true ↔ ∀ x ∈ xs, lo ≤ x ∧ x ≤ hi := by simp [allIn, inB]
theorem allIn_take_step {xs : List Int} {lo hi x : Int} {k : Nat} (h : allIn (xs.take k) lo hi = true) (hx : xs[k]? = some x) (hi' : inB x lo hi = true) : allIn (xs.take (k + 1)) lo hi = true := by
  rw [List.take_add_one, hx]
  simp only [allIn, List.all_append, Bool.and_eq_true] at h ⊢
  exact ⟨h, by simp [hi']⟩
theorem allIn_out {xs : List Int} {lo hi x : Int} {k : Nat} (hx : xs[k]? = some x) (hi' : inB x lo hi = false) : allIn xs lo hi = false := by
  obtain ⟨hk, rfl⟩ := List.getElem?_eq_some_iff.1 hx
  simp only [allIn, List.all_eq_false]
  exact ⟨_, List.getElem_mem hk, by simp [hi']⟩

set_option maxHeartbeats 400000 in
theorem within_any (w : World) (n lo hi : Int) : Calls Try.prog 59 #[.int .i64 n, .int .i64 lo, .int .i64 hi] w fun e w' => e = .returned (.bool (inB n lo hi)) ∧ w = w' := by
  by_cases h1 : lo ≤ n
  · have b1 : decide (lo ≤ n) = true := by simpa using h1
    by_cases h2 : n ≤ hi
    · have b2 : decide (n ≤ hi) = true := by simpa using h2
      have HB := Lib.hid (inB_true.2 ⟨h1, h2⟩)
      clear h1 h2
      go_enter Try.func59, Try.ntmps59
      go_wp2_with fail
      go_ret
      exact ⟨by rw [HB.out]; rfl, rfl⟩
    · have b2 : decide (n ≤ hi) = false := by simpa using h2
      have HB := Lib.hid (inB_false.2 (fun h => h2 h.2) : inB n lo hi = false)
      clear h1 h2
      go_enter Try.func59, Try.ntmps59
      go_wp2_with fail
      go_ret
      exact ⟨by rw [HB.out]; rfl, rfl⟩
  · have b1 : decide (lo ≤ n) = false := by simpa using h1
    have HB := Lib.hid (inB_false.2 (fun h => h1 h.1) : inB n lo hi = false)
    clear h1
    go_enter Try.func59, Try.ntmps59
    go_wp2_with fail
    go_ret
    exact ⟨by rw [HB.out]; rfl, rfl⟩

set_option maxHeartbeats 400000 in
theorem l00In_any (w : World) (n lo hi : Int) : Calls Try.prog 48 #[.int .i64 n, .int .i64 lo, .int .i64 hi] w fun e w' => e = .returned (.bool (inB n lo hi)) ∧ w = w' := by
  by_cases h1 : lo ≤ n
  · have b1 : decide (lo ≤ n) = true := by simpa using h1
    by_cases h2 : n ≤ hi
    · have b2 : decide (n ≤ hi) = true := by simpa using h2
      have HB := Lib.hid (inB_true.2 ⟨h1, h2⟩)
      clear h1 h2
      go_enter Try.func48, Try.ntmps48
      go_wp2_with fail
      go_ret
      exact ⟨by rw [HB.out]; rfl, rfl⟩
    · have b2 : decide (n ≤ hi) = false := by simpa using h2
      have HB := Lib.hid (inB_false.2 (fun h => h2 h.2) : inB n lo hi = false)
      clear h1 h2
      go_enter Try.func48, Try.ntmps48
      go_wp2_with fail
      go_ret
      exact ⟨by rw [HB.out]; rfl, rfl⟩
  · have b1 : decide (lo ≤ n) = false := by simpa using h1
    have HB := Lib.hid (inB_false.2 (fun h => h1 h.1) : inB n lo hi = false)
    clear h1
    go_enter Try.func48, Try.ntmps48
    go_wp2_with fail
    go_ret
    exact ⟨by rw [HB.out]; rfl, rfl⟩

set_option maxHeartbeats 400000 in
theorem allWithin_any (w : World) (A : Option Addr) (n c : Nat) (xs : List Int) (hr : Rd w A n (ints xs)) (hn : n ≤ 1099511627776) (lo hi : Int) :
    Calls Try.prog 54 #[.slice A n c, .int .i64 lo, .int .i64 hi] w fun e w' => e = .returned (.bool (allIn xs lo hi)) ∧ w = w' := by
  have hlen : xs.length = n := by simpa using hr.1
  have HL := Lib.hid hlen; clear hlen
  go_enter Try.func54, Try.ntmps54
  go_wp2_with fail
  go_loop [11] (fun q => ∃ k : Nat, k ≤ n ∧ q = .int .i64 k ∧ Hid (allIn (xs.take k) lo hi = true)) (fun q => n - (intOf q).toNat)
  case atStart => exact ⟨0, Nat.zero_le _, rfl, Lib.hid (by simp [allIn])⟩
  case round =>
    obtain ⟨k, hk, rfl, hall⟩ := hrel
    by_cases h1 : k < n
    · obtain ⟨x, hx⟩ := get_some (xs := xs) (k := k) (by rw [HL.out]; omega)
      obtain ⟨b, off, rfl, hbk, hcx⟩ := hr.at_ (ints_get hx)
      have HX := Lib.hid hx
      clear hx
      by_cases hin : inB x lo hi = true
      · go_wp2_with (go_at_call 59; refine (within_any _ _ _ _).mono ?_; rintro e w' ⟨rfl, rfl⟩)
        go_round
        case rel => exact ⟨k + 1, by omega, by go_num, Lib.hid (allIn_take_step hall.out HX.out hin)⟩
        case measure => simp [intOf]; omega
      · have hin' : inB x lo hi = false := by simpa using hin
        clear hin
        go_wp2_with (go_at_call 59; refine (within_any _ _ _ _).mono ?_; rintro e w' ⟨rfl, rfl⟩)
        go_ret
        exact ⟨by rw [allIn_out HX.out hin']; rfl, rfl⟩
    · go_wp2_with fail
      go_ret
      have h := hall.out
      rw [List.take_of_length_le (by rw [HL.out]; omega)] at h
      exact ⟨by rw [h]; rfl, rfl⟩

def wordB (xs : List Int) (L : Int) : Bool := decide (xs.length ≤ 400) && allIn xs 0 (L - 1)
set_option maxHeartbeats 400000 in
theorem l04Word_any (w : World) (A : Option Addr) (n c : Nat) (xs : List Int) (hr : Rd w A n (ints xs)) (hn : n ≤ 1099511627776) (L : Int) (hL0 : 1 ≤ L) (hL1 : L ≤ 10) :
    Calls Try.prog 49 #[.slice A n c, .int .i64 L] w fun e w' => e = .returned (.bool (wordB xs L)) ∧ w = w' := by
  have hlen : xs.length = n := by simpa using hr.1
  have HL := Lib.hid hlen; clear hlen
  by_cases h400 : n ≤ 400
  · have HB : Hid (decide (xs.length ≤ 400) = true) := Lib.hid (by rw [HL.out]; simpa using h400)
    go_enter Try.func49, Try.ntmps49
    go_wp2_with fail
    go_loop [5] (fun q => ∃ k : Nat, k ≤ n ∧ q = .int .i64 k ∧ Hid (allIn (xs.take k) 0 (L - 1) = true)) (fun q => n - (intOf q).toNat)
    case atStart => exact ⟨0, Nat.zero_le _, rfl, Lib.hid (by simp [allIn])⟩
    case round =>
      obtain ⟨k, hk, rfl, hall⟩ := hrel
      by_cases h1 : k < n
      · obtain ⟨x, hx⟩ := get_some (xs := xs) (k := k) (by rw [HL.out]; omega)
        obtain ⟨b, off, rfl, hbk, hcx⟩ := hr.at_ (ints_get hx)
        have HX := Lib.hid hx
        clear hx
        by_cases hin : inB x 0 (L - 1) = true
        · go_wp2_with (go_at_call 48; refine (l00In_any _ _ _ _).mono ?_; rintro e w' ⟨rfl, rfl⟩)
          go_round
          case rel => exact ⟨k + 1, by omega, by go_num, Lib.hid (allIn_take_step hall.out HX.out hin)⟩
          case measure => simp [intOf]; omega
        · have hin' : inB x 0 (L - 1) = false := by simpa using hin
          clear hin
          go_wp2_with (go_at_call 48; refine (l00In_any _ _ _ _).mono ?_; rintro e w' ⟨rfl, rfl⟩)
          go_ret
          exact ⟨by rw [wordB, allIn_out HX.out hin', HB.out]; rfl, rfl⟩
      · go_wp2_with fail
        go_ret
        have h := hall.out
        rw [List.take_of_length_le (by rw [HL.out]; omega)] at h
        exact ⟨by rw [wordB, h, HB.out]; rfl, rfl⟩
  · have HB : Hid (decide (xs.length ≤ 400) = false) := Lib.hid (by rw [HL.out]; simpa using h400)
    go_enter Try.func49, Try.ntmps49
    go_wp2_with fail
    go_ret
    exact ⟨by rw [wordB, HB.out]; rfl, rfl⟩

/-- A list and a code. -/
def RetSI (w : World) (e : TypeId) (vs : List Value) (code : Int) (en : Ending) (w' : World) : Prop :=
  ∃ A n c, en = .returned (.tuple #[.slice A n c, .int .i64 code]) ∧ w'.ownsRow w.heap.size e 1 (.slice A n c) n vs ∧ Below w.heap.size w w'
theorem own_nil (w : World) (base e : Nat) : w.ownsRow base e 1 (.slice none 0 0) 0 [] := World.ownsRow_nil w base e 1
theorem own_zero (w : World) (e : Nat) : (w.alloc (.cells #[] e)).ownsRow w.heap.size e 1 (.slice (some ⟨w.heap.size, 0, none⟩) 0 0) 0 (ints (limbs 0)) := by
  have h := own_lit w #[] 0 e rfl (by omega)
  rwa [show (#[] : Array Value).toList = ints (limbs 0) by simp [limbs_zero]] at h
theorem own_limb_len {w : World} {base e n X : Nat} {v : Value} (h : w.ownsRow base e 1 v n (ints (limbs X))) : (limbs X).length = n := by simpa using h.1
theorem own_small {w : World} {base e n X : Nat} {v : Value} (h : w.ownsRow base e 1 v n (ints (limbs X))) (hX : X ≤ 1000000000000) : n ≤ 3 := by
  rw [← own_limb_len h]; exact limbs_len_small hX
theorem own_mul_len {w w1 w2 : World} {base base1 base2 e n n1 n2 X Y : Nat} {v v1 v2 : Value} (h : w.ownsRow base e 1 v n (ints (limbs (X * Y)))) (h1 : w1.ownsRow base1 e 1 v1 n1 (ints (limbs X))) (h2 : w2.ownsRow base2 e 1 v2 n2 (ints (limbs Y))) : n ≤ n1 + n2 := by
  rw [← own_limb_len h, ← own_limb_len h1, ← own_limb_len h2]; exact limbs_len_mul _ _
theorem own_add_len {w w1 w2 : World} {base base1 base2 e n n1 n2 X Y : Nat} {v v1 v2 : Value} (h : w.ownsRow base e 1 v n (ints (limbs (X + Y)))) (h1 : w1.ownsRow base1 e 1 v1 n1 (ints (limbs X))) (h2 : w2.ownsRow base2 e 1 v2 n2 (ints (limbs Y))) : n ≤ n1 + n2 + 1 := by
  rw [← own_limb_len h, ← own_limb_len h1, ← own_limb_len h2]; exact limbs_len_add _ _
end Go.Proofs.Ytdpkcnjoklnoeaa
