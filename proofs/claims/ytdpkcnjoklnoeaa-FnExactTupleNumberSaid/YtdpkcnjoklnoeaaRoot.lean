/- Comparison of naturals and square roots: the reference's functions and the program's. -/
import Derived.Test.YtdpkcnjoklnoeaaUnw
import Derived.Test.YtdpkcnjoklnoeaaMath4
namespace Go.Proofs.Ytdpkcnjoklnoeaa
open Go.RowKit Limb

set_option maxHeartbeats 1000000 in
theorem l02Compare_any (w : World) (A : Option Addr) (n c : Nat) (X : Nat) (hr : Rd w A n (ints (limbs X))) (hn : n ≤ 1000000) (A' : Option Addr) (n' c' : Nat) (Y : Nat) (hr' : Rd w A' n' (ints (limbs Y))) (hn' : n' ≤ 1000000) :
    Calls Try.prog 94 #[.slice A n c, .slice A' n' c'] w (RetV w (.int .i64 (cmpN X Y))) := by
  have HL : Hid ((limbs X).length = n) := Lib.hid (by simpa using hr.1)
  have HL' : Hid ((limbs Y).length = n') := Lib.hid (by simpa using hr'.1)
  by_cases he : n = n'
  · subst he
    have t0 : ((n : Int) != (n : Int)) = false := by simp
    go_enter Try.func94, Try.ntmps94
    go_wp2_with fail
    go_loopw [5] (fun i wr => ∃ j : Nat, i = .int .i64 ((j : Int) - 1) ∧ j ≤ n ∧ Hid ((limbs X).drop j = (limbs Y).drop j) ∧ Below w.heap.size w wr) (fun i _ => (intOf i + 1).toNat)
    case atStart => exact ⟨n, rfl, by omega, Lib.hid (by rw [List.drop_of_length_le (by rw [HL.out]; omega), List.drop_of_length_le (by rw [HL'.out]; omega)]), Below.refl _ _⟩
    case round =>
      obtain ⟨j, rfl, hj, HD, hb⟩ := hrel
      rcases Nat.eq_zero_or_pos j with h0 | h0
      · subst h0
        go_wp2_with fail
        go_ret
        have h := HD.out
        rw [List.drop_zero, List.drop_zero] at h
        exact ⟨by rw [cmp_same h]; rfl, hb⟩
      · obtain ⟨k, rfl⟩ : ∃ k, j = k + 1 := ⟨j - 1, by omega⟩
        have ek : (((k + 1 : Nat) : Int) - 1) = (k : Int) := by omega
        rw [ek]
        clear ek
        obtain ⟨x, hx⟩ := get_some (xs := limbs X) (k := k) (by rw [HL.out]; omega)
        obtain ⟨y, hy⟩ := get_some (xs := limbs Y) (k := k) (by rw [HL'.out]; omega)
        obtain ⟨b, off, rfl, hbk, hcx⟩ := hr.at_ (ints_get hx)
        obtain ⟨b', off', rfl, hbk', hcy⟩ := hr'.at_ (ints_get hy)
        have hcx1 := (hb.cell (p := ⟨b, off + k, none⟩) hbk).trans hcx
        have hcy1 := (hb.cell (p := ⟨b', off' + k, none⟩) hbk').trans hcy
        have HX := Lib.hid hx; have HY := Lib.hid hy; have HB := Lib.hid hb
        have hkn : k < n := by omega
        clear hx hy hcx hcy hb
        rcases Int.lt_trichotomy x y with hlt | heq | hgt
        · have t1 : decide (x < y) = true := by simpa using hlt
          have HT := Lib.hid hlt; clear hlt
          go_wp2_with fail
          go_quiet (fail)
          go_wp2_with fail
          go_ret
          exact ⟨by rw [cmp_at_less HX.out HY.out HD.out HT.out]; rfl, by have := HB.out; exact ⟨this.os, this.tape, this.output, this.size, this.block⟩⟩
        · subst heq
          have t1 : decide (x < x) = false := by simp
          go_wp2_with fail
          go_quiet (fail)
          go_wp2_with fail
          go_quiet (fail)
          go_wp2_with fail
          go_roundw
          case rel => exact ⟨k, rfl, by omega, Lib.hid (drop_step HX.out HY.out HD.out), by have := HB.out; exact ⟨this.os, this.tape, this.output, this.size, this.block⟩⟩
          case measure => simp only [intOf]; omega
        · have t1 : decide (x < y) = false := by simp; omega
          have t2 : decide (y < x) = true := by simpa using hgt
          have HT := Lib.hid hgt; clear hgt
          go_wp2_with fail
          go_quiet (fail)
          go_wp2_with fail
          go_quiet (fail)
          go_wp2_with fail
          go_ret
          exact ⟨by rw [cmp_at_more HX.out HY.out HD.out HT.out]; rfl, by have := HB.out; exact ⟨this.os, this.tape, this.output, this.size, this.block⟩⟩
  · have t0 : ((n : Int) != (n' : Int)) = true := by simp; omega
    by_cases hlt : n < n'
    · have HF := Lib.hid (cmp_short (a := X) (b := Y) (by rw [HL.out, HL'.out]; exact hlt))
      clear he
      go_enter Try.func94, Try.ntmps94
      go_wp2_with fail
      go_ret
      exact ⟨by rw [HF.out]; rfl, Below.refl _ _⟩
    · have HF := Lib.hid (cmp_long (a := X) (b := Y) (by rw [HL.out, HL'.out]; omega))
      clear he
      go_enter Try.func94, Try.ntmps94
      go_wp2_with fail
      go_ret
      exact ⟨by rw [HF.out]; rfl, Below.refl _ _⟩

set_option maxHeartbeats 1000000 in
theorem compareNaturals_any (w : World) (A : Option Addr) (n c : Nat) (X : Nat) (hr : Rd w A n (ints (limbs X))) (hn : n ≤ 1000000) (A' : Option Addr) (n' c' : Nat) (Y : Nat) (hr' : Rd w A' n' (ints (limbs Y))) (hn' : n' ≤ 1000000) :
    Calls Try.prog 97 #[.slice A n c, .slice A' n' c'] w (RetV w (.int .i64 (cmpN X Y))) := by
  have HL : Hid ((limbs X).length = n) := Lib.hid (by simpa using hr.1)
  have HL' : Hid ((limbs Y).length = n') := Lib.hid (by simpa using hr'.1)
  by_cases he : n = n'
  · subst he
    have t0 : ((n : Int) != (n : Int)) = false := by simp
    go_enter Try.func97, Try.ntmps97
    go_wp2_with fail
    go_loopw [5] (fun i wr => ∃ j : Nat, i = .int .i64 ((j : Int) - 1) ∧ j ≤ n ∧ Hid ((limbs X).drop j = (limbs Y).drop j) ∧ Below w.heap.size w wr) (fun i _ => (intOf i + 1).toNat)
    case atStart => exact ⟨n, rfl, by omega, Lib.hid (by rw [List.drop_of_length_le (by rw [HL.out]; omega), List.drop_of_length_le (by rw [HL'.out]; omega)]), Below.refl _ _⟩
    case round =>
      obtain ⟨j, rfl, hj, HD, hb⟩ := hrel
      rcases Nat.eq_zero_or_pos j with h0 | h0
      · subst h0
        go_wp2_with fail
        go_ret
        have h := HD.out
        rw [List.drop_zero, List.drop_zero] at h
        exact ⟨by rw [cmp_same h]; rfl, hb⟩
      · obtain ⟨k, rfl⟩ : ∃ k, j = k + 1 := ⟨j - 1, by omega⟩
        have ek : (((k + 1 : Nat) : Int) - 1) = (k : Int) := by omega
        rw [ek]
        clear ek
        obtain ⟨x, hx⟩ := get_some (xs := limbs X) (k := k) (by rw [HL.out]; omega)
        obtain ⟨y, hy⟩ := get_some (xs := limbs Y) (k := k) (by rw [HL'.out]; omega)
        obtain ⟨b, off, rfl, hbk, hcx⟩ := hr.at_ (ints_get hx)
        obtain ⟨b', off', rfl, hbk', hcy⟩ := hr'.at_ (ints_get hy)
        have hcx1 := (hb.cell (p := ⟨b, off + k, none⟩) hbk).trans hcx
        have hcy1 := (hb.cell (p := ⟨b', off' + k, none⟩) hbk').trans hcy
        have HX := Lib.hid hx; have HY := Lib.hid hy; have HB := Lib.hid hb
        have hkn : k < n := by omega
        clear hx hy hcx hcy hb
        rcases Int.lt_trichotomy x y with hlt | heq | hgt
        · have t1 : (x != y) = true := by simp; omega
          have t2 : decide (x < y) = true := by simpa using hlt
          have HT := Lib.hid hlt; clear hlt
          go_wp2_with fail
          go_quiet (fail)
          go_wp2_with fail
          go_quiet (fail)
          go_wp2_with fail
          go_ret
          exact ⟨by rw [cmp_at_less HX.out HY.out HD.out HT.out]; rfl, by have := HB.out; exact ⟨this.os, this.tape, this.output, this.size, this.block⟩⟩
        · subst heq
          have t1 : (x != x) = false := by simp
          go_wp2_with fail
          go_quiet (fail)
          go_wp2_with fail
          go_roundw
          case rel => exact ⟨k, rfl, by omega, Lib.hid (drop_step HX.out HY.out HD.out), by have := HB.out; exact ⟨this.os, this.tape, this.output, this.size, this.block⟩⟩
          case measure => simp only [intOf]; omega
        · have t1 : (x != y) = true := by simp; omega
          have t2 : decide (x < y) = false := by simp; omega
          have HT := Lib.hid hgt; clear hgt
          go_wp2_with fail
          go_quiet (fail)
          go_wp2_with fail
          go_quiet (fail)
          go_wp2_with fail
          go_ret
          exact ⟨by rw [cmp_at_more HX.out HY.out HD.out HT.out]; rfl, by have := HB.out; exact ⟨this.os, this.tape, this.output, this.size, this.block⟩⟩
  · have t0 : ((n : Int) != (n' : Int)) = true := by simp; omega
    by_cases hlt : n < n'
    · have HF := Lib.hid (cmp_short (a := X) (b := Y) (by rw [HL.out, HL'.out]; exact hlt))
      clear he
      go_enter Try.func97, Try.ntmps97
      go_wp2_with fail
      go_ret
      exact ⟨by rw [HF.out]; rfl, Below.refl _ _⟩
    · have HF := Lib.hid (cmp_long (a := X) (b := Y) (by rw [HL.out, HL'.out]; omega))
      clear he
      go_enter Try.func97, Try.ntmps97
      go_wp2_with fail
      go_ret
      exact ⟨by rw [HF.out]; rfl, Below.refl _ _⟩

/-- A search by halves: the greatest digit of which the question is answered with yes. -/
def Digit (w : World) (P : Int → Bool) (e : Ending) (w' : World) : Prop := ∃ d : Int, e = .returned (.int .i64 d) ∧ 0 ≤ d ∧ d < 1000000 ∧ P d = true ∧ P (d + 1) = false ∧ Below w.heap.size w w'

set_option maxHeartbeats 1000000 in
theorem greatest_any (w : World) (P : Int → Bool) (h0 : P 0 = true) (h1 : P 1000000 = false) (p1 p2 p3 : Value)
    (hf : ∀ (w' : World) (d : Int), Below w.heap.size w w' → 0 ≤ d → d < 1000000 → Calls Try.prog 96 #[.int .i64 d, p1, p2, p3] w' (RetV w' (.bool (P d)))) :
    Calls Try.prog 95 #[.func (.func 96) #[] #[p1, p2, p3]] w (Digit w P) := by
  have HF := Lib.hid hf; have H0 := Lib.hid h0; have H1 := Lib.hid h1
  clear hf h0 h1
  go_enter Try.func95, Try.ntmps95
  go_wp2_with fail
  go_loopw [3, 4] (fun l h wr => ∃ lo hi : Int, l = .int .i64 lo ∧ h = .int .i64 hi ∧ 0 ≤ lo ∧ lo < hi ∧ hi ≤ 1000000 ∧ Hid (P lo = true ∧ P hi = false) ∧ Below w.heap.size w wr) (fun l h _ => (intOf h - intOf l).toNat)
  case atStart => exact ⟨0, 1000000, rfl, rfl, by omega, by omega, by omega, Lib.hid ⟨H0.out, H1.out⟩, Below.refl _ _⟩
  case round =>
    obtain ⟨lo, hi, rfl, rfl, hl0, hlh, hh, HP, hb⟩ := hrel
    by_cases hlt : lo + 1 < hi
    · go_wp2_with fail
      refine (HF.out _ _ hb (by omega) (by omega)).mono ?_
      rintro e w1 ⟨rfl, hb1⟩
      have hB := hb.trans (hb1.mono hb.size)
      by_cases hp : P ((lo + hi) / 2) = true
      · rw [hp]
        have HQ := Lib.hid hp; clear hp
        go_wp2_with fail
        go_roundw
        case rel => exact ⟨_, _, rfl, rfl, by omega, by omega, by omega, Lib.hid ⟨HQ.out, HP.out.2⟩, hB⟩
        case measure => simp only [intOf]; omega
      · rw [show P ((lo + hi) / 2) = false by simpa using hp]
        have HQ := Lib.hid (show P ((lo + hi) / 2) = false by simpa using hp); clear hp
        go_wp2_with fail
        go_roundw
        case rel => exact ⟨_, _, rfl, rfl, by omega, by omega, by omega, Lib.hid ⟨HP.out.1, HQ.out⟩, hB⟩
        case measure => simp only [intOf]; omega
    · go_wp2_with fail
      go_ret
      have e : hi = lo + 1 := by omega
      exact ⟨lo, rfl, hl0, by omega, HP.out.1, by rw [← e]; exact HP.out.2, hb⟩
end Go.Proofs.Ytdpkcnjoklnoeaa
