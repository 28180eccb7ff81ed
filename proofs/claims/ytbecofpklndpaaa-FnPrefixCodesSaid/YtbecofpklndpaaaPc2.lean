/- Prefix codes: the tests of a list of words, codes written and read back. -/
import Derived.Test.YtbecofpklndpaaaPc
namespace Go.Proofs.Ytbecofpklndpaaa
open Go.RowKit
set_option linter.unusedVariables false
set_option linter.unusedSimpArgs false
def RdLc (w : World) (A : Option Addr) (n : Nat) (xss : List (List Int)) : Prop :=
  ∃ vs : List Value, Rd w A n vs ∧ vs.length = xss.length ∧ ∀ (i : Nat) (v : Value) (xs : List Int), vs[i]? = some v → xss[i]? = some xs → ∃ A' n' c', v = .slice A' n' c' ∧ n' ≤ c' ∧ n' ≤ 1000000000 ∧ Rd w A' n' (ints xs)
theorem RdLc.len {w : World} {A : Option Addr} {n : Nat} {xss : List (List Int)} (h : RdLc w A n xss) : xss.length = n := by
  obtain ⟨vs, h1, h2, _⟩ := h; rw [← h2, h1.1]
theorem RdLc.at_ {w : World} {A : Option Addr} {n k : Nat} {xss : List (List Int)} {xs : List Int} (h : RdLc w A n xss) (hx : xss[k]? = some xs) :
    ∃ b off A' n' c', A = some ⟨b, off, none⟩ ∧ b < w.heap.size ∧ w.cell? ⟨b, off + k, none⟩ = some (.slice A' n' c') ∧ n' ≤ c' ∧ n' ≤ 1000000000 ∧ Rd w A' n' (ints xs) := by
  obtain ⟨vs, h1, h2, h3⟩ := h
  have hk : k < vs.length := by rw [h2]; exact (List.getElem?_eq_some_iff.1 hx).1
  obtain ⟨v, hv⟩ := get_some hk
  obtain ⟨A', n', c', rfl, hc', hn', hr'⟩ := h3 k v xs hv hx
  obtain ⟨b, off, e, hb, hc⟩ := h1.at_ hv
  exact ⟨b, off, A', n', c', e, hb, hc, hc', hn', hr'⟩
theorem RdLc.below {w w' : World} {A : Option Addr} {n B : Nat} {xss : List (List Int)} (h : RdLc w A n xss) (hb : Below B w w') (hB : w.heap.size ≤ B) : RdLc w' A n xss := by
  obtain ⟨vs, h1, h2, h3⟩ := h
  refine ⟨vs, h1.below hb hB, h2, fun i v xs hv hx => ?_⟩
  obtain ⟨A', n', c', e, hc', hn', hr'⟩ := h3 i v xs hv hx
  exact ⟨A', n', c', e, hc', hn', hr'.below hb hB⟩
set_option maxHeartbeats 400000 in
theorem areWords1_any (w : World) (A : Option Addr) (n c : Nat) (xs : List Int) (hr : Rd w A n (ints xs)) (hn : n ≤ 400) (hx : allIn xs 0 9 = true) :
    Calls Try.prog 182 #[.slice A n c] w fun e w' => e = .returned (.bool false) ∧ w = w' := by
  go_enter Try.func182, Try.ntmps182
  go_wp2_with (go_at_call 94; refine (IsWord_small _ _ _ _ xs hr hn hx).mono ?_; rintro e w' ⟨rfl, rfl⟩)
  go_ret
  exact ⟨rfl, rfl⟩
set_option maxHeartbeats 1000000 in
theorem indexAW (w : World) (A : Option Addr) (n c : Nat) (xss : List (List Int)) (hr : RdLc w A n xss) (hn : n ≤ 1000000000) (hC : Code xss) :
    Calls Try.prog 95 #[.slice A n c, .func (.func 182) #[] #[]] w fun e w' => e = .returned (.int .i64 (-1)) ∧ w = w' := by
  have HL : Hid (xss.length = n) := Lib.hid (hr.len)
  have HC := Lib.hid hC; clear hC
  go_enter Try.func95, Try.ntmps95
  go_wp2_with fail
  go_loop [8] (fun q => ∃ k : Nat, k ≤ n ∧ q = .int .i64 k) (fun q => n - (intOf q).toNat)
  case atStart => exact ⟨0, Nat.zero_le _, rfl⟩
  case round =>
    obtain ⟨k, hk, rfl⟩ := hrel
    by_cases h1 : k < n
    · obtain ⟨x, hx⟩ := get_some (xs := xss) (k := k) (by rw [HL.out]; omega)
      obtain ⟨b, off, A', n', c', rfl, hbs, hc, hcc, hn', hr'⟩ := hr.at_ hx
      have hm := List.mem_of_getElem? hx
      have HA := Lib.hid (HC.out.letters x hm)
      have h5 : n' ≤ 5 := by have h6 := HC.out.short x hm; have h7 := hr'.1; simp at h7; omega
      clear hx hm
      go_wp2_with (go_at_call 182; refine (areWords1_any _ _ _ _ x hr' (by omega) HA.out).mono ?_; rintro e w' ⟨rfl, rfl⟩)
      go_round
      case rel => exact ⟨k + 1, by omega, by go_num⟩
      case measure => simp [intOf]; omega
    · go_wp2_with fail
      go_ret
      exact ⟨rfl, rfl⟩
set_option maxHeartbeats 400000 in
theorem areWords_any (w : World) (A : Option Addr) (n c : Nat) (xss : List (List Int)) (hr : RdLc w A n xss) (hn : n ≤ 1000000000) (hC : Code xss) :
    Calls Try.prog 90 #[.slice A n c] w fun e w' => e = .returned (.bool true) ∧ w = w' := by
  have hcf : Calls Try.prog 181 #[.slice A n c, .func (.func 182) #[] #[]] w fun e w' => e = .returned (.bool false) ∧ w = w' := by
    go_enter Try.func181, Try.ntmps181
    go_wp2_with (go_at_call 95; refine (indexAW _ _ _ _ _ hr hn hC).mono ?_; rintro e w' ⟨rfl, rfl⟩)
    go_ret
    exact ⟨rfl, rfl⟩
  have HCF := Lib.hid hcf; clear hcf
  go_enter Try.func90, Try.ntmps90
  go_wp2_with (go_at_call 181; refine HCF.out.mono ?_; rintro e w' ⟨rfl, rfl⟩)
  go_ret
  exact ⟨rfl, rfl⟩
set_option maxHeartbeats 4000000 in
theorem isPrefixCode_any (w : World) (A : Option Addr) (n c : Nat) (xss : List (List Int)) (hr : RdLc w A n xss) (hC : Code xss) :
    Calls Try.prog 91 #[.slice A n c] w (RetV w (.bool true)) := by
  have HL : Hid (xss.length = n) := Lib.hid (hr.len)
  have hn1 : 1 ≤ n := by have := hC.pos; rw [HL.out] at this; exact this
  have hn4 : n ≤ 4 := by have := hC.few; rw [HL.out] at this; exact this
  have HC := Lib.hid hC; clear hC
  have d1 : decide ((n : Int) < 1) = false := decide_eq_false (by omega)
  have d1' : decide (n < 1) = false := decide_eq_false (by omega)
  have d2 : decide ((40 : Int) < (n : Int)) = false := decide_eq_false (by omega)
  have d2' : decide (40 < n) = false := decide_eq_false (by omega)
  go_enter Try.func91, Try.ntmps91
  go_wp2_with fail
  go_loopw [17] (fun q wr => ∃ i : Nat, i ≤ n ∧ q = .int .i64 i ∧ Below w.heap.size w wr) (fun q _ => n - (intOf q).toNat)
  case atStart => exact ⟨0, Nat.zero_le _, rfl, Below.refl _ _⟩
  case round =>
    obtain ⟨i, hi, rfl, hb⟩ := hrel
    obtain ⟨wo, rfl⟩ : ∃ wo : World, wo = wr := ⟨_, rfl⟩
    by_cases h1 : i < n
    · obtain ⟨a, ha⟩ := get_some (xs := xss) (k := i) (by rw [HL.out]; omega)
      obtain ⟨b, off, A1, m1, e1, rfl, hbs, hc, hcc, hm1, hr1⟩ := hr.at_ ha
      have hc1 := (hb.cell (p := ⟨b, off + i, none⟩) hbs).trans hc
      have hpos : 1 ≤ m1 := by
        have h2 := (pcB_at HC.out.pc ha ha).1
        have h3 := hr1.1
        simp at h3
        rcases Nat.eq_zero_or_pos m1 with h4 | h4
        · exact absurd (List.eq_nil_of_length_eq_zero (by omega)) h2
        · exact h4
      have hz : ((m1 : Int) == 0) = false := beq_eq_false_iff_ne.2 (by omega)
      have hz2 : ¬ m1 = 0 := by omega
      have HA := Lib.hid ha; clear ha
      have HBo := Lib.hid hb; clear hb
      go_wp2_with fail
      go_loopw [24] (fun q wr => ∃ k : Nat, k ≤ n ∧ q = .int .i64 k ∧ Below w.heap.size w wr) (fun q _ => n - (intOf q).toNat)
      case atStart => exact ⟨0, Nat.zero_le _, rfl, HBo.out⟩
      case round =>
        obtain ⟨k, hk, rfl, hb⟩ := hrel
        by_cases h2 : k < n
        · obtain ⟨a2, ha2⟩ := get_some (xs := xss) (k := k) (by rw [HL.out]; omega)
          obtain ⟨b', off', A2, m2, e2, hAA, hbs2, hc2, hcc2, hm2, hr2⟩ := hr.at_ ha2
          injection hAA with hAA
          injection hAA with hA1 hA2
          subst hA1 hA2
          have hc3 := (hb.cell (p := ⟨b, off + k, none⟩) hbs2).trans hc2
          have HBi := Lib.hid hb
          by_cases h3 : i = k
          · subst h3
            have hne : ((i : Int) != (i : Int)) = false := by simp
            clear ha2
            go_wp2_with fail
            go_roundw
            case rel => exact ⟨i + 1, by omega, by go_num, HBi.out⟩
            case measure => simp [intOf]; omega
          · have hne : ((i : Int) != (k : Int)) = true := by rw [bne_iff_ne]; omega
            have HF : Hid (bgn a2 a = false) := Lib.hid ((pcB_at HC.out.pc HA.out ha2).2 h3)
            clear ha2
            go_wp2_with (go_at_call 97; refine (begins_any _ _ _ _ _ _ _ a2 a (hr2.below HBi.out (Nat.le_refl _)) (hr1.below HBi.out (Nat.le_refl _)) (by omega) (by omega) hcc2).mono ?_; rw [HF.out]; rintro e w5 ⟨rfl, hb5⟩)
            go_roundw
            case rel => exact ⟨k + 1, by omega, by go_num, HBi.out.trans (hb5.mono HBi.out.size)⟩
            case measure => simp [intOf]; omega
        · go_wp2_with fail
          go_roundw
          case rel => exact ⟨i + 1, by omega, by go_num, hb⟩
          case measure => simp [intOf]; omega
    · go_wp2_with fail
      go_ret
      exact ⟨rfl, hb⟩
end Go.Proofs.Ytbecofpklndpaaa
