/- b10Less on naturals; quotient and greatest common divisor (program). -/
import Derived.Test.YtfjlbfnjnkaooaaAr1
import Derived.Test.YtfjlbfnjnkaooaaDw
namespace Go.Proofs.Ytfjlbfnjnkaooaa
open Go.RowKit Limb
set_option linter.unusedVariables false
set_option linter.unusedSimpArgs false
theorem limbs_zero_iff {X n : Nat} (h : (limbs X).length = n) : n = 0 ↔ X = 0 := by
  rw [← h, List.length_eq_zero_iff, limbs_nil]
set_option maxHeartbeats 1000000 in
theorem b10Less_any (w : World) (A : Option Addr) (n c : Nat) (X : Nat) (hr : Rd w A n (ints (limbs X))) (hn : n ≤ 1000000) (A' : Option Addr) (n' c' : Nat) (Y : Nat) (hr' : Rd w A' n' (ints (limbs Y))) (hn' : n' ≤ 1000000) :
    Calls Try.prog 18 #[.slice A n c, .slice A' n' c'] w (RetV w (.bool (decide (cmpN X Y < 0)))) := by
  have HL : Hid ((limbs X).length = n) := Lib.hid (by simpa using hr.1)
  have HL' : Hid ((limbs Y).length = n') := Lib.hid (by simpa using hr'.1)
  by_cases he : n = n'
  · subst he
    have t0 : ((n : Int) != (n : Int)) = false := by simp
    go_enter Try.func18, Try.ntmps18
    go_wp2_with fail
    go_loopw [5] (fun i wr => ∃ j : Nat, i = .int .i64 ((j : Int) - 1) ∧ j ≤ n ∧ Hid ((limbs X).drop j = (limbs Y).drop j) ∧ Below w.heap.size w wr) (fun i _ => (intOf i + 1).toNat)
    case atStart => exact ⟨n, rfl, by omega, Lib.hid (by rw [List.drop_of_length_le (by rw [HL.out]; omega), List.drop_of_length_le (by rw [HL'.out]; omega)]), Below.refl _ _⟩
    case round =>
      obtain ⟨j, rfl, hj, HD, hb⟩ := hrel
      rcases Nat.eq_zero_or_pos j with h0 | h0
      · subst h0
        go_wp2_with fail
        go_ret
        have h := HD.out
        rw [List.drop_zero, List.drop_zero] at h
        exact ⟨by rw [cmp_same h]; rfl, hb⟩
      · obtain ⟨k, rfl⟩ : ∃ k, j = k + 1 := ⟨j - 1, by omega⟩
        have ek : (((k + 1 : Nat) : Int) - 1) = (k : Int) := by omega
        rw [ek]
        clear ek
        obtain ⟨x, hx⟩ := get_some (xs := limbs X) (k := k) (by rw [HL.out]; omega)
        obtain ⟨y, hy⟩ := get_some (xs := limbs Y) (k := k) (by rw [HL'.out]; omega)
        obtain ⟨b, off, rfl, hbk, hcx⟩ := hr.at_ (ints_get hx)
        obtain ⟨b', off', rfl, hbk', hcy⟩ := hr'.at_ (ints_get hy)
        have hcx1 := (hb.cell (p := ⟨b, off + k, none⟩) hbk).trans hcx
        have hcy1 := (hb.cell (p := ⟨b', off' + k, none⟩) hbk').trans hcy
        have HX := Lib.hid hx; have HY := Lib.hid hy; have HB := Lib.hid hb
        have hkn : k < n := by omega
        clear hx hy hcx hcy hb
        rcases Int.lt_trichotomy x y with hlt | heq | hgt
        · have t1 : (x != y) = true := by simp; omega
          have t2 : decide (x < y) = true := by simpa using hlt
          have HT := Lib.hid hlt; clear hlt
          go_wp2_with fail
          go_quiet (fail)
          go_wp2_with fail
          go_quiet (fail)
          go_wp2_with fail
          go_ret
          exact ⟨by rw [cmp_at_less HX.out HY.out HD.out HT.out]; rfl, by have := HB.out; exact ⟨this.os, this.tape, this.output, this.size, this.block⟩⟩
        · subst heq
          have t1 : (x != x) = false := by simp
          go_wp2_with fail
          go_quiet (fail)
          go_wp2_with fail
          go_roundw
          case rel => exact ⟨k, rfl, by omega, Lib.hid (drop_step HX.out HY.out HD.out), by have := HB.out; exact ⟨this.os, this.tape, this.output, this.size, this.block⟩⟩
          case measure => simp only [intOf]; omega
        · have t1 : (x != y) = true := by simp; omega
          have t2 : decide (x < y) = false := by simp; omega
          have HT := Lib.hid hgt; clear hgt
          go_wp2_with fail
          go_quiet (fail)
          go_wp2_with fail
          go_quiet (fail)
          go_wp2_with fail
          go_ret
          exact ⟨by rw [cmp_at_more HX.out HY.out HD.out HT.out]; rfl, by have := HB.out; exact ⟨this.os, this.tape, this.output, this.size, this.block⟩⟩
  · have t0 : ((n : Int) != (n' : Int)) = true := by simp; omega
    by_cases hlt : n < n'
    · have HF := Lib.hid (cmp_short (a := X) (b := Y) (by rw [HL.out, HL'.out]; exact hlt))
      have t3 : (n : Int) < (n' : Int) := by omega
      clear he
      go_enter Try.func18, Try.ntmps18
      go_wp2_with fail
      go_ret
      exact ⟨by rw [HF.out]; rfl, Below.refl _ _⟩
    · have HF := Lib.hid (cmp_long (a := X) (b := Y) (by rw [HL.out, HL'.out]; omega))
      have t3 : ¬ (n : Int) < (n' : Int) := by omega
      clear he
      go_enter Try.func18, Try.ntmps18
      go_wp2_with fail
      go_ret
      exact ⟨by rw [HF.out]; rfl, Below.refl _ _⟩
/-- A quotient and a remainder with a code. -/
def DivP3 (w : World) (Q R : Nat) (e : Ending) (w' : World) : Prop := ∃ (A : Option Addr) (n c : Nat) (A' : Option Addr) (n' c' : Nat), e = .returned (.tuple #[.slice A n c, .slice A' n' c', .int .i64 0]) ∧ w'.ownsRow w.heap.size 2 1 (.slice A n c) n (ints (limbs Q)) ∧ w'.ownsRow w.heap.size 2 1 (.slice A' n' c') n' (ints (limbs R)) ∧ Below w.heap.size w w'
theorem divide_any (w : World) (A : Option Addr) (n c X : Nat) (hr : Rd w A n (ints (limbs X))) (hn : n ≤ 1000) (A' : Option Addr) (n' c' Y : Nat) (hr' : Rd w A' n' (ints (limbs Y))) (hn' : n' ≤ 1000) (hY : 0 < Y) :
    Calls Try.prog 46 #[.slice A n c, .slice A' n' c'] w (DivP w (X / Y) (X % Y)) := by
  by_cases h : n' = 1
  · subst h; exact divide_one w A n c X hr hn A' c' Y hr'
  · exact divide_long w A n c X hr hn A' n' c' Y hr' hn' hY h
set_option maxHeartbeats 1000000 in
theorem DivideNaturals_any (w : World) (A : Option Addr) (n c X : Nat) (hr : Rd w A n (ints (limbs X))) (hX : (limbs X).length ≤ 40) (A' : Option Addr) (n' c' Y : Nat) (hr' : Rd w A' n' (ints (limbs Y))) (hY : (limbs Y).length ≤ 40) (hY0 : 0 < Y) :
    Calls Try.prog 17 #[.slice A n c, .slice A' n' c'] w (DivP3 w (X / Y) (X % Y)) := by
  have hn := rd_len40 hr hX
  have hn' := rd_len40 hr' hY
  have HL := Lib.hid (rdL2n (c3 := c) (c4 := c') (T := 25) hr hr' (by omega) (by omega))
  have hall := allNat2 hX hY
  have HY0 := Lib.hid hY0
  have hnz : ¬ (n' : Int) = 0 := by
    intro h
    have h1 := hr'.1
    have h2 := (limbs_zero_iff (X := Y) (n := n') (by simpa using h1)).1 (by omega)
    omega
  clear hX hY hY0
  go_enter Try.func17, Try.ntmps17
  go_wp2_with fail
  refine (naturals_any _ _ _ _ _ HL.out (by omega)).mono ?_
  rw [hall]
  rintro e w1 ⟨rfl, rfl⟩
  have HB0 := Lib.hid (below_new w (.cells #[.slice A n c, .slice A' n' c'] 25))
  go_wp2_with fail
  refine (divide_any _ _ _ _ X (hr.alloc _) (by omega) _ _ _ Y (hr'.alloc _) (by omega) HY0.out).mono ?_
  rintro e w2 ⟨A2, n2, c2, A3, n3, c3, rfl, ho2, ho3, hb2⟩
  go_wp2_with fail
  go_ret3
  exact ⟨A2, n2, c2, A3, n3, c3, rfl, own_base ho2 (by simp), own_base ho3 (by simp), HB0.out.trans (hb2.mono (by simp))⟩
set_option maxHeartbeats 2000000 in
theorem GcdNaturals_any (w : World) (A : Option Addr) (n c X : Nat) (hr : Rd w A n (ints (limbs X))) (hX : (limbs X).length ≤ 40) (A' : Option Addr) (n' c' Y : Nat) (hr' : Rd w A' n' (ints (limbs Y))) (hY : (limbs Y).length ≤ 40) :
    Calls Try.prog 19 #[.slice A n c, .slice A' n' c'] w (RetSI w 2 (ints (limbs (Nat.gcd X Y))) 0) := by
  have hn := rd_len40 hr hX
  have hn' := rd_len40 hr' hY
  have HL := Lib.hid (rdL2n (c3 := c) (c4 := c') (T := 25) hr hr' (by omega) (by omega))
  have hall := allNat2 hX hY
  have HX := Lib.hid hX; have HY := Lib.hid hY
  clear hX hY
  go_enter Try.func19, Try.ntmps19
  go_wp2_with fail
  refine (naturals_any _ _ _ _ _ HL.out (by omega)).mono ?_
  rw [hall]
  rintro e w1 ⟨rfl, rfl⟩
  have HB0 := Lib.hid (below_new w (.cells #[.slice A n c, .slice A' n' c'] 25))
  have HR := Lib.hid (hr.alloc (.cells #[.slice A n c, .slice A' n' c'] 25)); have HR' := Lib.hid (hr'.alloc (.cells #[.slice A n c, .slice A' n' c'] 25))
  generalize w.alloc (.cells #[.slice A n c, .slice A' n' c'] 25) = w1 at *
  clear hr hr'
  go_wp2_with fail
  refine (clone_any _ _ _ _ _ HR.out (by omega)).mono ?_
  rintro e w2 ⟨A2, n2, c2, rfl, ho2, hb2⟩
  have HO2 := Lib.hid (own_base ho2 HB0.out.size); have HB2 := Lib.hid (HB0.out.trans (hb2.mono HB0.out.size)); have HR2 := Lib.hid (HR'.out.below hb2 (Nat.le_refl _))
  clear ho2 hb2
  go_wp2_with fail
  refine (clone_any _ _ _ _ _ HR2.out (by omega)).mono ?_
  rintro e w3 ⟨A3, n3, c3, rfl, ho3, hb3⟩
  have HO3 := Lib.hid (own_base ho3 HB2.out.size); have HB3 := Lib.hid (HB2.out.trans (hb3.mono HB2.out.size)); have HO23 := Lib.hid (own_below HO2.out hb3 (Nat.le_refl _))
  clear ho3 hb3
  go_wp2_with fail
  go_loopg [0, 1] Y (fun V p q wr => ∃ (A2 : Option Addr) (n2 c2 : Nat) (A3 : Option Addr) (n3 c3 U : Nat), p = .slice A2 n2 c2 ∧ q = .slice A3 n3 c3 ∧ wr.ownsRow w.heap.size 2 1 (.slice A2 n2 c2) n2 (ints (limbs U)) ∧ wr.ownsRow w.heap.size 2 1 (.slice A3 n3 c3) n3 (ints (limbs V)) ∧ Hid (Nat.gcd U V = Nat.gcd X Y) ∧ n2 ≤ 40 ∧ n3 ≤ 40 ∧ Below w.heap.size w wr)
  case atStart => exact ⟨A2, n2, c2, A3, n3, c3, X, rfl, rfl, HO23.out, HO3.out, Lib.hid rfl, own_len_le HO2.out HX.out, own_len_le HO3.out HY.out, HB3.out⟩
  case round =>
    obtain ⟨A4, n4, c4, A5, n5, c5, U, rfl, rfl, ho4, ho5, HG, hn4, hn5, hb⟩ := hrel
    have HO4 := Lib.hid ho4; have HO5 := Lib.hid ho5; have HB := Lib.hid hb
    have HZ := Lib.hid (limbs_zero_iff (own_limb_len ho5))
    clear ho4 ho5 hb HO2 HO3 HO23 HB3 HB2
    by_cases h0 : n5 = 0
    · have hV : gk = 0 := HZ.out.1 h0
      subst hV h0
      go_wp2_with fail
      go_ret2
      have hg := HG.out
      rw [Nat.gcd_zero_right] at hg
      have h4 := HO4.out
      rw [hg] at h4
      exact ⟨A4, n4, c4, rfl, h4, HB.out⟩
    · have h0' : (0 : Int) < (n5 : Int) := by omega
      have HV : Hid (0 < gk) := Lib.hid (Nat.pos_of_ne_zero (fun h => h0 (HZ.out.2 h)))
      clear h0
      go_wp2_with fail
      refine (divide_any _ _ _ _ U (own_rd HO4.out) (by omega) _ _ _ gk (own_rd HO5.out) (by omega) HV.out).mono ?_
      rintro e w6 ⟨A6, n6, c6, A7, n7, c7, rfl, ho6, ho7, hb6⟩
      have HO7 := Lib.hid (own_base ho7 HB.out.size); have HO56 := Lib.hid (own_below HO5.out hb6 (Nat.le_refl _)); have HB6 := Lib.hid (HB.out.trans (hb6.mono HB.out.size))
      have HN7 : Hid (n7 ≤ 40) := Lib.hid (own_len_le ho7 (Nat.le_trans (limbs_len_mono (Nat.le_of_lt (Nat.mod_lt U HV.out))) (by rw [own_limb_len HO5.out]; exact hn5)))
      clear ho6 ho7 hb6
      go_wp2_with fail
      go_roundg (U % gk)
      case measure => exact Nat.mod_lt _ HV.out
      case rel => exact ⟨A5, n5, c5, A7, n7, c7, gk, rfl, rfl, HO56.out, HO7.out, Lib.hid (by rw [← HG.out, Nat.gcd_comm U gk, Nat.gcd_rec gk U, Nat.gcd_comm]), hn5, HN7.out, HB6.out⟩
end Go.Proofs.Ytfjlbfnjnkaooaa
