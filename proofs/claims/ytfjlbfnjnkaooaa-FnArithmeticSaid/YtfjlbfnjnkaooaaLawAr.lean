/- FnArithmetic: a difference undoes a sum, a quotient a product, and the greatest common divisor divides both. -/
import Derived.Test.YtfjlbfnjnkaooaaAr2
import Derived.Test.YtfjlbfnjnkaooaaArS
namespace Go.Proofs.Ytfjlbfnjnkaooaa
open Go.RowKit Limb
set_option linter.unusedVariables false
set_option linter.unusedSimpArgs false
theorem b10Long_any (w : World) (A : Option Addr) (n c : Nat) : Calls Try.prog 6 #[.slice A n c] w fun e w' => e = .returned (.bool (decide (1048576 < n))) ∧ w = w' := by
  by_cases h : 1048576 < n
  · have h' : (1048576 : Int) < (n : Int) := by omega
    rw [decide_eq_true h]
    go_enter Try.func6, Try.ntmps6
    go_wp2_with fail
    go_ret
    exact ⟨rfl, rfl⟩
  · have h' : ¬ (1048576 : Int) < (n : Int) := by omega
    rw [decide_eq_false h]
    go_enter Try.func6, Try.ntmps6
    go_wp2_with fail
    go_ret
    exact ⟨rfl, rfl⟩
theorem rd_zero {w : World} {base n c : Nat} {A : Option Addr} (h : w.ownsRow base 2 1 (.slice A n c) n (ints (limbs 0))) : n = 0 := by
  have h1 := own_limb_len h; rw [limbs_zero] at h1; exact h1.symm
theorem nums_any (w : World) (A : Option Addr) (n c X : Nat) (hr : Rd w A n (ints (limbs X))) (A' : Option Addr) (n' c' : Nat) (hr' : Rd w A' n' (ints (limbs X))) (hn : n ≤ 40) :
    Calls Try.prog 11 #[.slice A n c, .slice A' n' c'] w (fun e w' => e = .returned (.bool true) ∧ Below w.heap.size w w') := b10Nums_same w A n c _ hr A' n' c' hr' (by omega)
/-- The part behind the sum: a divisor that is not 0. -/
structure ArS0 (w w1 : World) (A : Option Addr) (n X : Nat) (A' : Option Addr) (n' Y : Nat) : Prop where
  ra : Rd w1 A n (ints (limbs X))
  rb : Rd w1 A' n' (ints (limbs Y))
  ha : (limbs X).length ≤ 40
  hb : (limbs Y).length ≤ 40
  bel : Below w.heap.size w w1
theorem ArS0.below {w w1 w2 : World} {A A' : Option Addr} {n X n' Y : Nat} (h : ArS0 w w1 A n X A' n' Y) (hb : Below w1.heap.size w1 w2) : ArS0 w w2 A n X A' n' Y :=
  ⟨h.ra.below hb (Nat.le_refl _), h.rb.below hb (Nat.le_refl _), h.ha, h.hb, h.bel.trans (hb.mono h.bel.size)⟩
theorem len_le {X Y : Nat} (h : X ≤ Y) (hy : (limbs Y).length ≤ 40) : (limbs X).length ≤ 40 := Nat.le_trans (limbs_len_mono h) hy
set_option maxHeartbeats 16000000 in
set_option maxRecDepth 100000 in
theorem lawArithmetic (w : World) (A0 : Option Addr) (n0 c0 : Nat) (b0 : List Int) (hr0 : Rd w A0 n0 (bytesV b0)) (hb0 : ∀ b ∈ b0, 0 ≤ b ∧ b ≤ 255) (hnn0 : n0 ≤ 9223372036854775807) :
    Calls Try.prog 4 #[.slice A0 n0 c0] w fun e w' => e = .returned (.bool true) ∧ Below w.heap.size w w' := by
  have HB0 := Lib.hid hb0
  clear hb0
  by_cases hlong : 1048576 < n0
  · have HLo := Lib.hid (decide_eq_true hlong)
    clear hlong
    go_enter Try.func4, Try.ntmps4
    go_wp2_with (go_at_call 6; refine (b10Long_any _ _ _ _).mono ?_; rw [HLo.out]; rintro e w' ⟨rfl, rfl⟩)
    go_ret
    exact ⟨rfl, Below.refl _ _⟩
  · have HLo := Lib.hid (decide_eq_false hlong)
    have hn0 : n0 ≤ 1048576 := by omega
    clear hlong hnn0
    go_enter Try.func4, Try.ntmps4
    go_wp2_with (go_at_call 6; refine (b10Long_any _ _ _ _).mono ?_; rw [HLo.out]; rintro e w' ⟨rfl, rfl⟩)
    refine (B10Naturals_any w A0 n0 c0 b0 hr0 HB0.out (by omega)).mono ?_
    rintro e w1 ⟨A, n, c, X, A', n', c', Y, rfl, hX, hY, hra, hrb, hb1⟩
    have HS := Lib.hid (ArS0.mk hra hrb hX hY hb1)
    have hnA : n ≤ 40 := rd_len40 hra hX
    have hnB : n' ≤ 40 := rd_len40 hrb hY
    have HNB : Hid (n' = 0 ↔ Y = 0) := Lib.hid (limbs_zero_iff (by simpa using hrb.1))
    clear hX hY hra hrb hb1 HB0 HLo hr0
    as_aux_lemma =>
    go_wp2_with fail
    refine (AddNaturals_any w1 A n c X HS.out.ra HS.out.ha A' n' c' Y HS.out.rb HS.out.hb).mono ?_
    rintro e w2 ⟨A2, n2, c2, rfl, ho2, hb2⟩
    have HS2 := Lib.hid (HS.out.below hb2)
    clear hb2 HS
    by_cases hfit : (limbs (X + Y)).length ≤ 40
    · obtain ⟨hf1, _, hf2⟩ := fit_yes hfit
      rw [hf1] at ho2
      rw [hf2]
      have HO2 := Lib.hid ho2; have HF := Lib.hid hfit
      clear hf1 hf2 ho2 hfit
      as_aux_lemma =>
      go_wp2_with fail
      refine (SubtractNaturals_any w2 A2 n2 c2 (X + Y) (own_rd HO2.out) HF.out A' n' c' Y HS2.out.rb HS2.out.hb (by omega)).mono ?_
      rw [Nat.add_sub_cancel]
      rintro e w3 ⟨A3, n3, c3, rfl, ho3, hb3⟩
      have HS3 := Lib.hid (HS2.out.below hb3)
      have hn3 : n3 ≤ 40 := own_len_le ho3 HS3.out.ha
      have HO3 := Lib.hid ho3
      clear HS2 HO2 HF ho3 hb3
      as_aux_lemma =>
      go_wp2_with fail
      refine (nums_any w3 A3 n3 c3 X (own_rd HO3.out) _ _ _ HS3.out.ra hn3).mono ?_
      rintro e w4 ⟨rfl, hb4⟩
      have HS4 := Lib.hid (HS3.out.below hb4)
      clear hb4 HS3 HO3 hn3
      by_cases hz : n' = 0
      · have hY0 := HNB.out.1 hz
        subst hz
        go_wp2_with fail
        go_ret
        exact ⟨rfl, HS4.out.bel⟩
      · have hz' : ¬ (n' : Int) = 0 := by omega
        have HY : Hid (0 < Y) := Lib.hid (Nat.pos_of_ne_zero (fun h => hz (HNB.out.2 h)))
        clear hz
        as_aux_lemma =>
        go_wp2_with fail
        refine (DivideNaturals_any w4 A n c X HS4.out.ra HS4.out.ha A' n' c' Y HS4.out.rb HS4.out.hb HY.out).mono ?_
        rintro e v5 ⟨A5, n5, c5, A6, n6, c6, rfl, ho5, ho6, hb5⟩
        have HS5 := Lib.hid (HS4.out.below hb5)
        have HO5 := Lib.hid ho5; have HO6 := Lib.hid ho6
        have HQ : Hid ((limbs (X / Y)).length ≤ 40) := Lib.hid (len_le (Nat.div_le_self X Y) HS5.out.ha)
        have HR : Hid ((limbs (X % Y)).length ≤ 40) := Lib.hid (len_le (Nat.mod_le X Y) HS5.out.ha)
        have HQY : Hid ((limbs (X / Y * Y)).length ≤ 40) := Lib.hid (len_le (Nat.div_mul_le_self X Y) HS5.out.ha)
        clear ho5 ho6 hb5 HS4
        as_aux_lemma =>
        go_wp2_with fail
        refine (MultiplyNaturals_any v5 A5 n5 c5 (X / Y) (own_rd HO5.out) HQ.out A' n' c' Y HS5.out.rb HS5.out.hb).mono ?_
        rw [(fit_yes HQY.out).1, (fit_yes HQY.out).2.2]
        rintro e v6 ⟨A7, n7, c7, rfl, ho7, hb7⟩
        have HS6 := Lib.hid (HS5.out.below hb7)
        have HO7 := Lib.hid ho7; have HO6' := Lib.hid (own_below HO6.out hb7 (Nat.le_refl _))
        clear ho7 hb7 HS5 HO5 HO6 HQ
        as_aux_lemma =>
        go_wp2_with fail
        refine (AddNaturals_any v6 A7 n7 c7 (X / Y * Y) (own_rd HO7.out) HQY.out A6 n6 c6 (X % Y) (own_rd HO6'.out) HR.out).mono ?_
        have hxy : X / Y * Y + X % Y = X := by rw [Nat.mul_comm]; exact Nat.div_add_mod X Y
        rw [hxy, (fit_yes HS6.out.ha).1, (fit_yes HS6.out.ha).2.2]
        rintro e v7 ⟨A8, n8, c8, rfl, ho8, hb8⟩
        have HS7 := Lib.hid (HS6.out.below hb8)
        have HO8 := Lib.hid ho8; have HO6 := Lib.hid (own_below HO6'.out hb8 (Nat.le_refl _))
        have hn8 : n8 ≤ 40 := own_len_le ho8 HS7.out.ha
        have hn6 : n6 ≤ 40 := own_len_le HO6.out HR.out
        have hlt : decide (cmpN (X % Y) Y < 0) = true := decide_eq_true ((cmpN_lt _ _).2 (Nat.mod_lt X HY.out))
        clear ho8 hb8 HS6 HO7 HO6' hxy
        as_aux_lemma =>
        go_wp2_with fail
        refine (nums_any v7 A8 n8 c8 X (own_rd HO8.out) _ _ _ HS7.out.ra hn8).mono ?_
        rintro e v8 ⟨rfl, hb9⟩
        have HS8 := Lib.hid (HS7.out.below hb9)
        have HO6' := Lib.hid (own_below HO6.out hb9 (Nat.le_refl _))
        clear hb9 HS7 HO8 HO6
        go_wp2_with fail
        refine (b10Less_any v8 A6 n6 c6 (X % Y) (own_rd HO6'.out) (by omega) _ _ _ Y HS8.out.rb (by omega)).mono ?_
        rw [hlt]
        rintro e v9 ⟨rfl, hb10⟩
        have HS9 := Lib.hid (HS8.out.below hb10)
        clear hb10 HS8 HO6' hlt hn8 hn6
        as_aux_lemma =>
        go_wp2_with fail
        refine (GcdNaturals_any v9 A n c X HS9.out.ra HS9.out.ha A' n' c' Y HS9.out.rb HS9.out.hb).mono ?_
        rintro e v10 ⟨A9, n9, c9, rfl, ho9, hb9⟩
        have HS10 := Lib.hid (HS9.out.below hb9)
        have HO9 := Lib.hid ho9
        have HG0 : Hid (0 < Nat.gcd X Y) := Lib.hid (Nat.gcd_pos_of_pos_right X HY.out)
        have HGL : Hid ((limbs (Nat.gcd X Y)).length ≤ 40) := Lib.hid (len_le (Nat.le_of_dvd HY.out (Nat.gcd_dvd_right X Y)) HS10.out.hb)
        have hg0 : 0 < n9 := by
          have h := limbs_zero_iff (own_limb_len ho9)
          have h2 := HG0.out
          rcases Nat.eq_zero_or_pos n9 with h3 | h3
          · have := h.1 h3; omega
          · omega
        clear ho9 hb9 HS9
        as_aux_lemma =>
        go_wp2_with fail
        refine (DivideNaturals_any v10 A n c X HS10.out.ra HS10.out.ha A9 n9 c9 (Nat.gcd X Y) (own_rd HO9.out) HGL.out HG0.out).mono ?_
        rw [Nat.mod_eq_zero_of_dvd (Nat.gcd_dvd_left X Y)]
        rintro e v11 ⟨B1, m1, d1, B2, m2, d2, rfl, hp1, hp2, hb11⟩
        obtain rfl : m2 = 0 := rd_zero hp2
        have HS11 := Lib.hid (HS10.out.below hb11)
        have HO9' := Lib.hid (own_below HO9.out hb11 (Nat.le_refl _))
        clear hp1 hp2 hb11 HS10 HO9
        as_aux_lemma =>
        go_wp2_with fail
        refine (DivideNaturals_any v11 A' n' c' Y HS11.out.rb HS11.out.hb A9 n9 c9 (Nat.gcd X Y) (own_rd HO9'.out) HGL.out HG0.out).mono ?_
        rw [Nat.mod_eq_zero_of_dvd (Nat.gcd_dvd_right X Y)]
        rintro e v12 ⟨B3, m3, d3, B4, m4, d4, rfl, hp3, hp4, hb12⟩
        obtain rfl : m4 = 0 := rd_zero hp4
        have HS12 := Lib.hid (HS11.out.below hb12)
        clear hp3 hp4 hb12 HS11 HO9'
        go_wp2_with fail
        go_ret
        refine ⟨?_, HS12.out.bel⟩
        have hgd : ∀ b : Bool, (b = true) → Ending.returned (.bool b) = Ending.returned (.bool true) := fun b h => by rw [h]
        exact hgd _ (by simp)
    · obtain ⟨hf1, _, hf2⟩ := fit_no hfit
      rw [hf2]
      have HNF := Lib.hid hfit
      clear hf1 hf2 ho2 hfit
      by_cases hz : n' = 0
      · have hY0 := HNB.out.1 hz
        subst hz
        exact absurd (by rw [hY0, Nat.add_zero]; exact HS2.out.ha) HNF.out
      · have hz' : ¬ (n' : Int) = 0 := by omega
        have HY : Hid (0 < Y) := Lib.hid (Nat.pos_of_ne_zero (fun h => hz (HNB.out.2 h)))
        clear hz
        as_aux_lemma =>
        go_wp2_with fail
        refine (DivideNaturals_any w2 A n c X HS2.out.ra HS2.out.ha A' n' c' Y HS2.out.rb HS2.out.hb HY.out).mono ?_
        rintro e v5 ⟨A5, n5, c5, A6, n6, c6, rfl, ho5, ho6, hb5⟩
        have HS5 := Lib.hid (HS2.out.below hb5)
        have HO5 := Lib.hid ho5; have HO6 := Lib.hid ho6
        have HQ : Hid ((limbs (X / Y)).length ≤ 40) := Lib.hid (len_le (Nat.div_le_self X Y) HS5.out.ha)
        have HR : Hid ((limbs (X % Y)).length ≤ 40) := Lib.hid (len_le (Nat.mod_le X Y) HS5.out.ha)
        have HQY : Hid ((limbs (X / Y * Y)).length ≤ 40) := Lib.hid (len_le (Nat.div_mul_le_self X Y) HS5.out.ha)
        clear ho5 ho6 hb5 HS2
        as_aux_lemma =>
        go_wp2_with fail
        refine (MultiplyNaturals_any v5 A5 n5 c5 (X / Y) (own_rd HO5.out) HQ.out A' n' c' Y HS5.out.rb HS5.out.hb).mono ?_
        rw [(fit_yes HQY.out).1, (fit_yes HQY.out).2.2]
        rintro e v6 ⟨A7, n7, c7, rfl, ho7, hb7⟩
        have HS6 := Lib.hid (HS5.out.below hb7)
        have HO7 := Lib.hid ho7; have HO6' := Lib.hid (own_below HO6.out hb7 (Nat.le_refl _))
        clear ho7 hb7 HS5 HO5 HO6 HQ
        as_aux_lemma =>
        go_wp2_with fail
        refine (AddNaturals_any v6 A7 n7 c7 (X / Y * Y) (own_rd HO7.out) HQY.out A6 n6 c6 (X % Y) (own_rd HO6'.out) HR.out).mono ?_
        have hxy : X / Y * Y + X % Y = X := by rw [Nat.mul_comm]; exact Nat.div_add_mod X Y
        rw [hxy, (fit_yes HS6.out.ha).1, (fit_yes HS6.out.ha).2.2]
        rintro e v7 ⟨A8, n8, c8, rfl, ho8, hb8⟩
        have HS7 := Lib.hid (HS6.out.below hb8)
        have HO8 := Lib.hid ho8; have HO6 := Lib.hid (own_below HO6'.out hb8 (Nat.le_refl _))
        have hn8 : n8 ≤ 40 := own_len_le ho8 HS7.out.ha
        have hn6 : n6 ≤ 40 := own_len_le HO6.out HR.out
        have hlt : decide (cmpN (X % Y) Y < 0) = true := decide_eq_true ((cmpN_lt _ _).2 (Nat.mod_lt X HY.out))
        clear ho8 hb8 HS6 HO7 HO6' hxy
        as_aux_lemma =>
        go_wp2_with fail
        refine (nums_any v7 A8 n8 c8 X (own_rd HO8.out) _ _ _ HS7.out.ra hn8).mono ?_
        rintro e v8 ⟨rfl, hb9⟩
        have HS8 := Lib.hid (HS7.out.below hb9)
        have HO6' := Lib.hid (own_below HO6.out hb9 (Nat.le_refl _))
        clear hb9 HS7 HO8 HO6
        go_wp2_with fail
        refine (b10Less_any v8 A6 n6 c6 (X % Y) (own_rd HO6'.out) (by omega) _ _ _ Y HS8.out.rb (by omega)).mono ?_
        rw [hlt]
        rintro e v9 ⟨rfl, hb10⟩
        have HS9 := Lib.hid (HS8.out.below hb10)
        clear hb10 HS8 HO6' hlt hn8 hn6
        as_aux_lemma =>
        go_wp2_with fail
        refine (GcdNaturals_any v9 A n c X HS9.out.ra HS9.out.ha A' n' c' Y HS9.out.rb HS9.out.hb).mono ?_
        rintro e v10 ⟨A9, n9, c9, rfl, ho9, hb9⟩
        have HS10 := Lib.hid (HS9.out.below hb9)
        have HO9 := Lib.hid ho9
        have HG0 : Hid (0 < Nat.gcd X Y) := Lib.hid (Nat.gcd_pos_of_pos_right X HY.out)
        have HGL : Hid ((limbs (Nat.gcd X Y)).length ≤ 40) := Lib.hid (len_le (Nat.le_of_dvd HY.out (Nat.gcd_dvd_right X Y)) HS10.out.hb)
        have hg0 : 0 < n9 := by
          have h := limbs_zero_iff (own_limb_len ho9)
          have h2 := HG0.out
          rcases Nat.eq_zero_or_pos n9 with h3 | h3
          · have := h.1 h3; omega
          · omega
        clear ho9 hb9 HS9
        as_aux_lemma =>
        go_wp2_with fail
        refine (DivideNaturals_any v10 A n c X HS10.out.ra HS10.out.ha A9 n9 c9 (Nat.gcd X Y) (own_rd HO9.out) HGL.out HG0.out).mono ?_
        rw [Nat.mod_eq_zero_of_dvd (Nat.gcd_dvd_left X Y)]
        rintro e v11 ⟨B1, m1, d1, B2, m2, d2, rfl, hp1, hp2, hb11⟩
        obtain rfl : m2 = 0 := rd_zero hp2
        have HS11 := Lib.hid (HS10.out.below hb11)
        have HO9' := Lib.hid (own_below HO9.out hb11 (Nat.le_refl _))
        clear hp1 hp2 hb11 HS10 HO9
        as_aux_lemma =>
        go_wp2_with fail
        refine (DivideNaturals_any v11 A' n' c' Y HS11.out.rb HS11.out.hb A9 n9 c9 (Nat.gcd X Y) (own_rd HO9'.out) HGL.out HG0.out).mono ?_
        rw [Nat.mod_eq_zero_of_dvd (Nat.gcd_dvd_right X Y)]
        rintro e v12 ⟨B3, m3, d3, B4, m4, d4, rfl, hp3, hp4, hb12⟩
        obtain rfl : m4 = 0 := rd_zero hp4
        have HS12 := Lib.hid (HS11.out.below hb12)
        clear hp3 hp4 hb12 HS11 HO9'
        go_wp2_with fail
        go_ret
        refine ⟨?_, HS12.out.bel⟩
        have hgd : ∀ b : Bool, (b = true) → Ending.returned (.bool b) = Ending.returned (.bool true) := fun b h => by rw [h]
        exact hgd _ (by simp)
end Go.Proofs.Ytfjlbfnjnkaooaa
