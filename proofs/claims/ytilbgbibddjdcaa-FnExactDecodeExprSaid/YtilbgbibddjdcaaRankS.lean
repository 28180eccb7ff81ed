/- RankTree and TreeAt: the reference's functions. -/
import Derived.Test.YtilbgbibddjdcaaRankI
import Derived.Test.YtilbgbibddjdcaaWays
namespace Go.Proofs.Ytilbgbibddjdcaa
open Go.RowKit
set_option linter.unusedVariables false
set_option linter.unusedSimpArgs false
set_option maxHeartbeats 4000000 in
set_option maxRecDepth 100000 in
theorem specRankTree_any (w : World) (A : Option Addr) (n c : Nat) (bs : List Bool) (hr : Rd w A n (bools bs)) (hn : n ≤ 1099511627776) : Calls Try.prog 14 #[.slice A n c] w (RkPost w bs) := by
  have HL : Hid (bs.length = n) := Lib.hid (by simpa using hr.1)
  cases ht : isTr bs with
  | false =>
    have HQ := Lib.hid (rank_not ht)
    have HT := Lib.hid ht
    clear ht
    go_enter Try.func14, Try.ntmps14
    go_wp2_with (go_at_call 58; go_must (refine (l21Is_any _ _ _ _ _ hr hn).mono ?_; rw [HT.out]; rintro e w' ⟨rfl, rfl⟩))
    go_ret2
    exact ⟨by rw [HQ.out.1, HQ.out.2]; rfl, Below.refl _ _⟩
  | true =>
    have HT := Lib.hid ht
    by_cases hl : 60 < n
    · have HQ := Lib.hid (rank_long ht (by rw [HL.out]; exact hl))
      have hl' : (60 : Int) < (n : Int) := by omega
      clear ht
      go_enter Try.func14, Try.ntmps14
      go_wp2_with (first
        | (go_at_call 58; go_must (refine (l21Is_any _ _ _ _ _ hr hn).mono ?_; rw [HT.out]; rintro e w' ⟨rfl, rfl⟩))
        | (go_at_call 59; go_must (refine (l21Ways_any _).mono ?_; rintro e w1 ⟨A1, c1, g, t, rfl, hT, htt, hb1⟩; have HT1 := Lib.hid hT; have HTT := Lib.hid htt; clear hT htt)))
      go_ret2
      exact ⟨by rw [HQ.out.1, HQ.out.2]; rfl, hb1⟩
    · have HSC := Lib.hid (isTr_scan ht)
      have hn1 : 1 ≤ n := by have := isTr_odd ht; rw [HL.out] at this; omega
      have hn60 : n ≤ 60 := by omega
      have hl' : ¬ (60 : Int) < (n : Int) := by omega
      clear ht hl
      go_enter Try.func14, Try.ntmps14
      go_wp2_with (first
        | (go_at_call 58; go_must (refine (l21Is_any _ _ _ _ _ hr hn).mono ?_; rw [HT.out]; rintro e w' ⟨rfl, rfl⟩))
        | (go_at_call 59; go_must (refine (l21Ways_any _).mono ?_; rintro e w1 ⟨A1, c1, g, t, rfl, hT, htt, hb1⟩; have HT1 := Lib.hid hT; have HTT := Lib.hid htt; obtain ⟨G, hA, hG⟩ := hT.outer; have hA0 := (hA (by omega)).1; subst hA0; have HG := Lib.hid hG; clear hT htt hG hA)))
      go_loop [6, 7] (fun q i => ∃ k : Nat, 1 ≤ k ∧ k ≤ n ∧ i = .int .i64 k ∧ q = .int .i64 (rkBase k)) (fun _ i => n + 1 - (intOf i).toNat)
      case atStart => exact ⟨1, by omega, by omega, rfl, by rw [base1]; rfl⟩
      case round =>
        obtain ⟨k, hk1, hk, rfl, rfl⟩ := hrel
        have hbk := rkBase_le k
        by_cases hlt : k < n
        · have hb2 : ((k : Int) < (n : Int)) := by omega
          have hle := cnt_le k 1
          have q1 := HG.out 1 (by omega)
          have c1' := HT1.out.cell (r := 1) (c := k) (by omega) (by omega)
          rw [HTT.out 1 k (by omega) (by omega)] at c1'
          have HS : Hid (rkBase (k + 1) = rkBase k + cnt k 1) := Lib.hid rfl
          have hkb : rkBase k ≤ 61000000000061 := by omega
          generalize cnt k 1 = x1 at *
          generalize hz : rkBase k = x2 at *
          have HZ := Lib.hid hz
          clear hz
          have hk91 : (k : Int) < 91 := by omega
          go_wp2_with fail
          go_round
          case rel => exact ⟨k + 1, by omega, by omega, by go_num, by rw [HS.out]; go_num⟩
          case measure => simp [intOf]; omega
        · obtain rfl : k = n := by omega
          have hN : rankN bs ≤ 122000000000122 := by
            have h1 := rkBase_le bs.length
            have h2 := rkFrom_le bs 1
            rw [HL.out] at h1 h2
            unfold rankN
            rw [HL.out]
            omega
          clear hbk hlt
          go_wp2_with fail
          go_loop [6, 8, 9] (fun q p j => ∃ i o r : Nat, i ≤ k ∧ o ≤ i + 1 ∧ j = .int .i64 i ∧ p = .int .i64 o ∧ q = .int .i64 r ∧ Hid (o = needAt bs i) ∧ Hid (r + rkFrom (bs.drop i) o = rankN bs) ∧ (r ≤ 1000000000000 ∨ i = 0) ∧ r ≤ 122000000000122) (fun _ _ j => k - (intOf j).toNat)
          case atStart => exact ⟨0, 1, rkBase k, by omega, by omega, rfl, rfl, rfl, Lib.hid rfl, Lib.hid (by rw [rankN, HL.out, List.drop_zero]), .inr rfl, by have := rkBase_le k; omega⟩
          case round =>
            obtain ⟨i, o, r, hi, ho, rfl, rfl, rfl, HO, HR, hr1, hr2⟩ := hrel
            by_cases hlt : i < k
            · obtain ⟨b, hbk⟩ := get_some (xs := bs) (k := i) (by rw [HL.out]; exact hlt)
              obtain ⟨blk, off, rfl, hbs, hc⟩ := hr.at_ (k := i) (u := .bool b) (by simp [hbk])
              have hc1 := (hb1.cell (p := ⟨blk, off + i, none⟩) hbs).trans hc
              have hop : 0 < o := by rw [HO.out]; exact need_pos HSC.out (by rw [HL.out]; exact hlt)
              have hop' : (0 : Int) < (o : Int) := by omega
              clear hc hr1
              cases b
              · have HG' := Lib.hid (rk_false (o := o) hbk)
                have HN := Lib.hid (need_false hbk)
                clear hbk
                by_cases hbig : 1000000000000 < r
                · have HQ := Lib.hid (rank_big HT.out (by have := HR.out; omega))
                  go_wp2_with fail
                  go_ret2
                  exact ⟨by rw [HQ.out.1, HQ.out.2]; rfl, hb1⟩
                · go_wp2_with fail
                  go_round
                  case rel => exact ⟨i + 1, o - 1, r, by omega, by omega, by go_num, by rw [show ((o : Int) - 1) = ((o - 1 : Nat) : Int) by omega], rfl, Lib.hid (by rw [HN.out, HO.out]), Lib.hid (by rw [← HG'.out]; exact HR.out), .inl (by omega), hr2⟩
                  case measure => simp [intOf]; omega
              · have HG' := Lib.hid (rk_true (o := o) hbk)
                have HN := Lib.hid (need_true hbk)
                have hle := cnt_le (k - i - 1) (o - 1)
                have HH : Hid (r + cnt (k - i - 1) (o - 1) + rkFrom (bs.drop (i + 1)) (o + 1) = rankN bs) := Lib.hid (by
                  have h1 := HR.out
                  rw [HG'.out, HL.out] at h1
                  omega)
                have hrr : r + cnt (k - i - 1) (o - 1) ≤ 122000000000122 := by have := HH.out; omega
                have q1 := HG.out (o - 1) (by omega)
                have c1' := HT1.out.cell (r := o - 1) (c := k - i - 1) (by omega) (by omega)
                rw [HTT.out (o - 1) (k - i - 1) (by omega) (by omega)] at c1'
                generalize cnt (k - i - 1) (o - 1) = x1 at *
                have e1 : (o : Int) - 1 = ((o - 1 : Nat) : Int) := by omega
                have e2 : (k : Int) - 1 - (i : Int) = ((k - i - 1 : Nat) : Int) := by omega
                have i1 : ((o - 1 : Nat) : Int) < 91 := by omega
                have i2 : ((k - i - 1 : Nat) : Int) < 91 := by omega
                have i3 : o - 1 < 91 := by omega
                have i4 : k - i - 1 < 91 := by omega
                clear hbk
                by_cases hbig : 1000000000000 < r + x1
                · have HQ := Lib.hid (rank_big HT.out (by have := HH.out; omega))
                  have hbig' : (1000000000000 : Int) < (r : Int) + (x1 : Int) := by omega
                  go_wp2_with fail
                  go_ret2
                  exact ⟨by rw [HQ.out.1, HQ.out.2]; rfl, hb1⟩
                · have hbig' : ¬ (1000000000000 : Int) < (r : Int) + (x1 : Int) := by omega
                  go_wp2_with fail
                  go_round
                  case rel => exact ⟨i + 1, o + 1, _, by omega, by omega, by go_num, by go_num, by go_num, Lib.hid (by rw [HN.out, HO.out]), HH, .inl (by omega), hrr⟩
                  case measure => simp [intOf]; omega
            · obtain rfl : i = k := by omega
              have HE : Hid (r = rankN bs) := Lib.hid (by
                have h1 := HR.out
                rw [List.drop_of_length_le (by rw [HL.out]; omega)] at h1
                simpa [rkFrom] using h1)
              have HQ := Lib.hid (rank_ok HT.out (by rw [HL.out]; omega) (by rw [← HE.out]; omega))
              clear hr1
              go_wp2_with fail
              go_ret2
              exact ⟨by rw [HQ.out.1, HQ.out.2, ← HE.out]; rfl, hb1⟩
end Go.Proofs.Ytilbgbibddjdcaa
