/- The law on word pieces. -/
import Derived.Test.YtbecofpklndpaaaWp5
import Derived.Test.YtbecofpklndpaaaLawWR
namespace Go.Proofs.Ytbecofpklndpaaa
open Go.RowKit
set_option linter.unusedVariables false
set_option linter.unusedSimpArgs false
theorem wd_of {xs : List Int} {L : Int} (h : allIn xs 0 (L - 1) = true) (h4 : L ≤ 4) (hl : xs.length ≤ 8) : Wd xs := ⟨allIn_mono h (by omega), by omega⟩
theorem wd_take {xs : List Int} (h : Wd xs) (k : Nat) : Wd (xs.take k) := ⟨allIn_take h.1 k, by have := h.2; simp; omega⟩
theorem root_bd {xs : List Int} {n : Nat} (hl : xs.length = n) (h1 : 1 ≤ n) : 1 ≤ rootLen xs ∧ rootLen xs ≤ n ∧ 1 ≤ n / rootLen xs ∧ rootLen xs * (n / rootLen xs) ≤ n := by
  have h := period_pos (w := xs) (by omega)
  have h2 : 1 ≤ rootLen xs ∧ rootLen xs ≤ n := by unfold rootLen; split <;> omega
  refine ⟨h2.1, h2.2, Nat.div_pos h2.2 (by omega), Nat.mul_div_le _ _⟩
theorem root_rp {xs : List Int} {n : Nat} (hl : xs.length = n) (h1 : 1 ≤ n) : rp (n / rootLen xs) (xs.take (rootLen xs)) = xs := by
  have h := root_power (w := xs) (by omega)
  rw [hl] at h
  exact h
theorem last_sum {xs : List Int} {n : Nat} (hl : xs.length = n) (h1 : 1 ≤ n) : lastB xs + period xs = n ∧ lastB xs ≤ n := by
  have h := (lastB_ok (w := xs) (by omega)).1
  unfold period; omega
theorem occ_head {w p : List Int} {x : Int} {r : List Int} (h : occ w p = x :: r) : ∃ a : Nat, x = a ∧ a + p.length ≤ w.length ∧ bgn (w.drop a) p = true := occ_mem (by rw [h]; simp)
set_option maxHeartbeats 16000000 in
set_option maxRecDepth 100000 in
theorem lawWordPieces (w : World) (A0 : Option Addr) (n0 c0 : Nat) (b0 : List Int) (hr0 : Rd w A0 n0 (bytesV b0)) (hb0 : ∀ b ∈ b0, 0 ≤ b ∧ b ≤ 255) (hnn0 : n0 ≤ 9223372036854775807) (A1 : Option Addr) (n1 c1 : Nat) (b1 : List Int) (hr1 : Rd w A1 n1 (bytesV b1)) (hb1 : ∀ b ∈ b1, 0 ≤ b ∧ b ≤ 255) (hnn1 : n1 ≤ 9223372036854775807) :
    Calls Try.prog 13 #[.slice A0 n0 c0, .slice A1 n1 c1] w fun e w' => e = .returned (.bool true) ∧ Below w.heap.size w w' := by
  have HB0 := Lib.hid hb0; have HB1 := Lib.hid hb1
  clear hb0 hb1
  by_cases hlong : 1048576 < n0 ∨ 1048576 < n1
  · have HLo := Lib.hid (decide_eq_true hlong)
    clear hlong
    go_enter Try.func13, Try.ntmps13
    go_wp2_with (go_at_call 15; refine (r8Long_any _ _ _ _ _ _ _).mono ?_; rw [HLo.out]; rintro e w' ⟨rfl, rfl⟩)
    go_ret
    exact ⟨rfl, Below.refl _ _⟩
  · have HLo := Lib.hid (decide_eq_false hlong)
    have hn0 : n0 ≤ 1048576 := by omega
    have hn1 : n1 ≤ 1048576 := by omega
    clear hlong hnn0 hnn1
    go_enter Try.func13, Try.ntmps13
    go_wp2_with fail
    refine (r8Long_any _ _ _ _ _ _ _).mono ?_
    rw [HLo.out]
    rintro e w' ⟨rfl, rfl⟩
    go_wp2_with fail
    refine (R8Word_any w A0 n0 c0 b0 hr0 HB0.out (by omega)).mono ?_
    rintro e w1 ⟨A2, n2, c2, xs, L, rfl, ho2, hn2, hL1, hL4, hall, hbw1⟩
    have HX : Hid (Wd xs) := Lib.hid (wd_of hall hL4 (by have h := ho2.1; simp at h; omega))
    clear hall hL1 hL4
    go_wp2_with fail
    refine (R8Word_any w1 A1 n1 c1 b1 (hr1.below hbw1 (Nat.le_refl _)) HB1.out (by omega)).mono ?_
    rintro e w2 ⟨A3, n3, c3, ys, L', rfl, ho3, hn3, hM1, hM4, hall', hbw2⟩
    have HY : Hid (Wd ys) := Lib.hid (wd_of hall' hM4 (by have h := ho3.1; simp at h; omega))
    clear hall' hM1 hM4
    have HB := Lib.hid (hbw1.trans (hbw2.mono hbw1.size))
    have hrx := own_rd (own_below ho2 hbw2 (Nat.le_refl _))
    have hry := own_rd ho3
    have hc2 : n2 ≤ c2 := ownN_cap ho2
    have hc3 : n3 ≤ c3 := ownN_cap ho3
    have HLX : Hid (xs.length = n2) := Lib.hid (by simpa using hrx.1)
    have HLY : Hid (ys.length = n3) := Lib.hid (by simpa using hry.1)
    have HRX := Lib.hid hrx; have HRY := Lib.hid hry
    clear ho2 ho3 hbw1 hbw2 hrx hry
    by_cases hlt : 2 < n3
    · have hlt' : (2 : Int) < (n3 : Int) := by omega
      have hct := fun (w : World) => run_cutH Try.underlying25 Try.szI w A3 n3 c3 2 2 .i64 rfl (by omega)
      have HRZ : Hid (Rd w2 A3 2 (ints (ys.take 2))) := Lib.hid (by have h := HRY.out.take 2 (by omega); rwa [← List.map_take] at h)
      have HZ := Lib.hid (wd_take HY.out 2)
      have HLZ : Hid ((ys.take 2).length = 2) := Lib.hid (by have := HLY.out; simp; omega)
      go_wp2_with fail
      refine (OccurrencesOf_any w2 A2 A3 n2 c2 2 c3 xs (ys.take 2) HRX.out HRZ.out HX.out HZ.out hc2).mono ?_
      rintro e w3 ⟨A4, n4, c4, rfl, ho4, hb4⟩
      rcases hocc : occ xs (ys.take 2) with _ | ⟨x, r⟩
      · have HOC := Lib.hid hocc
        obtain rfl : n4 = 0 := by have h := ho4.1; rw [hocc] at h; simp at h; omega
        have HW3 := Lib.hid hb4
        clear hocc ho4 hb4
        go_wp2_with fail
        refine (ReplaceFirst_none w3 A2 A3 A2 n2 c2 2 c3 n2 c2 xs (ys.take 2) xs (HRX.out.below HW3.out (Nat.le_refl _)) (HRZ.out.below HW3.out (Nat.le_refl _)) (HRX.out.below HW3.out (Nat.le_refl _)) HX.out HZ.out HX.out hc2 HOC.out).mono ?_
        rintro e w4 ⟨A5, n5, c5, rfl, ho5, hb5⟩
        have HW4 := Lib.hid (HW3.out.trans (hb5.mono HW3.out.size))
        clear ho5 hb5
        by_cases hz : n2 = 0
        · have hzb : ((n2 : Int) == 0) = true := by simp [hz]
          have HBW := Lib.hid (HB.out.trans (HW4.out.mono HB.out.size))
          go_wp2_with fail
          all_goals
            go_ret
            exact ⟨rfl, HBW.out⟩
        · have hzb : ((n2 : Int) == 0) = false := beq_eq_false_iff_ne.2 (by omega)
          have hpos : 1 ≤ n2 := by omega
          obtain ⟨hk1, hk2, hk3, hk4⟩ := root_bd HLX.out hpos
          have HRP := Lib.hid (root_rp HLX.out hpos)
          obtain ⟨hs1, hs2⟩ := last_sum HLX.out hpos
          have HXP := Lib.hid (HRX.out.below HW4.out (Nat.le_refl _))
          go_wp2_with fail
          refine (PeriodOf_any w4 A2 n2 c2 xs HXP.out hpos HX.out).mono ?_
          rintro e u1 ⟨rfl, hu1⟩
          have HU1 := Lib.hid (HW4.out.trans (hu1.mono HW4.out.size))
          clear hu1
          go_wp2_with fail
          refine (BordersOf_any u1 A2 n2 c2 xs (HRX.out.below HU1.out (Nat.le_refl _)) hpos HX.out).mono ?_
          rintro e u2 ⟨rr, ⟨A7, n7, c7, rfl, ho7, hu2⟩, hrl⟩
          have HN7 : Hid (n7 = rr.length + 1) := Lib.hid (by have h := ho7.1; simp at h; omega)
          have HU2 := Lib.hid (HU1.out.trans (hu2.mono HU1.out.size))
          have HO7 := Lib.hid ho7
          clear hu2 ho7
          go_wp2_with fail
          refine (RootOf_any u2 A2 n2 c2 xs (HRX.out.below HU2.out (Nat.le_refl _)) hpos HX.out hc2).mono ?_
          rintro e u3 ⟨A8, n8, c8, rfl, ho8, hu3⟩
          have hn8 : n8 = rootLen xs := by have h := ho8.1; have h2 := HLX.out; simp at h; omega
          obtain ⟨g7, rfl, _, hg7, hc7, _⟩ := own_get (ownN_below HO7.out hu3 (Nat.le_refl _)) (k := rr.length) (u := .int .i64 ((lastB xs : Nat) : Int)) (by simp)
          have HU3 := Lib.hid (HU2.out.trans (hu3.mono HU2.out.size))
          have HR8 := Lib.hid (own_rd ho8)
          have hc8 : n8 ≤ c8 := ownN_cap ho8
          clear hu3 ho8
          subst hn8
          generalize rootLen xs = q at *
          generalize hee : n2 / q = ee at *
          generalize lastB xs = L at *
          generalize period xs = pp at *
          have hm : n7 - 1 = rr.length := by have h := HN7.out; omega
          rw [← hm] at hc7
          have HRL : Hid (rr.length ≤ n2) := Lib.hid hrl
          have hn7b : n7 ≤ 1000 := by have h := HN7.out; have h2 := HX.out.2; have h3 := HLX.out; have h4 := HRL.out; omega
          have hn70 : ¬ n7 = 0 := by have h := HN7.out; omega
          have hn7p : 1 ≤ n7 := by omega
          have hn7z : ((n7 : Int) == 0) = false := beq_eq_false_iff_ne.2 (by omega)
          have hw7 : IntKind.i64.wrap ((n7 : Int) - 1) = (n7 : Int) - 1 := IntWalk.i64_in _ (by omega)
          have ht7 : ((n7 : Int) - 1).toNat = n7 - 1 := by omega
          have hi0 : (0 : Int) ≤ (n7 : Int) - 1 := by omega
          have hi2 : (n7 : Int) - 1 < (n7 : Int) := by omega
          have hsum : IntKind.i64.wrap ((L : Int) + (pp : Int)) = (n2 : Int) := by rw [show (L : Int) + (pp : Int) = (n2 : Int) by omega]; exact IntWalk.i64_in _ (by omega)
          have hnn : ((n2 : Int) != (n2 : Int)) = false := by simp
          have hq1 : 1 ≤ q := hk1
          have hq100 : q ≤ 100 := by omega
          have he1 : 1 ≤ ee := by omega
          have hqe : q * ee ≤ 100 := by omega
          have HAQ : Hid (allIn (xs.take q) 0 9 = true) := Lib.hid (wd_take HX.out q).1
          clear hm hs1 hs2 hrl hee hk1 hk2 hk3 hk4
          go_wp2_with fail
          refine (PowerWord_any u3 A8 q c8 ee (xs.take q) HR8.out hq1 hq100 he1 hqe HAQ.out).mono ?_
          rintro e u4 ⟨A9, n9, c9, rfl, ho9, hu4⟩
          rw [HRP.out] at ho9
          have HU4 := Lib.hid (HU3.out.trans (hu4.mono HU3.out.size))
          have hn9 : n9 ≤ 1000000000 := by have h := ho9.1; have h2 := HLX.out; simp at h; omega
          have HR9 := Lib.hid (own_rd ho9)
          clear hu4 ho9
          go_wp2_with fail
          refine (r8Same_same u4 A9 A2 n9 c9 n2 c2 xs HR9.out (HRX.out.below HU4.out (Nat.le_refl _)) hn9).mono ?_
          rintro e u5 ⟨rfl, hu5⟩
          have HU5 := Lib.hid (HU4.out.trans (hu5.mono HU4.out.size))
          go_wp2_with fail
          go_ret
          exact ⟨rfl, HB.out.trans (HU5.out.mono HB.out.size)⟩
      · obtain ⟨a, rfl, hap, hbg⟩ := occ_head hocc
        have HOC := Lib.hid hocc; have HBG := Lib.hid hbg; have HAP := Lib.hid hap
        have HRLN := Lib.hid (repl_len (y := xs) hap)
        rw [hocc] at ho4
        have hn4 : n4 = r.length + 1 := by have h := ho4.1; simp at h; omega
        have hn40 : ¬ n4 = 0 := by omega
        have hn4z : ((n4 : Int) == 0) = false := beq_eq_false_iff_ne.2 (by omega)
        have hn4p : (0 : Int) < (n4 : Int) := by omega
        have hn4p' : 0 < n4 := by omega
        have HW3 := Lib.hid hb4
        have HO4 := Lib.hid ho4
        clear hocc hbg hap ho4 hb4 hn4
        go_wp2_with fail
        refine (ReplaceFirst_some w3 A2 A3 A2 n2 c2 2 c3 n2 c2 xs (ys.take 2) xs a r (HRX.out.below HW3.out (Nat.le_refl _)) (HRZ.out.below HW3.out (Nat.le_refl _)) (HRX.out.below HW3.out (Nat.le_refl _)) HX.out HZ.out HX.out hc2 HOC.out).mono ?_
        rintro e w4 ⟨A5, n5, c5, rfl, ho5, hb5⟩
        have hn5 : n5 + 2 = n2 + n2 := by have h := ho5.1; have h2 := HRLN.out; have h3 := HLX.out; have h4 := HLZ.out; simp at h; omega
        obtain ⟨g4, rfl, _, hg4, hc4', _⟩ := own_get (ownN_below HO4.out hb5 (Nat.le_refl _)) (k := 0) (u := .int .i64 (a : Int)) (by simp)
        have HW4 := Lib.hid (HW3.out.trans (hb5.mono HW3.out.size))
        have HO5 := Lib.hid ho5
        clear ho5 hb5
        go_wp2_with fail
        refine (ReplaceAt_any w4 A2 A3 A2 n2 c2 2 c3 n2 c2 xs (ys.take 2) xs a (HRX.out.below HW4.out (Nat.le_refl _)) (HRZ.out.below HW4.out (Nat.le_refl _)) (HRX.out.below HW4.out (Nat.le_refl _)) HX.out HZ.out HX.out hc2 HAP.out HBG.out).mono ?_
        rintro e w5 ⟨A6, n6, c6, rfl, ho6, hb6⟩
        have HW5 := Lib.hid (HW4.out.trans (hb6.mono HW4.out.size))
        have HR5 := Lib.hid (own_rd (ownN_below HO5.out hb6 (Nat.le_refl _)))
        have HR6 := Lib.hid (own_rd ho6)
        clear ho6 hb6 hc4'
        have hw1 : IntKind.i64.wrap (2 * (n2 : Int)) = 2 * (n2 : Int) := IntWalk.i64_in _ (by omega)
        have hw2 : IntKind.i64.wrap (2 * (n2 : Int) - (2 : Int)) = 2 * (n2 : Int) - (2 : Int) := IntWalk.i64_in _ (by omega)
        have hne5 : ((n5 : Int) != 2 * (n2 : Int) - (2 : Int)) = false := by rw [bne_eq_false_iff_eq]; omega
        have hn5b : n5 ≤ 1000000000 := by omega
        clear hn5
        go_wp2_with fail
        refine (r8Same_same w5 A5 A6 n5 c5 n6 c6 (repl xs (ys.take 2) xs a) HR5.out HR6.out hn5b).mono ?_
        rintro e w6 ⟨rfl, hb7⟩
        have HW6 := Lib.hid (HW5.out.trans (hb7.mono HW5.out.size))
        clear hb7
        by_cases hz : n2 = 0
        · have hzb : ((n2 : Int) == 0) = true := by simp [hz]
          have HBW := Lib.hid (HB.out.trans (HW6.out.mono HB.out.size))
          go_wp2_with fail
          all_goals
            go_ret
            exact ⟨rfl, HBW.out⟩
        · have hzb : ((n2 : Int) == 0) = false := beq_eq_false_iff_ne.2 (by omega)
          have hpos : 1 ≤ n2 := by omega
          obtain ⟨hk1, hk2, hk3, hk4⟩ := root_bd HLX.out hpos
          have HRP := Lib.hid (root_rp HLX.out hpos)
          obtain ⟨hs1, hs2⟩ := last_sum HLX.out hpos
          have HXP := Lib.hid (HRX.out.below HW6.out (Nat.le_refl _))
          go_wp2_with fail
          refine (PeriodOf_any w6 A2 n2 c2 xs HXP.out hpos HX.out).mono ?_
          rintro e u1 ⟨rfl, hu1⟩
          have HU1 := Lib.hid (HW6.out.trans (hu1.mono HW6.out.size))
          clear hu1
          go_wp2_with fail
          refine (BordersOf_any u1 A2 n2 c2 xs (HRX.out.below HU1.out (Nat.le_refl _)) hpos HX.out).mono ?_
          rintro e u2 ⟨rr, ⟨A7, n7, c7, rfl, ho7, hu2⟩, hrl⟩
          have HN7 : Hid (n7 = rr.length + 1) := Lib.hid (by have h := ho7.1; simp at h; omega)
          have HU2 := Lib.hid (HU1.out.trans (hu2.mono HU1.out.size))
          have HO7 := Lib.hid ho7
          clear hu2 ho7
          go_wp2_with fail
          refine (RootOf_any u2 A2 n2 c2 xs (HRX.out.below HU2.out (Nat.le_refl _)) hpos HX.out hc2).mono ?_
          rintro e u3 ⟨A8, n8, c8, rfl, ho8, hu3⟩
          have hn8 : n8 = rootLen xs := by have h := ho8.1; have h2 := HLX.out; simp at h; omega
          obtain ⟨g7, rfl, _, hg7, hc7, _⟩ := own_get (ownN_below HO7.out hu3 (Nat.le_refl _)) (k := rr.length) (u := .int .i64 ((lastB xs : Nat) : Int)) (by simp)
          have HU3 := Lib.hid (HU2.out.trans (hu3.mono HU2.out.size))
          have HR8 := Lib.hid (own_rd ho8)
          have hc8 : n8 ≤ c8 := ownN_cap ho8
          clear hu3 ho8
          subst hn8
          generalize rootLen xs = q at *
          generalize hee : n2 / q = ee at *
          generalize lastB xs = L at *
          generalize period xs = pp at *
          have hm : n7 - 1 = rr.length := by have h := HN7.out; omega
          rw [← hm] at hc7
          have HRL : Hid (rr.length ≤ n2) := Lib.hid hrl
          have hn7b : n7 ≤ 1000 := by have h := HN7.out; have h2 := HX.out.2; have h3 := HLX.out; have h4 := HRL.out; omega
          have hn70 : ¬ n7 = 0 := by have h := HN7.out; omega
          have hn7p : 1 ≤ n7 := by omega
          have hn7z : ((n7 : Int) == 0) = false := beq_eq_false_iff_ne.2 (by omega)
          have hw7 : IntKind.i64.wrap ((n7 : Int) - 1) = (n7 : Int) - 1 := IntWalk.i64_in _ (by omega)
          have ht7 : ((n7 : Int) - 1).toNat = n7 - 1 := by omega
          have hi0 : (0 : Int) ≤ (n7 : Int) - 1 := by omega
          have hi2 : (n7 : Int) - 1 < (n7 : Int) := by omega
          have hsum : IntKind.i64.wrap ((L : Int) + (pp : Int)) = (n2 : Int) := by rw [show (L : Int) + (pp : Int) = (n2 : Int) by omega]; exact IntWalk.i64_in _ (by omega)
          have hnn : ((n2 : Int) != (n2 : Int)) = false := by simp
          have hq1 : 1 ≤ q := hk1
          have hq100 : q ≤ 100 := by omega
          have he1 : 1 ≤ ee := by omega
          have hqe : q * ee ≤ 100 := by omega
          have HAQ : Hid (allIn (xs.take q) 0 9 = true) := Lib.hid (wd_take HX.out q).1
          clear hm hs1 hs2 hrl hee hk1 hk2 hk3 hk4
          go_wp2_with fail
          refine (PowerWord_any u3 A8 q c8 ee (xs.take q) HR8.out hq1 hq100 he1 hqe HAQ.out).mono ?_
          rintro e u4 ⟨A9, n9, c9, rfl, ho9, hu4⟩
          rw [HRP.out] at ho9
          have HU4 := Lib.hid (HU3.out.trans (hu4.mono HU3.out.size))
          have hn9 : n9 ≤ 1000000000 := by have h := ho9.1; have h2 := HLX.out; simp at h; omega
          have HR9 := Lib.hid (own_rd ho9)
          clear hu4 ho9
          go_wp2_with fail
          refine (r8Same_same u4 A9 A2 n9 c9 n2 c2 xs HR9.out (HRX.out.below HU4.out (Nat.le_refl _)) hn9).mono ?_
          rintro e u5 ⟨rfl, hu5⟩
          have HU5 := Lib.hid (HU4.out.trans (hu5.mono HU4.out.size))
          go_wp2_with fail
          go_ret
          exact ⟨rfl, HB.out.trans (HU5.out.mono HB.out.size)⟩
    · have hlt' : ¬ (2 : Int) < (n3 : Int) := by omega
      have HRZ := HRY
      have HZ := HY
      have HLZ := HLY
      go_wp2_with fail
      refine (OccurrencesOf_any w2 A2 A3 n2 c2 n3 c3 xs ys HRX.out HRZ.out HX.out HZ.out hc2).mono ?_
      rintro e w3 ⟨A4, n4, c4, rfl, ho4, hb4⟩
      rcases hocc : occ xs ys with _ | ⟨x, r⟩
      · have HOC := Lib.hid hocc
        obtain rfl : n4 = 0 := by have h := ho4.1; rw [hocc] at h; simp at h; omega
        have HW3 := Lib.hid hb4
        clear hocc ho4 hb4
        go_wp2_with fail
        refine (ReplaceFirst_none w3 A2 A3 A2 n2 c2 n3 c3 n2 c2 xs ys xs (HRX.out.below HW3.out (Nat.le_refl _)) (HRZ.out.below HW3.out (Nat.le_refl _)) (HRX.out.below HW3.out (Nat.le_refl _)) HX.out HZ.out HX.out hc2 HOC.out).mono ?_
        rintro e w4 ⟨A5, n5, c5, rfl, ho5, hb5⟩
        have HW4 := Lib.hid (HW3.out.trans (hb5.mono HW3.out.size))
        clear ho5 hb5
        by_cases hz : n2 = 0
        · have hzb : ((n2 : Int) == 0) = true := by simp [hz]
          have HBW := Lib.hid (HB.out.trans (HW4.out.mono HB.out.size))
          go_wp2_with fail
          all_goals
            go_ret
            exact ⟨rfl, HBW.out⟩
        · have hzb : ((n2 : Int) == 0) = false := beq_eq_false_iff_ne.2 (by omega)
          have hpos : 1 ≤ n2 := by omega
          obtain ⟨hk1, hk2, hk3, hk4⟩ := root_bd HLX.out hpos
          have HRP := Lib.hid (root_rp HLX.out hpos)
          obtain ⟨hs1, hs2⟩ := last_sum HLX.out hpos
          have HXP := Lib.hid (HRX.out.below HW4.out (Nat.le_refl _))
          go_wp2_with fail
          refine (PeriodOf_any w4 A2 n2 c2 xs HXP.out hpos HX.out).mono ?_
          rintro e u1 ⟨rfl, hu1⟩
          have HU1 := Lib.hid (HW4.out.trans (hu1.mono HW4.out.size))
          clear hu1
          go_wp2_with fail
          refine (BordersOf_any u1 A2 n2 c2 xs (HRX.out.below HU1.out (Nat.le_refl _)) hpos HX.out).mono ?_
          rintro e u2 ⟨rr, ⟨A7, n7, c7, rfl, ho7, hu2⟩, hrl⟩
          have HN7 : Hid (n7 = rr.length + 1) := Lib.hid (by have h := ho7.1; simp at h; omega)
          have HU2 := Lib.hid (HU1.out.trans (hu2.mono HU1.out.size))
          have HO7 := Lib.hid ho7
          clear hu2 ho7
          go_wp2_with fail
          refine (RootOf_any u2 A2 n2 c2 xs (HRX.out.below HU2.out (Nat.le_refl _)) hpos HX.out hc2).mono ?_
          rintro e u3 ⟨A8, n8, c8, rfl, ho8, hu3⟩
          have hn8 : n8 = rootLen xs := by have h := ho8.1; have h2 := HLX.out; simp at h; omega
          obtain ⟨g7, rfl, _, hg7, hc7, _⟩ := own_get (ownN_below HO7.out hu3 (Nat.le_refl _)) (k := rr.length) (u := .int .i64 ((lastB xs : Nat) : Int)) (by simp)
          have HU3 := Lib.hid (HU2.out.trans (hu3.mono HU2.out.size))
          have HR8 := Lib.hid (own_rd ho8)
          have hc8 : n8 ≤ c8 := ownN_cap ho8
          clear hu3 ho8
          subst hn8
          generalize rootLen xs = q at *
          generalize hee : n2 / q = ee at *
          generalize lastB xs = L at *
          generalize period xs = pp at *
          have hm : n7 - 1 = rr.length := by have h := HN7.out; omega
          rw [← hm] at hc7
          have HRL : Hid (rr.length ≤ n2) := Lib.hid hrl
          have hn7b : n7 ≤ 1000 := by have h := HN7.out; have h2 := HX.out.2; have h3 := HLX.out; have h4 := HRL.out; omega
          have hn70 : ¬ n7 = 0 := by have h := HN7.out; omega
          have hn7p : 1 ≤ n7 := by omega
          have hn7z : ((n7 : Int) == 0) = false := beq_eq_false_iff_ne.2 (by omega)
          have hw7 : IntKind.i64.wrap ((n7 : Int) - 1) = (n7 : Int) - 1 := IntWalk.i64_in _ (by omega)
          have ht7 : ((n7 : Int) - 1).toNat = n7 - 1 := by omega
          have hi0 : (0 : Int) ≤ (n7 : Int) - 1 := by omega
          have hi2 : (n7 : Int) - 1 < (n7 : Int) := by omega
          have hsum : IntKind.i64.wrap ((L : Int) + (pp : Int)) = (n2 : Int) := by rw [show (L : Int) + (pp : Int) = (n2 : Int) by omega]; exact IntWalk.i64_in _ (by omega)
          have hnn : ((n2 : Int) != (n2 : Int)) = false := by simp
          have hq1 : 1 ≤ q := hk1
          have hq100 : q ≤ 100 := by omega
          have he1 : 1 ≤ ee := by omega
          have hqe : q * ee ≤ 100 := by omega
          have HAQ : Hid (allIn (xs.take q) 0 9 = true) := Lib.hid (wd_take HX.out q).1
          clear hm hs1 hs2 hrl hee hk1 hk2 hk3 hk4
          go_wp2_with fail
          refine (PowerWord_any u3 A8 q c8 ee (xs.take q) HR8.out hq1 hq100 he1 hqe HAQ.out).mono ?_
          rintro e u4 ⟨A9, n9, c9, rfl, ho9, hu4⟩
          rw [HRP.out] at ho9
          have HU4 := Lib.hid (HU3.out.trans (hu4.mono HU3.out.size))
          have hn9 : n9 ≤ 1000000000 := by have h := ho9.1; have h2 := HLX.out; simp at h; omega
          have HR9 := Lib.hid (own_rd ho9)
          clear hu4 ho9
          go_wp2_with fail
          refine (r8Same_same u4 A9 A2 n9 c9 n2 c2 xs HR9.out (HRX.out.below HU4.out (Nat.le_refl _)) hn9).mono ?_
          rintro e u5 ⟨rfl, hu5⟩
          have HU5 := Lib.hid (HU4.out.trans (hu5.mono HU4.out.size))
          go_wp2_with fail
          go_ret
          exact ⟨rfl, HB.out.trans (HU5.out.mono HB.out.size)⟩
      · obtain ⟨a, rfl, hap, hbg⟩ := occ_head hocc
        have HOC := Lib.hid hocc; have HBG := Lib.hid hbg; have HAP := Lib.hid hap
        have HRLN := Lib.hid (repl_len (y := xs) hap)
        rw [hocc] at ho4
        have hn4 : n4 = r.length + 1 := by have h := ho4.1; simp at h; omega
        have hn40 : ¬ n4 = 0 := by omega
        have hn4z : ((n4 : Int) == 0) = false := beq_eq_false_iff_ne.2 (by omega)
        have hn4p : (0 : Int) < (n4 : Int) := by omega
        have hn4p' : 0 < n4 := by omega
        have HW3 := Lib.hid hb4
        have HO4 := Lib.hid ho4
        clear hocc hbg hap ho4 hb4 hn4
        go_wp2_with fail
        refine (ReplaceFirst_some w3 A2 A3 A2 n2 c2 n3 c3 n2 c2 xs ys xs a r (HRX.out.below HW3.out (Nat.le_refl _)) (HRZ.out.below HW3.out (Nat.le_refl _)) (HRX.out.below HW3.out (Nat.le_refl _)) HX.out HZ.out HX.out hc2 HOC.out).mono ?_
        rintro e w4 ⟨A5, n5, c5, rfl, ho5, hb5⟩
        have hn5 : n5 + n3 = n2 + n2 := by have h := ho5.1; have h2 := HRLN.out; have h3 := HLX.out; have h4 := HLZ.out; simp at h; omega
        obtain ⟨g4, rfl, _, hg4, hc4', _⟩ := own_get (ownN_below HO4.out hb5 (Nat.le_refl _)) (k := 0) (u := .int .i64 (a : Int)) (by simp)
        have HW4 := Lib.hid (HW3.out.trans (hb5.mono HW3.out.size))
        have HO5 := Lib.hid ho5
        clear ho5 hb5
        go_wp2_with fail
        refine (ReplaceAt_any w4 A2 A3 A2 n2 c2 n3 c3 n2 c2 xs ys xs a (HRX.out.below HW4.out (Nat.le_refl _)) (HRZ.out.below HW4.out (Nat.le_refl _)) (HRX.out.below HW4.out (Nat.le_refl _)) HX.out HZ.out HX.out hc2 HAP.out HBG.out).mono ?_
        rintro e w5 ⟨A6, n6, c6, rfl, ho6, hb6⟩
        have HW5 := Lib.hid (HW4.out.trans (hb6.mono HW4.out.size))
        have HR5 := Lib.hid (own_rd (ownN_below HO5.out hb6 (Nat.le_refl _)))
        have HR6 := Lib.hid (own_rd ho6)
        clear ho6 hb6 hc4'
        have hw1 : IntKind.i64.wrap (2 * (n2 : Int)) = 2 * (n2 : Int) := IntWalk.i64_in _ (by omega)
        have hw2 : IntKind.i64.wrap (2 * (n2 : Int) - (n3 : Int)) = 2 * (n2 : Int) - (n3 : Int) := IntWalk.i64_in _ (by omega)
        have hne5 : ((n5 : Int) != 2 * (n2 : Int) - (n3 : Int)) = false := by rw [bne_eq_false_iff_eq]; omega
        have hn5b : n5 ≤ 1000000000 := by omega
        clear hn5
        go_wp2_with fail
        refine (r8Same_same w5 A5 A6 n5 c5 n6 c6 (repl xs ys xs a) HR5.out HR6.out hn5b).mono ?_
        rintro e w6 ⟨rfl, hb7⟩
        have HW6 := Lib.hid (HW5.out.trans (hb7.mono HW5.out.size))
        clear hb7
        by_cases hz : n2 = 0
        · have hzb : ((n2 : Int) == 0) = true := by simp [hz]
          have HBW := Lib.hid (HB.out.trans (HW6.out.mono HB.out.size))
          go_wp2_with fail
          all_goals
            go_ret
            exact ⟨rfl, HBW.out⟩
        · have hzb : ((n2 : Int) == 0) = false := beq_eq_false_iff_ne.2 (by omega)
          have hpos : 1 ≤ n2 := by omega
          obtain ⟨hk1, hk2, hk3, hk4⟩ := root_bd HLX.out hpos
          have HRP := Lib.hid (root_rp HLX.out hpos)
          obtain ⟨hs1, hs2⟩ := last_sum HLX.out hpos
          have HXP := Lib.hid (HRX.out.below HW6.out (Nat.le_refl _))
          go_wp2_with fail
          refine (PeriodOf_any w6 A2 n2 c2 xs HXP.out hpos HX.out).mono ?_
          rintro e u1 ⟨rfl, hu1⟩
          have HU1 := Lib.hid (HW6.out.trans (hu1.mono HW6.out.size))
          clear hu1
          go_wp2_with fail
          refine (BordersOf_any u1 A2 n2 c2 xs (HRX.out.below HU1.out (Nat.le_refl _)) hpos HX.out).mono ?_
          rintro e u2 ⟨rr, ⟨A7, n7, c7, rfl, ho7, hu2⟩, hrl⟩
          have HN7 : Hid (n7 = rr.length + 1) := Lib.hid (by have h := ho7.1; simp at h; omega)
          have HU2 := Lib.hid (HU1.out.trans (hu2.mono HU1.out.size))
          have HO7 := Lib.hid ho7
          clear hu2 ho7
          go_wp2_with fail
          refine (RootOf_any u2 A2 n2 c2 xs (HRX.out.below HU2.out (Nat.le_refl _)) hpos HX.out hc2).mono ?_
          rintro e u3 ⟨A8, n8, c8, rfl, ho8, hu3⟩
          have hn8 : n8 = rootLen xs := by have h := ho8.1; have h2 := HLX.out; simp at h; omega
          obtain ⟨g7, rfl, _, hg7, hc7, _⟩ := own_get (ownN_below HO7.out hu3 (Nat.le_refl _)) (k := rr.length) (u := .int .i64 ((lastB xs : Nat) : Int)) (by simp)
          have HU3 := Lib.hid (HU2.out.trans (hu3.mono HU2.out.size))
          have HR8 := Lib.hid (own_rd ho8)
          have hc8 : n8 ≤ c8 := ownN_cap ho8
          clear hu3 ho8
          subst hn8
          generalize rootLen xs = q at *
          generalize hee : n2 / q = ee at *
          generalize lastB xs = L at *
          generalize period xs = pp at *
          have hm : n7 - 1 = rr.length := by have h := HN7.out; omega
          rw [← hm] at hc7
          have HRL : Hid (rr.length ≤ n2) := Lib.hid hrl
          have hn7b : n7 ≤ 1000 := by have h := HN7.out; have h2 := HX.out.2; have h3 := HLX.out; have h4 := HRL.out; omega
          have hn70 : ¬ n7 = 0 := by have h := HN7.out; omega
          have hn7p : 1 ≤ n7 := by omega
          have hn7z : ((n7 : Int) == 0) = false := beq_eq_false_iff_ne.2 (by omega)
          have hw7 : IntKind.i64.wrap ((n7 : Int) - 1) = (n7 : Int) - 1 := IntWalk.i64_in _ (by omega)
          have ht7 : ((n7 : Int) - 1).toNat = n7 - 1 := by omega
          have hi0 : (0 : Int) ≤ (n7 : Int) - 1 := by omega
          have hi2 : (n7 : Int) - 1 < (n7 : Int) := by omega
          have hsum : IntKind.i64.wrap ((L : Int) + (pp : Int)) = (n2 : Int) := by rw [show (L : Int) + (pp : Int) = (n2 : Int) by omega]; exact IntWalk.i64_in _ (by omega)
          have hnn : ((n2 : Int) != (n2 : Int)) = false := by simp
          have hq1 : 1 ≤ q := hk1
          have hq100 : q ≤ 100 := by omega
          have he1 : 1 ≤ ee := by omega
          have hqe : q * ee ≤ 100 := by omega
          have HAQ : Hid (allIn (xs.take q) 0 9 = true) := Lib.hid (wd_take HX.out q).1
          clear hm hs1 hs2 hrl hee hk1 hk2 hk3 hk4
          go_wp2_with fail
          refine (PowerWord_any u3 A8 q c8 ee (xs.take q) HR8.out hq1 hq100 he1 hqe HAQ.out).mono ?_
          rintro e u4 ⟨A9, n9, c9, rfl, ho9, hu4⟩
          rw [HRP.out] at ho9
          have HU4 := Lib.hid (HU3.out.trans (hu4.mono HU3.out.size))
          have hn9 : n9 ≤ 1000000000 := by have h := ho9.1; have h2 := HLX.out; simp at h; omega
          have HR9 := Lib.hid (own_rd ho9)
          clear hu4 ho9
          go_wp2_with fail
          refine (r8Same_same u4 A9 A2 n9 c9 n2 c2 xs HR9.out (HRX.out.below HU4.out (Nat.le_refl _)) hn9).mono ?_
          rintro e u5 ⟨rfl, hu5⟩
          have HU5 := Lib.hid (HU4.out.trans (hu5.mono HU4.out.size))
          go_wp2_with fail
          go_ret
          exact ⟨rfl, HB.out.trans (HU5.out.mono HB.out.size)⟩
end Go.Proofs.Ytbecofpklndpaaa
