/- LostWindow: the reference's functions. -/
import Derived.Test.YtjgajjcgapifoaaCtxM
namespace Go.Proofs.Ytjgajjcgapifoaa
open Go.RowKit
set_option linter.unusedVariables false
set_option linter.unusedSimpArgs false
set_option maxHeartbeats 400000 in
theorem l29Size_any (w : World) (n : Int) : Calls Try.prog 64 #[.int .i64 n] w fun e w' => e = .returned (.bool (inB n 1 4)) ∧ w = w' := by
  go_enter Try.func64, Try.ntmps64
  go_wp2_with (go_at_call 74; refine (l00In_any _ _ _ _).mono ?_; rintro e w' ⟨rfl, rfl⟩)
  go_ret
  exact ⟨rfl, rfl⟩
set_option maxHeartbeats 1600000 in
theorem l27Symbols_any (w : World) (g : Nat) (s t : Int) (A : Option Addr) (n c : Nat) (hm : BM w g s t A n c) (hs : 2 ≤ s ∧ s ≤ 6) (A1 : Option Addr) (n1 c1 : Nat) (xs : List Int) (hr1 : Rd w A1 n1 (ints xs)) (hn1 : n1 ≤ 1099511627776) :
    Calls Try.prog 104 #[.pointer (some ⟨g, 0, none⟩), .slice A1 n1 c1, .int .i64 n1] w (RetV w (.bool (allIn xs 0 (s - 1)))) := by
  have HL : Hid (xs.length = n1) := Lib.hid (by simpa using hr1.1)
  have HM := Lib.hid hm
  clear hm
  go_enter Try.func104, Try.ntmps104
  go_wp2_with fail
  go_loopw [7] (fun q wr => ∃ k : Nat, k ≤ n1 ∧ q = .int .i64 k ∧ Hid (allIn (xs.take k) 0 (s - 1) = true) ∧ Below w.heap.size w wr) (fun q _ => n1 - (intOf q).toNat)
  case atStart => exact ⟨0, by omega, rfl, Lib.hid (by simp [allIn]), Below.refl _ _⟩
  case round =>
    obtain ⟨k, hk, rfl, hall, hb⟩ := hrel
    by_cases hlt : k < n1
    · have hlt' : (k : Int) < (n1 : Int) := by omega
      have hk0 : (0 : Int) ≤ (k : Int) := by omega
      obtain ⟨x, hx⟩ := get_some (xs := xs) (k := k) (by rw [HL.out]; exact hlt)
      obtain ⟨b, off, hA, hbs, q0⟩ := hr1.at_ (ints_get hx)
      subst hA
      replace q0 := (hb.cell (p := ⟨b, off + k, none⟩) hbs).trans q0
      obtain ⟨z0, z1, z2⟩ := (BM.bel HM.out hb).cells
      have HX := Lib.hid hx
      clear hx
      cases hin : inB x 0 (s - 1) with
      | true =>
        have HI := Lib.hid hin
        go_wp2_with fail
        go_quiet ((go_at_call 74; exact Calls.quiet_of_same ((l00In_any _ _ _ _).mono fun e w' h => ⟨h.1, h.2.symm⟩)))
        go_wp2_with fail
        go_roundw
        case rel => exact ⟨k + 1, by omega, by go_num, Lib.hid (allIn_take_step hall.out HX.out HI.out), below_drewN hb⟩
        case measure => simp [intOf]; omega
      | false =>
        have HQ := Lib.hid (allIn_out HX.out hin)
        go_wp2_with fail
        go_quiet ((go_at_call 74; exact Calls.quiet_of_same ((l00In_any _ _ _ _).mono fun e w' h => ⟨h.1, h.2.symm⟩)))
        go_wp2_with fail
        go_ret
        exact ⟨by rw [HQ.out]; rfl, below_drewN hb⟩
    · have h := hall.out
      rw [List.take_of_length_le (by rw [HL.out]; omega)] at h
      have HQ := Lib.hid h
      clear h
      go_wp2_with fail
      go_ret
      exact ⟨by rw [HQ.out]; simp, hb⟩
set_option maxHeartbeats 4000000 in
theorem l29Ask_any (w : World) (g : Nat) (s t : Int) (A : Option Addr) (n c : Nat) (hm : BM w g s t A n c) (rs : List Rul) (hr : Rd w A (n * 3) (ints (flatR rs))) (hn : n ≤ 1099511627776) (st : Int) (A1 : Option Addr) (n1 c1 : Nat) (xs : List Int) (hr1 : Rd w A1 n1 (ints xs)) (hn1 : n1 ≤ 1099511627776) :
    Calls Try.prog 53 #[.pointer (some ⟨g, 0, none⟩), .int .i64 st, .slice A1 n1 c1] w (RetV w (.int .i64 (ctxC s t rs st xs))) := by
  have hl : xs.length = n1 := by simpa using hr1.1
  have HR1 := Lib.hid (fun w2 (hb : Below w.heap.size w w2) => hr1.below hb (Nat.le_refl _))
  cases hok : okM s t rs with
  | false =>
    have HQ := Lib.hid (ctx_m (st := st) (xs := xs) hok)
    have HM := Lib.hid hok
    have HS := HM
    clear hok hl
    go_enter Try.func53, Try.ntmps53
    go_wp2_with fail
    refine (l05Is_any _ g s t A n c hm rs hr hn).mono ?_
    rw [HM.out]
    rintro e w2 ⟨rfl, hb2⟩
    have hm2 := BM.bel hm hb2
    obtain ⟨z0, z1, z2⟩ := hm2.cells
    go_wp2_with fail
    go_ret
    exact ⟨by rw [HQ.out]; rfl, hb2⟩
  | true =>
    have HM := Lib.hid hok
    obtain ⟨hs, ht, _, _⟩ := okM_all hok
    rcases Nat.mod_two_eq_zero_or_one n1 with hp | hp
    · have HQ := Lib.hid (ctx_e (s := s) (t := t) (rs := rs) (st := st) (xs := xs) (by omega))
      have em : Int.tmod (n1 : Int) 2 = 0 := by rw [Int.tmod_eq_emod_of_nonneg (by omega)]; omega
      clear hok hl hp
      go_enter Try.func53, Try.ntmps53
      go_wp2_with fail
      refine (l05Is_any _ g s t A n c hm rs hr hn).mono ?_
      rw [HM.out]
      rintro e w2 ⟨rfl, hb2⟩
      have hm2 := BM.bel hm hb2
      obtain ⟨z0, z1, z2⟩ := hm2.cells
      go_wp2_with fail
      go_ret
      exact ⟨by rw [HQ.out]; rfl, hb2⟩
    · have em : Int.tmod (n1 : Int) 2 = 1 := by rw [Int.tmod_eq_emod_of_nonneg (by omega)]; omega
      have ed : Int.tdiv (n1 : Int) 2 = ((n1 / 2 : Nat) : Int) := by rw [Int.tdiv_eq_ediv_of_nonneg (by omega)]; omega
      obtain ⟨h, hh⟩ : ∃ h, h = n1 / 2 := ⟨_, rfl⟩
      rw [← hh] at ed
      have hxh : xs.length / 2 = h := by omega
      have hodd : xs.length % 2 = 1 := by omega
      have hhb : h ≤ 1099511627776 := by omega
      cases hsz : inB ((xs.length / 2 : Nat) : Int) 1 4 with
      | false =>
        have HQ := Lib.hid (ctx_n (s := s) (t := t) (rs := rs) (st := st) hsz)
        rw [hxh] at hsz
        have HS := Lib.hid hsz
        clear hok hl hp hsz hxh hodd hh
        go_enter Try.func53, Try.ntmps53
        go_wp2_with fail
        refine (l05Is_any _ g s t A n c hm rs hr hn).mono ?_
        rw [HM.out]
        rintro e w2 ⟨rfl, hb2⟩
        have hm2 := BM.bel hm hb2
        obtain ⟨z0, z1, z2⟩ := hm2.cells
        go_wp2_with (first
          | (go_at_call 64; go_must (refine (l29Size_any _ _).mono ?_; rw [HS.out]; rintro e w' ⟨rfl, rfl⟩)))
        go_ret
        exact ⟨by rw [HQ.out]; rfl, hb2⟩
      | true =>
        cases hal : allIn xs 0 (s - 1) with
        | false =>
          have HQ := Lib.hid (ctx_a (t := t) (rs := rs) (st := st) hal)
          rw [hxh] at hsz
          have HS := Lib.hid hsz
          have HA := Lib.hid hal
          clear hok hl hp hsz hxh hodd hh hal
          go_enter Try.func53, Try.ntmps53
          go_wp2_with fail
          refine (l05Is_any _ g s t A n c hm rs hr hn).mono ?_
          rw [HM.out]
          rintro e w2 ⟨rfl, hb2⟩
          have hm2 := BM.bel hm hb2
          obtain ⟨z0, z1, z2⟩ := hm2.cells
          go_wp2_with (first
            | (go_at_call 64; go_must (refine (l29Size_any _ _).mono ?_; rw [HS.out]; rintro e w' ⟨rfl, rfl⟩)))
          refine (l27Symbols_any _ g s t A n c hm2 hs _ _ _ xs (HR1.out _ hb2) hn1).mono ?_
          rw [HA.out]
          rintro e w3 ⟨rfl, hb3⟩
          obtain ⟨y0, y1, y2⟩ := (BM.bel hm2 hb3).cells
          have HB3 := Lib.hid (hb2.trans (hb3.mono hb2.size))
          clear z0 z1 z2 hb3
          go_wp2_with fail
          go_ret
          exact ⟨by rw [HQ.out]; rfl, HB3.out⟩
        | true =>
          cases hst : inB st 0 (t - 1) with
          | false =>
            have HQ := Lib.hid (ctx_s hok hodd hsz hal hst)
            rw [hxh] at hsz
            have HS := Lib.hid hsz
            have HA := Lib.hid hal
            have HI := Lib.hid hst
            clear hok hl hp hsz hxh hodd hh hal hst
            go_enter Try.func53, Try.ntmps53
            go_wp2_with fail
            refine (l05Is_any _ g s t A n c hm rs hr hn).mono ?_
            rw [HM.out]
            rintro e w2 ⟨rfl, hb2⟩
            have hm2 := BM.bel hm hb2
            obtain ⟨z0, z1, z2⟩ := hm2.cells
            go_wp2_with (first
              | (go_at_call 64; go_must (refine (l29Size_any _ _).mono ?_; rw [HS.out]; rintro e w' ⟨rfl, rfl⟩)))
            refine (l27Symbols_any _ g s t A n c hm2 hs _ _ _ xs (HR1.out _ hb2) hn1).mono ?_
            rw [HA.out]
            rintro e w3 ⟨rfl, hb3⟩
            obtain ⟨y0, y1, y2⟩ := (BM.bel hm2 hb3).cells
            have HB3 := Lib.hid (hb2.trans (hb3.mono hb2.size))
            clear z0 z1 z2 hb3
            go_wp2_with (go_at_call 74; go_must (refine (l00In_any _ _ _ _).mono ?_; rw [HI.out]; rintro e w' ⟨rfl, rfl⟩))
            go_ret
            exact ⟨by rw [HQ.out]; rfl, HB3.out⟩
          | true =>
            have HQ := Lib.hid (ctx_ok hok hodd hsz hal hst)
            rw [hxh] at hsz
            have HS := Lib.hid hsz
            have HA := Lib.hid hal
            have HI := Lib.hid hst
            clear hok hl hp hsz hxh hodd hh hal hst
            go_enter Try.func53, Try.ntmps53
            go_wp2_with fail
            refine (l05Is_any _ g s t A n c hm rs hr hn).mono ?_
            rw [HM.out]
            rintro e w2 ⟨rfl, hb2⟩
            have hm2 := BM.bel hm hb2
            obtain ⟨z0, z1, z2⟩ := hm2.cells
            go_wp2_with (first
              | (go_at_call 64; go_must (refine (l29Size_any _ _).mono ?_; rw [HS.out]; rintro e w' ⟨rfl, rfl⟩)))
            refine (l27Symbols_any _ g s t A n c hm2 hs _ _ _ xs (HR1.out _ hb2) hn1).mono ?_
            rw [HA.out]
            rintro e w3 ⟨rfl, hb3⟩
            obtain ⟨y0, y1, y2⟩ := (BM.bel hm2 hb3).cells
            have HB3 := Lib.hid (hb2.trans (hb3.mono hb2.size))
            clear z0 z1 z2 hb3
            go_wp2_with (go_at_call 74; go_must (refine (l00In_any _ _ _ _).mono ?_; rw [HI.out]; rintro e w' ⟨rfl, rfl⟩))
            go_ret
            exact ⟨by rw [HQ.out]; rfl, HB3.out⟩
end Go.Proofs.Ytjgajjcgapifoaa
