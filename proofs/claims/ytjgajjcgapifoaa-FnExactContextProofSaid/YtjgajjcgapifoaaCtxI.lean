/- LostWindow: the program's functions. -/
import Derived.Test.YtjgajjcgapifoaaCtxM
import Derived.Test.YtjgajjcgapifoaaCpy
namespace Go.Proofs.Ytjgajjcgapifoaa
open Go.RowKit
set_option linter.unusedVariables false
set_option linter.unusedSimpArgs false
set_option maxHeartbeats 400000 in
theorem contextSizeOk_any (w : World) (n : Int) : Calls Try.prog 67 #[.int .i64 n] w fun e w' => e = .returned (.bool (inB n 1 4)) ∧ w = w' := by
  go_enter Try.func67, Try.ntmps67
  go_wp2_with (go_at_call 109; refine (within_any _ _ _ _).mono ?_; rintro e w' ⟨rfl, rfl⟩)
  go_ret
  exact ⟨rfl, rfl⟩
set_option maxHeartbeats 400000 in
theorem sizeI_any (w : World) (A : Option Addr) (n c : Nat) : Calls Try.prog 108 #[.slice A n c] w fun e w' => e = .returned (.int .i64 n) ∧ w = w' := by
  go_enter Try.func108, Try.ntmps108
  go_wp2_with fail
  go_ret
  exact ⟨rfl, rfl⟩
set_option maxHeartbeats 4000000 in
theorem contextCode_any (w : World) (s t : Int) (A : Option Addr) (n c : Nat) (rs : List Rul) (hr : Rd w A (n * 3) (ints (flatR rs))) (hn : n ≤ 1099511627776) (st : Int) (A1 : Option Addr) (n1 c1 : Nat) (xs : List Int) (hr1 : Rd w A1 n1 (ints xs)) (hn1 : n1 ≤ 1099511627776) :
    Calls Try.prog 57 #[mchV s t A n c, .int .i64 st, .slice A1 n1 c1] w (RetV w (.int .i64 (ctxC s t rs st xs))) := by
  have hl : xs.length = n1 := by simpa using hr1.1
  have hbb := below_new w (.cells #[.int .i64 s, .int .i64 t, .slice A n c] 31)
  have hbx := box_new w #[.int .i64 s, .int .i64 t, .slice A n c] 31
  have z0 := blk_cell hbx 0 rfl
  have z1 := blk_cell hbx 1 rfl
  have z2 := blk_cell hbx 2 rfl
  have HBX := Lib.hid hbx
  have hrb := hr.below hbb (Nat.le_refl _)
  clear hbx
  cases hm : okM s t rs with
  | false =>
    have HQ := Lib.hid (ctx_m (st := st) (xs := xs) hm)
    have HM := Lib.hid hm
    clear hm hl
    go_enter Try.func57, Try.ntmps57
    go_wp2_with fail
    refine (ValidMachine_any _ s t A n c rs hrb hn).mono ?_
    rw [HM.out]
    rintro e w2 ⟨rfl, hb2⟩
    go_wp2_with fail
    go_ret
    exact ⟨by rw [HQ.out]; rfl, (box_step hb2).1⟩
  | true =>
    have HM := Lib.hid hm
    obtain ⟨hs, ht, _, _⟩ := okM_all hm
    have HR1 := Lib.hid (fun w2 (hb : Below w.heap.size w w2) => hr1.below hb (Nat.le_refl _))
    rcases Nat.mod_two_eq_zero_or_one n1 with hp | hp
    · have HQ := Lib.hid (ctx_e (s := s) (t := t) (rs := rs) (st := st) (xs := xs) (by omega))
      have em : Int.tmod (n1 : Int) 2 = 0 := by rw [Int.tmod_eq_emod_of_nonneg (by omega)]; omega
      clear hm hl hp
      go_enter Try.func57, Try.ntmps57
      go_wp2_with fail
      refine (ValidMachine_any _ s t A n c rs hrb hn).mono ?_
      rw [HM.out]
      rintro e w2 ⟨rfl, hb2⟩
      go_wp2_with fail
      go_ret
      exact ⟨by rw [HQ.out]; rfl, (box_step hb2).1⟩
    · have em : Int.tmod (n1 : Int) 2 = 1 := by rw [Int.tmod_eq_emod_of_nonneg (by omega)]; omega
      have ed : Int.tdiv (n1 : Int) 2 = ((n1 / 2 : Nat) : Int) := by rw [Int.tdiv_eq_ediv_of_nonneg (by omega)]; omega
      obtain ⟨h, hh⟩ : ∃ h, h = n1 / 2 := ⟨_, rfl⟩
      rw [← hh] at ed
      have hxh : xs.length / 2 = h := by omega
      have hodd : xs.length % 2 = 1 := by omega
      have hhb : h ≤ 1099511627776 := by omega
      have hhx := hxh
      cases hsz : inB ((xs.length / 2 : Nat) : Int) 1 4 with
      | false =>
        have HQ := Lib.hid (ctx_n (s := s) (t := t) (rs := rs) (st := st) hsz)
        rw [hxh] at hsz
        have HS := Lib.hid hsz
        have HA := HS
        have HI := HS
        clear hm hl hp hsz hxh hodd hh hhx
        go_enter Try.func57, Try.ntmps57
        go_wp2_with fail
        refine (ValidMachine_any _ s t A n c rs hrb hn).mono ?_
        rw [HM.out]
        rintro e w2 ⟨rfl, hb2⟩
        have hz2 := blk_bel HBX.out hb2
        clear z0 z1 z2
        have z0 := blk_cell hz2 0 rfl
        have z1 := blk_cell hz2 1 rfl
        have z2 := blk_cell hz2 2 rfl
        clear hz2
        go_wp2_with (first
                  | (go_at_call 108; go_must (refine (sizeI_any _ _ _ _).mono ?_; rintro e w' ⟨rfl, rfl⟩))
                  | (go_at_call 67; go_must (refine (contextSizeOk_any _ _).mono ?_; rw [HS.out]; rintro e w' ⟨rfl, rfl⟩))
                  | (go_at_call 77; go_must (refine (allWithin_any _ _ _ _ xs (HR1.out _ (box_step hb2).1) hn1 _ _).mono ?_; rw [HA.out]; rintro e w' ⟨rfl, rfl⟩))
                  | (go_at_call 109; go_must (refine (within_any _ _ _ _).mono ?_; rw [HI.out]; rintro e w' ⟨rfl, rfl⟩)))
        go_ret
        exact ⟨by rw [HQ.out]; rfl, (box_step hb2).1⟩
      | true =>
        cases hal : allIn xs 0 (s - 1) with
        | false =>
          have HQ := Lib.hid (ctx_a (t := t) (rs := rs) (st := st) hal)
          rw [hxh] at hsz
          have HS := Lib.hid hsz
          have HA := Lib.hid hal
          have HI := HS
          clear hm hl hp hsz hxh hodd hh hhx hal
          go_enter Try.func57, Try.ntmps57
          go_wp2_with fail
          refine (ValidMachine_any _ s t A n c rs hrb hn).mono ?_
          rw [HM.out]
          rintro e w2 ⟨rfl, hb2⟩
          have hz2 := blk_bel HBX.out hb2
          clear z0 z1 z2
          have z0 := blk_cell hz2 0 rfl
          have z1 := blk_cell hz2 1 rfl
          have z2 := blk_cell hz2 2 rfl
          clear hz2
          go_wp2_with (first
                    | (go_at_call 108; go_must (refine (sizeI_any _ _ _ _).mono ?_; rintro e w' ⟨rfl, rfl⟩))
                    | (go_at_call 67; go_must (refine (contextSizeOk_any _ _).mono ?_; rw [HS.out]; rintro e w' ⟨rfl, rfl⟩))
                    | (go_at_call 77; go_must (refine (allWithin_any _ _ _ _ xs (HR1.out _ (box_step hb2).1) hn1 _ _).mono ?_; rw [HA.out]; rintro e w' ⟨rfl, rfl⟩))
                    | (go_at_call 109; go_must (refine (within_any _ _ _ _).mono ?_; rw [HI.out]; rintro e w' ⟨rfl, rfl⟩)))
          go_ret
          exact ⟨by rw [HQ.out]; rfl, (box_step hb2).1⟩
        | true =>
          cases hst : inB st 0 (t - 1) with
          | false =>
            have HQ := Lib.hid (ctx_s hm hodd hsz hal hst)
            rw [hxh] at hsz
            have HS := Lib.hid hsz
            have HA := Lib.hid hal
            have HI := Lib.hid hst
            clear hm hl hp hsz hxh hodd hh hhx hal hst
            go_enter Try.func57, Try.ntmps57
            go_wp2_with fail
            refine (ValidMachine_any _ s t A n c rs hrb hn).mono ?_
            rw [HM.out]
            rintro e w2 ⟨rfl, hb2⟩
            have hz2 := blk_bel HBX.out hb2
            clear z0 z1 z2
            have z0 := blk_cell hz2 0 rfl
            have z1 := blk_cell hz2 1 rfl
            have z2 := blk_cell hz2 2 rfl
            clear hz2
            go_wp2_with (first
                      | (go_at_call 108; go_must (refine (sizeI_any _ _ _ _).mono ?_; rintro e w' ⟨rfl, rfl⟩))
                      | (go_at_call 67; go_must (refine (contextSizeOk_any _ _).mono ?_; rw [HS.out]; rintro e w' ⟨rfl, rfl⟩))
                      | (go_at_call 77; go_must (refine (allWithin_any _ _ _ _ xs (HR1.out _ (box_step hb2).1) hn1 _ _).mono ?_; rw [HA.out]; rintro e w' ⟨rfl, rfl⟩))
                      | (go_at_call 109; go_must (refine (within_any _ _ _ _).mono ?_; rw [HI.out]; rintro e w' ⟨rfl, rfl⟩)))
            go_ret
            exact ⟨by rw [HQ.out]; rfl, (box_step hb2).1⟩
          | true =>
            have HQ := Lib.hid (ctx_ok hm hodd hsz hal hst)
            rw [hxh] at hsz
            have HS := Lib.hid hsz
            have HA := Lib.hid hal
            have HI := Lib.hid hst
            clear hm hl hp hsz hxh hodd hh hhx hal hst
            go_enter Try.func57, Try.ntmps57
            go_wp2_with fail
            refine (ValidMachine_any _ s t A n c rs hrb hn).mono ?_
            rw [HM.out]
            rintro e w2 ⟨rfl, hb2⟩
            have hz2 := blk_bel HBX.out hb2
            clear z0 z1 z2
            have z0 := blk_cell hz2 0 rfl
            have z1 := blk_cell hz2 1 rfl
            have z2 := blk_cell hz2 2 rfl
            clear hz2
            go_wp2_with (first
                      | (go_at_call 108; go_must (refine (sizeI_any _ _ _ _).mono ?_; rintro e w' ⟨rfl, rfl⟩))
                      | (go_at_call 67; go_must (refine (contextSizeOk_any _ _).mono ?_; rw [HS.out]; rintro e w' ⟨rfl, rfl⟩))
                      | (go_at_call 77; go_must (refine (allWithin_any _ _ _ _ xs (HR1.out _ (box_step hb2).1) hn1 _ _).mono ?_; rw [HA.out]; rintro e w' ⟨rfl, rfl⟩))
                      | (go_at_call 109; go_must (refine (within_any _ _ _ _).mono ?_; rw [HI.out]; rintro e w' ⟨rfl, rfl⟩)))
            go_ret
            exact ⟨by rw [HQ.out]; rfl, (box_step hb2).1⟩
end Go.Proofs.Ytjgajjcgapifoaa
