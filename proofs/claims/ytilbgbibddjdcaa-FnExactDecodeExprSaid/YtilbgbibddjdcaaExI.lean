/- ValidExpr: the program's function. -/
import Derived.Test.YtilbgbibddjdcaaExV
namespace Go.Proofs.Ytilbgbibddjdcaa
open Go.RowKit
set_option linter.unusedVariables false
set_option linter.unusedSimpArgs false
theorem wfE_scan {es : List El} (hl : 1 ≤ es.length ∧ es.length ≤ 40) (hall : es.all okEl = true) : wfE es = (endE es 0 == (es.length : Int)) := by
  simp only [wfE, hl, hall, endE_whole, and_self, decide_true, Bool.true_and]
set_option maxHeartbeats 4000000 in
set_option maxRecDepth 100000 in
theorem ValidExpr_any (w : World) (A : Option Addr) (n c : Nat) (es : List El) (hr : RdE w A n es) (hn : n ≤ 1000000000) : Calls Try.prog 80 #[.slice A n c] w (RetV w (.bool (wfE es))) := by
  have HL : Hid (es.length = n) := Lib.hid (rdE_len hr)
  cases h40 : inB n 1 40 with
  | false =>
    have HI := Lib.hid h40
    have HW := Lib.hid (wfE_len (es := es) (by have := inB_false.1 h40; rw [HL.out]; omega))
    clear h40
    go_enter Try.func80, Try.ntmps80
    go_wp2_with (first
      | (go_at_call 117; go_must (refine (sizeE_any _ _ _ _).mono ?_; rintro e w' ⟨rfl, rfl⟩))
      | (go_at_call 62; go_must (refine (within_any _ _ _ _).mono ?_; rw [HI.out]; rintro e w' ⟨rfl, rfl⟩)))
    go_ret
    exact ⟨by rw [HW.out]; rfl, Below.refl _ _⟩
  | true =>
    have HI := Lib.hid h40
    have HI2 := Lib.hid (inB_true.1 h40)
    clear h40
    go_enter Try.func80, Try.ntmps80
    go_wp2_with (first
      | (go_at_call 117; go_must (refine (sizeE_any _ _ _ _).mono ?_; rintro e w' ⟨rfl, rfl⟩))
      | (go_at_call 62; go_must (refine (within_any _ _ _ _).mono ?_; rw [HI.out]; rintro e w' ⟨rfl, rfl⟩)))
    go_loopw [11] (fun q wr => ∃ k : Nat, k ≤ n ∧ q = .int .i64 k ∧ Hid ((es.take k).all okEl = true) ∧ Below w.heap.size w wr) (fun q _ => n - (intOf q).toNat)
    case atStart => exact ⟨0, by omega, rfl, Lib.hid (by simp), Below.refl _ _⟩
    case round =>
      obtain ⟨k, hk, rfl, HA, hb⟩ := hrel
      by_cases hlt : k < n
      · have hlt' : (k : Int) < (n : Int) := by omega
        obtain ⟨x, hx⟩ := get_some (xs := es) (k := k) (by rw [HL.out]; exact hlt)
        obtain ⟨b, off, rfl, hbs, q0, q1⟩ := rdE hr hx
        replace q0 := (hb.cell (p := ⟨b, off + k * 2, none⟩) hbs).trans q0
        replace q1 := (hb.cell (p := ⟨b, off + k * 2 + 1, none⟩) hbs).trans q1
        have HX := Lib.hid hx
        obtain ⟨x1, x2⟩ := x
        clear hx
        simp only at q0 q1
        have hB1 := hb.trans ((below_new wr (.cells #[.int .i64 x1, .int .i64 x2] 89)).mono hb.size)
        have hz := box_new wr #[.int .i64 x1, .int .i64 x2] 89
        have z0 := blk_cell hz 0 rfl
        have z1 := blk_cell hz 1 rfl
        clear hz
        cases hk5 : inB x1 0 5 with
        | false =>
          have HK := Lib.hid hk5
          have HW := Lib.hid (wfE_bad HX.out (okEl_kind hk5))
          clear hk5
          go_wp2_with (go_at_call 62; go_must (refine (within_any _ _ _ _).mono ?_; rw [HK.out]; rintro e w' ⟨rfl, rfl⟩))
          go_ret
          exact ⟨by rw [HW.out]; rfl, hB1⟩
        | true =>
          have HK := Lib.hid hk5
          clear hk5
          cases hv5 : inB x2 0 5 with
          | false =>
            have HV := Lib.hid hv5
            have HW := Lib.hid (wfE_bad HX.out (show okEl (x1, x2) = false by simp [okEl, hv5]))
            clear hv5
            go_wp2_with (first
              | (go_at_call 62; go_must (refine (within_any _ _ _ _).mono ?_; rw [HK.out]; rintro e w' ⟨rfl, rfl⟩))
              | (go_at_call 118; go_must (refine (isWhileVariable_any _ _).mono ?_; rw [HV.out]; rintro e w' ⟨rfl, rfl⟩)))
            go_ret
            exact ⟨by rw [HW.out]; rfl, hB1⟩
          | true =>
            have HV := Lib.hid hv5
            clear hv5
            by_cases h1 : x1 = 1
            · subst h1
              have HO := Lib.hid (okEl_one HV.out)
              go_wp2_with (first
                | (go_at_call 62; go_must (refine (within_any _ _ _ _).mono ?_; rw [HK.out]; rintro e w' ⟨rfl, rfl⟩))
                | (go_at_call 118; go_must (refine (isWhileVariable_any _ _).mono ?_; rw [HV.out]; rintro e w' ⟨rfl, rfl⟩)))
              go_roundw
              case rel => exact ⟨k + 1, by omega, by go_num, Lib.hid (all_step HA.out HX.out HO.out), hB1⟩
              case measure => simp [intOf]; omega
            · have b1 : (x1 == 1) = false := by simpa using h1
              have b1' : (x1 != 1) = true := by simpa using h1
              have b1'' : decide (x1 = 1) = false := by simpa using h1
              by_cases h2 : x2 = 0
              · subst h2
                have HO := Lib.hid (okEl_zero HK.out)
                go_wp2_with (first
                  | (go_at_call 62; go_must (refine (within_any _ _ _ _).mono ?_; rw [HK.out]; rintro e w' ⟨rfl, rfl⟩))
                  | (go_at_call 118; go_must (refine (isWhileVariable_any _ _).mono ?_; rw [HV.out]; rintro e w' ⟨rfl, rfl⟩)))
                go_roundw
                case rel => exact ⟨k + 1, by omega, by go_num, Lib.hid (all_step HA.out HX.out HO.out), hB1⟩
                case measure => simp [intOf]; omega
              · have b2 : (x2 == 0) = false := by simpa using h2
                have b2' : (x2 != 0) = true := by simpa using h2
                have HW := Lib.hid (wfE_bad HX.out (okEl_oth h1 h2))
                go_wp2_with (first
                  | (go_at_call 62; go_must (refine (within_any _ _ _ _).mono ?_; rw [HK.out]; rintro e w' ⟨rfl, rfl⟩))
                  | (go_at_call 118; go_must (refine (isWhileVariable_any _ _).mono ?_; rw [HV.out]; rintro e w' ⟨rfl, rfl⟩)))
                go_ret
                exact ⟨by rw [HW.out]; rfl, hB1⟩
      · obtain rfl : k = n := by omega
        have HW := Lib.hid (wfE_scan (es := es) (by rw [HL.out]; have := HI2.out; omega) (by have := HA.out; rwa [List.take_of_length_le (by rw [HL.out]; omega)] at this))
        have hr' := hr.below hb (Nat.le_refl _)
        go_wp2_with fail
        refine (termEndE_any _ _ _ _ _ hr' hn 0 (by omega)).mono ?_
        rintro e w2 ⟨rfl, hb2⟩
        generalize endE es 0 = q at HW
        go_wp2_with fail
        go_ret
        exact ⟨by rw [HW.out, HL.out]; rfl, hb.trans (hb2.mono hb.size)⟩
end Go.Proofs.Ytilbgbibddjdcaa
