/- CodeExpr: the program's function. -/
import Derived.Test.YtilbgbibddjdcaaExD
namespace Go.Proofs.Ytilbgbibddjdcaa
open Go.RowKit
set_option linter.unusedVariables false
set_option linter.unusedSimpArgs false
theorem cex_bad {es : List El} (h : wfE es = false) : cexL es = [] ∧ cexC es = 1 := by simp [cexL, cexC, h]
theorem cex_var {es : List El} (h : wfE es = true) (h2 : only0 es = false) : cexL es = [] ∧ cexC es = 2 := by simp [cexL, cexC, h, h2]
theorem cex_ok {x : Ex} (hg : x.good) (h : wfE x.els = true) (h2 : only0 x.els = true) (hn : x.els.length ≤ 40) : cexL x.els = x.code.bits ∧ cexC x.els = 0 := by
  have h3 := code_nd x hn
  have h4 : x.code.nodes ≤ 2000 := by omega
  simp [cexL, cexC, h, h2, codeE_els hg, h4]
set_option maxHeartbeats 2000000 in
theorem implCodeExpr_any (w : World) (A : Option Addr) (n c : Nat) (es : List El) (hr : RdE w A n es) (hn : n ≤ 1000000000) (hnc : n ≤ c) : Calls Try.prog 31 #[.slice A n c] w (RetSI w 4 (bools (cexL es)) (cexC es)) := by
  cases hv : wfE es with
  | false =>
    have HQ := Lib.hid (cex_bad hv)
    have HV := Lib.hid hv
    clear hv
    go_enter Try.func31, Try.ntmps31
    go_wp2_with (go_at_call 80; go_must (refine (ValidExpr_any _ _ _ _ _ hr hn).mono ?_; rw [HV.out]; rintro e w2 ⟨rfl, hb2⟩))
    go_ret2
    rw [HQ.out.1, HQ.out.2]
    exact ⟨none, 0, 0, rfl, own_nil _ _ _, hb2⟩
  | true =>
    have HV := Lib.hid hv
    obtain ⟨x, rfl, hg, hl, ho⟩ := wfE_ex hv
    have hn40 : n ≤ 40 := by have := rdE_len hr; omega
    cases hz : only0 x.els with
    | false =>
      have HQ := Lib.hid (cex_var hv hz)
      have HZ := Lib.hid hz
      clear hv hz
      go_enter Try.func31, Try.ntmps31
      go_wp2_with (first
        | (go_at_call 80; go_must (refine (ValidExpr_any _ _ _ _ _ hr hn).mono ?_; rw [HV.out]; rintro e w2 ⟨rfl, hb2⟩))
        | (go_at_call 81; go_must (refine (onlyZero_any _ _ _ _ _ (hr.below hb2 (Nat.le_refl _)) hn).mono ?_; rw [HZ.out]; rintro e w3 ⟨rfl, hb3⟩)))
      go_ret2
      rw [HQ.out.1, HQ.out.2]
      exact ⟨none, 0, 0, rfl, own_nil _ _ _, hb2.trans (hb3.mono hb2.size)⟩
    | true =>
      have HQ := Lib.hid (cex_ok hg hv hz hl)
      have HZ := Lib.hid hz
      have HG := Lib.hid hg
      have HO := Lib.hid ho
      have hnd := code_nd x hl
      clear hv hz hg ho
      go_enter Try.func31, Try.ntmps31
      go_wp2_with (first
        | (go_at_call 80; go_must (refine (ValidExpr_any _ _ _ _ _ hr hn).mono ?_; rw [HV.out]; rintro e w2 ⟨rfl, hb2⟩))
        | (go_at_call 81; go_must (refine (onlyZero_any _ _ _ _ _ (hr.below hb2 (Nat.le_refl _)) hn).mono ?_; rw [HZ.out]; rintro e w3 ⟨rfl, hb3⟩)))
      have hB3 := hb2.trans (hb3.mono hb2.size)
      refine (codeOfExpr_any x _ _ _ _ HG.out HO.out (hr.below hB3 (Nat.le_refl _)) hn40 hnc).mono ?_
      rintro e w4 ⟨v4, rfl, h4, hb4⟩
      obtain ⟨o4, rfl⟩ := h4.isPtr
      have h2000 : x.code.nodes ≤ 2000 := by omega
      go_wp2_with fail
      refine (checked_any _ w3.heap.size _ _ h4 (by omega)).mono ?_
      rw [if_pos h2000, if_pos h2000]
      rintro e w5 ⟨A5, n5, c5, rfl, ho5, hb5⟩
      go_wp2_with fail
      go_ret2
      rw [HQ.out.1, HQ.out.2]
      exact ⟨A5, n5, c5, rfl, own_base ho5 (by have := hB3.size; have := hb4.size; omega), (hB3.trans (hb4.mono hB3.size)).trans (hb5.mono (by have := hB3.size; have := hb4.size; omega))⟩
end Go.Proofs.Ytilbgbibddjdcaa
