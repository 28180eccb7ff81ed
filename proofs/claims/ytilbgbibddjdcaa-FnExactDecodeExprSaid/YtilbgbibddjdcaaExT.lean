/- CodeExpr: the reference's function. -/
import Derived.Test.YtilbgbibddjdcaaExS
namespace Go.Proofs.Ytilbgbibddjdcaa
open Go.RowKit
set_option linter.unusedVariables false
set_option linter.unusedSimpArgs false
set_option maxHeartbeats 400000 in
theorem l21Fits_any (w : World) (A : Option Addr) (n c : Nat) (hn : n ≤ 2000) : Calls Try.prog 77 #[.slice A n c] w fun e w' => e = .returned (.tuple #[.slice A n c, .int .i64 0]) ∧ w = w' := by
  go_enter Try.func77, Try.ntmps77
  go_wp2_with fail
  go_ret2
  exact ⟨rfl, rfl⟩
set_option maxHeartbeats 2000000 in
theorem specCodeExpr_any (w : World) (A : Option Addr) (n c : Nat) (es : List El) (hr : RdE w A n es) (hn : n ≤ 1000000000) : Calls Try.prog 29 #[.slice A n c] w (RetSI w 4 (bools (cexL es)) (cexC es)) := by
  cases hv : wfE es with
  | false =>
    have HQ := Lib.hid (cex_bad hv)
    have HV := Lib.hid hv
    clear hv
    go_enter Try.func29, Try.ntmps29
    go_wp2_with (go_at_call 75; go_must (refine (l22Expr_any _ _ _ _ _ hr hn).mono ?_; rw [HV.out]; rintro e w2 ⟨rfl, rfl⟩))
    go_ret2
    rw [HQ.out.1, HQ.out.2]
    exact ⟨none, 0, 0, rfl, own_nil _ _ _, Below.refl _ _⟩
  | true =>
    have HV := Lib.hid hv
    obtain ⟨x, rfl, hg, hl, ho⟩ := wfE_ex hv
    have hn40 : n ≤ 40 := by have := rdE_len hr; omega
    cases hz : only0 x.els with
    | false =>
      have HQ := Lib.hid (cex_var hv hz)
      have HZ := Lib.hid hz
      clear hv hz
      go_enter Try.func29, Try.ntmps29
      go_wp2_with (first
        | (go_at_call 75; go_must (refine (l22Expr_any _ _ _ _ _ hr hn).mono ?_; rw [HV.out]; rintro e w2 ⟨rfl, rfl⟩))
        | (go_at_call 76; go_must (refine (l23Only_any _ _ _ _ _ hr hn).mono ?_; rw [HZ.out]; rintro e w3 ⟨rfl, rfl⟩)))
      go_ret2
      rw [HQ.out.1, HQ.out.2]
      exact ⟨none, 0, 0, rfl, own_nil _ _ _, Below.refl _ _⟩
    | true =>
      have HQ := Lib.hid (cex_ok hg hv hz hl)
      have HZ := Lib.hid hz
      have HG := Lib.hid hg
      have HO := Lib.hid ho
      have hnd := code_nd x hl
      clear hv hz hg ho
      go_enter Try.func29, Try.ntmps29
      go_wp2_with (first
        | (go_at_call 75; go_must (refine (l22Expr_any _ _ _ _ _ hr hn).mono ?_; rw [HV.out]; rintro e w2 ⟨rfl, rfl⟩))
        | (go_at_call 76; go_must (refine (l23Only_any _ _ _ _ _ hr hn).mono ?_; rw [HZ.out]; rintro e w3 ⟨rfl, rfl⟩)))
      refine (l23Code_any _ _ _ _ x HG.out HO.out hr hn40).mono ?_
      rintro e w4 ⟨A4, n4, c4, rfl, ho4, hb4⟩
      have hn4 : n4 ≤ 2000 := by have h1 := ho4.1; simp [Tr.bits_len] at h1; omega
      go_wp2_with fail
      refine (l21Fits_any _ _ _ _ hn4).mono ?_
      rintro e w5 ⟨rfl, rfl⟩
      go_wp2_with fail
      go_ret2
      rw [HQ.out.1, HQ.out.2]
      exact ⟨A4, n4, c4, rfl, ho4, hb4⟩
theorem cexL_len (es : List El) : (cexL es).length ≤ 1000000 := by
  unfold cexL
  split
  · rename_i h
    rw [Tr.bits_len]
    omega
  · simp
end Go.Proofs.Ytilbgbibddjdcaa
