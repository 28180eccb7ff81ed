/- Expressions: the walks of both sides' tests. -/
import Derived.Test.YtilbgbibddjdcaaElM
namespace Go.Proofs.Ytilbgbibddjdcaa
open Go.RowKit
set_option linter.unusedVariables false
set_option linter.unusedSimpArgs false

set_option maxHeartbeats 800000 in
theorem exprFollow_any (w : World) (k v : Int) : Calls Try.prog 120 #[.agg #[.int .i64 k, .int .i64 v]] w fun e w' => e = .returned (.int .i64 (fol (k, v))) ∧ Below w.heap.size w w' := by
  by_cases h3 : k = 3
  · subst h3
    go_enter Try.func120, Try.ntmps120
    go_wp2_with fail
    go_ret
    exact ⟨rfl, below_new _ _⟩
  by_cases h4 : k = 4
  · subst h4
    go_enter Try.func120, Try.ntmps120
    go_wp2_with fail
    go_ret
    exact ⟨rfl, below_new _ _⟩
  by_cases h2 : k = 2
  · subst h2
    go_enter Try.func120, Try.ntmps120
    go_wp2_with fail
    go_ret
    exact ⟨rfl, below_new _ _⟩
  by_cases h5 : k = 5
  · subst h5
    go_enter Try.func120, Try.ntmps120
    go_wp2_with fail
    go_ret
    exact ⟨rfl, below_new _ _⟩
  have HF : Hid (fol (k, v) = 0) := Lib.hid (by simp [fol, h2, h3, h4, h5])
  have b2 : (k == 2) = false := by simpa using h2
  have b3 : (k == 3) = false := by simpa using h3
  have b4 : (k == 4) = false := by simpa using h4
  have b5 : (k == 5) = false := by simpa using h5
  clear h2 h3 h4 h5
  go_enter Try.func120, Try.ntmps120
  go_wp2_with fail
  go_ret
  exact ⟨by rw [HF.out]; rfl, below_new _ _⟩
set_option maxHeartbeats 800000 in
theorem l22Many_any (w : World) (k v : Int) : Calls Try.prog 112 #[.int .i64 k] w fun e w' => e = .returned (.int .i64 (fol (k, v))) ∧ w = w' := by
  by_cases h3 : k = 3
  · subst h3
    go_enter Try.func112, Try.ntmps112
    go_wp2_with fail
    go_ret
    exact ⟨rfl, rfl⟩
  by_cases h4 : k = 4
  · subst h4
    go_enter Try.func112, Try.ntmps112
    go_wp2_with fail
    go_ret
    exact ⟨rfl, rfl⟩
  by_cases h2 : k = 2
  · subst h2
    go_enter Try.func112, Try.ntmps112
    go_wp2_with fail
    go_ret
    exact ⟨rfl, rfl⟩
  by_cases h5 : k = 5
  · subst h5
    go_enter Try.func112, Try.ntmps112
    go_wp2_with fail
    go_ret
    exact ⟨rfl, rfl⟩
  have HF : Hid (fol (k, v) = 0) := Lib.hid (by simp [fol, h2, h3, h4, h5])
  have b2 : (k == 2) = false := by simpa using h2
  have b3 : (k == 3) = false := by simpa using h3
  have b4 : (k == 4) = false := by simpa using h4
  have b5 : (k == 5) = false := by simpa using h5
  clear h2 h3 h4 h5
  go_enter Try.func112, Try.ntmps112
  go_wp2_with fail
  go_ret
  exact ⟨by rw [HF.out]; rfl, rfl⟩
set_option maxHeartbeats 400000 in
theorem isWhileVariable_any (w : World) (v : Int) : Calls Try.prog 118 #[.int .i64 v] w fun e w' => e = .returned (.bool (inB v 0 5)) ∧ w = w' := by
  go_enter Try.func118, Try.ntmps118
  go_wp2_with (go_at_call 62; refine (within_any _ _ _ _).mono ?_; rintro e w' ⟨rfl, rfl⟩)
  go_ret
  exact ⟨rfl, rfl⟩
set_option maxHeartbeats 400000 in
theorem sizeE_any (w : World) (A : Option Addr) (n c : Nat) : Calls Try.prog 117 #[.slice A n c] w fun e w' => e = .returned (.int .i64 n) ∧ w = w' := by
  go_enter Try.func117, Try.ntmps117
  go_wp2_with fail
  go_ret
  exact ⟨rfl, rfl⟩
set_option maxHeartbeats 1600000 in
theorem termEndE_any (w : World) (A : Option Addr) (n c : Nat) (es : List El) (hr : RdE w A n es) (hn : n ≤ 1000000000) (k0 : Nat) (hk0 : k0 ≤ n) :
    Calls Try.prog 119 #[.slice A n c, .int .i64 k0, .func (.func 120) #[] #[]] w (RetV w (.int .i64 (endE es k0))) := by
  have HL : Hid (es.length = n) := Lib.hid (rdE_len hr)
  go_enter Try.func119, Try.ntmps119
  go_wp2_with fail
  go_loopw [1, 7] (fun q o wr => ∃ k m : Nat, k ≤ n ∧ m ≤ 2 * k + 1 ∧ q = .int .i64 k ∧ o = .int .i64 m ∧ Hid (scanE (es.drop k0) 1 = scanE (es.drop k) m) ∧ Below w.heap.size w wr) (fun q _ _ => n + 1 - (intOf q).toNat)
  case atStart => exact ⟨k0, 1, hk0, by omega, rfl, rfl, Lib.hid rfl, Below.refl _ _⟩
  case round =>
    obtain ⟨k, m, hk, hm, rfl, rfl, HS, hb⟩ := hrel
    rcases m with _ | m
    · have HE := Lib.hid (endE_some (es := es) (k := k0) (j := k) (by rw [HS.out]; cases es.drop k <;> rfl) (by rw [HL.out]; exact hk))
      go_wp2_with fail
      go_ret
      exact ⟨by rw [HE.out]; rfl, hb⟩
    · have hm1 : (0 : Int) < (m : Int) + 1 := by omega
      by_cases hkn : k = n
      · subst hkn
        have HE := Lib.hid (endE_none (es := es) (k := k0) (by rw [HS.out, List.drop_of_length_le (by rw [HL.out]; omega)]; rfl))
        go_wp2_with fail
        go_ret
        exact ⟨by rw [HE.out]; rfl, hb⟩
      · have hlt : k < n := by omega
        obtain ⟨x, hx⟩ := get_some (xs := es) (k := k) (by rw [HL.out]; exact hlt)
        obtain ⟨blk, off, rfl, hbs, q0, q1⟩ := rdE hr hx
        replace q0 := (hb.cell (p := ⟨blk, off + k * 2, none⟩) hbs).trans q0
        replace q1 := (hb.cell (p := ⟨blk, off + k * 2 + 1, none⟩) hbs).trans q1
        have HG := Lib.hid (scanE_step (m := m) hx)
        have hf := fol_le x
        obtain ⟨x1, x2⟩ := x
        clear hx hkn
        generalize hfx : fol (x1, x2) = f at HG hf
        have HFX := Lib.hid hfx
        clear hfx
        go_wp2_with (go_at_call 120; go_must (refine (exprFollow_any _ _ _).mono ?_; rintro e w2 ⟨rfl, hb2⟩; rw [HFX.out]))
        go_roundw
        case rel => exact ⟨k + 1, m + f, by omega, by omega, by go_num, by go_num, Lib.hid (by rw [HS.out, HG.out]), hb.trans (hb2.mono hb.size)⟩
        case measure => simp [intOf]; omega
end Go.Proofs.Ytilbgbibddjdcaa
