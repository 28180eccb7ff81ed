/- A run of a program of registers (program). -/
import Derived.Test.YtgnboemmlohahaaRrT
namespace Go.Proofs.Ytgnboemmlohahaa
open Go.RowKit
set_option linter.unusedVariables false
set_option linter.unusedSimpArgs false
attribute [local go_sem ↓] Go.wp_at_zero Go.wp_at_succ
set_option maxHeartbeats 400000 in
theorem sizeP_any (w : World) (A : Option Addr) (n c : Nat) : Calls Try.prog 21 #[.slice A n c] w fun e w' => e = .returned (.int .i64 n) ∧ w = w' := by
  go_enter Try.func21, Try.ntmps21
  go_wp2_with fail
  go_ret
  exact ⟨rfl, rfl⟩
set_option maxHeartbeats 400000 in
theorem visNone_any (w : World) (v : Value) (hv : ∃ a b, v = .agg #[a, b]) : Calls Try.prog 26 #[v] w fun e w' => e = .returned (.tuple #[]) ∧ Below w.heap.size w w' := by
  obtain ⟨a, b, rfl⟩ := hv
  go_enter Try.func26, Try.ntmps26
  go_wp2_with fail
  go_end0
  exact ⟨rfl, below_new _ _⟩
/-- What a run leaves. -/
def RunQ (w : World) (lo gx gc c : Nat) (p : List Ins) (x : Sto) (most : Nat) (e : Ending) (w' : World) : Prop :=
  ∃ k : Nat, k ≤ most ∧ (∀ j, j < k → (itS p x j).at_ ≠ (p.length : Int)) ∧ ((itS p x k).at_ = (p.length : Int) ∨ k = most) ∧ e = .returned (.tuple #[.int .i64 (k : Int), .bool ((itS p x k).at_ == (p.length : Int)), .int .i64 0]) ∧ SB w' lo gx gc c (itS p x k) ∧ Ch (fun q => q = gx ∨ q = gc) w w'
set_option maxHeartbeats 4000000 in
set_option maxRecDepth 100000 in
theorem runStore_any (w0 w : World) (hb0 : Below w0.heap.size w0 w) (A : Option Addr) (n cp : Nat) (p : List Ins) (hr : Rd w0 A (n * 4) (ints (flatI p))) (hok : okProg p = true) (gx gc c : Nat) (x : Sto) (hs : SB w w0.heap.size gx gc c x) (b : Int) (hg : GoodS p.length b x) (most : Nat) (hm : most ≤ 20000) (hb : 0 ≤ b ∧ b ≤ 900000) :
    Calls Try.prog 25 #[.slice A n cp, .pointer (some ⟨gx, 0, none⟩), .int .i64 (most : Int), .func (.func 26) #[] #[]] w (RunQ w w0.heap.size gx gc c p x most) := by
  have HPL : Hid (p.length = n) := Lib.hid (by have h3 := hr.1; simp only [List.length_map, flatI_len] at h3; omega)
  have HR := Lib.hid hr; have HOK := Lib.hid hok; have HG := Lib.hid hg; have HS := Lib.hid hs; have HB0 := Lib.hid hb0
  clear hr hok hg hs hb0
  go_enter Try.func25, Try.ntmps25
  go_wp2_with fail
  go_loopw [11] (fun q wr => ∃ k : Nat, k ≤ most ∧ q = .int .i64 k ∧ Hid (∀ j, j < k → (itS p x j).at_ ≠ (p.length : Int)) ∧ Hid (SB wr w0.heap.size gx gc c (itS p x k)) ∧ Hid (Ch (fun q => q = gx ∨ q = gc) w wr)) (fun q _ => most + 1 - (intOf q).toNat)
  case atStart => exact ⟨0, Nat.zero_le _, by go_num, Lib.hid (fun j hj => by omega), Lib.hid HS.out, Lib.hid (Ch.refl _ _)⟩
  case round =>
    as_aux_lemma =>
    obtain ⟨k, hk, rfl, HN, HSK, HC⟩ := hrel
    obtain ⟨wa, rfl⟩ : ∃ v, v = wr := ⟨_, rfl⟩
    have HGK := Lib.hid (it_good HOK.out HG.out hb.1 k)
    obtain ⟨y, hy⟩ : ∃ y, y = itS p x k := ⟨_, rfl⟩
    have HY := Lib.hid hy
    rw [← hy] at HSK HGK
    clear hy
    have x0 := blk_cell HSK.out.box 0 rfl
    have x1 := blk_cell HSK.out.box 1 rfl
    obtain ⟨at_, cs⟩ := y
    go_upto_region 4 with (go_at_call 26; refine (visNone_any _ _ ⟨_, _, rfl⟩).mono ?_; rintro e w2 ⟨rfl, hb2⟩
                           have HB2 := Lib.hid hb2
                           clear hb2 x0 x1)
    have HS2 := Lib.hid (HSK.out.below HB2.out)
    have x0 := blk_cell HS2.out.box 0 rfl
    simp only at x0
    have HLI := HGK.out.hi; have HLL := HGK.out.lo
    simp only at HLI HLL
    rw [HPL.out] at HLI
    have HCW : Hid (Ch (fun q => q = gx ∨ q = gc) w w2) := Lib.hid (HC.out.trans (ch_below HB2.out))
    by_cases ha : at_ = (n : Int)
    · as_aux_lemma =>
      have hc1 : (at_ == (n : Int)) = true := by rw [ha]; simp
      have HA := Lib.hid ha
      clear ha
      go_wp2_with fail
      go_quiet (first | (go_at_call 21; exact Calls.quiet_of_same ((sizeP_any _ _ _ _).mono fun e w' h => ⟨h.1, h.2.symm⟩)))
      obtain ⟨w3, hw3⟩ : ∃ w3, w3 = w2.drewN nq := ⟨_, rfl⟩
      have hb3 : Below w2.heap.size w2 w3 := by rw [hw3]; exact below_drewN (Below.refl _ _)
      rw [← hw3]
      clear hw3 x0
      have x0 := blk_cell (HS2.out.below hb3).box 0 rfl
      simp only at x0
      have HB3 := Lib.hid hb3
      clear hb3
      go_wp2_with fail
      go_quiet (first | (go_at_call 21; exact Calls.quiet_of_same ((sizeP_any _ _ _ _).mono fun e w' h => ⟨h.1, h.2.symm⟩)))
      go_wp2_with fail
      refine bodyPost_ret (v := .tuple #[.int .i64 (k : Int), .bool true, .int .i64 0]) (by simp [results, Try.results25, go_sem]) rfl ?_
      exact ⟨k, hk, HN.out, .inl (by rw [← HY.out, HPL.out]; exact HA.out), by rw [← HY.out, HPL.out]; simp [hc1], by rw [← HY.out]; exact HS2.out.below (below_drewN HB3.out), ch_drewN (HCW.out.trans (ch_below HB3.out))⟩
    · as_aux_lemma =>
      have hc1 : (at_ == (n : Int)) = false := by rw [beq_eq_false_iff_ne]; exact ha
      have HA := Lib.hid ha
      clear ha
      by_cases hkm : k = most
      · as_aux_lemma =>
        have hc2 : ((k : Int) == (most : Int)) = true := by rw [hkm]; simp
        have HKM := Lib.hid hkm
        clear hkm
        go_wp2_with fail
        go_quiet (first | (go_at_call 21; exact Calls.quiet_of_same ((sizeP_any _ _ _ _).mono fun e w' h => ⟨h.1, h.2.symm⟩)))
        obtain ⟨w3, hw3⟩ : ∃ w3, w3 = w2.drewN nq := ⟨_, rfl⟩
        have hb3 : Below w2.heap.size w2 w3 := by rw [hw3]; exact below_drewN (Below.refl _ _)
        rw [← hw3]
        clear hw3 x0
        have x0 := blk_cell (HS2.out.below hb3).box 0 rfl
        simp only at x0
        have HB3 := Lib.hid hb3
        clear hb3
        go_wp2_with fail
        go_quiet (first | (go_at_call 21; exact Calls.quiet_of_same ((sizeP_any _ _ _ _).mono fun e w' h => ⟨h.1, h.2.symm⟩)))
        go_wp2_with fail
        refine bodyPost_ret (v := .tuple #[.int .i64 (k : Int), .bool false, .int .i64 0]) (by simp [results, Try.results25, go_sem]) rfl ?_
        exact ⟨k, hk, HN.out, .inr HKM.out, by rw [← HY.out, HPL.out]; simp [hc1], by rw [← HY.out]; exact HS2.out.below (below_drewN HB3.out), ch_drewN (HCW.out.trans (ch_below HB3.out))⟩
      · as_aux_lemma =>
        have hc2 : ((k : Int) == (most : Int)) = false := by rw [beq_eq_false_iff_ne]; omega
        have HKL : Hid (k + 1 ≤ most) := Lib.hid (by omega)
        clear hkm
        have HST := Lib.hid (fun (w3 : World) (h3 : Below w2.heap.size w2 w3) => stepStore_any w0 w3 (below_ch (HB0.out) (HCW.out.trans (ch_below h3)) (fun q e => by
          have h5 := HS2.out.l1; have h6 := HS2.out.gc.1.1
          rcases e with e | e <;> omega) HB0.out.size) A n cp p HR.out HOK.out gx gc c ⟨at_, cs⟩ (HS2.out.below h3) _ HGK.out (by omega) (by rw [HPL.out]; exact HA.out))
        go_wp2_with fail
        go_quiet (first | (go_at_call 21; exact Calls.quiet_of_same ((sizeP_any _ _ _ _).mono fun e w' h => ⟨h.1, h.2.symm⟩)))
        have HST3 := Lib.hid (HST.out (w2.drewN nq) (below_drewN (Below.refl _ _)))
        go_wp2_with (go_at_call 40; refine HST3.out.mono ?_; rintro e w4 ⟨rfl, hs4, hc4⟩
                     have HS4 := Lib.hid hs4; have HC4 := Lib.hid hc4
                     clear hs4 hc4)
        go_roundw
        case rel => exact ⟨k + 1, HKL.out, by go_num, Lib.hid (fun j hj => by
          by_cases h5 : j < k
          · exact HN.out j h5
          · have h6 : j = k := by omega
            rw [h6, ← HY.out, HPL.out]
            exact HA.out), Lib.hid (by
          have h5 : itS p x (k + 1) = stepS p ⟨at_, cs⟩ := by show stepS p (itS p x k) = _; rw [← HY.out]
          rw [h5]; exact HS4.out), Lib.hid ((ch_drewN HCW.out).trans HC4.out)⟩
        case measure => have := HKL.out; simp [intOf]; omega
end Go.Proofs.Ytgnboemmlohahaa
