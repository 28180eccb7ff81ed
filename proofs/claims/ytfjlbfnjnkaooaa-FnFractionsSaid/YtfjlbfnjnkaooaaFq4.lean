/- Programs of fractions (program): runs. -/
import Derived.Test.YtfjlbfnjnkaooaaFq3
import Derived.Test.YtfjlbfnjnkaooaaAr2
namespace Go.Proofs.Ytfjlbfnjnkaooaa
open Go.RowKit Limb
set_option linter.unusedSimpArgs false
set_option linter.unusedVariables false
theorem pos_nat {w : World} {A : Option Addr} {n N : Nat} (hr : Rd w A n (ints (limbs N))) (h0 : 0 < N) : 0 < n := by
  have h1 : (limbs N).length = n := by simpa using hr.1
  have h2 := limbs_zero_iff h1
  rcases Nat.eq_zero_or_pos n with h3 | h3
  · have := h2.1 h3; omega
  · exact h3
set_option maxHeartbeats 400000 in
theorem isPositive_ok (w : World) (A : Option Addr) (n c N : Nat) (hr : Rd w A n (ints (limbs N))) (h0 : 0 < N) (h : (limbs N).length ≤ 40) : Calls Try.prog 34 #[.slice A n c] w fun e w' => e = .returned (.bool true) ∧ w = w' := by
  have hn := rd_len40 hr h
  have HY := Lib.hid (nat_limbs h)
  have hp : (0 : Int) < (n : Int) := by have := pos_nat hr h0; omega
  clear h
  go_enter Try.func34, Try.ntmps34
  go_wp2_with fail
  refine (isNatural_any _ _ _ _ _ hr (by omega)).mono ?_
  rw [HY.out]; rintro e w1 ⟨rfl, rfl⟩
  go_wp2_with fail
  go_ret
  have hgd : ∀ b : Bool, (b = true) → Ending.returned (.bool b) = Ending.returned (.bool true) := fun b h => by rw [h]
  exact ⟨hgd _ (by simp; omega), rfl⟩
theorem budgetOk_yes (w : World) (k : Int) (h1 : 1 ≤ k) (h2 : k ≤ 20000) : Calls Try.prog 35 #[.int .i64 k] w fun e w' => e = .returned (.bool true) ∧ w = w' := by
  have H : Hid (inB k 1 20000 = true) := Lib.hid (by simp [inB]; omega)
  go_enter Try.func35, Try.ntmps35
  go_wp2_with fail
  refine (within_any _ _ _ _).mono ?_
  rw [H.out]; rintro e w1 ⟨rfl, rfl⟩
  go_wp2_with fail
  go_ret
  exact ⟨rfl, rfl⟩
theorem runFr1_any (w : World) (v : Value) : Calls Try.prog 37 #[v] w fun e w' => e = .returned (.bool true) ∧ w = w' := by
  go_enter Try.func37, Try.ntmps37
  go_wp2_with fail
  go_ret
  exact ⟨rfl, rfl⟩
/-- What a run leaves. -/
def RunP (w : World) (fs : List Fr) (r N : Nat) (e : Ending) (w' : World) : Prop := ∃ (A : Option Addr) (n c : Nat), e = .returned (.tuple #[.slice A n c, .int .i64 ((runQ fs r N).2.1 : Int), .bool (runQ fs r N).2.2, .int .i64 0]) ∧ Rd w' A n (ints (limbs (runQ fs r N).1)) ∧ Below w.heap.size w w'
set_option maxHeartbeats 8000000 in
set_option maxRecDepth 100000 in
theorem runFractions_any (w : World) (A : Option Addr) (n c : Nat) (fs : List Fr) (hr : Rd w A (n * 2) (ints (flatF fs))) (h : OkFs fs) (A' : Option Addr) (n' c' N : Nat) (hr' : Rd w A' n' (ints (limbs N))) (r : Nat) (hr0 : r ≤ 40) (hbig : bigOk 41 N) :
    Calls Try.prog 36 #[.slice A n c, .slice A' n' c', .int .i64 (r : Int), .func (.func 37) #[] #[]] w (RunP w fs r N) := by
  have HOK := Lib.hid h
  have HR := Lib.hid hr; have HR' := Lib.hid hr'
  have HBIG := Lib.hid hbig
  have hn' := rd_len40 hr' hbig.len
  clear h hr hr' hbig
  go_enter Try.func36, Try.ntmps36
  go_wp2_with fail
  refine (clone_any _ _ _ _ _ HR'.out (by omega)).mono ?_
  rintro e w1 ⟨A1, n1, c1, rfl, ho1, hb1⟩
  have HO1 := Lib.hid (own_rd ho1); have HB1 := Lib.hid hb1
  clear ho1 hb1
  go_wp2_with fail
  go_loopw [1, 12] (fun p q wr => ∃ (s M : Nat) (A2 : Option Addr) (n2 c2 : Nat), p = .slice A2 n2 c2 ∧ q = .int .i64 s ∧ s ≤ r ∧ Rd wr A2 n2 (ints (limbs M)) ∧ Hid (bigOk (41 - s) M) ∧ Hid ((runQ fs r N).1 = (runQ fs (r - s) M).1 ∧ (runQ fs r N).2.1 = s + (runQ fs (r - s) M).2.1 ∧ (runQ fs r N).2.2 = (runQ fs (r - s) M).2.2) ∧ Below w.heap.size w wr) (fun _ q _ => r - (intOf q).toNat)
  case atStart => exact ⟨0, N, A1, n1, c1, rfl, rfl, Nat.zero_le _, HO1.out, HBIG, Lib.hid (by rw [Nat.sub_zero]; exact ⟨rfl, by omega, rfl⟩), HB1.out⟩
  case round =>
    obtain ⟨s, M, A2, n2, c2, rfl, rfl, hs, hr2, HBG, HQ, hb⟩ := hrel
    have HB := Lib.hid hb; have HR2 := Lib.hid hr2
    have hn2 : n2 ≤ 40 := rd_len40 hr2 HBG.out.len
    clear hb hr2 HO1 HB1
    go_wp2_with fail
    refine (stepFractions_any _ A n c fs (HR.out.below HB.out (Nat.le_refl _)) HOK.out A2 n2 c2 M HR2.out (by omega)).mono ?_
    rintro e w3 ⟨A3, n3, c3, rfl, hr3, hb3⟩
    have HB3 := Lib.hid (HB.out.trans (hb3.mono HB.out.size))
    have HR23 := Lib.hid (HR2.out.below hb3 (Nat.le_refl _))
    have HR3 := Lib.hid hr3
    clear hr3 hb3
    cases hst : stepQ fs M 0 with
    | none =>
      have HST := Lib.hid hst
      rw [show kOf none = (-1 : Int) from rfl]
      clear hst HR3
      go_wp2_with fail
      refine (runFr1_any _ _).mono ?_
      rintro e w4 ⟨rfl, rfl⟩
      go_wp2_with fail
      refine bodyPost_ret (v := .tuple #[.slice A2 n2 c2, .int .i64 (s : Int), .bool true, .int .i64 0]) (by simp [results, Try.results36, go_sem]) rfl ?_
      have hq := HQ.out
      rw [runQ_none _ HST.out] at hq
      obtain ⟨q1, q2, q3⟩ := hq
      exact ⟨A2, n2, c2, by rw [q2, q3]; rfl, by rw [q1]; exact HR23.out, HB3.out⟩
    | some p =>
      obtain ⟨M2, j⟩ := p
      have HST := Lib.hid hst
      have hj : (0 : Int) ≤ (j : Int) := by omega
      have hr3 := HR3.out
      rw [hst] at hr3
      have HR3' := Lib.hid (show Rd w3 A3 n3 (ints (limbs M2)) from hr3)
      rw [show kOf (some (M2, j)) = (j : Int) from rfl]
      generalize (j : Int) = jj at hj ⊢
      have hjd : decide (jj < 0) = false := decide_eq_false (by omega)
      clear hst HR3 hr3
      by_cases hsr : s = r
      · subst hsr
        go_wp2_with fail
        refine (runFr1_any _ _).mono ?_
        rintro e w4 ⟨rfl, rfl⟩
        go_wp2_with fail
        refine bodyPost_ret (v := .tuple #[.slice A2 n2 c2, .int .i64 (s : Int), .bool false, .int .i64 0]) (by simp [results, Try.results36, go_sem]) rfl ?_
        have hq := HQ.out
        rw [Nat.sub_self, runQ_zero HST.out] at hq
        obtain ⟨q1, q2, q3⟩ := hq
        exact ⟨A2, n2, c2, by rw [q2, q3]; rfl, by rw [q1]; exact HR23.out, HB3.out⟩
      · have hsr' : ((s : Int) == (r : Int)) = false := by simp; omega
        have HBG2 : Hid (bigOk (41 - (s + 1)) M2) := Lib.hid (by
          have h := HBG.out
          rw [show 41 - s = (41 - (s + 1)) + 1 by omega] at h
          exact h.step HOK.out.all HST.out)
        have hn3 : n3 ≤ 40 := rd_len40 HR3'.out HBG2.out.len
        have hsr2 : s + 1 ≤ r := by omega
        clear hsr
        go_wp2_with fail
        refine (runFr1_any _ _).mono ?_
        rintro e w4 ⟨rfl, rfl⟩
        go_wp2_with fail
        go_roundw
        case rel => exact ⟨s + 1, M2, A3, n3, c3, rfl, by go_num, hsr2, HR3'.out, HBG2, Lib.hid (by
          have hq := HQ.out
          rw [show r - s = (r - (s + 1)) + 1 by omega, runQ_step _ HST.out] at hq
          exact ⟨hq.1, by have := hq.2.1; simp only at this; omega, hq.2.2⟩), HB3.out⟩
        case measure => simp only [intOf]; omega
set_option maxHeartbeats 1000000 in
theorem RunFractions_ok (w : World) (A : Option Addr) (n c : Nat) (fs : List Fr) (hr : Rd w A (n * 2) (ints (flatF fs))) (h : OkFs fs) (A' : Option Addr) (n' c' N : Nat) (hr' : Rd w A' n' (ints (limbs N))) (r : Nat) (hr1 : 1 ≤ r) (hr0 : r ≤ 40) (hbig : bigOk 41 N) :
    Calls Try.prog 10 #[.slice A n c, .slice A' n' c', .int .i64 (r : Int)] w (RunP w fs r N) := by
  have HOK := Lib.hid h
  have HR := Lib.hid hr; have HR' := Lib.hid hr'
  have HBIG := Lib.hid hbig
  clear h hr hr' hbig
  go_enter Try.func10, Try.ntmps10
  go_wp2_with fail
  refine (ValidFractions_ok w A n c fs HR.out HOK.out).mono ?_
  rintro e w1 ⟨rfl, hb1⟩
  have HB1 := Lib.hid hb1
  have HR1 := Lib.hid (HR'.out.below hb1 (Nat.le_refl _))
  clear hb1
  go_wp2_with fail
  refine (isPositive_ok _ _ _ _ N HR1.out HBIG.out.1 HBIG.out.len).mono ?_
  rintro e w2 ⟨rfl, rfl⟩
  go_wp2_with fail
  refine (budgetOk_yes _ _ (by omega) (by omega)).mono ?_
  rintro e w2 ⟨rfl, rfl⟩
  go_wp2_with fail
  refine (runFractions_any _ A n c fs (HR.out.below HB1.out (Nat.le_refl _)) HOK.out A' n' c' N HR1.out r hr0 HBIG.out).mono ?_
  rintro e w3 ⟨A3, n3, c3, rfl, hr3, hb3⟩
  go_wp2_with fail
  refine bodyPost_ret (v := .tuple #[.slice A3 n3 c3, .int .i64 ((runQ fs r N).2.1 : Int), .bool (runQ fs r N).2.2, .int .i64 0]) (by simp [results, Try.results10, go_sem]) rfl ?_
  exact ⟨A3, n3, c3, rfl, hr3, HB1.out.trans (hb3.mono HB1.out.size)⟩
set_option maxHeartbeats 1000000 in
theorem StepFractions_ok (w : World) (A : Option Addr) (n c : Nat) (fs : List Fr) (hr : Rd w A (n * 2) (ints (flatF fs))) (h : OkFs fs) (A' : Option Addr) (n' c' N : Nat) (hr' : Rd w A' n' (ints (limbs N))) (h0 : 0 < N) (hl : (limbs N).length ≤ 40) (M j : Nat) (hst : stepQ fs N 0 = some (M, j)) (hM : (limbs M).length ≤ 40) :
    Calls Try.prog 12 #[.slice A n c, .slice A' n' c'] w (fun e w' => ∃ (A : Option Addr) (n c : Nat), e = .returned (.tuple #[.slice A n c, .int .i64 (j : Int), .int .i64 0]) ∧ Rd w' A n (ints (limbs M)) ∧ Below w.heap.size w w') := by
  have HOK := Lib.hid h
  have HR := Lib.hid hr; have HR' := Lib.hid hr'
  have HL := Lib.hid hl; have HM := Lib.hid hM; have HST := Lib.hid hst
  have hn' := rd_len40 hr' hl
  clear h hr hr' hl hM hst
  have hj : (0 : Int) ≤ (j : Int) := by omega
  go_enter Try.func12, Try.ntmps12
  go_wp2_with fail
  refine (ValidFractions_ok w A n c fs HR.out HOK.out).mono ?_
  rintro e w1 ⟨rfl, hb1⟩
  have HB1 := Lib.hid hb1
  have HR1 := Lib.hid (HR'.out.below hb1 (Nat.le_refl _))
  clear hb1
  go_wp2_with fail
  refine (isPositive_ok _ _ _ _ N HR1.out h0 HL.out).mono ?_
  rintro e w2 ⟨rfl, rfl⟩
  go_wp2_with fail
  refine (stepFractions_any _ A n c fs (HR.out.below HB1.out (Nat.le_refl _)) HOK.out A' n' c' N HR1.out (by omega)).mono ?_
  rintro e w3 ⟨A3, n3, c3, rfl, hr3, hb3⟩
  rw [HST.out] at hr3 ⊢
  have HR3 := Lib.hid (show Rd w3 A3 n3 (ints (limbs M)) from hr3)
  rw [show kOf (some (M, j)) = (j : Int) from rfl]
  obtain ⟨jj, hjj⟩ : ∃ jj : Int, jj = (j : Int) := ⟨_, rfl⟩
  rw [← hjj]
  rw [← hjj] at hj
  have HJ := Lib.hid hjj
  clear hjj
  have hn3 : n3 ≤ 40 := rd_len40 HR3.out HM.out
  clear hr3
  go_wp2_with fail
  go_ret3
  rw [← HJ.out]
  exact ⟨A3, n3, c3, rfl, HR3.out, HB1.out.trans (hb3.mono HB1.out.size)⟩
end Go.Proofs.Ytfjlbfnjnkaooaa
