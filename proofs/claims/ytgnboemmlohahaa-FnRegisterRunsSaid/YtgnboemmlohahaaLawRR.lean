/- The law: a program that does one program and then another one ends with the contents of the second one, behind as many steps as both. -/
import Derived.Test.YtgnboemmlohahaaRrE
import Derived.Test.YtgnboemmlohahaaRrL
namespace Go.Proofs.Ytgnboemmlohahaa
open Go.RowKit
set_option linter.unusedVariables false
set_option linter.unusedSimpArgs false
attribute [local go_sem ↓] Go.wp_at_zero Go.wp_at_succ
set_option maxHeartbeats 400000 in
theorem r8Long_any (w : World) (A A' : Option Addr) (n c n' c' : Nat) : Calls Try.prog 4 #[.slice A n c, .slice A' n' c'] w fun e w' => e = .returned (.bool (decide (1048576 < n ∨ 1048576 < n'))) ∧ w = w' := by
  by_cases h1 : 1048576 < n
  · have d1 : decide ((1048576 : Int) < (n : Int)) = true := decide_eq_true (by omega)
    have HO : Hid (decide (1048576 < n ∨ 1048576 < n') = true) := Lib.hid (decide_eq_true (.inl h1))
    go_enter Try.func4, Try.ntmps4
    go_wp2_with fail
    go_ret
    exact ⟨by rw [HO.out]; rfl, rfl⟩
  · have d1 : decide ((1048576 : Int) < (n : Int)) = false := decide_eq_false (by omega)
    have HO : Hid (decide (1048576 < n ∨ 1048576 < n') = decide (1048576 < n')) := Lib.hid (by simp [h1])
    go_enter Try.func4, Try.ntmps4
    go_wp2_with fail
    go_ret
    exact ⟨by rw [HO.out]; simp; omega, rfl⟩
theorem padC_len {cs : List Int} (h : cs.length ≤ 24) : (padC cs).length = 24 := by simp [padC]; omega
theorem padC_full {cs : List Int} (h : cs.length = 24) : padC cs = cs := by simp [padC, h]
theorem padC_good {cs : List Int} {b : Int} {n : Nat} (hb : 0 ≤ b) (h : cs.length ≤ 24) (ha : ∀ c ∈ cs, 0 ≤ c ∧ c ≤ b) : GoodS n b ⟨0, padC cs⟩ := by
  refine ⟨Int.le_refl _, by simp only; omega, padC_len h, ?_⟩
  intro c hc
  rcases List.mem_append.1 hc with hc | hc
  · exact ha c hc
  · rw [List.eq_of_mem_replicate hc]; omega
theorem halt_uniq {p : List Ins} {x y : Sto} {m k : Nat} (h : HaltsIn p x m y) (hk : ∀ j, j < k → (itS p x j).at_ ≠ (p.length : Int)) (he : (itS p x k).at_ = (p.length : Int) ∨ k = 600) (hm : m ≤ 600) : k = m ∧ itS p x k = y := by
  obtain ⟨h1, h2, h3⟩ := h
  have e : k = m := by
    rcases Nat.lt_trichotomy k m with h | h | h
    · rcases he with he | he
      · exact absurd he (h3 k h)
      · omega
    · exact h
    · exact absurd (by rw [h1]; exact h2) (hk m h)
  subst e
  exact ⟨rfl, h1⟩
set_option maxHeartbeats 8000000 in
set_option maxRecDepth 100000 in
theorem lawRegisterRuns (w : World) (A0 : Option Addr) (n0 c0 : Nat) (b0 : List Int) (hr0 : Rd w A0 n0 (bytesV b0)) (hb0 : ∀ b ∈ b0, 0 ≤ b ∧ b ≤ 255) (hnn0 : n0 ≤ 9223372036854775807) (A1 : Option Addr) (n1 c1 : Nat) (b1 : List Int) (hr1 : Rd w A1 n1 (bytesV b1)) (hb1 : ∀ b ∈ b1, 0 ≤ b ∧ b ≤ 255) (hnn1 : n1 ≤ 9223372036854775807) :
    Calls Try.prog 3 #[.slice A0 n0 c0, .slice A1 n1 c1] w fun e w' => e = .returned (.bool true) ∧ Below w.heap.size w w' := by
  have HB0 := Lib.hid hb0; have HB1 := Lib.hid hb1
  clear hb0 hb1
  by_cases hlong : 1048576 < n0 ∨ 1048576 < n1
  · have HLo := Lib.hid (decide_eq_true hlong)
    clear hlong
    go_enter Try.func3, Try.ntmps3
    go_wp2_with (go_at_call 4; refine (r8Long_any _ _ _ _ _ _ _).mono ?_; rw [HLo.out]; rintro e w' ⟨rfl, rfl⟩)
    go_ret
    exact ⟨rfl, Below.refl _ _⟩
  have HLo := Lib.hid (decide_eq_false hlong)
  have hn0 : n0 ≤ 1048576 := by omega
  have hn1 : n1 ≤ 1048576 := by omega
  have HP0 := Lib.hid (R8Program_any w A0 n0 c0 b0 hr0 HB0.out (by omega))
  have HP1 := Lib.hid (fun (wx : World) (hb : Below w.heap.size w wx) => R8Program_any wx A1 n1 c1 b1 (hr1.below hb (Nat.le_refl _)) HB1.out (by omega))
  clear hlong hr0 hr1 hnn0 hnn1 hn0 hn1
  go_enter Try.func3, Try.ntmps3
  go_upto_region 3 with (go_at_call 4; refine (r8Long_any _ _ _ _ _ _ _).mono ?_; rw [HLo.out]; rintro e w' ⟨rfl, rfl⟩)
  go_upto_region 4 with (go_at_call 5
                         refine HP0.out.mono ?_
                         rintro e w1 ⟨Ap, mp, cp, p, Ac, mc, cc, cs, rfl, hop, hok, hmp, hoc, hmc, hac, hb⟩
                         have HOP := Lib.hid (ownN_rd hop); have HKP := Lib.hid (And.intro hok hmp)
                         have HOC := Lib.hid (own_rd hoc); have HKC := Lib.hid (And.intro hmc hac)
                         have HW1 := Lib.hid hb
                         have HP2 := Lib.hid (HP1.out w1 hb)
                         clear hop hok hmp hoc hmc hac hb)
  go_upto_region 5 with (go_at_call 5
                         refine HP2.out.mono ?_
                         rintro e w2 ⟨Aq, mq, cq, q, Ad, md, cd, ds, rfl, hop, hok, hmp, hoc, hmc, hac, hb⟩
                         have HOQ := Lib.hid (ownN_rd hop); have HKQ := Lib.hid (And.intro hok hmp)
                         have HOP2 := Lib.hid (HOP.out.below hb (Nat.le_refl _))
                         have HOC2 := Lib.hid (HOC.out.below hb (Nat.le_refl _))
                         have HW2 := Lib.hid (bqc hb HW1.out)
                         clear hop hok hmp hoc hmc hac hb)
  have HPL := Lib.hid (rd_len HOP2.out)
  have HQL := Lib.hid (rd_len HOQ.out)
  have HJL : Hid ((joinR p q).length = mp + mq) := Lib.hid (by have h1 := HPL.out; have h2 := HQL.out; simp [joinR, h1, h2])
  have HJK : Hid (okProg (joinR p q) = true) := Lib.hid (join_ok HKP.out.1 HKQ.out.1 (by have h1 := HPL.out; have h2 := HQL.out; have := HKP.out.2; have := HKQ.out.2; omega))
  go_upto_region 6 with (go_at_call 6
                         have hh := JoinPrograms_any w2 Ap mp cp p HOP2.out HKP.out.1 Aq mq cq q HOQ.out HKQ.out.1 (by have := HKP.out.2; have := HKQ.out.2; omega)
                         refine hh.mono ?_
                         rintro e w3 ⟨Aj, cj, rfl, ho, hb⟩
                         have HOJ := Lib.hid (ownN_rd ho)
                         have HOP3 := Lib.hid (HOP2.out.below hb (Nat.le_refl _))
                         have HOQ3 := Lib.hid (HOQ.out.below hb (Nat.le_refl _))
                         have HOC3 := Lib.hid (HOC2.out.below hb (Nat.le_refl _))
                         have HW3 := Lib.hid (bqc hb HW2.out)
                         clear ho hb hh)
  have HCL : Hid (cs.length = mc) := Lib.hid (by simpa using HOC3.out.1)
  have HG0 : Hid (∀ N : Nat, GoodS N 4 ⟨0, padC cs⟩) := Lib.hid (fun N => padC_good (by omega) (by have h1 := HCL.out; have h2 := HKC.out.1; omega) (fun c hc => allIn_true.1 HKC.out.2 c hc))
  go_upto_region 7 with (go_at_call 7
                         have hh := StartStore_any w3 Ap mp cp p HOP3.out HKP.out.1 Ac mc cc cs HOC3.out (by have := HKC.out.1; omega) (allIn_true.2 (fun c hc => by have := allIn_true.1 HKC.out.2 c hc; omega))
                         refine hh.mono ?_
                         rintro e w4 ⟨g4, rfl, ho, hb⟩
                         have HOS := Lib.hid (own_rd ho)
                         have HOP4 := Lib.hid (HOP3.out.below hb (Nat.le_refl _))
                         have HOQ4 := Lib.hid (HOQ3.out.below hb (Nat.le_refl _))
                         have HOJ4 := Lib.hid (HOJ.out.below hb (Nat.le_refl _))
                         have HW4 := Lib.hid (bqc hb HW3.out)
                         clear ho hb hh)
  obtain ⟨w5, hw5⟩ : ∃ w5, w5 = w4.alloc (.cells #[.int .i64 0, .slice (some ⟨g4, 0, none⟩) 24 24] 31) := ⟨_, rfl⟩
  have hb5 : Below w4.heap.size w4 w5 := by rw [hw5]; exact below_new _ _
  have HX5 : Hid (w5.heap[w4.heap.size]? = some (.cells #[.int .i64 0, .slice (some ⟨g4, 0, none⟩) 24 24] 31 (0, 0))) := Lib.hid (by rw [hw5]; exact box_new _ _ _)
  have HW5 := Lib.hid (bqc hb5 HW4.out)
  have HOS5 := Lib.hid (HOS.out.below hb5 (Nat.le_refl _))
  have HOP5 := Lib.hid (HOP4.out.below hb5 (Nat.le_refl _))
  have HOQ5 := Lib.hid (HOQ4.out.below hb5 (Nat.le_refl _))
  have HOJ5 := Lib.hid (HOJ4.out.below hb5 (Nat.le_refl _))
  rw [← hw5]
  clear hw5 hb5 HOP HOP2 HOP3 HOP4 HOQ HOQ3 HOQ4 HOJ HOJ4 HOC HOC2 HOC3 HW1 HW2 HW3 HP0 HP1 HP2
  have x0 := blk_cell HX5.out 0 rfl
  have x1 := blk_cell HX5.out 1 rfl
  have HWL := Lib.hid (wr_of (x := (mp : Int) + (mq : Int)) (by omega) (by have := HKP.out.2; have := HKQ.out.2; omega))
  have HML : Hid (mp + mq ≤ 1099511627776) := Lib.hid (by have := HKP.out.2; have := HKQ.out.2; omega)
  have hwl := HWL.out
  go_upto_region 9 with (first
    | (go_at_call 8
       have hh := ValidProgram_any w5 Aj (mp + mq) cj _ HOJ5.out HML.out
       rw [HJK.out] at hh
       refine hh.mono ?_
       rintro e w6 ⟨rfl, hb⟩
       have HB6 := Lib.hid hb
       have x0 := blk_cell (blk_bel HX5.out hb) 0 rfl
       have x1 := blk_cell (blk_bel HX5.out hb) 1 rfl
       clear hb hh)
    | (go_at_call 9
       have hh := ValidStore_yes w6 Ap mp cp p (HOP5.out.below HB6.out (Nat.le_refl _)) HKP.out.1 ⟨0, padC cs⟩ 4 (HG0.out _) (by decide) (some ⟨g4, 0, none⟩) 24 (HOS5.out.below HB6.out (Nat.le_refl _))
       dsimp only at hh
       refine hh.mono ?_
       rintro e w7 ⟨rfl, hb⟩
       have HB7 := Lib.hid (bqc hb HB6.out)
       clear hb hh))
  clear hwl
  have x0 := blk_cell (blk_bel HX5.out HB7.out) 0 rfl
  have x1 := blk_cell (blk_bel HX5.out HB7.out) 1 rfl
  go_upto_region 10 with (go_at_call 10
                          have hh := RunProgram_any w7 Ap mp cp p (HOP5.out.below HB7.out (Nat.le_refl _)) HKP.out.1 ⟨0, padC cs⟩ 4 (HG0.out _) (by decide) (some ⟨g4, 0, none⟩) 24 (HOS5.out.below HB7.out (Nat.le_refl _)) 300 (by decide)
                          dsimp only at hh
                          refine hh.mono ?_
                          rintro e w8 ⟨k1, g8, c8, hk1, hk2, hk3, rfl, ho, hb⟩
                          obtain ⟨f1, hf1⟩ : ∃ f, f = ((itS p ⟨0, padC cs⟩ k1).at_ == (p.length : Int)) := ⟨_, rfl⟩
                          rw [← hf1]
                          obtain ⟨y1, hy1⟩ : ∃ y, y = itS p ⟨0, padC cs⟩ k1 := ⟨_, rfl⟩
                          rw [← hy1] at hf1 ho hk3 ⊢
                          have HK1 := Lib.hid (And.intro hk1 (And.intro hk2 hk3))
                          have HF1 := Lib.hid hf1; have HY1 := Lib.hid hy1
                          have HOX := Lib.hid (own_rd ho)
                          have HB8 := Lib.hid (bqc hb HB7.out)
                          clear hk1 hk2 hk3 hf1 hy1 ho hb hh)
  have HW8 := Lib.hid (bqc HB8.out HW5.out)
  obtain ⟨w9, hw9⟩ : ∃ w9, w9 = w8.alloc (.cells #[.int .i64 y1.at_, .slice (some ⟨g8, 0, none⟩) 24 c8] 31) := ⟨_, rfl⟩
  have hb9 : Below w8.heap.size w8 w9 := by rw [hw9]; exact below_new _ _
  have HX9 : Hid (w9.heap[w8.heap.size]? = some (.cells #[.int .i64 y1.at_, .slice (some ⟨g8, 0, none⟩) 24 c8] 31 (0, 0))) := Lib.hid (by rw [hw9]; exact box_new _ _ _)
  have HB9 := Lib.hid (bqc hb9 HB8.out)
  have HW9 := Lib.hid (bqc hb9 HW8.out)
  have HOX9 := Lib.hid (HOX.out.below hb9 (Nat.le_refl _))
  rw [← hw9]
  clear hw9 hb9 x0 x1 HOX
  have HG1 : Hid (GoodS p.length (4 + k1) y1) := Lib.hid (by rw [HY1.out]; exact it_good HKP.out.1 (HG0.out _) (by decide) k1)
  cases f1 with
  | false =>
    skip
    have hq : ((k1 : Int) == 300) = true := by
      rcases HK1.out.2.2 with h | h
      · have h2 := HF1.out; rw [h] at h2; simp at h2
      · rw [h]; rfl
    go_wp2_with fail
    go_ret
    exact ⟨rfl, HW9.out⟩
  | true =>
    skip
    have hy9 : y1.at_ = (p.length : Int) := by have h2 := HF1.out; simpa using h2.symm
    have HH1 : Hid (HaltsIn p ⟨0, padC cs⟩ k1 y1) := Lib.hid ⟨HY1.out.symm, hy9, HK1.out.2.1⟩
    clear hy9
    have x1 := blk_cell HX9.out 1 rfl
    go_upto_region 13 with (go_at_call 7
                            have hh := StartStore_any w9 Aq mq cq q (HOQ5.out.below HB9.out (Nat.le_refl _)) HKQ.out.1 (some ⟨g8, 0, none⟩) 24 c8 y1.cs HOX9.out (by decide) (good_all HG1.out (by have := HK1.out.1; omega))
                            rw [padC_full HG1.out.len] at hh
                            refine hh.mono ?_
                            rintro e w10 ⟨g10, rfl, ho, hb⟩
                            have HOT := Lib.hid (own_rd ho)
                            have HB10 := Lib.hid (bqc hb HB9.out)
                            have HX10 := Lib.hid (blk_bel HX9.out hb)
                            clear ho hb hh)
    obtain ⟨w11, hw11⟩ : ∃ w11, w11 = w10.alloc (.cells #[.int .i64 0, .slice (some ⟨g10, 0, none⟩) 24 24] 31) := ⟨_, rfl⟩
    have hb11 : Below w10.heap.size w10 w11 := by rw [hw11]; exact below_new _ _
    have HX11 : Hid (w11.heap[w10.heap.size]? = some (.cells #[.int .i64 0, .slice (some ⟨g10, 0, none⟩) 24 24] 31 (0, 0))) := Lib.hid (by rw [hw11]; exact box_new _ _ _)
    have HB11 := Lib.hid (bqc hb11 HB10.out)
    have HOT11 := Lib.hid (HOT.out.below hb11 (Nat.le_refl _))
    rw [← hw11]
    clear hw11 hb11 x1 HOT
    have x0 := blk_cell HX11.out 0 rfl
    have x1 := blk_cell HX11.out 1 rfl
    have HG2 : Hid (GoodS q.length (4 + k1) ⟨0, y1.cs⟩) := Lib.hid ⟨Int.le_refl _, by simp only; omega, HG1.out.len, HG1.out.bd⟩
    go_upto_region 16 with (go_at_call 10
                            have hh := RunProgram_any w11 Aq mq cq q (HOQ5.out.below HB11.out (Nat.le_refl _)) HKQ.out.1 ⟨0, y1.cs⟩ (4 + k1) HG2.out (by have := HK1.out.1; omega) (some ⟨g10, 0, none⟩) 24 HOT11.out 300 (by decide)
                            dsimp only at hh
                            refine hh.mono ?_
                            rintro e w12 ⟨k2, g12, c12, hk1, hk2, hk3, rfl, ho, hb⟩
                            obtain ⟨f2, hf1⟩ : ∃ f, f = ((itS q ⟨0, y1.cs⟩ k2).at_ == (q.length : Int)) := ⟨_, rfl⟩
                            rw [← hf1]
                            obtain ⟨z2, hy1⟩ : ∃ y, y = itS q ⟨0, y1.cs⟩ k2 := ⟨_, rfl⟩
                            rw [← hy1] at hf1 ho hk3 ⊢
                            have HK2 := Lib.hid (And.intro hk1 (And.intro hk2 hk3))
                            have HF2 := Lib.hid hf1; have HY2 := Lib.hid hy1
                            have HOY := Lib.hid (own_rd ho)
                            have HB12 := Lib.hid (bqc hb HB11.out)
                            clear hk1 hk2 hk3 hf1 hy1 ho hb hh)
    obtain ⟨w13, hw13⟩ : ∃ w13, w13 = w12.alloc (.cells #[.int .i64 z2.at_, .slice (some ⟨g12, 0, none⟩) 24 c12] 31) := ⟨_, rfl⟩
    have hb13 : Below w12.heap.size w12 w13 := by rw [hw13]; exact below_new _ _
    have HX13 : Hid (w13.heap[w12.heap.size]? = some (.cells #[.int .i64 z2.at_, .slice (some ⟨g12, 0, none⟩) 24 c12] 31 (0, 0))) := Lib.hid (by rw [hw13]; exact box_new _ _ _)
    have HB13 := Lib.hid (bqc hb13 HB12.out)
    have HOY13 := Lib.hid (HOY.out.below hb13 (Nat.le_refl _))
    rw [← hw13]
    clear hw13 hb13 x0 x1 HOY
    cases f2 with
    | false =>
      skip
      have hq : ((k2 : Int) == 300) = true := by
        rcases HK2.out.2.2 with h | h
        · have h2 := HF2.out; rw [h] at h2; simp at h2
        · rw [h]; rfl
      go_wp2_with fail
      go_ret
      exact ⟨rfl, bqc HB13.out HW5.out⟩
    | true =>
      skip
      have hy9 : z2.at_ = (q.length : Int) := by have h2 := HF2.out; simpa using h2.symm
      have HH2 : Hid (HaltsIn q ⟨0, y1.cs⟩ k2 z2) := Lib.hid ⟨HY2.out.symm, hy9, HK2.out.2.1⟩
      clear hy9
      have HJ := Lib.hid (join_run HKP.out.1 HKQ.out.1 (HG0.out _) (by decide) HH1.out HH2.out)
      have x0 := blk_cell (blk_bel HX5.out HB13.out) 0 rfl
      have x1 := blk_cell (blk_bel HX5.out HB13.out) 1 rfl
      go_upto_region 19 with (go_at_call 10
                              have hh := RunProgram_any w13 Aj (mp + mq) cj (joinR p q) (HOJ5.out.below HB13.out (Nat.le_refl _)) HJK.out ⟨0, padC cs⟩ 4 (HG0.out _) (by decide) (some ⟨g4, 0, none⟩) 24 (HOS5.out.below HB13.out (Nat.le_refl _)) 600 (by decide)
                              dsimp only at hh
                              refine hh.mono ?_
                              rintro e w14 ⟨k3, g14, c14, hk1, hk2, hk3, rfl, ho, hb⟩
                              obtain ⟨e3, e4⟩ := halt_uniq HJ.out hk2 hk3 (by have := HK1.out.1; have := HK2.out.1; omega)
                              have e5 : ((itS (joinR p q) ⟨0, padC cs⟩ k3).at_ == ((joinR p q).length : Int)) = true := by rw [e4, HJ.out.2.1]; simp
                              rw [e5, e4, e3]
                              rw [e4] at ho
                              have HOZ := Lib.hid (own_rd ho)
                              have HB14 := Lib.hid (bqc hb HB13.out)
                              have HX14 := Lib.hid (blk_bel HX13.out hb)
                              have HOY14 := Lib.hid (HOY13.out.below hb (Nat.le_refl _))
                              clear hk1 hk2 hk3 ho hb hh e3 e4 e5)
      obtain ⟨w15, hw15⟩ : ∃ w15, w15 = w14.alloc (.cells #[.int .i64 (shS (p.length : Int) z2).at_, .slice (some ⟨g14, 0, none⟩) 24 c14] 31) := ⟨_, rfl⟩
      have hb15 : Below w14.heap.size w14 w15 := by rw [hw15]; exact below_new _ _
      have HX15 : Hid (w15.heap[w14.heap.size]? = some (.cells #[.int .i64 (shS (p.length : Int) z2).at_, .slice (some ⟨g14, 0, none⟩) 24 c14] 31 (0, 0))) := Lib.hid (by rw [hw15]; exact box_new _ _ _)
      have HY15 := Lib.hid (blk_bel HX14.out hb15)
      have HB15 := Lib.hid (bqc hb15 HB14.out)
      have HOY15 := Lib.hid (HOY14.out.below hb15 (Nat.le_refl _))
      have HOZ15 : Hid (Rd w15 (some ⟨g14, 0, none⟩) 24 (ints z2.cs)) := Lib.hid (HOZ.out.below hb15 (Nat.le_refl _))
      rw [← hw15]
      clear hw15 hb15 x0 x1 HOZ HOY14
      have HWS := Lib.hid (wr_of (x := (k1 : Int) + (k2 : Int)) (by omega) (by have := HK1.out.1; have := HK2.out.1; omega))
      have HCS : Hid (((k1 + k2 : Nat) : Int) = (k1 : Int) + (k2 : Int)) := Lib.hid (by omega)
      by_cases hz : k1 = 0 ∧ k2 = 0
      · skip
        obtain ⟨rfl, rfl⟩ := hz
        go_wp2_with fail
        go_ret
        exact ⟨rfl, bqc HB15.out HW5.out⟩
      · skip
        have hq : (((k1 : Int) + (k2 : Int)) == 0) = false := by rw [beq_eq_false_iff_ne]; omega
        clear hz
        have hws := HWS.out
        have x1 := blk_cell HX15.out 1 rfl
        have y1' := blk_cell HY15.out 1 rfl
        go_wp2_with (go_at_call 11
                     have hh := r8Same_same w15 (some ⟨g14, 0, none⟩) (some ⟨g12, 0, none⟩) 24 c14 24 c12 z2.cs HOZ15.out HOY15.out (by decide)
                     refine hh.mono ?_
                     rintro e w16 ⟨rfl, hb⟩
                     have HB16 := Lib.hid (bqc hb HB15.out)
                     clear hb hh)
        go_ret
        exact ⟨rfl, bqc HB16.out HW5.out⟩
end Go.Proofs.Ytgnboemmlohahaa
