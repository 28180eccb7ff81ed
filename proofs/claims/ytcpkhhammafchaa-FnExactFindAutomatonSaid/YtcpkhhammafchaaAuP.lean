/- AutomatonProof (program). Written by mk_aup.py. -/
import Derived.Test.YtcpkhhammafchaaAuJ
namespace Go.Proofs.Ytcpkhhammafchaa
open Go.RowKit
set_option linter.unusedVariables false
set_option linter.unusedSimpArgs false
attribute [local go_sem ↓] Go.wp_at_zero Go.wp_at_succ
set_option maxHeartbeats 4000000 in
set_option maxRecDepth 100000 in
theorem implAutomatonProof_any (w : World) (s t : Int) (A : Option Addr) (n c : Nat) (rs : List Rul) (hr : Rd w A (n * 3) (ints (flatR rs))) (hn : n ≤ 1099511627776) (a : Int) (A1 : Option Addr) (n1 c1 : Nat) (xs : List Int) (hr1 : Rd w A1 n1 (ints xs)) (hn1 : n1 ≤ 1000000000) (b : Int) (A2 : Option Addr) (n2 c2 : Nat) (ys : List Int) (hr2 : Rd w A2 n2 (ints ys)) (hn2 : n2 ≤ 1000000000) :
    Calls Try.prog 20 #[mchV s t A n c, dfV a A1 n1 c1, dfV b A2 n2 c2] w (PfP w (auP s t rs a xs b ys)) := by
  obtain ⟨wa, hwa⟩ : ∃ wa, wa = w.alloc (.cells #[.int .i64 s, .int .i64 t, .slice A n c] 53) := ⟨_, rfl⟩
  obtain ⟨wb, hwb⟩ : ∃ wb, wb = wa.alloc (.cells #[.int .i64 a, .slice A1 n1 c1] 55) := ⟨_, rfl⟩
  obtain ⟨wc, hwc⟩ : ∃ wc, wc = wb.alloc (.cells #[.int .i64 b, .slice A2 n2 c2] 55) := ⟨_, rfl⟩
  obtain ⟨wd, hwd⟩ : ∃ wd, wd = wc.alloc (.cells #[.int .i64 0, .slice none 0 0, .slice none 0 0] 48) := ⟨_, rfl⟩
  obtain ⟨w0, hw0⟩ : ∃ w0, w0 = wd.alloc (.cells #[.int .i64 s, .int .i64 t, .slice A n c, .int .i64 a, .slice A1 n1 c1, .int .i64 b, .slice A2 n2 c2] 100) := ⟨_, rfl⟩
  have sa : wa.heap.size = w.heap.size + 1 := by rw [hwa]; simp
  have sb : wb.heap.size = w.heap.size + 1 + 1 := by rw [hwb]; simp [sa]
  have sc : wc.heap.size = w.heap.size + 1 + 1 + 1 := by rw [hwc]; simp [sb]
  have sd : wd.heap.size = w.heap.size + 1 + 1 + 1 + 1 := by rw [hwd]; simp [sc]
  have xm : wd.heap[w.heap.size]? = some (.cells #[.int .i64 s, .int .i64 t, .slice A n c] 53 (0, 0)) := by
    rw [hwd]; refine blk_alloc ?_ _
    rw [hwc]; refine blk_alloc ?_ _
    rw [hwb]; refine blk_alloc ?_ _
    rw [hwa]; exact box_new w _ _
  have x1 : wd.heap[w.heap.size + 1]? = some (.cells #[.int .i64 a, .slice A1 n1 c1] 55 (0, 0)) := by
    rw [hwd]; refine blk_alloc ?_ _
    rw [hwc]; refine blk_alloc ?_ _
    rw [hwb, ← sa]; exact box_new wa _ _
  have x2 : wd.heap[w.heap.size + 1 + 1]? = some (.cells #[.int .i64 b, .slice A2 n2 c2] 55 (0, 0)) := by
    rw [hwd]; refine blk_alloc ?_ _
    rw [hwc, ← sb]; exact box_new wb _ _
  have xz : w0.heap[w.heap.size + 1 + 1 + 1]? = some (.cells #[.int .i64 0, .slice none 0 0, .slice none 0 0] 48 (0, 0)) := by
    rw [hw0]; refine blk_alloc ?_ _
    rw [hwd, ← sc]; exact box_new wc _ _
  have xx : w0.heap[w.heap.size + 1 + 1 + 1 + 1]? = some (.cells #[.int .i64 s, .int .i64 t, .slice A n c, .int .i64 a, .slice A1 n1 c1, .int .i64 b, .slice A2 n2 c2] 100 (0, 0)) := by
    rw [hw0, ← sd]; exact box_new wd _ _
  have hB : Below w.heap.size w w0 := by rw [hw0]; refine bqa ?_; rw [hwd]; refine bqa ?_; rw [hwc]; refine bqa ?_; rw [hwb]; refine bqa ?_; rw [hwa]; exact bqa (Below.refl _ _)
  have HZ := Lib.hid xz; have HXX := Lib.hid xx; have HB := Lib.hid hB
  have HR := Lib.hid (hr.below hB (Nat.le_refl _)); have HR1 := Lib.hid (hr1.below hB (Nat.le_refl _)); have HR2 := Lib.hid (hr2.below hB (Nat.le_refl _))
  have m0 := blk_cell xm 0 rfl
  have m1 := blk_cell xm 1 rfl
  have m2 := blk_cell xm 2 rfl
  have l0 := blk_cell x1 0 rfl
  have l1 := blk_cell x1 1 rfl
  have e0 := blk_cell x2 0 rfl
  have e1 := blk_cell x2 1 rfl
  have hW : wd = (((w.alloc (.cells #[.int .i64 s, .int .i64 t, .slice A n c] 53)).alloc (.cells #[.int .i64 a, .slice A1 n1 c1] 55)).alloc (.cells #[.int .i64 b, .slice A2 n2 c2] 55)).alloc (.cells #[.int .i64 0, .slice none 0 0, .slice none 0 0] 48) := by rw [hwd, hwc, hwb, hwa]
  have HVD := auValid_any w0 s t A n c rs HR.out hn a A1 n1 c1 xs HR1.out hn1 b A2 n2 c2 ys HR2.out hn2
  obtain ⟨o1, ho1⟩ : ∃ o, o = auV s t rs a xs b ys := ⟨_, rfl⟩
  rw [← ho1] at HVD
  replace HVD := Lib.hid HVD
  have HV := Lib.hid ho1
  clear hwa hwb hwc hwd sa sb sc xm x1 x2 hr hr1 hr2 hB ho1
  go_enter Try.func20, Try.ntmps20
  go_upto_region 1 with fail
  rw [← hW]
  clear hW
  go_upto_region 2 with fail
  try rw [← hw0]
  try rw [sd]
  clear hw0 sd m0 m1 m2 l0 l1 e0 e1
  have q0 := blk_cell xx 0 rfl
  have q1 := blk_cell xx 1 rfl
  have q2 := blk_cell xx 2 rfl
  have q3 := blk_cell xx 3 rfl
  have q4 := blk_cell xx 4 rfl
  have q5 := blk_cell xx 5 rfl
  have q6 := blk_cell xx 6 rfl
  clear xx xz
  go_wp2_with fail
  refine HVD.out.mono ?_
  rintro e w2 ⟨rfl, hb2⟩
  have HB2 := Lib.hid hb2
  have HBW2 : Hid (Below w.heap.size w w2) := Lib.hid (bqc hb2 HB.out)
  clear q0 q1 q2 q3 q4 q5 q6
  cases o1 with
  | false =>
    as_aux_lemma =>
    have HO : Hid (auP s t rs a xs b ys = (0, [], [], 1)) := Lib.hid (by unfold auP; rw [← HV.out]; rfl)
    have hzb := blk_bel HZ.out hb2
    have z0 := blk_cell hzb 0 rfl
    have z1 := blk_cell hzb 1 rfl
    have z2 := blk_cell hzb 2 rfl
    have f0 := blk_free hzb 0
    have f1 := blk_free hzb 1
    have f2 := blk_free hzb 2
    clear hb2 hzb
    go_wp2_with fail
    exact bodyPost_ret (v := .tuple #[prfV 0 none 0 0 none 0 0, .int .i64 1]) (by simp [results, Try.results20, go_sem, z0, z1, z2]) rfl (by rw [HO.out]; exact pfp_err HBW2.out (by omega))
  | true =>
    as_aux_lemma =>
    have hv : auV s t rs a xs b ys = true := HV.out.symm
    have hv2 := hv
    simp only [auV, Bool.and_eq_true] at hv2
    obtain ⟨⟨v1, v2⟩, v3⟩ := hv2
    have HA := avoids_any w2 s t A n c rs (HR.out.below hb2 (Nat.le_refl _)) v1 a A1 n1 c1 xs (HR1.out.below hb2 (Nat.le_refl _)) v2 b A2 n2 c2 ys (HR2.out.below hb2 (Nat.le_refl _)) v3
    have HN1 : Hid (n1 ≤ 1000) := Lib.hid (by
      have h1 := (HR1.out.1)
      obtain ⟨hs, ha, hl, _⟩ := dfB_all v2
      have e4 := mul_bd (show 0 ≤ a by omega) ha.2 (show 0 ≤ s by omega) hs.2
      simp only [List.length_map] at h1
      omega)
    have HN2 : Hid (n2 ≤ 1000) := Lib.hid (by
      have h1 := (HR2.out.1)
      obtain ⟨hs, ha, hl, _⟩ := dfB_all v3
      have e4 := mul_bd (show 0 ≤ b by omega) ha.2 (show 0 ≤ s by omega) hs.2
      simp only [List.length_map] at h1
      omega)
    have HO2 : Hid (auP s t rs a xs b ys = if avA s rs xs ys then (7, [a, b] ++ xs ++ ys, [], 0) else (0, [], [], 6)) := Lib.hid (by unfold auP; rw [hv]; rfl)
    obtain ⟨o2, ho2⟩ : ∃ o, o = avA s rs xs ys := ⟨_, rfl⟩
    rw [← ho2] at HA
    replace HA := Lib.hid HA
    have HW := Lib.hid ho2
    have xx2 := blk_bel HXX.out hb2
    have q0 := blk_cell xx2 0 rfl
    have q1 := blk_cell xx2 1 rfl
    have q2 := blk_cell xx2 2 rfl
    have q3 := blk_cell xx2 3 rfl
    have q4 := blk_cell xx2 4 rfl
    have q5 := blk_cell xx2 5 rfl
    have q6 := blk_cell xx2 6 rfl
    clear hb2 hv v1 v2 v3 ho2 xx2
    go_wp2_with fail
    refine HA.out.mono ?_
    rintro e w3 ⟨rfl, hb3⟩
    have HB3 := Lib.hid hb3
    have HB23 : Hid (Below w0.heap.size w0 w3) := Lib.hid (bqc hb3 HB2.out)
    have HBW3 : Hid (Below w.heap.size w w3) := Lib.hid (bqc HB23.out HB.out)
    clear hb3 q0 q1 q2 q3 q4 q5 q6
    cases o2 with
    | false =>
      as_aux_lemma =>
      have HO : Hid (auP s t rs a xs b ys = (0, [], [], 6)) := Lib.hid (by rw [HO2.out, ← HW.out]; rfl)
      have hzb := blk_bel HZ.out HB23.out
      have z0 := blk_cell hzb 0 rfl
      have z1 := blk_cell hzb 1 rfl
      have z2 := blk_cell hzb 2 rfl
      have f0 := blk_free hzb 0
      have f1 := blk_free hzb 1
      have f2 := blk_free hzb 2
      clear hzb
      go_wp2_with fail
      exact bodyPost_ret (v := .tuple #[prfV 0 none 0 0 none 0 0, .int .i64 6]) (by simp [results, Try.results20, go_sem, z0, z1, z2]) rfl (by rw [HO.out]; exact pfp_err HBW3.out (by omega))
    | true =>
      as_aux_lemma =>
      have HO : Hid (auP s t rs a xs b ys = (7, [a, b] ++ xs ++ ys, [], 0)) := Lib.hid (by rw [HO2.out, ← HW.out]; rfl)
      have HP := Lib.hid (auProof_any w3 s t A n c a A1 n1 c1 xs (HR1.out.below HB23.out (Nat.le_refl _)) HN1.out b A2 n2 c2 ys (HR2.out.below HB23.out (Nat.le_refl _)) HN2.out)
      have xx3 := blk_bel HXX.out HB23.out
      have q0 := blk_cell xx3 0 rfl
      have q1 := blk_cell xx3 1 rfl
      have q2 := blk_cell xx3 2 rfl
      have q3 := blk_cell xx3 3 rfl
      have q4 := blk_cell xx3 4 rfl
      have q5 := blk_cell xx3 5 rfl
      have q6 := blk_cell xx3 6 rfl
      clear xx3
      go_wp2_with fail
      refine HP.out.mono ?_
      rintro e w4 ⟨A4, n4, c4, rfl, ho4, hb4⟩
      have HO4 := Lib.hid ho4
      have HB4 : Hid (Below w0.heap.size w0 w4) := Lib.hid (bqc hb4 HB23.out)
      have HLT : Hid (w.heap.size + 1 + 1 + 1 < w3.heap.size) := Lib.hid (Nat.lt_of_lt_of_le (blk_lt HZ.out) HB23.out.size)
      have hzb := blk_bel HZ.out HB4.out
      have z0 := blk_cell hzb 0 rfl
      have z1 := blk_cell hzb 1 rfl
      have z2 := blk_cell hzb 2 rfl
      have f0 := blk_free hzb 0
      have f1 := blk_free hzb 1
      have f2 := blk_free hzb 2
      clear hzb ho4 hb4 q0 q1 q2 q3 q4 q5 q6
      go_wp2_with fail
      exact bodyPost_ret (v := .tuple #[prfV 7 A4 n4 c4 none 0 0, .int .i64 0]) (by simp [results, Try.results20, go_sem, z0, z1, z2]) rfl (by rw [HO.out]; exact pfp_ok7 (bqc HB4.out HB.out) HO4.out HLT.out (by omega))
end Go.Proofs.Ytcpkhhammafchaa
