/- FindAutomaton (reference): the search. Written by mk_fas.py. -/
import Derived.Test.YtcpkhhammafchaaFaM
namespace Go.Proofs.Ytcpkhhammafchaa
open Go.RowKit
set_option linter.unusedVariables false
set_option linter.unusedSimpArgs false
attribute [local go_sem ↓] Go.wp_at_zero Go.wp_at_succ
theorem found7 {sn : Nat} {rs : List Rul} {B st i j cur : Nat} (hc : cur = offA sn st + i * nA st sn + j) (h1 : 1 ≤ st ∧ st ≤ 3) (hi : i < nA st sn) (hj : j < nA st sn) (hm : missA sn rs cur) (hb : cur < B) (hv : avN sn rs st i j = true) : faP sn rs B = (7, prN sn st i j, [], 0) :=
  faP_of (.found ⟨st, i, j, h1.1, h1.2, hi, hj, hc, hv, rfl⟩ hm hb)
theorem out5 {sn : Nat} {rs : List Rul} {B st i j : Nat} (hc : B = offA sn st + i * nA st sn + j) (h1 : 1 ≤ st ∧ st ≤ 3) (hi : i < nA st sn) (hj : j < nA st sn) (hm : missA sn rs B) : faP sn rs B = (0, [], [], 5) :=
  faP_of (.out hm (by rw [hc]; exact Nat.lt_of_lt_of_le (pos_lt h1.1 hi hj) (offA_mono (by omega) (by omega))))
theorem none3 {sn : Nat} {rs : List Rul} {B : Nat} (hm : missA sn rs (offA sn 4)) (hb : offA sn 4 ≤ B) : faP sn rs B = (0, [], [], 3) := faP_of (.none hm hb)
set_option maxHeartbeats 8000000 in
set_option maxRecDepth 100000 in
theorem l28Find_any (w : World) (gm sn : Nat) (t : Int) (A : Option Addr) (n c : Nat) (hm : BM w gm (sn : Int) t A n c) (rs : List Rul) (hr : Rd w A (n * 3) (ints (flatR rs))) (hok : okM (sn : Int) t rs = true) (B : Nat) (hB : 1 ≤ B ∧ B ≤ 20000) :
    Calls Try.prog 69 #[.pointer (some ⟨gm, 0, none⟩), .int .i64 (B : Int)] w (PfP w (faP sn rs B)) := by
  obtain ⟨w0, hw0⟩ : ∃ w0, w0 = w.alloc (.cells #[.int .i64 0, .slice none 0 0, .slice none 0 0] 48) := ⟨_, rfl⟩
  have hb0 : Below w.heap.size w w0 := by rw [hw0]; exact below_new _ _
  have HZ : Hid (w0.heap[w.heap.size]? = some (.cells #[.int .i64 0, .slice none 0 0, .slice none 0 0] 48 (0, 0))) := Lib.hid (by rw [hw0]; exact box_new w _ _)
  have HB0 := Lib.hid hb0
  have HM := Lib.hid (BM.bel hm hb0); have HR := Lib.hid (hr.below hb0 (Nat.le_refl _)); have HOK := Lib.hid hok
  have hsn : 2 ≤ sn ∧ sn ≤ 6 := by have := (okM_all hok).1; omega
  have HLZ : Hid (w.heap.size < w0.heap.size) := Lib.hid (blk_lt HZ.out)
  clear hb0 hm hr hok
  go_enter Try.func69, Try.ntmps69
  go_upto_region 1 with fail
  rw [← hw0]
  clear hw0
  go_wp2_with fail
  go_loopw [6, 7] (fun tr q wr => ∃ st cur : Nat, 1 ≤ st ∧ st ≤ 4 ∧ q = .int .i64 st ∧ tr = .int .i64 (cur : Int) ∧ Hid (cur = offA sn st) ∧ Hid (missA sn rs cur) ∧ cur ≤ B ∧ Hid (Below w0.heap.size w0 wr)) (fun _ q _ => 4 - (intOf q).toNat)
  case atStart => exact ⟨1, 0, by omega, by omega, by go_num, by go_num, Lib.hid rfl, Lib.hid (miss_zero _ _), by omega, Lib.hid (Below.refl _ _)⟩
  case round =>
    as_aux_lemma =>
    obtain ⟨st, cur, hs1, hs4, rfl, rfl, HC, HMI, hcb, HB1⟩ := hrel
    obtain ⟨wa, rfl⟩ : ∃ v, v = wr := ⟨_, rfl⟩
    by_cases h3 : st ≤ 3
    · as_aux_lemma =>
      have h3i : (st : Int) ≤ 3 := by omega
      obtain ⟨N, hN⟩ : ∃ N, N = nA st sn := ⟨_, rfl⟩
      have HN := Lib.hid hN
      have hNB : 1 ≤ N ∧ N ≤ 129140163 := by rw [hN]; exact nA_le ⟨hs1, h3⟩ hsn
      obtain ⟨nn, hnn⟩ : ∃ nn, nn = st * sn := ⟨_, rfl⟩
      have HNN := Lib.hid hnn
      clear hN hnn
      go_wp2_with fail
      go_loopw [6, 8] (fun tr q wr => ∃ i cu : Nat, i ≤ N ∧ q = .int .i64 i ∧ tr = .int .i64 (cu : Int) ∧ Hid (cu = offA sn st + i * N) ∧ Hid (missA sn rs cu) ∧ cu ≤ B ∧ Hid (Below w0.heap.size w0 wr)) (fun _ q _ => N + 1 - (intOf q).toNat)
      case atStart => exact ⟨0, cur, by omega, by go_num, rfl, Lib.hid (by rw [HC.out]; omega), HMI, hcb, HB1⟩
      case round =>
        as_aux_lemma =>
        clear HC HMI hcb HB1
        obtain ⟨i, cu, hi, rfl, rfl, HC, HMI, hcb, HB1⟩ := hrel
        obtain ⟨wb, rfl⟩ : ∃ v, v = wr := ⟨_, rfl⟩
        have HL := l28At_any wb st sn nn i ⟨hs1, h3⟩ hsn HNN.out.symm (by omega)
        obtain ⟨m0, -, -⟩ := (HM.out.bel HB1.out).cells
        by_cases hlt : i < N
        · as_aux_lemma =>
          have HLT := Lib.hid hlt
          have HDP : Hid (∀ e w', DfP wb st nn i e w' → ∃ g : Nat, e = .returned (.tuple #[dfV (st : Int) (some ⟨g, 0, none⟩) nn nn, .bool true]) ∧ Rd w' (some ⟨g, 0, none⟩) nn (ints (rowA st nn i)) ∧ Below wb.heap.size wb w') := Lib.hid (by
            rintro e w' ⟨g, rfl, h1, h2⟩
            refine ⟨g, ?_, own_rd h1, h2⟩
            rw [decide_eq_true (by have h4 := HN.out; unfold nA at h4; rw [HNN.out, ← h4]; exact hlt)])
          replace HL := Lib.hid (HL.mono HDP.out)
          clear HDP
          go_upto_region 9 with (go_at_call 112
                                 refine HL.out.mono ?_
                                 rintro e w2 ⟨g, rfl, hr2, hb2⟩
                                 clear m0)
          obtain ⟨w3, hw3⟩ : ∃ w3, w3 = w2.alloc (.cells #[.int .i64 (st : Int), .slice (some ⟨g, 0, none⟩) nn nn] 55) := ⟨_, rfl⟩
          have hb23 : Below w2.heap.size w2 w3 := by rw [hw3]; exact below_new _ _
          have HD9 : Hid (BD w3 w2.heap.size (st : Int) (some ⟨g, 0, none⟩) nn nn) := Lib.hid (by rw [hw3]; exact box_new w2 _ _)
          have HR9 := Lib.hid (hr2.below hb23 (Nat.le_refl _))
          have HB3 : Hid (Below w0.heap.size w0 w3) := Lib.hid (bqc hb23 (bqc hb2 HB1.out))
          rw [← hw3]
          clear hw3 hr2 hb2 hb23
          go_wp2_with fail
          go_loopw [6, 11] (fun tr q wx => ∃ j cv : Nat, j ≤ N ∧ q = .int .i64 j ∧ tr = .int .i64 (cv : Int) ∧ Hid (cv = offA sn st + i * N + j) ∧ Hid (missA sn rs cv) ∧ cv ≤ B ∧ Hid (Below w3.heap.size w3 wx)) (fun _ q _ => N + 1 - (intOf q).toNat)
          case atStart => exact ⟨0, cu, by omega, by go_num, rfl, Lib.hid (by rw [HC.out]; omega), HMI, hcb, Lib.hid (Below.refl _ _)⟩
          case round =>
            as_aux_lemma =>
            clear HC HMI hcb
            obtain ⟨j, cv, hj, rfl, rfl, HC, HMI, hcb, HBX⟩ := hrel
            obtain ⟨wd, rfl⟩ : ∃ v, v = wr := ⟨_, rfl⟩
            have HL2 := l28At_any wd st sn nn j ⟨hs1, h3⟩ hsn HNN.out.symm (by omega)
            have HBD : Hid (Below w0.heap.size w0 wd) := Lib.hid (bqc HBX.out HB3.out)
            obtain ⟨m0, -, -⟩ := (HM.out.bel HBD.out).cells
            by_cases hjt : j < N
            · as_aux_lemma =>
              have HJT := Lib.hid hjt
              have HDP : Hid (∀ e w', DfP wd st nn j e w' → ∃ g : Nat, e = .returned (.tuple #[dfV (st : Int) (some ⟨g, 0, none⟩) nn nn, .bool true]) ∧ Rd w' (some ⟨g, 0, none⟩) nn (ints (rowA st nn j)) ∧ Below wd.heap.size wd w') := Lib.hid (by
                rintro e w' ⟨g, rfl, h1, h2⟩
                refine ⟨g, ?_, own_rd h1, h2⟩
                rw [decide_eq_true (by have h4 := HN.out; unfold nA at h4; rw [HNN.out, ← h4]; exact hjt)])
              replace HL2 := Lib.hid (HL2.mono HDP.out)
              clear HDP
              go_upto_region 13 with (go_at_call 112
                                      refine HL2.out.mono ?_
                                      rintro e w4 ⟨g2, rfl, hr4, hb4⟩
                                      clear m0)
              obtain ⟨w5, hw5⟩ : ∃ w5, w5 = w4.alloc (.cells #[.int .i64 (st : Int), .slice (some ⟨g2, 0, none⟩) nn nn] 55) := ⟨_, rfl⟩
              have hb45 : Below w4.heap.size w4 w5 := by rw [hw5]; exact below_new _ _
              have HD12 : Hid (BD w5 w4.heap.size (st : Int) (some ⟨g2, 0, none⟩) nn nn) := Lib.hid (by rw [hw5]; exact box_new w4 _ _)
              have HR12 := Lib.hid (hr4.below hb45 (Nat.le_refl _))
              have HB35 : Hid (Below w3.heap.size w3 w5) := Lib.hid (bqc hb45 (bqc hb4 HBX.out))
              have HB5 : Hid (Below w0.heap.size w0 w5) := Lib.hid (bqc HB35.out HB3.out)
              rw [← hw5]
              clear hw5 hr4 hb4 hb45
              by_cases hbu : cv = B
              · as_aux_lemma =>
                have HO : Hid (faP sn rs B = (0, [], [], 5)) := Lib.hid (out5 (st := st) (i := i) (j := j) (by rw [← hbu, ← HN.out]; exact HC.out) ⟨hs1, h3⟩ (by rw [← HN.out]; exact HLT.out) (by rw [← HN.out]; exact HJT.out) (by rw [← hbu]; exact HMI.out))
                have hcmp : ((cv : Int) == (B : Int)) = true := by rw [hbu]; simp
                clear hbu
                have hzb := blk_bel HZ.out HB5.out
                have z0 := blk_cell hzb 0 rfl
                have z1 := blk_cell hzb 1 rfl
                have z2 := blk_cell hzb 2 rfl
                have f0 := blk_free hzb 0
                have f1 := blk_free hzb 1
                have f2 := blk_free hzb 2
                clear hzb
                go_wp2_with fail
                exact bodyPost_ret (v := .tuple #[prfV 0 none 0 0 none 0 0, .int .i64 5]) (by simp [results, Try.results69, go_sem, z0, z1, z2]) rfl (by rw [HO.out]; exact pfp_err (bqc HB5.out HB0.out) (by omega))
              · as_aux_lemma =>
                have hcmp : ((cv : Int) == (B : Int)) = false := by rw [beq_eq_false_iff_ne]; omega
                have hcv : cv < B := by omega
                have HBU := Lib.hid hcv
                clear hbu
                have HA := l28Avoids_any w5 gm (sn : Int) t A n c (HM.out.bel HB5.out) rs (HR.out.below HB5.out (Nat.le_refl _)) HOK.out w2.heap.size (st : Int) _ nn nn (HD9.out.bel HB35.out) (rowA st nn i) (HR9.out.below HB35.out (Nat.le_refl _)) (by rw [HNN.out]; exact row_ok ⟨hs1, h3⟩ hsn) w4.heap.size (st : Int) _ nn nn HD12.out (rowA st nn j) HR12.out (by rw [HNN.out]; exact row_ok ⟨hs1, h3⟩ hsn)
                obtain ⟨o, ho⟩ : ∃ o, o = avA (sn : Int) rs (rowA st nn i) (rowA st nn j) := ⟨_, rfl⟩
                rw [← ho] at HA
                replace HA := Lib.hid HA
                have HAV : Hid (avN sn rs st i j = o) := Lib.hid (by rw [ho, HNN.out]; rfl)
                clear ho
                cases o with
                | true =>
                  as_aux_lemma =>
                  have HO : Hid (faP sn rs B = (7, prN sn st i j, [], 0)) := Lib.hid (found7 (by rw [← HN.out]; exact HC.out) ⟨hs1, h3⟩ (by rw [← HN.out]; exact HLT.out) (by rw [← HN.out]; exact HJT.out) HMI.out HBU.out HAV.out)
                  go_upto_region 17 with (go_at_call 52
                                          refine HA.out.mono ?_
                                          rintro e w6 ⟨rfl, hb6⟩
                                          have HB6 := Lib.hid hb6
                                          clear hb6)
                  have HB36 : Hid (Below w3.heap.size w3 w6) := Lib.hid (bqc HB6.out HB35.out)
                  have HB06 : Hid (Below w0.heap.size w0 w6) := Lib.hid (bqc HB6.out HB5.out)
                  have hn18 : nn ≤ 1000 := by rw [HNN.out]; exact Nat.le_trans (Nat.mul_le_mul h3 hsn.2) (by omega)
                  have HP := Lib.hid (l28Proof_any w6 w2.heap.size (st : Int) _ nn nn (HD9.out.bel HB36.out) (rowA st nn i) (HR9.out.below HB36.out (Nat.le_refl _)) hn18 w4.heap.size (st : Int) _ nn nn (HD12.out.bel HB6.out) (rowA st nn j) (HR12.out.below HB6.out (Nat.le_refl _)) hn18)
                  have HL6 : Hid (w.heap.size < w6.heap.size) := Lib.hid (Nat.lt_of_lt_of_le HLZ.out HB06.out.size)
                  go_wp2_with (go_at_call 53
                               refine HP.out.mono ?_
                               rintro e w7 ⟨A7, n7, c7, rfl, ho7, hb7⟩
                               have HO7 := Lib.hid ho7
                               have HB7 : Hid (Below w0.heap.size w0 w7) := Lib.hid (bqc hb7 HB06.out)
                               clear ho7 hb7
                               have hzb := blk_bel HZ.out HB7.out
                               have z0 := blk_cell hzb 0 rfl
                               have z1 := blk_cell hzb 1 rfl
                               have z2 := blk_cell hzb 2 rfl
                               have f0 := blk_free hzb 0
                               have f1 := blk_free hzb 1
                               have f2 := blk_free hzb 2
                               clear hzb)
                  exact bodyPost_ret (v := .tuple #[prfV 7 A7 n7 c7 none 0 0, .int .i64 0]) (by simp [results, Try.results69, go_sem, z0, z1, z2]) rfl (by
                    rw [HO.out]
                    have hq := HO7.out
                    rw [HNN.out] at hq
                    exact pfp_ok7 (bqc HB7.out HB0.out) hq HL6.out (by omega))
                | false =>
                  as_aux_lemma =>
                  go_wp2_with (go_at_call 52
                               refine HA.out.mono ?_
                               rintro e w6 ⟨rfl, hb6⟩
                               have HB6 := Lib.hid hb6
                               clear hb6)
                  go_roundw
                  case rel => exact ⟨j + 1, cv + 1, HJT.out, by go_num, by go_num, Lib.hid (by rw [HC.out]; omega), Lib.hid (by
                    have h1 := HMI.out
                    have h2 := HC.out
                    rw [HN.out] at h2
                    rw [h2] at h1
                    rw [h2]
                    exact miss_step h1 hs1 (by rw [← HN.out]; exact HLT.out) (by rw [← HN.out]; exact HJT.out) HAV.out), HBU.out, Lib.hid (bqc HB6.out HB35.out)⟩
                  case measure => have := HJT.out; simp [intOf]; omega
            · as_aux_lemma =>
              have HDP : Hid (∀ e w', DfP wd st nn j e w' → ∃ g : Nat, e = .returned (.tuple #[dfV (st : Int) (some ⟨g, 0, none⟩) nn nn, .bool false]) ∧ Below wd.heap.size wd w') := Lib.hid (by
                rintro e w' ⟨g, rfl, h1, h2⟩
                refine ⟨g, ?_, h2⟩
                rw [decide_eq_false (by have h4 := HN.out; unfold nA at h4; rw [HNN.out, ← h4]; exact hjt)])
              replace HL2 := Lib.hid (HL2.mono HDP.out)
              clear HDP
              have HJE : Hid (j = N) := Lib.hid (by omega)
              go_wp2_with (go_at_call 112
                           refine HL2.out.mono ?_
                           rintro e w4 ⟨g2, rfl, hb4⟩
                           clear m0
                           have HB4 := Lib.hid hb4
                           clear hb4)
              go_roundw
              case rel => exact ⟨i + 1, cv, HLT.out, by go_num, rfl, Lib.hid (by rw [HC.out, HJE.out, Nat.add_mul]; omega), HMI, hcb, Lib.hid (bqa (bqc HB4.out HBD.out))⟩
              case measure => have := HLT.out; simp [intOf]; omega
        · as_aux_lemma =>
          have HDP : Hid (∀ e w', DfP wb st nn i e w' → ∃ g : Nat, e = .returned (.tuple #[dfV (st : Int) (some ⟨g, 0, none⟩) nn nn, .bool false]) ∧ Below wb.heap.size wb w') := Lib.hid (by
            rintro e w' ⟨g, rfl, h1, h2⟩
            refine ⟨g, ?_, h2⟩
            rw [decide_eq_false (by have h4 := HN.out; unfold nA at h4; rw [HNN.out, ← h4]; exact hlt)])
          replace HL := Lib.hid (HL.mono HDP.out)
          clear HDP
          have HIE : Hid (i = N) := Lib.hid (by omega)
          go_wp2_with (go_at_call 112
                       refine HL.out.mono ?_
                       rintro e w4 ⟨g2, rfl, hb4⟩
                       clear m0
                       have HB4 := Lib.hid hb4
                       clear hb4)
          go_roundw
          case rel => exact ⟨st + 1, cu, by omega, by omega, by go_num, rfl, Lib.hid (by rw [HC.out, HIE.out, offA_next hs1, HN.out]), HMI, hcb, Lib.hid (bqa (bqc HB4.out HB1.out))⟩
          case measure => simp [intOf]; omega
    · as_aux_lemma =>
      have h3i : ¬ (st : Int) ≤ 3 := by omega
      obtain rfl : st = 4 := by omega
      have HO : Hid (faP sn rs B = (0, [], [], 3)) := Lib.hid (none3 (by rw [← HC.out]; exact HMI.out) (by rw [← HC.out]; exact hcb))
      have hzb := blk_bel HZ.out HB1.out
      have z0 := blk_cell hzb 0 rfl
      have z1 := blk_cell hzb 1 rfl
      have z2 := blk_cell hzb 2 rfl
      have f0 := blk_free hzb 0
      have f1 := blk_free hzb 1
      have f2 := blk_free hzb 2
      clear hzb
      go_wp2_with fail
      exact bodyPost_ret (v := .tuple #[prfV 0 none 0 0 none 0 0, .int .i64 3]) (by simp [results, Try.results69, go_sem, z0, z1, z2]) rfl (by rw [HO.out]; exact pfp_err (bqc HB1.out HB0.out) (by omega))
end Go.Proofs.Ytcpkhhammafchaa
