/- FindAutomaton (program). Written by mk_fax.py. -/
import Derived.Test.YtcpkhhammafchaaFaW
namespace Go.Proofs.Ytcpkhhammafchaa
open Go.RowKit
set_option linter.unusedVariables false
set_option linter.unusedSimpArgs false
attribute [local go_sem ↓] Go.wp_at_zero Go.wp_at_succ
set_option maxHeartbeats 4000000 in
set_option maxRecDepth 100000 in
theorem implFindAutomaton_any (w : World) (s t : Int) (A : Option Addr) (n c : Nat) (rs : List Rul) (hr : Rd w A (n * 3) (ints (flatR rs))) (hn : n ≤ 1099511627776) (b : Int) :
    Calls Try.prog 29 #[mchV s t A n c, .int .i64 b] w (PfP w (fauP s t rs b)) := by
  obtain ⟨wa, hwa⟩ : ∃ wa, wa = w.alloc (.cells #[.int .i64 s, .int .i64 t, .slice A n c] 53) := ⟨_, rfl⟩
  obtain ⟨w0, hw0⟩ : ∃ w0, w0 = wa.alloc (.cells #[.int .i64 0, .slice none 0 0, .slice none 0 0] 48) := ⟨_, rfl⟩
  have sa : wa.heap.size = w.heap.size + 1 := by rw [hwa]; simp
  have xm : BM w0 w.heap.size s t A n c := by
    rw [hw0]; refine blk_alloc ?_ _
    rw [hwa]; exact box_new w _ _
  have xz : w0.heap[w.heap.size + 1]? = some (.cells #[.int .i64 0, .slice none 0 0, .slice none 0 0] 48 (0, 0)) := by
    rw [hw0, ← sa]; exact box_new wa _ _
  have hB : Below w.heap.size w w0 := by rw [hw0]; refine bqa ?_; rw [hwa]; exact bqa (Below.refl _ _)
  have HM := Lib.hid xm; have HZ := Lib.hid xz; have HB := Lib.hid hB
  have HR := Lib.hid (hr.below hB (Nat.le_refl _))
  have hW : w0 = (w.alloc (.cells #[.int .i64 s, .int .i64 t, .slice A n c] 53)).alloc (.cells #[.int .i64 0, .slice none 0 0, .slice none 0 0] 48) := by rw [hw0, hwa]
  obtain ⟨m0, m1, m2⟩ := xm.cells
  have HBG := budgeted_any w0 s t A n c rs HR.out hn b
  have HE : Hid (bgC s t rs b = if okM s t rs then (if inB b 1 20000 then 0 else 2) else 1) := Lib.hid rfl
  rw [HE.out] at HBG
  obtain ⟨o1, ho1⟩ : ∃ o, o = okM s t rs := ⟨_, rfl⟩
  obtain ⟨o2, ho2⟩ : ∃ o, o = inB b 1 20000 := ⟨_, rfl⟩
  rw [← ho1, ← ho2] at HBG
  replace HBG := Lib.hid HBG
  have HV := Lib.hid ho1
  have HBB : Hid (inB b 1 20000 = o2) := Lib.hid ho2.symm
  clear hwa hw0 sa xm xz hB hr ho1 ho2 HE
  go_enter Try.func29, Try.ntmps29
  go_upto_region 1 with fail
  rw [← hW]
  clear hW
  cases o1 with
  | false =>
    as_aux_lemma =>
    have HO : Hid (fauP s t rs b = (0, [], [], 1)) := Lib.hid (by unfold fauP; rw [← HV.out]; rfl)
    go_wp2_with (go_at_call 70
                 refine HBG.out.mono ?_
                 rintro e w2 ⟨rfl, hb2⟩
                 have HB2 := Lib.hid hb2
                 have hzb := blk_bel HZ.out hb2
                 have z0 := blk_cell hzb 0 rfl
                 have z1 := blk_cell hzb 1 rfl
                 have z2 := blk_cell hzb 2 rfl
                 have f0 := blk_free hzb 0
                 have f1 := blk_free hzb 1
                 have f2 := blk_free hzb 2
                 clear hb2 hzb m0 m1 m2)
    exact bodyPost_ret (v := .tuple #[prfV 0 none 0 0 none 0 0, .int .i64 1]) (by simp [results, Try.results29, go_sem, z0, z1, z2]) rfl (by rw [HO.out]; exact pfp_err (bqc HB2.out HB.out) (by omega))
  | true =>
    as_aux_lemma =>
    have hok : okM s t rs = true := HV.out.symm
    cases o2 with
    | false =>
      as_aux_lemma =>
      have HO : Hid (fauP s t rs b = (0, [], [], 2)) := Lib.hid (by unfold fauP; rw [hok, HBB.out]; rfl)
      clear hok
      go_wp2_with (go_at_call 70
                   refine HBG.out.mono ?_
                   rintro e w2 ⟨rfl, hb2⟩
                   have HB2 := Lib.hid hb2
                   have hzb := blk_bel HZ.out hb2
                   have z0 := blk_cell hzb 0 rfl
                   have z1 := blk_cell hzb 1 rfl
                   have z2 := blk_cell hzb 2 rfl
                   have f0 := blk_free hzb 0
                   have f1 := blk_free hzb 1
                   have f2 := blk_free hzb 2
                   clear hb2 hzb m0 m1 m2)
      exact bodyPost_ret (v := .tuple #[prfV 0 none 0 0 none 0 0, .int .i64 2]) (by simp [results, Try.results29, go_sem, z0, z1, z2]) rfl (by rw [HO.out]; exact pfp_err (bqc HB2.out HB.out) (by omega))
    | true =>
      as_aux_lemma =>
      have HO1 : Hid (fauP s t rs b = faP s.toNat rs b.toNat) := Lib.hid (by unfold fauP; rw [hok, HBB.out]; rfl)
      have hbb : 1 ≤ b ∧ b ≤ 20000 := inB_true.1 HBB.out
      obtain ⟨hss, htt, _⟩ := okM_all hok
      obtain ⟨B, rfl⟩ := toI (z := b) (by omega)
      obtain ⟨sn, rfl⟩ := toI (z := s) (by omega)
      have HO : Hid (fauP (sn : Int) t rs (B : Int) = faP sn rs B) := Lib.hid HO1.out
      have HBN : Hid (1 ≤ B ∧ B ≤ 20000) := Lib.hid (by omega)
      have HOK := Lib.hid hok
      clear hok hbb hss htt
      go_upto_region 4 with (go_at_call 70
                             refine HBG.out.mono ?_
                             rintro e w2 ⟨rfl, hb2⟩
                             have HB2 := Lib.hid hb2
                             clear hb2 m0 m1 m2)
      obtain ⟨wc, hwc⟩ : ∃ wc, wc = w2.alloc (.cells #[.int .i64 0, .slice none 0 0, .slice none 0 0] 48) := ⟨_, rfl⟩
      obtain ⟨wd, hwd⟩ : ∃ wd, wd = wc.alloc (.cells #[.bool false] 4) := ⟨_, rfl⟩
      obtain ⟨w3, hw3⟩ : ∃ w3, w3 = wd.alloc (.cells #[.int .i64 (B : Int)] 2) := ⟨_, rfl⟩
      have sc : wc.heap.size = w2.heap.size + 1 := by rw [hwc]; simp
      have sd : wd.heap.size = w2.heap.size + 1 + 1 := by rw [hwd]; simp [sc]
      have xp : w3.heap[w2.heap.size]? = some (.cells #[.int .i64 0, .slice none 0 0, .slice none 0 0] 48 (0, 0)) := by
        rw [hw3]; refine blk_alloc ?_ _
        rw [hwd]; refine blk_alloc ?_ _
        rw [hwc]; exact box_new w2 _ _
      have xf : w3.heap[w2.heap.size + 1]? = some (.cells #[.bool false] 4 (0, 0)) := by
        rw [hw3]; refine blk_alloc ?_ _
        rw [hwd, ← sc]; exact box_new wc _ _
      have xb : w3.heap[w2.heap.size + 1 + 1]? = some (.cells #[.int .i64 (B : Int)] 2 (0, 0)) := by
        rw [hw3, ← sd]; exact box_new wd _ _
      have hb23 : Below w2.heap.size w2 w3 := by rw [hw3]; refine bqa ?_; rw [hwd]; refine bqa ?_; rw [hwc]; exact bqa (Below.refl _ _)
      have HB03 : Hid (Below w0.heap.size w0 w3) := Lib.hid (bqc hb23 HB2.out)
      have hm3 := HM.out.bel HB03.out
      have HPR := Lib.hid (pairs_any w2 w3 hb23 (w2.heap.size + 1 + 1) w.heap.size w2.heap.size (w2.heap.size + 1) (by omega) sn B HBN.out xb xp xf t A n c hm3 rs (HR.out.below HB2.out (Nat.le_refl _)) HOK.out)
      have HXF := Lib.hid xf; have HXP := Lib.hid xp
      have HLZ : Hid (w.heap.size + 1 < w2.heap.size) := Lib.hid (Nat.lt_of_lt_of_le (blk_lt HZ.out) HB2.out.size)
      have HL3 : Hid (w2.heap.size ≤ w3.heap.size) := Lib.hid hb23.size
      have HW3 : Hid (Below w.heap.size w w3) := Lib.hid (bqc HB03.out HB.out)
      obtain ⟨m0, -, -⟩ := hm3.cells
      have hW3 : w3 = ((w2.alloc (.cells #[.int .i64 0, .slice none 0 0, .slice none 0 0] 48)).alloc (.cells #[.bool false] 4)).alloc (.cells #[.int .i64 (B : Int)] 2) := by rw [hw3, hwd, hwc]
      clear hwc hwd hw3 sc sd xp xf xb hb23 hm3
      go_upto_region 5 with fail
      rw [← hW3]
      clear hW3
      go_upto_region 6 with (go_at_call 71
                             refine HPR.out.mono ?_
                             rintro e w4 (⟨hq, rfl, hc4⟩ | ⟨hq, rfl, hc4⟩ | ⟨row, A4, n4, c4, hq, rfl, hc4, hp4, hf4, ho4⟩))
      all_goals
        have hz4 := blk_ch (blk_bel HZ.out HB03.out) hc4 (by have h1 := HLZ.out; omega)
        have z0 := blk_cell hz4 0 rfl
        have z1 := blk_cell hz4 1 rfl
        have z2 := blk_cell hz4 2 rfl
        have f0 := blk_free hz4 0
        have f1 := blk_free hz4 1
        have f2 := blk_free hz4 2
        have HB4 : Hid (Below w.heap.size w w4) := Lib.hid (below_ch HW3.out hc4 (fun q e => by have h1 := HLZ.out; omega) HW3.out.size)
        clear hz4 m0
      · as_aux_lemma =>
        have g0 := blk_cell (blk_ch HXF.out hc4 (by omega)) 0 rfl
        have HQ := Lib.hid hq
        clear hq hc4
        go_wp2_with fail
        exact bodyPost_ret (v := .tuple #[prfV 0 none 0 0 none 0 0, .int .i64 3]) (by simp [results, Try.results29, go_sem, z0, z1, z2]) rfl (by rw [HO.out, HQ.out]; exact pfp_err HB4.out (by omega))
      · as_aux_lemma =>
        have g0 := blk_cell (blk_ch HXF.out hc4 (by omega)) 0 rfl
        have HQ := Lib.hid hq
        clear hq hc4
        go_wp2_with fail
        exact bodyPost_ret (v := .tuple #[prfV 0 none 0 0 none 0 0, .int .i64 5]) (by simp [results, Try.results29, go_sem, z0, z1, z2]) rfl (by rw [HO.out, HQ.out]; exact pfp_err HB4.out (by omega))
      · as_aux_lemma =>
        have g0 := blk_cell hf4 0 rfl
        have u0 := blk_cell hp4 0 rfl
        have u1 := blk_cell hp4 1 rfl
        have u2 := blk_cell hp4 2 rfl
        have HQ := Lib.hid hq; have HO4 := Lib.hid ho4
        clear hq hc4 hf4 hp4 ho4
        go_wp2_with fail
        exact bodyPost_ret (v := .tuple #[prfV 7 A4 n4 c4 none 0 0, .int .i64 0]) (by simp [results, Try.results29, go_sem, z0, z1, z2]) rfl (by rw [HO.out, HQ.out]; exact pfp_ok7 HB4.out HO4.out (by have h1 := HLZ.out; have h2 := HL3.out; omega) (by omega))
end Go.Proofs.Ytcpkhhammafchaa
