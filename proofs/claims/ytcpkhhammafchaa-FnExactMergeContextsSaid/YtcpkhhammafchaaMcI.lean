/- MergeContexts (program). Written by mk_mc.py. -/
import Derived.Test.YtcpkhhammafchaaMcA
import Derived.Test.YtcpkhhammafchaaMcM
import Derived.Test.YtcpkhhammafchaaMg
import Derived.Test.YtcpkhhammafchaaGI
import Derived.IntWalk
import Derived.Deep.DrawnRows
namespace Go.Proofs.Ytcpkhhammafchaa
open Go.RowKit
set_option linter.unusedVariables false
set_option linter.unusedSimpArgs false
attribute [local go_sem ↓] Go.wp_at_zero Go.wp_at_succ
set_option maxHeartbeats 16000000 in
set_option maxRecDepth 100000 in
theorem implMergeContexts_any (w : World) (k1 : Int) (A1 : Option Addr) (n1 c1 : Nat) (ns1 : List Int) (hr1 : Rd w A1 n1 (ints ns1)) (hn1 : n1 ≤ 1000000000) (hc1 : n1 ≤ c1) (A2 : Option Addr) (n2 c2 : Nat) (ws1 : List (List Int)) (hr2 : RdL w A2 n2 ws1) (hn2 : n2 ≤ 1000000000) (hc2 : n2 ≤ c2) (k2 : Int) (B1 : Option Addr) (m1 d1 : Nat) (ns2 : List Int) (hs1 : Rd w B1 m1 (ints ns2)) (hm1 : m1 ≤ 1000000000) (hd1 : m1 ≤ d1) (B2 : Option Addr) (m2 d2 : Nat) (ws2 : List (List Int)) (hs2 : RdL w B2 m2 ws2) (hm2 : m2 ≤ 1000000000) (hd2 : m2 ≤ d2) :
    Calls Try.prog 33 #[prfV k1 A1 n1 c1 A2 n2 c2, prfV k2 B1 m1 d1 B2 m2 d2] w (PfP w (mcP k1 ns1 ws1 k2 ns2 ws2)) := by
  obtain ⟨w0, hw0⟩ : ∃ w0, w0 = ((w.alloc (.cells #[.int .i64 k1, .slice A1 n1 c1, .slice A2 n2 c2] 48)).alloc (.cells #[.int .i64 k2, .slice B1 m1 d1, .slice B2 m2 d2] 48)).alloc (.cells pfZq 48) := ⟨_, rfl⟩
  have hB : Below w.heap.size w w0 := by rw [hw0]; exact ((below_new w _).trans ((below_new _ _).mono (by simp))).trans ((below_new _ _).mono (by simp; omega))
  have hx1 : w0.heap[w.heap.size]? = some (.cells #[.int .i64 k1, .slice A1 n1 c1, .slice A2 n2 c2] 48 (0, 0)) := by rw [hw0]; exact blk_alloc (blk_alloc (box_new w _ _) _) _
  have hx2 : w0.heap[w.heap.size + 1]? = some (.cells #[.int .i64 k2, .slice B1 m1 d1, .slice B2 m2 d2] 48 (0, 0)) := by rw [hw0]; have h := box_new (w.alloc (.cells #[.int .i64 k1, .slice A1 n1 c1, .slice A2 n2 c2] 48)) #[.int .i64 k2, .slice B1 m1 d1, .slice B2 m2 d2] 48; exact blk_alloc (by simpa using h) _
  have hz : w0.heap[w.heap.size + 1 + 1]? = some (.cells pfZq 48 (0, 0)) := by rw [hw0]; have h := box_new ((w.alloc (.cells #[.int .i64 k1, .slice A1 n1 c1, .slice A2 n2 c2] 48)).alloc (.cells #[.int .i64 k2, .slice B1 m1 d1, .slice B2 m2 d2] 48)) pfZq 48; simpa using h
  have HX1 := Lib.hid hx1; have HX2 := Lib.hid hx2; have HZ := Lib.hid hz; have HB := Lib.hid hB
  have HR1 := Lib.hid (hr1.below hB (Nat.le_refl _)); have HR2 := Lib.hid (hr2.below hB (Nat.le_refl _)); have HS1 := Lib.hid (hs1.below hB (Nat.le_refl _)); have HS2 := Lib.hid (hs2.below hB (Nat.le_refl _))
  have HZL : Hid (w.heap.size + 1 + 1 < w0.heap.size) := Lib.hid (blk_lt hz)
  have HR0 : Hid (Below w0.heap.size w0 w0) := Lib.hid (Below.refl _ _)
  have HV1 : Hid (∀ wx : World, Below w0.heap.size w0 wx → Calls Try.prog 80 #[prfV k1 A1 n1 c1 A2 n2 c2] wx (RetV wx (.bool (okP k1 ns1 ws1)))) := Lib.hid (fun wx hbx => ValidProof_any wx k1 A1 n1 c1 ns1 (HR1.out.below hbx (Nat.le_refl _)) hn1 A2 n2 c2 ws1 (HR2.out.below hbx (Nat.le_refl _)) hn2)
  have HV2 : Hid (∀ wx : World, Below w0.heap.size w0 wx → Calls Try.prog 80 #[prfV k2 B1 m1 d1 B2 m2 d2] wx (RetV wx (.bool (okP k2 ns2 ws2)))) := Lib.hid (fun wx hbx => ValidProof_any wx k2 B1 m1 d1 ns2 (HS1.out.below hbx (Nat.le_refl _)) hm1 B2 m2 d2 ws2 (HS2.out.below hbx (Nat.le_refl _)) hm2)
  have HI1 : Hid (okP k1 ns1 ws1 = true → ∀ wx : World, Below w0.heap.size w0 wx → Calls Try.prog 81 #[prfV k1 A1 n1 c1 A2 n2 c2] wx (CsPost wx (pN ns1) (lefts ns1 ws1) (rights ns1 ws1) (stated (ns1.drop 3) (ctxs ns1 ws1)) (csOk k1 ns1 ws1))) := Lib.hid (fun hok wx hbx => setsIn_any wx k1 A1 n1 c1 ns1 (HR1.out.below hbx (Nat.le_refl _)) hn1 hc1 A2 n2 c2 ws1 (HR2.out.below hbx (Nat.le_refl _)) hc2 hok)
  have HI2 : Hid (okP k2 ns2 ws2 = true → ∀ wx : World, Below w0.heap.size w0 wx → Calls Try.prog 81 #[prfV k2 B1 m1 d1 B2 m2 d2] wx (CsPost wx (pN ns2) (lefts ns2 ws2) (rights ns2 ws2) (stated (ns2.drop 3) (ctxs ns2 ws2)) (csOk k2 ns2 ws2))) := Lib.hid (fun hok wx hbx => setsIn_any wx k2 B1 m1 d1 ns2 (HS1.out.below hbx (Nat.le_refl _)) hm1 hd1 B2 m2 d2 ws2 (HS2.out.below hbx (Nat.le_refl _)) hd2 hok)
  clear hB hx2 hz hr1 hr2 hs1 hs2 hn1 hc1 hn2 hc2 hm1 hd1 hm2 hd2
  have x0 := blk_cell hx1 0 rfl
  have x1 := blk_cell hx1 1 rfl
  have x2 := blk_cell hx1 2 rfl
  clear hx1
  cases hok1 : okP k1 ns1 ws1 with
  | false =>
    as_aux_lemma =>
    have HO : Hid (mcP k1 ns1 ws1 k2 ns2 ws2 = (0, [], [], 1)) := Lib.hid (by unfold mcP; rw [hok1]; simp)
    rw [hok1] at HV1
    clear hok1
    go_enter Try.func33, Try.ntmps33
    go_upto_region 1 with fail
    rw [← hw0]
    clear hw0
    go_wp2_with fail
    refine (HV1.out w0 HR0.out).mono ?_
    rintro e w2 ⟨rfl, hb2⟩
    have HB2 := Lib.hid hb2
    clear x0 x1 x2
    have hzb := blk_bel HZ.out hb2
    have z0 := blk_cell hzb 0 rfl
    have z1 := blk_cell hzb 1 rfl
    have z2 := blk_cell hzb 2 rfl
    have f0 := blk_free hzb 0
    have f1 := blk_free hzb 1
    have f2 := blk_free hzb 2
    clear hzb hb2
    go_wp2_with fail
    exact bodyPost_ret (v := .tuple #[prfV 0 none 0 0 none 0 0, .int .i64 1]) (by simp [results, Try.results33, go_sem, z0, z1, z2]) rfl (by rw [HO.out]; exact pfp_err (HB.out.trans (HB2.out.mono HB.out.size)) (by omega))
  | true =>
    as_aux_lemma =>
    have OK1 := Lib.hid hok1
    rw [hok1] at HV1
    cases hok2 : okP k2 ns2 ws2 with
    | false =>
      as_aux_lemma =>
      have HO : Hid (mcP k1 ns1 ws1 k2 ns2 ws2 = (0, [], [], 1)) := Lib.hid (by unfold mcP; rw [hok2]; simp)
      rw [hok2] at HV2
      clear hok1 hok2
      go_enter Try.func33, Try.ntmps33
      go_upto_region 1 with fail
      rw [← hw0]
      clear hw0
      go_wp2_with fail
      refine (HV1.out w0 HR0.out).mono ?_
      rintro e w2 ⟨rfl, hb2⟩
      have HB2 := Lib.hid hb2
      clear x0 x1 x2
      have hx2 := blk_bel HX2.out hb2
      have x0 := blk_cell hx2 0 rfl
      have x1 := blk_cell hx2 1 rfl
      have x2 := blk_cell hx2 2 rfl
      clear hb2 hx2
      go_wp2_with fail
      refine (HV2.out w2 HB2.out).mono ?_
      rintro e w3 ⟨rfl, hb3⟩
      have HB3 : Hid (Below w0.heap.size w0 w3) := Lib.hid (bq_call hb3 HB2.out)
      clear x0 x1 x2
      have hzb := blk_bel HZ.out HB3.out
      have z0 := blk_cell hzb 0 rfl
      have z1 := blk_cell hzb 1 rfl
      have z2 := blk_cell hzb 2 rfl
      have f0 := blk_free hzb 0
      have f1 := blk_free hzb 1
      have f2 := blk_free hzb 2
      clear hzb hb3
      go_wp2_with fail
      exact bodyPost_ret (v := .tuple #[prfV 0 none 0 0 none 0 0, .int .i64 1]) (by simp [results, Try.results33, go_sem, z0, z1, z2]) rfl (by rw [HO.out]; exact pfp_err (HB.out.trans (HB3.out.mono HB.out.size)) (by omega))
    | true =>
      as_aux_lemma =>
      have OK2 := Lib.hid hok2
      rw [hok2] at HV2
      clear hok1 hok2
      obtain ⟨b1, hb1⟩ : ∃ b, b = csOk k1 ns1 ws1 := ⟨_, rfl⟩
      obtain ⟨b2, hb2⟩ : ∃ b, b = csOk k2 ns2 ws2 := ⟨_, rfl⟩
      have HC1 : Hid (csOk k1 ns1 ws1 = b1) := Lib.hid hb1.symm
      have HC2 : Hid (csOk k2 ns2 ws2 = b2) := Lib.hid hb2.symm
      clear hb1 hb2
      go_enter Try.func33, Try.ntmps33
      go_upto_region 1 with fail
      rw [← hw0]
      clear hw0
      go_wp2_with fail
      refine (HV1.out w0 HR0.out).mono ?_
      rintro e w2 ⟨rfl, hb2⟩
      have HB2 := Lib.hid hb2
      clear x0 x1 x2
      have hx2 := blk_bel HX2.out hb2
      have x0 := blk_cell hx2 0 rfl
      have x1 := blk_cell hx2 1 rfl
      have x2 := blk_cell hx2 2 rfl
      clear hb2 hx2
      go_wp2_with fail
      refine (HV2.out w2 HB2.out).mono ?_
      rintro e w3 ⟨rfl, hb3⟩
      have HB3 : Hid (Below w0.heap.size w0 w3) := Lib.hid (bq_call hb3 HB2.out)
      clear x0 x1 x2
      have hx1 := blk_bel HX1.out HB3.out
      have x0 := blk_cell hx1 0 rfl
      have x1 := blk_cell hx1 1 rfl
      have x2 := blk_cell hx1 2 rfl
      clear hb3 hx1
      go_wp2_with fail
      refine (HI1.out OK1.out w3 HB3.out).mono ?_
      rw [HC1.out]
      rintro e w4 ⟨zA, A5, n5, c5, A6, n6, c6, A7, n7, c7, rfl, hb4, hp4⟩
      have HP4 := Lib.hid hp4
      have HB4 : Hid (Below w0.heap.size w0 w4) := Lib.hid (bq_call hb4 HB3.out)
      clear x0 x1 x2 hp4 hb4
      go_upto_region 4 with fail
      obtain ⟨w5, hw5⟩ : ∃ w5, w5 = w4.alloc (.cells #[.int .i64 zA, .slice A5 n5 c5, .slice A6 n6 c6, .slice A7 n7 c7] 125) := ⟨_, rfl⟩
      have HA5 : Hid (w5.heap[w4.heap.size]? = some (.cells #[.int .i64 zA, .slice A5 n5 c5, .slice A6 n6 c6, .slice A7 n7 c7] 125 (0, 0))) := Lib.hid (by rw [hw5]; exact box_new _ _ _)
      have HW45 : Hid (Below w4.heap.size w4 w5) := Lib.hid (by rw [hw5]; exact below_new _ _)
      have HB5 : Hid (Below w0.heap.size w0 w5) := Lib.hid (bq_call HW45.out HB4.out)
      rw [← hw5]
      clear hw5
      have hx2 := blk_bel HX2.out HB5.out
      have x0 := blk_cell hx2 0 rfl
      have x1 := blk_cell hx2 1 rfl
      have x2 := blk_cell hx2 2 rfl
      clear hx2
      go_wp2_with fail
      refine (HI2.out OK2.out w5 HB5.out).mono ?_
      rw [HC2.out]
      rintro e w6 ⟨zB, B5, m5, d5, B6, m6, d6, B7, m7, d7, rfl, hb6, hp6⟩
      have HP6 := Lib.hid hp6
      have HW56 := Lib.hid hb6
      have HB6 : Hid (Below w0.heap.size w0 w6) := Lib.hid (bq_call hb6 HB5.out)
      clear x0 x1 x2 hp6 hb6
      go_upto_region 5 with fail
      obtain ⟨w7, hw7⟩ : ∃ w7, w7 = w6.alloc (.cells #[.int .i64 zB, .slice B5 m5 d5, .slice B6 m6 d6, .slice B7 m7 d7] 125) := ⟨_, rfl⟩
      have HA7 : Hid (w7.heap[w4.heap.size]? = some (.cells #[.int .i64 zA, .slice A5 n5 c5, .slice A6 n6 c6, .slice A7 n7 c7] 125 (0, 0))) := Lib.hid (by rw [hw7]; exact blk_alloc (blk_bel HA5.out HW56.out) _)
      have HD7 : Hid (w7.heap[w6.heap.size]? = some (.cells #[.int .i64 zB, .slice B5 m5 d5, .slice B6 m6 d6, .slice B7 m7 d7] 125 (0, 0))) := Lib.hid (by rw [hw7]; exact box_new _ _ _)
      have HW67 : Hid (Below w6.heap.size w6 w7) := Lib.hid (by rw [hw7]; exact below_new _ _)
      have HB7 : Hid (Below w0.heap.size w0 w7) := Lib.hid (bq_call HW67.out HB6.out)
      rw [← hw7]
      clear hw7
      have ha7 := HA7.out
      have hd7 := HD7.out
      have y0 := blk_cell ha7 0 rfl
      have y1 := blk_cell ha7 1 rfl
      have y2 := blk_cell ha7 2 rfl
      have y3 := blk_cell ha7 3 rfl
      have u0 := blk_cell hd7 0 rfl
      have u1 := blk_cell hd7 1 rfl
      have u2 := blk_cell hd7 2 rfl
      have u3 := blk_cell hd7 3 rfl
      have hzb := blk_bel HZ.out HB7.out
      have z0 := blk_cell hzb 0 rfl
      have z1 := blk_cell hzb 1 rfl
      have z2 := blk_cell hzb 2 rfl
      have f0 := blk_free hzb 0
      have f1 := blk_free hzb 1
      have f2 := blk_free hzb 2
      clear ha7 hd7 hzb
      have HBW7 : Hid (Below w.heap.size w w7) := Lib.hid (HB.out.trans (HB7.out.mono HB.out.size))
      as_aux_lemma =>
      cases b1 with
      | false =>
        as_aux_lemma =>
        have HO : Hid (mcP k1 ns1 ws1 k2 ns2 ws2 = (0, [], [], 2)) := Lib.hid (by unfold mcP; rw [OK1.out, OK2.out, HC1.out]; simp)
        go_wp2_with fail
        exact bodyPost_ret (v := .tuple #[prfV 0 none 0 0 none 0 0, .int .i64 2]) (by simp [results, Try.results33, go_sem, z0, z1, z2]) rfl (by rw [HO.out]; exact pfp_err (HBW7.out) (by omega))
      | true =>
        as_aux_lemma =>
        cases b2 with
        | false =>
          as_aux_lemma =>
          have HO : Hid (mcP k1 ns1 ws1 k2 ns2 ws2 = (0, [], [], 2)) := Lib.hid (by unfold mcP; rw [OK1.out, OK2.out, HC2.out]; simp)
          go_wp2_with fail
          exact bodyPost_ret (v := .tuple #[prfV 0 none 0 0 none 0 0, .int .i64 2]) (by simp [results, Try.results33, go_sem, z0, z1, z2]) rfl (by rw [HO.out]; exact pfp_err (HBW7.out) (by omega))
        | true =>
          as_aux_lemma =>
          by_cases heq : pN ns1 = pN ns2
          · as_aux_lemma =>
            have HEQ := Lib.hid heq
            clear heq
            obtain ⟨N, hF1⟩ := mc_facts OK1.out HC1.out
            obtain ⟨N2, hF2⟩ := mc_facts OK2.out HC2.out
            obtain ⟨hz1, G1, G2, G3, o1, o2, o3, hG, -, -, -⟩ := HP4.out rfl
            obtain ⟨hz2, G4, G5, G6, o4, o5, o6, hG', -, -, -⟩ := HP6.out rfl
            obtain rfl : N = N2 := by have h1 := HEQ.out; have h2 := hF1.n; have h3 := hF2.n; omega
            obtain rfl : zA = (N : Int) := hz1.trans hF1.n
            obtain rfl : zB = (N : Int) := hz2.trans hF2.n
            have HF1 := Lib.hid hF1; have HF2 := Lib.hid hF2
            have HN4 : Hid (1 ≤ N ∧ N ≤ 4) := Lib.hid hF1.n4
            have hcmp : ((N : Int) != (N : Int)) = false := by simp
            obtain ⟨S, hS⟩ : ∃ S, S = mcS ns1 ws1 ns2 ws2 := ⟨_, rfl⟩
            have HSE := Lib.hid hS
            have HO : Hid (mcP k1 ns1 ws1 k2 ns2 ws2 = prF N S) := Lib.hid (by
              have h1 : decide (pN ns1 = pN ns2) = true := decide_eq_true HEQ.out
              unfold mcP
              rw [OK1.out, OK2.out, HC1.out, HC2.out, h1, hF1.n, hS]
              simp)
            obtain ⟨M, hM⟩ : ∃ M, M = 2 * N + 2 := ⟨_, rfl⟩
            have HM := Lib.hid hM
            have e1 : IntKind.i64.wrap (2 * (N : Int)) = 2 * (N : Int) := IntWalk.i64_in _ (by have := HN4.out; omega)
            have e2 : IntKind.i64.wrap (2 * (N : Int) + 2) = (M : Int) := by rw [hM]; exact (IntWalk.i64_in _ (by have := HN4.out; omega)).trans (by omega)
            have O1 : Hid (RdL w7 A5 n5 (lefts ns1 ws1)) := Lib.hid (o1.rdl.below (bq_call HW67.out (bq_call HW56.out HW45.out)) (Nat.le_refl _))
            have O2 : Hid (RdL w7 A6 n6 (rights ns1 ws1)) := Lib.hid (o2.rdl.below (bq_call HW67.out (bq_call HW56.out HW45.out)) (Nat.le_refl _))
            have O3 : Hid (RdL w7 A7 n7 (stated (ns1.drop 3) (ctxs ns1 ws1))) := Lib.hid (o3.rdl.below (bq_call HW67.out (bq_call HW56.out HW45.out)) (Nat.le_refl _))
            have O4 : Hid (RdL w7 B5 m5 (lefts ns2 ws2)) := Lib.hid (o4.rdl.below HW67.out (Nat.le_refl _))
            have O5 : Hid (RdL w7 B6 m6 (rights ns2 ws2)) := Lib.hid (o5.rdl.below HW67.out (Nat.le_refl _))
            have O6 : Hid (RdL w7 B7 m7 (stated (ns2.drop 3) (ctxs ns2 ws2))) := Lib.hid (o6.rdl.below HW67.out (Nat.le_refl _))
            have HSL : Hid (∀ wx : World, Below w7.heap.size w7 wx → Calls Try.prog 82 #[.int .i64 N, .slice A5 n5 c5, .slice B5 m5 d5] wx (RetP wx S.l)) := Lib.hid (fun wx hbx => by
              have h := merged_any wx N A5 n5 c5 _ (O1.out.below hbx (Nat.le_refl _)) (by have a := O1.out.len; have b := HF1.out.sl; omega) B5 m5 d5 _ (O4.out.below hbx (Nat.le_refl _)) (by have a := O4.out.len; have b := HF2.out.sl; omega) (by have := HN4.out; omega) HF1.out.wl HF2.out.wl
              rw [mc_sort HF1.out.rl] at h
              rw [HSE.out]; exact h)
            have HSR : Hid (∀ wx : World, Below w7.heap.size w7 wx → Calls Try.prog 82 #[.int .i64 N, .slice A6 n6 c6, .slice B6 m6 d6] wx (RetP wx S.r)) := Lib.hid (fun wx hbx => by
              have h := merged_any wx N A6 n6 c6 _ (O2.out.below hbx (Nat.le_refl _)) (by have a := O2.out.len; have b := HF1.out.sr; omega) B6 m6 d6 _ (O5.out.below hbx (Nat.le_refl _)) (by have a := O5.out.len; have b := HF2.out.sr; omega) (by have := HN4.out; omega) HF1.out.wr HF2.out.wr
              rw [mc_sort HF1.out.rr] at h
              rw [HSE.out]; exact h)
            have HSC2 : Hid (∀ wx : World, Below w7.heap.size w7 wx → Calls Try.prog 82 #[.int .i64 M, .slice A7 n7 c7, .slice B7 m7 d7] wx (RetP wx S.c)) := Lib.hid (fun wx hbx => by
              have h := merged_any wx M A7 n7 c7 _ (O3.out.below hbx (Nat.le_refl _)) (by have a := O3.out.len; have b := HF1.out.sc; omega) B7 m7 d7 _ (O6.out.below hbx (Nat.le_refl _)) (by have a := O6.out.len; have b := HF2.out.sc; omega) (by have := HN4.out; have := HM.out; omega) (by rw [HM.out]; exact HF1.out.wc) (by rw [HM.out]; exact HF2.out.wc)
              rw [mc_sort HF1.out.rc] at h
              rw [HSE.out]; exact h)
            have HSX7 : Hid (∀ wx : World, Below w7.heap.size w7 wx → wx.cell? ⟨w4.heap.size, 0, none⟩ = some (.int .i64 N) ∧ wx.cell? ⟨w4.heap.size, 1, none⟩ = some (.slice A5 n5 c5) ∧ wx.cell? ⟨w4.heap.size, 2, none⟩ = some (.slice A6 n6 c6) ∧ wx.cell? ⟨w4.heap.size, 3, none⟩ = some (.slice A7 n7 c7) ∧ wx.cell? ⟨w6.heap.size, 1, none⟩ = some (.slice B5 m5 d5) ∧ wx.cell? ⟨w6.heap.size, 2, none⟩ = some (.slice B6 m6 d6) ∧ wx.cell? ⟨w6.heap.size, 3, none⟩ = some (.slice B7 m7 d7)) := Lib.hid (fun wx hbx => by
              have h1 := blk_bel HA7.out hbx
              have h2 := blk_bel HD7.out hbx
              exact ⟨blk_cell h1 0 rfl, blk_cell h1 1 rfl, blk_cell h1 2 rfl, blk_cell h1 3 rfl, blk_cell h2 1 rfl, blk_cell h2 2 rfl, blk_cell h2 3 rfl⟩)
            have HR7 : Hid (Below w7.heap.size w7 w7) := Lib.hid (Below.refl _ _)
            have HRD7 : Hid (Below w7.heap.size w7 w7.drew) := Lib.hid (below_drewN (n := 1) (Below.refl _ _))
            have HBD : Hid ((S.l.length ≤ 600 ∧ S.r.length ≤ 600 ∧ S.c.length ≤ 600) ∧ ∀ x ∈ S.c, 1 ≤ x.length) := Lib.hid (by rw [hS]; exact mc_bd hF1 hF2)
            clear hF1 hF2 hz1 hz2 o1 o2 o3 o4 o5 o6 hG hG' hS hM
            go_upto_region 8 with fail
            clear hcmp
            go_cut [11] from 45 to 73 (fun s11 wx => ∃ g11 : Nat, s11 = .pointer (some ⟨g11, 0, none⟩) ∧ BxP w7 N S g11 wx)
            case first =>
              as_aux_lemma =>
              clear y0 y1 y2 y3 u0 u1 u2 u3 z0 z1 z2 f0 f1 f2 O1 O2 O3 O4 O5 O6 HV1 HV2 HI1 HI2 HX1 HX2 HZ HF1 HF2 HP4 HP6
              have hse := HSX7.out _ HR7.out
              obtain ⟨y0, y1, y2, y3, u1, u2, u3⟩ := hse
              (first | (go_region_held3 (fun w' => w'.cell? ⟨w4.heap.size, 0, none⟩ = some (.int .i64 N) ∧ w'.cell? ⟨w4.heap.size, 1, none⟩ = some (.slice A5 n5 c5) ∧ w'.cell? ⟨w4.heap.size, 2, none⟩ = some (.slice A6 n6 c6) ∧ w'.cell? ⟨w4.heap.size, 3, none⟩ = some (.slice A7 n7 c7) ∧ w'.cell? ⟨w6.heap.size, 1, none⟩ = some (.slice B5 m5 d5) ∧ w'.cell? ⟨w6.heap.size, 2, none⟩ = some (.slice B6 m6 d6) ∧ w'.cell? ⟨w6.heap.size, 3, none⟩ = some (.slice B7 m7 d7)) (first | with_reducible exact HSX7.out _ HR7.out | with_reducible exact HSX7.out _ HRD7.out | with_reducible exact HSX7.out _ (bq_al HR7.out) | with_reducible exact HSX7.out _ (bq_dr HR7.out) | with_reducible exact HSX7.out _ (bq_dr (bq_al HR7.out)) | with_reducible exact HSX7.out _ HR7.out | with_reducible exact HSX7.out _ (bq_al HB8.out) | with_reducible exact HSX7.out _ (bq_dr HB8.out) | with_reducible exact HSX7.out _ (bq_dr (bq_al HB8.out)) | with_reducible exact HSX7.out _ HB8.out | with_reducible exact HSX7.out _ (bq_al HB9.out) | with_reducible exact HSX7.out _ (bq_dr HB9.out) | with_reducible exact HSX7.out _ (bq_dr (bq_al HB9.out)) | with_reducible exact HSX7.out _ HB9.out | with_reducible exact HSX7.out _ (bq_al HB10.out) | with_reducible exact HSX7.out _ (bq_dr HB10.out) | with_reducible exact HSX7.out _ (bq_dr (bq_al HB10.out)) | with_reducible exact HSX7.out _ HB10.out | with_reducible exact HSX7.out _ (bq_set (bq_set (bq_set (bq_set HB10.out (by first | with_reducible exact Nat.le_refl _ | with_reducible exact HB8.out.size | with_reducible exact HB9.out.size)) (by first | with_reducible exact Nat.le_refl _ | with_reducible exact HB8.out.size | with_reducible exact HB9.out.size)) (by first | with_reducible exact Nat.le_refl _ | with_reducible exact HB8.out.size | with_reducible exact HB9.out.size)) (by first | with_reducible exact Nat.le_refl _ | with_reducible exact HB8.out.size | with_reducible exact HB9.out.size))) (first
                | (have hq := HO9.out
                   clear hq
                   go_simp
                   go_at_call 82
                   with_reducible refine (HSC2.out _ (by first | exact HB9.out | exact bq_al HB9.out | exact bq_dr HB9.out | exact bq_dr (bq_al HB9.out))).mono ?_
                   rintro e w10 ⟨A10, n10, c10, F10, rfl, ho10, hf10, hb10⟩
                   (try replace hb10 := und1 hb10)
                   have HO10 := Lib.hid ho10
                   have HF10 := Lib.hid hf10
                   have HZ10 := Lib.hid hb10.size
                   have HC10 : Hid (Below w9.heap.size w9 w10) := Lib.hid (by first | exact hb10 | exact bq_call hb10 (bq_al (Below.refl _ _)))
                   have HB10 : Hid (Below w7.heap.size w7 w10) := Lib.hid (bq_call HC10.out HB9.out)
                   (first | (have hxz10 := blk_bel (box_new w9 #[.int .i64 0, .slice none 0 0, .slice none 0 0, .slice none 0 0] 125) hb10) | (have hxz10 := blk_bel hxz9 hb10) | skip)
                   (try (have y0 := blk_cell hxz10 0 rfl; have y1 := blk_cell hxz10 1 rfl; have y2 := blk_cell hxz10 2 rfl; have y3 := blk_cell hxz10 3 rfl; have f0 := blk_free hxz10 0; have f1 := blk_free hxz10 1; have f2 := blk_free hxz10 2; have f3 := blk_free hxz10 3))
                   clear ho10 hf10 hb10)
                | (have hq := HO8.out
                   clear hq
                   go_simp
                   go_at_call 82
                   with_reducible refine (HSR.out _ (by first | exact HB8.out | exact bq_al HB8.out | exact bq_dr HB8.out | exact bq_dr (bq_al HB8.out))).mono ?_
                   rintro e w9 ⟨A9, n9, c9, F9, rfl, ho9, hf9, hb9⟩
                   (try replace hb9 := und1 hb9)
                   have HO9 := Lib.hid ho9
                   have HF9 := Lib.hid hf9
                   have HZ9 := Lib.hid hb9.size
                   have HC9 : Hid (Below w8.heap.size w8 w9) := Lib.hid (by first | exact hb9 | exact bq_call hb9 (bq_al (Below.refl _ _)))
                   have HB9 : Hid (Below w7.heap.size w7 w9) := Lib.hid (bq_call HC9.out HB8.out)
                   (first | (have hxz9 := blk_bel (box_new w8 #[.int .i64 0, .slice none 0 0, .slice none 0 0, .slice none 0 0] 125) hb9) | (have hxz9 := blk_bel hxz8 hb9) | skip)
                   clear ho9 hf9 hb9)
                | (go_simp
                   go_at_call 82
                   with_reducible refine (HSL.out _ (by first | exact HR7.out | exact bq_al HR7.out | exact bq_dr HR7.out | exact bq_dr (bq_al HR7.out))).mono ?_
                   rintro e w8 ⟨A8, n8, c8, F8, rfl, ho8, hf8, hb8⟩
                   (try replace hb8 := und1 hb8)
                   have HO8 := Lib.hid ho8
                   have HF8 := Lib.hid hf8
                   have HZ8 := Lib.hid hb8.size
                   have HC8 : Hid (Below w7.heap.size w7 w8) := Lib.hid (by first | exact hb8 | exact bq_call hb8 (bq_al (Below.refl _ _)))
                   have HB8 : Hid (Below w7.heap.size w7 w8) := Lib.hid (HC8.out)
                   (try (have hxz8 := blk_bel (box_new w7 #[.int .i64 0, .slice none 0 0, .slice none 0 0, .slice none 0 0] 125) hb8))
                   clear ho8 hf8 hb8))) | fail)
              all_goals
                as_aux_lemma =>
                go_wp2_with fail
                go_meet
                refine ⟨_, rfl, ?_⟩
                first
                  | (with_reducible refine bxp_new (F1 := F8) (F2 := F9) (F3 := F10) ?_ ?_ ?_ ?_
                     exact HO8.out.below (bq_call HC10.out HC9.out)
                     exact HO9.out.below HC10.out
                     exact HO10.out
                     exact HB10.out)
                  | (with_reducible refine bxp_drw (bxp_new (F1 := F8) (F2 := F9) (F3 := F10) ?_ ?_ ?_ ?_)
                     exact HO8.out.below (bq_call HC10.out HC9.out)
                     exact HO9.out.below HC10.out
                     exact HO10.out
                     exact HB10.out)
                  | (with_reducible refine bxp_set (F1 := F8) (F2 := F9) (F3 := F10) ?_ ?_ ?_ ?_ ?_ hxz10 ?_ ?_ ?_
                     exact HO8.out.below (bq_call HC10.out HC9.out)
                     exact HO9.out.below HC10.out
                     exact HO10.out
                     exact HB10.out
                     first | with_reducible exact Nat.le_refl _ | with_reducible exact HB8.out.size | with_reducible exact HB9.out.size
                     exact (fun h => by have a := HF8.out _ h; have b8 := HZ8.out; have b9 := HZ9.out; have b10 := HZ10.out; (simp at a b8 b9 b10) <;> omega)
                     exact (fun h => by have a := HF9.out _ h; have b8 := HZ8.out; have b9 := HZ9.out; have b10 := HZ10.out; (simp at a b8 b9 b10) <;> omega)
                     exact (fun h => by have a := HF10.out _ h; have b8 := HZ8.out; have b9 := HZ9.out; have b10 := HZ10.out; (simp at a b8 b9 b10) <;> omega))
            case rest =>
              as_aux_lemma =>
              obtain ⟨g10, rfl, D1, p1, q1, D2, p2, q2, D3, p3, q3, us3, hx10, hl1, hl2, hl3, hb8⟩ := hcut
              obtain ⟨w8, rfl⟩ : ∃ v, v = wc := ⟨_, rfl⟩
              have HB8 : Hid (Below w.heap.size w w8) := Lib.hid (HBW7.out.trans (hb8.mono HBW7.out.size))
              have HLN : Hid (p1 ≤ 600 ∧ p2 ≤ 600 ∧ p3 ≤ 600) := Lib.hid (by have a := hl1.len; have b := hl2.len; have c := hl3.ownp.len; have d := HBD.out.1; omega)
              have HCK := checked_any w8 N D1 p1 q1 D2 p2 q2 D3 p3 q3 S.l S.r S.c us3 hl1 (by have := HLN.out; omega) hl2 (by have := HLN.out; omega) hl3 (by have := HLN.out; omega) HBD.out.2
              rw [prF_chR hl1.len hl2.len] at HCK
              replace HCK := Lib.hid HCK
              clear y0 y1 y2 y3 u0 u1 u2 u3 z0 z1 z2 f0 f1 f2
              have x0 := blk_cell hx10 0 rfl
              have x1 := blk_cell hx10 1 rfl
              have x2 := blk_cell hx10 2 rfl
              have x3 := blk_cell hx10 3 rfl
              have HZ8 := Lib.hid (blk_bel (blk_bel HZ.out HB7.out) hb8)
              have HQ : Hid (w.heap.size + 1 + 1 < w8.heap.size) := Lib.hid (blk_lt HZ8.out)
              clear hx10 hl1 hl2 hl3 hb8
              go_wp2_with fail
              refine HCK.out.mono ?_
              rintro e w9 hP
              obtain ⟨A9, n9, c9, A10, n10, c10, F9, rfl, ho9, hp9, hF9, hd9, hb9⟩ := hP
              have HP9 := Lib.hid (show PfP w8 (prF N S) _ w9 from ⟨A9, n9, c9, A10, n10, c10, F9, rfl, ho9, hp9, hF9, hd9, hb9⟩)
              have hzb := blk_bel HZ8.out hb9
              have z0 := blk_cell hzb 0 rfl
              have z1 := blk_cell hzb 1 rfl
              have z2 := blk_cell hzb 2 rfl
              have f0 := blk_free hzb 0
              have f1 := blk_free hzb 1
              have f2 := blk_free hzb 2
              clear hzb ho9 hp9 hF9 hd9 hb9 x0 x1 x2 x3
              generalize prF N S = R at *
              go_wp2_with fail
              exact bodyPost_ret (v := .tuple #[prfV R.1 A9 n9 c9 A10 n10 c10, .int .i64 R.2.2.2]) (by simp [results, Try.results33, go_sem, z0, z1, z2]) rfl (by rw [HO.out]; exact pfp_set HP9.out HB8.out (by omega) HQ.out)
          · as_aux_lemma =>
            have HO : Hid (mcP k1 ns1 ws1 k2 ns2 ws2 = (0, [], [], 2)) := Lib.hid (by
              have h1 : decide (pN ns1 = pN ns2) = false := decide_eq_false heq
              unfold mcP; rw [OK1.out, OK2.out, h1]; simp)
            have hcmp : (zA != zB) = true := by
              have h1 := (HP4.out rfl).1
              have h2 := (HP6.out rfl).1
              rw [bne_iff_ne]; omega
            clear heq
            go_wp2_with fail
            exact bodyPost_ret (v := .tuple #[prfV 0 none 0 0 none 0 0, .int .i64 2]) (by simp [results, Try.results33, go_sem, z0, z1, z2]) rfl (by rw [HO.out]; exact pfp_err (HBW7.out) (by omega))
end Go.Proofs.Ytcpkhhammafchaa
