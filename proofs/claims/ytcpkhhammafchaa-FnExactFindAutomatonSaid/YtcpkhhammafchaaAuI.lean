/- Automata (program): successors. Written by mk_aui.py. -/
import Derived.Test.YtcpkhhammafchaaAuO
namespace Go.Proofs.Ytcpkhhammafchaa
open Go.RowKit
set_option linter.unusedVariables false
set_option linter.unusedSimpArgs false
attribute [local go_sem ↓] Go.wp_at_zero Go.wp_at_succ
theorem ky_ok {s t a b : Int} {x : List Int} (hs : s ≤ 6) (ht : t ≤ 1000) (ha : a ≤ 20) (hb : b ≤ 20) (h : okA s t a b x) : KyA x := by
  obtain ⟨x0, q, c, x3, rfl, h0, h1, h2, h3⟩ := h
  refine ⟨rfl, fun z hz => ?_⟩
  simp only [List.mem_cons, List.mem_nil_iff, or_false] at hz
  unfold SmI
  rcases hz with rfl | rfl | rfl | rfl <;> omega
set_option maxHeartbeats 8000000 in
set_option maxRecDepth 100000 in
theorem successors_any (w0 : World) (s t : Int) (A : Option Addr) (n c : Nat) (rs : List Rul) (hr : Rd w0 A (n * 3) (ints (flatR rs))) (hok : okM s t rs = true) (a : Int) (A1 : Option Addr) (n1 c1 : Nat) (xs : List Int) (hr1 : Rd w0 A1 n1 (ints xs)) (hx : dfB a xs s = true) (b : Int) (A2 : Option Addr) (n2 c2 : Nat) (ys : List Int) (hr2 : Rd w0 A2 n2 (ints ys)) (hy : dfB b ys s = true) (w : World) (hb0 : Below w0.heap.size w0 w) (gs mB gl : Nat) (An : Option Addr) (nn cn : Nat) (L : List (List Int)) (h : FndS w w0.heap.size gs mB gl An nn cn L) (hL : L.length ≤ 4000) (x0 q cc x3 : Int) (hox : okA s t a b [x0, q, cc, x3]) :
    Calls Try.prog 148 #[auVal s t A n c a A1 n1 c1 b A2 n2 c2, ouV x0 q cc x3, fndV gs gl] w (fun r w' => r = .returned (.bool (isR (ruleA s rs [x0, q, cc, x3]))) ∧ FndX w w0.heap.size gs mB gl ((succA s rs xs ys [x0, q, cc, x3]).foldl addA L) w') := by
  obtain ⟨wa, hwa⟩ : ∃ wa, wa = w.alloc (.cells #[.int .i64 s, .int .i64 t, .slice A n c, .int .i64 a, .slice A1 n1 c1, .int .i64 b, .slice A2 n2 c2] 100) := ⟨_, rfl⟩
  obtain ⟨wb, hwb⟩ : ∃ wb, wb = wa.alloc (.cells #[.int .i64 x0, .int .i64 q, .int .i64 cc, .int .i64 x3] 205) := ⟨_, rfl⟩
  obtain ⟨w3, hw3⟩ : ∃ w3, w3 = wb.alloc (.cells #[fndV gs gl] 206) := ⟨_, rfl⟩
  have sa : wa.heap.size = w.heap.size + 1 := by rw [hwa]; simp
  have sb : wb.heap.size = w.heap.size + 1 + 1 := by rw [hwb]; simp [sa]
  have s3 : w3.heap.size = w.heap.size + 1 + 1 + 1 := by rw [hw3]; simp [sb]
  have xm : w3.heap[w.heap.size]? = some (.cells #[.int .i64 s, .int .i64 t, .slice A n c, .int .i64 a, .slice A1 n1 c1, .int .i64 b, .slice A2 n2 c2] 100 (0, 0)) := by
    rw [hw3]; refine blk_alloc ?_ _
    rw [hwb]; refine blk_alloc ?_ _
    rw [hwa]; exact box_new w _ _
  have xa : w3.heap[w.heap.size + 1]? = some (.cells #[.int .i64 x0, .int .i64 q, .int .i64 cc, .int .i64 x3] 205 (0, 0)) := by
    rw [hw3]; refine blk_alloc ?_ _
    rw [hwb, ← sa]; exact box_new wa _ _
  have xf : w3.heap[w.heap.size + 1 + 1]? = some (.cells #[fndV gs gl] 206 (0, 0)) := by
    rw [hw3, ← sb]; exact box_new wb _ _
  have hB3 : Below w.heap.size w w3 := by rw [hw3]; refine bqa ?_; rw [hwb]; refine bqa ?_; rw [hwa]; exact bqa (Below.refl _ _)
  have HB3 := Lib.hid hB3; have HXM := Lib.hid xm; have HXA := Lib.hid xa; have HXF := Lib.hid xf
  have HB0 := Lib.hid hb0; have HFS := Lib.hid h; have HLL := Lib.hid hL
  have HLOW : Hid (w0.heap.size ≤ w.heap.size) := Lib.hid hb0.size
  have HR := Lib.hid hr; have HR1 := Lib.hid hr1; have HR2 := Lib.hid hr2; have HX := Lib.hid hx; have HY := Lib.hid hy; have HOK := Lib.hid hok; have HOX := Lib.hid hox
  obtain ⟨kr, hkr, hgr, hkr2⟩ := rule_a hok hox
  obtain ⟨⟨ra, mv, rc⟩, hru⟩ : ∃ r : Rul, r = ruleA s rs [x0, q, cc, x3] := ⟨_, rfl⟩
  have HRU := Lib.hid hru
  rw [← hru] at hgr
  have hrl : rs.length = n := by have := hr.1; simp [flatR_len] at this; omega
  have hkn : kr < n := by rw [← hrl]; exact (List.getElem?_eq_some_iff.1 hgr).1
  have hkn3 : kr * 3 + 2 < n * 3 := by omega
  obtain ⟨p0r, p1r, p2r⟩ := flatR_get hgr
  have hrw := hr.below (hb0.trans (hB3.mono hb0.size)) (Nat.le_refl _)
  obtain ⟨bR, oR, hAR, hbR, hcR⟩ := hrw.2 (by omega)
  have p0 := hcR _ _ (ints_get p0r)
  have p1 := hcR _ _ (ints_get p1r)
  have p2 := hcR _ _ (ints_get p2r)
  simp only [← Nat.add_assoc] at p0 p1 p2
  have hki : q * s + cc = (kr : Int) := hkr
  obtain ⟨hss, htt, _⟩ := okM_all hok
  obtain ⟨_, haa, _⟩ := dfB_all hx
  obtain ⟨_, hbb, _⟩ := dfB_all hy
  have HTT := Lib.hid htt; have HBA := Lib.hid haa; have HBB := Lib.hid hbb
  have hox2 := hox
  obtain ⟨x0', q', cc', x3', he, k0, k1, k2, k3⟩ := hox2
  obtain ⟨rfl, rfl, rfl, rfl⟩ : x0' = x0 ∧ q' = q ∧ cc' = cc ∧ x3' = x3 := by simpa [eq_comm] using he
  have hqs : 0 ≤ q' * s ∧ q' * s ≤ 6000 := mul_bd (c := 1000) (d := 6) (by omega) (by omega) (by omega) (by omega)
  subst hAR
  have HKX := Lib.hid k0; have HK3 := Lib.hid k3
  have m0 := blk_cell xm 0 rfl
  have m2 := blk_cell xm 2 rfl
  have a1' := blk_cell xa 1 rfl
  have a2' := blk_cell xa 2 rfl
  have w1 := wr_of hqs.1 (by omega)
  have w2' : IntKind.i64.wrap (q' * s + cc') = (kr : Int) := (wr_of (x := q' * s + cc') (by omega) (by omega)).trans hki
  have i1 : (0 : Int) ≤ (kr : Int) := by omega
  have i2 : (kr : Int) < (n : Int) := by omega
  have hW : w3 = ((w.alloc (.cells #[.int .i64 s, .int .i64 t, .slice (some ⟨bR, oR, none⟩) n c, .int .i64 a, .slice A1 n1 c1, .int .i64 b, .slice A2 n2 c2] 100)).alloc (.cells #[.int .i64 x0', .int .i64 q', .int .i64 cc', .int .i64 x3'] 205)).alloc (.cells #[fndV gs gl] 206) := by rw [hw3, hwb, hwa]
  have HS3 := Lib.hid s3
  clear hr hr1 hr2 hx hy hok hox hb0 h hL hwa hwb hw3 sa sb xm xa xf hB3 hgr hru hrl p0r p1r p2r hcR k0 k1 k2 k3 hqs hkr hkr2 hkn hkn3 hbR hki hrw he
  go_enter Try.func148, Try.ntmps148
  go_upto_region 1 with fail
  rw [← hW]
  clear hW
  go_upto_region 5 with fail
  obtain ⟨w4, hw4⟩ : ∃ w4, w4 = w3.alloc (.cells #[.int .i64 ra, .int .i64 mv, .int .i64 rc] 154) := ⟨_, rfl⟩
  have HXR : Hid (w4.heap[w.heap.size + 1 + 1 + 1]? = some (.cells #[.int .i64 ra, .int .i64 mv, .int .i64 rc] 154 (0, 0))) := Lib.hid (by rw [hw4, ← s3]; exact box_new w3 _ _)
  have HB34 : Hid (Below w3.heap.size w3 w4) := Lib.hid (by rw [hw4]; exact below_new _ _)
  rw [← hw4]
  try rw [s3]
  clear hw4 m0 m2 a1' a2' w1 w2' i1 i2 p0 p1 p2 s3
  have r0 := blk_cell HXR.out 0 rfl
  have r1 := blk_cell HXR.out 1 rfl
  have r2 := blk_cell HXR.out 2 rfl
  have HIR := isRule_any w4 ⟨ra, mv, rc⟩
  obtain ⟨bo, hbo⟩ : ∃ bo, bo = isR ⟨ra, mv, rc⟩ := ⟨_, rfl⟩
  rw [← hbo] at HIR
  replace HIR := Lib.hid HIR
  have HBI := Lib.hid hbo
  clear hbo
  cases bo with
  | false =>
    as_aux_lemma =>
    have HSA : Hid (succA s rs xs ys [x0', q', cc', x3'] = []) := Lib.hid (by unfold succA; rw [← HRU.out, ← HBI.out]; rfl)
    go_wp2_with (go_at_call 164; refine HIR.out.mono ?_; rintro e w5 ⟨rfl, hb5⟩)
    go_ret
    refine ⟨by rw [← HRU.out, ← HBI.out]; rfl, ?_⟩
    rw [HSA.out]
    exact HFS.out.x (bqc hb5 (bqc HB34.out HB3.out)) HLOW.out
  | true =>
    as_aux_lemma =>
    obtain ⟨hwr, hmv, hnx⟩ := isR_a HOK.out HOX.out (by rw [← HRU.out]; exact HBI.out.symm)
    rw [← HRU.out] at hwr hmv hnx
    simp only at hwr hmv hnx
    have HWR := Lib.hid hwr; have HNX := Lib.hid hnx
    clear hwr hnx
    rcases hmv with rfl | rfl
    · as_aux_lemma =>
      go_upto_region 8 with (go_at_call 164; refine HIR.out.mono ?_; rintro e w5 ⟨rfl, hb5⟩
                             have HB45 : Hid (Below w4.heap.size w4 w5) := Lib.hid hb5
                             have hr5 := blk_bel HXR.out hb5
                             clear r0 r1 r2
                             have r0 := blk_cell hr5 0 rfl
                             have r1 := blk_cell hr5 1 rfl
                             clear hb5 hr5)
      have HB35 : Hid (Below w3.heap.size w3 w5) := Lib.hid (bqc HB45.out HB34.out)
      have HBW5 : Hid (Below w.heap.size w w5) := Lib.hid (bqc HB35.out HB3.out)
      have HB05 : Hid (Below w0.heap.size w0 w5) := Lib.hid (bqc HBW5.out HB0.out)
      have HFS5 := Lib.hid (HFS.out.below HBW5.out)
      have HXF5 := Lib.hid (HFS.out.x HBW5.out HLOW.out)
      obtain ⟨kd, hkd, hgd, hkd2, hqs, hvd⟩ := to_a (ns := xs) HX.out HKX.out HWR.out
      obtain ⟨v, hv⟩ : ∃ v, v = xs.getD (x0' * s + ra).toNat 0 := ⟨_, rfl⟩
      have HVV := Lib.hid hv
      rw [← hv] at hgd hvd
      have HBV : Hid (0 ≤ v ∧ v < a) := Lib.hid hvd
      have HSA : Hid (succA s rs xs ys [x0', q', cc', x3'] = (fromD ys x3').map (nxR s ⟨ra, 1, rc⟩ v)) := Lib.hid (by
        unfold succA
        rw [← HRU.out, ← HBI.out, hv]
        rfl)
      have HEN : Hid (n2 ≤ 1000) := Lib.hid (by
        have h1 := dfB_all HY.out
        have h2 := mul_bd (c := 20) (d := 6) (show (0 : Int) ≤ b by omega) (by omega) (show 0 ≤ s by omega) h1.1.2
        have h3 := h1.2.2.1
        have h4 := HR2.out.1
        simp only [List.length_map] at h4
        omega)
      have HT := Lib.hid (to_any w5 a A1 n1 c1 xs (HR1.out.below HB05.out (Nat.le_refl _)) x0' ra s kd v hkd hgd (by omega) (by omega))
      have hz5 := blk_bel HXM.out HB35.out
      have m0 := blk_cell hz5 0 rfl
      have m1 := blk_cell hz5 1 rfl
      have m2 := blk_cell hz5 2 rfl
      have m3 := blk_cell hz5 3 rfl
      have m4 := blk_cell hz5 4 rfl
      have m5 := blk_cell hz5 5 rfl
      have m6 := blk_cell hz5 6 rfl
      have ha5 := blk_bel HXA.out HB35.out
      have a0' := blk_cell ha5 0 rfl
      have a3' := blk_cell ha5 3 rfl
      clear hkd hgd hkd2 hqs hvd hv hz5 ha5
      go_upto_region 9 with (go_at_call 165; refine HT.out.mono ?_; rintro e w6 ⟨rfl, hb6⟩
                             have hb56 := hb6
                             have hz6 := blk_bel (blk_bel HXM.out HB35.out) hb6
                             clear m0 m1 m2 m3 m4 m5 m6 a0' a3' r0 r1
                             have m0 := cell_alX (o := .cells #[.int .i64 v] 2) (blk_cell hz6 0 rfl)
                             have m1 := cell_alX (o := .cells #[.int .i64 v] 2) (blk_cell hz6 1 rfl)
                             have m2 := cell_alX (o := .cells #[.int .i64 v] 2) (blk_cell hz6 2 rfl)
                             have m3 := cell_alX (o := .cells #[.int .i64 v] 2) (blk_cell hz6 3 rfl)
                             have m4 := cell_alX (o := .cells #[.int .i64 v] 2) (blk_cell hz6 4 rfl)
                             have m5 := cell_alX (o := .cells #[.int .i64 v] 2) (blk_cell hz6 5 rfl)
                             have m6 := cell_alX (o := .cells #[.int .i64 v] 2) (blk_cell hz6 6 rfl)
                             have ha6 := blk_bel (blk_bel HXA.out HB35.out) hb6
                             have a0' := cell_alX (o := .cells #[.int .i64 v] 2) (blk_cell ha6 0 rfl)
                             have a3' := cell_alX (o := .cells #[.int .i64 v] 2) (blk_cell ha6 3 rfl)
                             have HB6 : Hid (Below w5.heap.size w5 w6) := Lib.hid hb6
                             clear hb56 hz6 ha6 hb6)
      obtain ⟨w7, hw7⟩ : ∃ w7, w7 = w6.alloc (.cells #[.int .i64 v] 2) := ⟨_, rfl⟩
      have HB67 : Hid (Below w6.heap.size w6 w7) := Lib.hid (by rw [hw7]; exact below_new _ _)
      have HB57 : Hid (Below w5.heap.size w5 w7) := Lib.hid (bqc HB67.out HB6.out)
      have HX9 : Hid (w7.heap[w6.heap.size]? = some (.cells #[.int .i64 v] 2 (0, 0))) := Lib.hid (by rw [hw7]; exact box_new w6 _ _)
      rw [← hw7]
      clear hw7 m0 m1 m2 m3 m4 m5 m6 a0' a3'
      have HB07 : Hid (Below w0.heap.size w0 w7) := Lib.hid (bqc HB57.out HB05.out)
      have HLO5 : Hid (w0.heap.size ≤ w5.heap.size) := Lib.hid HB05.out.size
      have HX7 : Hid (FndX w w0.heap.size gs mB gl L w7) := Lib.hid (HXF5.out.bel HB57.out HLOW.out)
      have HKK : Hid (∀ k : Nat, k < n2 → KyA (nxR s ⟨ra, 1, rc⟩ v k)) := Lib.hid (fun k hk => by
        have h1 := ix_a (i := k) HY.out (by have h4 := HR2.out.1; simp only [List.length_map] at h4; omega)
        have h2 := HBV.out; have h3 := HNX.out
        have h4 := HBA.out; have h5 := HBB.out
        refine ky_ok (s := s) (t := t) (a := a) (b := b) (by omega) (by omega) (by omega) (by omega) ?_
        exact ⟨_, _, _, _, rfl, by (try dsimp only); omega, by (try dsimp only); omega, by (try dsimp only); omega, by (try dsimp only); omega⟩)
      have HOR := Lib.hid (ori1_any w0 w7 HB07.out gs mB gl An nn cn L (HFS5.out.below HB57.out) (by have := HLL.out; omega) (w.heap.size + 1 + 1) (w.heap.size + 1 + 1 + 1) w6.heap.size ra (1) rc v (blk_bel (blk_bel HXF.out HB35.out) HB57.out) (blk_bel (blk_bel HXR.out HB45.out) HB57.out) HX9.out b A2 n2 c2 ys HR2.out HEN.out x3' s hss HKK.out)
      have hz7 := blk_bel (blk_bel HXM.out HB35.out) HB57.out
      have m3 := blk_cell hz7 3 rfl
      have m4 := blk_cell hz7 4 rfl
      have m5 := blk_cell hz7 5 rfl
      have m6 := blk_cell hz7 6 rfl
      have ha7 := blk_bel (blk_bel HXA.out HB35.out) HB57.out
      have a0' := blk_cell ha7 0 rfl
      have a3' := blk_cell ha7 3 rfl
      clear hz7 ha7
      go_wp2_with (go_at_call 166; refine HOR.out.mono ?_; rintro e w8 ⟨rfl, hx8⟩
                   clear m3 m4 m5 m6 a0' a3')
      go_ret
      refine ⟨by rw [← HRU.out, ← HBI.out]; rfl, ?_⟩
      rw [HSA.out]
      exact HX7.out.trans hx8
    · as_aux_lemma =>
      go_upto_region 3 with (go_at_call 164; refine HIR.out.mono ?_; rintro e w5 ⟨rfl, hb5⟩
                             have HB45 : Hid (Below w4.heap.size w4 w5) := Lib.hid hb5
                             have hr5 := blk_bel HXR.out hb5
                             clear r0 r1 r2
                             have r0 := blk_cell hr5 0 rfl
                             have r1 := blk_cell hr5 1 rfl
                             clear hb5 hr5)
      have HB35 : Hid (Below w3.heap.size w3 w5) := Lib.hid (bqc HB45.out HB34.out)
      have HBW5 : Hid (Below w.heap.size w w5) := Lib.hid (bqc HB35.out HB3.out)
      have HB05 : Hid (Below w0.heap.size w0 w5) := Lib.hid (bqc HBW5.out HB0.out)
      have HFS5 := Lib.hid (HFS.out.below HBW5.out)
      have HXF5 := Lib.hid (HFS.out.x HBW5.out HLOW.out)
      obtain ⟨kd, hkd, hgd, hkd2, hqs, hvd⟩ := to_a (ns := ys) HY.out HK3.out HWR.out
      obtain ⟨v, hv⟩ : ∃ v, v = ys.getD (x3' * s + ra).toNat 0 := ⟨_, rfl⟩
      have HVV := Lib.hid hv
      rw [← hv] at hgd hvd
      have HBV : Hid (0 ≤ v ∧ v < b) := Lib.hid hvd
      have HSA : Hid (succA s rs xs ys [x0', q', cc', x3'] = (fromD xs x0').map (nxL s ⟨ra, -1, rc⟩ v)) := Lib.hid (by
        unfold succA
        rw [← HRU.out, ← HBI.out, hv]
        rfl)
      have HEN : Hid (n1 ≤ 1000) := Lib.hid (by
        have h1 := dfB_all HX.out
        have h2 := mul_bd (c := 20) (d := 6) (show (0 : Int) ≤ a by omega) (by omega) (show 0 ≤ s by omega) h1.1.2
        have h3 := h1.2.2.1
        have h4 := HR1.out.1
        simp only [List.length_map] at h4
        omega)
      have HT := Lib.hid (to_any w5 b A2 n2 c2 ys (HR2.out.below HB05.out (Nat.le_refl _)) x3' ra s kd v hkd hgd (by omega) (by omega))
      have hz5 := blk_bel HXM.out HB35.out
      have m0 := blk_cell hz5 0 rfl
      have m1 := blk_cell hz5 1 rfl
      have m2 := blk_cell hz5 2 rfl
      have m3 := blk_cell hz5 3 rfl
      have m4 := blk_cell hz5 4 rfl
      have m5 := blk_cell hz5 5 rfl
      have m6 := blk_cell hz5 6 rfl
      have ha5 := blk_bel HXA.out HB35.out
      have a0' := blk_cell ha5 0 rfl
      have a3' := blk_cell ha5 3 rfl
      clear hkd hgd hkd2 hqs hvd hv hz5 ha5
      go_upto_region 4 with (go_at_call 165; refine HT.out.mono ?_; rintro e w6 ⟨rfl, hb6⟩
                             have hb56 := hb6
                             have hz6 := blk_bel (blk_bel HXM.out HB35.out) hb6
                             clear m0 m1 m2 m3 m4 m5 m6 a0' a3' r0 r1
                             have m0 := cell_alX (o := .cells #[.int .i64 v] 2) (blk_cell hz6 0 rfl)
                             have m1 := cell_alX (o := .cells #[.int .i64 v] 2) (blk_cell hz6 1 rfl)
                             have m2 := cell_alX (o := .cells #[.int .i64 v] 2) (blk_cell hz6 2 rfl)
                             have m3 := cell_alX (o := .cells #[.int .i64 v] 2) (blk_cell hz6 3 rfl)
                             have m4 := cell_alX (o := .cells #[.int .i64 v] 2) (blk_cell hz6 4 rfl)
                             have m5 := cell_alX (o := .cells #[.int .i64 v] 2) (blk_cell hz6 5 rfl)
                             have m6 := cell_alX (o := .cells #[.int .i64 v] 2) (blk_cell hz6 6 rfl)
                             have ha6 := blk_bel (blk_bel HXA.out HB35.out) hb6
                             have a0' := cell_alX (o := .cells #[.int .i64 v] 2) (blk_cell ha6 0 rfl)
                             have a3' := cell_alX (o := .cells #[.int .i64 v] 2) (blk_cell ha6 3 rfl)
                             have HB6 : Hid (Below w5.heap.size w5 w6) := Lib.hid hb6
                             clear hb56 hz6 ha6 hb6)
      obtain ⟨w7, hw7⟩ : ∃ w7, w7 = w6.alloc (.cells #[.int .i64 v] 2) := ⟨_, rfl⟩
      have HB67 : Hid (Below w6.heap.size w6 w7) := Lib.hid (by rw [hw7]; exact below_new _ _)
      have HB57 : Hid (Below w5.heap.size w5 w7) := Lib.hid (bqc HB67.out HB6.out)
      have HX9 : Hid (w7.heap[w6.heap.size]? = some (.cells #[.int .i64 v] 2 (0, 0))) := Lib.hid (by rw [hw7]; exact box_new w6 _ _)
      rw [← hw7]
      clear hw7 m0 m1 m2 m3 m4 m5 m6 a0' a3'
      have HB07 : Hid (Below w0.heap.size w0 w7) := Lib.hid (bqc HB57.out HB05.out)
      have HLO5 : Hid (w0.heap.size ≤ w5.heap.size) := Lib.hid HB05.out.size
      have HX7 : Hid (FndX w w0.heap.size gs mB gl L w7) := Lib.hid (HXF5.out.bel HB57.out HLOW.out)
      have HKK : Hid (∀ k : Nat, k < n1 → KyA (nxL s ⟨ra, -1, rc⟩ v k)) := Lib.hid (fun k hk => by
        have h1 := ix_a (i := k) HX.out (by have h4 := HR1.out.1; simp only [List.length_map] at h4; omega)
        have h2 := HBV.out; have h3 := HNX.out
        have h4 := HBA.out; have h5 := HBB.out
        refine ky_ok (s := s) (t := t) (a := a) (b := b) (by omega) (by omega) (by omega) (by omega) ?_
        exact ⟨_, _, _, _, rfl, by (try dsimp only); omega, by (try dsimp only); omega, by (try dsimp only); omega, by (try dsimp only); omega⟩)
      have HOR := Lib.hid (ori2_any w0 w7 HB07.out gs mB gl An nn cn L (HFS5.out.below HB57.out) (by have := HLL.out; omega) (w.heap.size + 1 + 1) (w.heap.size + 1 + 1 + 1) w6.heap.size ra (-1) rc v (blk_bel (blk_bel HXF.out HB35.out) HB57.out) (blk_bel (blk_bel HXR.out HB45.out) HB57.out) HX9.out a A1 n1 c1 xs HR1.out HEN.out x0' s hss HKK.out)
      have hz7 := blk_bel (blk_bel HXM.out HB35.out) HB57.out
      have m3 := blk_cell hz7 3 rfl
      have m4 := blk_cell hz7 4 rfl
      have m5 := blk_cell hz7 5 rfl
      have m6 := blk_cell hz7 6 rfl
      have ha7 := blk_bel (blk_bel HXA.out HB35.out) HB57.out
      have a0' := blk_cell ha7 0 rfl
      have a3' := blk_cell ha7 3 rfl
      clear hz7 ha7
      go_wp2_with (go_at_call 166; refine HOR.out.mono ?_; rintro e w8 ⟨rfl, hx8⟩
                   clear m3 m4 m5 m6 a0' a3')
      go_ret
      refine ⟨by rw [← HRU.out, ← HBI.out]; rfl, ?_⟩
      rw [HSA.out]
      exact HX7.out.trans hx8
end Go.Proofs.Ytcpkhhammafchaa
