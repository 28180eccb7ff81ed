/- The law on UniversalInput. Written by genlaw5.py. -/
import Derived.Test.YtilbgbibddjdcaaCdT
import Derived.Test.YtilbgbibddjdcaaCdU
import Derived.Test.YtilbgbibddjdcaaLawCmd2
namespace Go.Proofs.Ytilbgbibddjdcaa
open Go.RowKit
set_option linter.unusedVariables false
set_option linter.unusedSimpArgs false
theorem eqBoolS_same (w : World) (A : Option Addr) (n c : Nat) (xs : List Bool) (hr : Rd w A n (bools xs)) (hn : n ≤ 1099511627776) (A' : Option Addr) (n' c' : Nat) (hr' : Rd w A' n' (bools xs)) :
    Calls Try.prog 17 #[.slice A n c, .slice A' n' c'] w (RetV w (.bool true)) := eqB_same w A n c xs hr hn A' n' c' hr'
set_option maxHeartbeats 16000000 in
set_option maxRecDepth 100000 in
theorem lawUniversalInput (w : World) (A0 : Option Addr) (n0 c0 : Nat) (x0 : List Cmd) (hw0 : RdCW w A0 n0 x0) (hnn0 : n0 ≤ 9223372036854775807) (A1 : Option Addr) (n1 c1 : Nat) (x1 : List Bool) (hr1 : Rd w A1 n1 (bools x1)) (hnn1 : n1 ≤ 9223372036854775807) :
    Calls Try.prog 11 #[.slice A0 n0 c0, .slice A1 n1 c1] w fun e w' => e = .returned (.bool true) ∧ Below w.heap.size w w' := by
  have hS : ∀ (w : World) (A0 : Option Addr) (n0 c0 : Nat) (h0 : RdC w A0 n0 x0) (hn0 : n0 ≤ 1099511627776) (hcp0 : n0 ≤ c0) (A1 : Option Addr) (n1 c1 : Nat) (h1 : Rd w A1 n1 (bools x1)) (hn1 : n1 ≤ 1099511627776) (hcp1 : n1 ≤ c1), Calls Try.prog 52 #[.slice A0 n0 c0, .slice A1 n1 c1] w (fun e w' => ∃ (AR0 : Option Addr) (nR0 cR0 : Nat), e = .returned (.tuple #[.slice AR0 nR0 cR0, .int .i64 ((uinP x0 x1).2)]) ∧ w'.ownsRow w.heap.size 4 1 (.slice AR0 nR0 cR0) nR0 (bools ((uinP x0 x1).1)) ∧ Below w.heap.size w w') := fun w A0 n0 c0 h0 hn0 hcp0 A1 n1 c1 h1 hn1 hcp1 => specUniversalInput_any w A0 n0 c0 x0 h0 hn0 A1 n1 c1 x1 h1 hn1
  have hI : ∀ (w : World) (A0 : Option Addr) (n0 c0 : Nat) (h0 : RdC w A0 n0 x0) (hn0 : n0 ≤ 1099511627776) (hcp0 : n0 ≤ c0) (A1 : Option Addr) (n1 c1 : Nat) (h1 : Rd w A1 n1 (bools x1)) (hn1 : n1 ≤ 1099511627776) (hcp1 : n1 ≤ c1), Calls Try.prog 53 #[.slice A0 n0 c0, .slice A1 n1 c1] w (fun e w' => ∃ (AR0 : Option Addr) (nR0 cR0 : Nat), e = .returned (.tuple #[.slice AR0 nR0 cR0, .int .i64 ((uinP x0 x1).2)]) ∧ w'.ownsRow w.heap.size 4 1 (.slice AR0 nR0 cR0) nR0 (bools ((uinP x0 x1).1)) ∧ Below w.heap.size w w') := fun w A0 n0 c0 h0 hn0 hcp0 A1 n1 c1 h1 hn1 hcp1 => implUniversalInput_any w A0 n0 c0 x0 h0 hn0 hcp0 A1 n1 c1 x1 h1 hn1
  have HRLR0 : Hid (((uinP x0 x1).1).length ≤ 1000000) := Lib.hid (uin_len x0 x1)
  have HS := Lib.hid hS; have HI := Lib.hid hI
  clear hS hI
  generalize (uinP x0 x1).1 = r0 at HS HI HRLR0
  generalize (uinP x0 x1).2 = r1 at HS HI 
  have HXL0 : Hid ((x0).length = n0) := Lib.hid hw0.len
  have HXL1 : Hid ((x1).length = n1 * 1) := Lib.hid (by have := hr1.1; simp at this; omega)
  have HB := Below.refl w.heap.size w
  go_enter Try.func11, Try.ntmps11
  by_cases hbig1 : 1048576 < n1
  · have hbi1 : (1048576 : Int) < (n1 : Int) := by omega
    go_wp2_with fail
    go_ret
    exact ⟨rfl, HB⟩
  have hbi1 : ¬ (1048576 : Int) < (n1 : Int) := by omega
  replace hbig1 : n1 ≤ 1048576 := by omega
  go_wp2_with fail
  refine (szCommandS_post _ _ _ _ x0 (by have h := hw0.below HB (Nat.le_refl _); first | exact h | exact h.below (below_new _ _) (Nat.le_refl _) | exact (h.below (below_new _ _) (Nat.le_refl _)).below (below_new _ _) (Nat.le_refl _) | exact ((h.below (below_new _ _) (Nat.le_refl _)).below (below_new _ _) (Nat.le_refl _)).below (below_new _ _) (Nat.le_refl _)) hnn0 _ (by omega) (by omega)).mono ?_
  rintro e v1 ⟨lfv1, rfl, hqv1, hpv1, hbv1⟩
  (try replace hbv1 := und1 hbv1)
  (try replace hbv1 := undN hbv1)
  replace HB := HB.trans (hbv1.mono HB.size)
  have hszv1 := hbv1.size
  by_cases hzv1 : lfv1 < 0
  · clear hqv1 hpv1
    go_wp2_with fail
    go_ret
    exact ⟨rfl, HB⟩
  replace hqv1 := hqv1 (by omega)
  have hbig0 : n0 ≤ 1048576 := by omega
  have HTC0 : Hid (totC x0 ≤ 1048576) := Lib.hid (by omega)
  have HTX0 : Hid (mkC x0 ≤ 6000000) := Lib.hid (by have h1 := mkC_eq x0; have h2 := HTC0.out; have h3 := HXL0.out; omega)
  have hr0 := hw0.rdc (by have := HTC0.out; omega)
  have HQv1 := Lib.hid hqv1; clear hqv1
  go_wp2_with fail
  refine (toCommandS_any _ _ _ _ x0 (hr0.below HB (Nat.le_refl _)) (by omega)).mono ?_
  rintro e v2 ⟨Ao1, no1, co1, Fo1, rfl, hoo1, hFo1, hbv2⟩
  have hno1 : no1 ≤ 1048576 := by have h1 := hoo1.len; have h2 := HXL0.out; omega
  have hrgo1 := Lib.hid hFo1; clear hFo1
  (try replace hbv2 := und1 hbv2)
  (try replace hbv2 := undN hbv2)
  replace HB := HB.trans (hbv2.mono HB.size)
  have hszv2 := hbv2.size
  replace hrgo1 := Lib.hid (rg_lo hrgo1.out (lo := v1.heap.size + 0) (hi := v2.heap.size) (by first | exact Nat.le_refl _ | exact le_al1 | (simp; done) | (simp; omega)) (Nat.le_refl _))
  go_wp2_with fail
  refine (toBoolS_any _ _ _ _ x1 (hr1.below HB (Nat.le_refl _)) (by omega)).mono ?_
  rintro e v3 ⟨Ao2, no2, co2, rfl, hoo2, hbv3⟩
  have hno2 : no2 ≤ 1048576 := by have h1 := hoo2.1; simp only [List.length_map] at h1; have h2 := HXL1.out; omega
  have hrgo2 := Lib.hid (rg_row hoo2)
  (try replace hbv3 := und1 hbv3)
  (try replace hbv3 := undN hbv3)
  replace hoo1 := hoo1.below hbv3
  replace HB := HB.trans (hbv3.mono HB.size)
  have hszv3 := hbv3.size
  replace hrgo2 := Lib.hid (rg_lo hrgo2.out (lo := v2.heap.size + 0) (hi := v3.heap.size) (by first | exact Nat.le_refl _ | exact le_al1 | (simp; done) | (simp; omega)) (Nat.le_refl _))
  go_wp2_with fail
  refine (HS.out _ _ _ _ hoo1.rdc (by omega) hoo1.cap _ _ _ (own_rd hoo2) (by omega) (ownN_cap hoo2)).mono ?_
  rintro e v4 ⟨Ao3, no3, co3, rfl, hoo3, hbv4⟩
  have hno3 : no3 ≤ 1000000 := by have h1 := hoo3.1; simp only [List.length_map] at h1; have h2 := HRLR0.out; omega
  have hrgo3 := Lib.hid (rg_row hoo3)
  (try replace hbv4 := und1 hbv4)
  (try replace hbv4 := undN hbv4)
  replace hoo1 := hoo1.below hbv4
  replace hoo2 := ownN_below hoo2 hbv4 (Nat.le_refl _)
  replace HB := HB.trans (hbv4.mono HB.size)
  have hszv4 := hbv4.size
  replace hrgo3 := Lib.hid (rg_lo hrgo3.out (lo := v3.heap.size + 0) (hi := v4.heap.size) (by first | exact Nat.le_refl _ | exact le_al1 | (simp; done) | (simp; omega)) (Nat.le_refl _))
  go_wp2_with fail
  refine (toCommandS_any _ _ _ _ x0 (hr0.below HB (Nat.le_refl _)) (by omega)).mono ?_
  rintro e v5 ⟨Ao4, no4, co4, Fo4, rfl, hoo4, hFo4, hbv5⟩
  have hno4 : no4 ≤ 1048576 := by have h1 := hoo4.len; have h2 := HXL0.out; omega
  have hrgo4 := Lib.hid hFo4; clear hFo4
  (try replace hbv5 := und1 hbv5)
  (try replace hbv5 := undN hbv5)
  replace hoo1 := hoo1.below hbv5
  replace hoo2 := ownN_below hoo2 hbv5 (Nat.le_refl _)
  replace hoo3 := ownN_below hoo3 hbv5 (Nat.le_refl _)
  replace HB := HB.trans (hbv5.mono HB.size)
  have hszv5 := hbv5.size
  replace hrgo4 := Lib.hid (rg_lo hrgo4.out (lo := v4.heap.size + 0) (hi := v5.heap.size) (by first | exact Nat.le_refl _ | exact le_al1 | (simp; done) | (simp; omega)) (Nat.le_refl _))
  go_wp2_with fail
  refine (toBoolS_any _ _ _ _ x1 (hr1.below HB (Nat.le_refl _)) (by omega)).mono ?_
  rintro e v6 ⟨Ao5, no5, co5, rfl, hoo5, hbv6⟩
  have hno5 : no5 ≤ 1048576 := by have h1 := hoo5.1; simp only [List.length_map] at h1; have h2 := HXL1.out; omega
  have hrgo5 := Lib.hid (rg_row hoo5)
  (try replace hbv6 := und1 hbv6)
  (try replace hbv6 := undN hbv6)
  replace hoo1 := hoo1.below hbv6
  replace hoo2 := ownN_below hoo2 hbv6 (Nat.le_refl _)
  replace hoo3 := ownN_below hoo3 hbv6 (Nat.le_refl _)
  replace hoo4 := hoo4.below hbv6
  replace HB := HB.trans (hbv6.mono HB.size)
  have hszv6 := hbv6.size
  replace hrgo5 := Lib.hid (rg_lo hrgo5.out (lo := v5.heap.size + 0) (hi := v6.heap.size) (by first | exact Nat.le_refl _ | exact le_al1 | (simp; done) | (simp; omega)) (Nat.le_refl _))
  go_wp2_with fail
  refine (HI.out _ _ _ _ hoo4.rdc (by omega) hoo4.cap _ _ _ (own_rd hoo5) (by omega) (ownN_cap hoo5)).mono ?_
  rintro e v7 ⟨Ao6, no6, co6, rfl, hoo6, hbv7⟩
  have hno6 : no6 ≤ 1000000 := by have h1 := hoo6.1; simp only [List.length_map] at h1; have h2 := HRLR0.out; omega
  have hrgo6 := Lib.hid (rg_row hoo6)
  (try replace hbv7 := und1 hbv7)
  (try replace hbv7 := undN hbv7)
  replace hoo1 := hoo1.below hbv7
  replace hoo2 := ownN_below hoo2 hbv7 (Nat.le_refl _)
  replace hoo3 := ownN_below hoo3 hbv7 (Nat.le_refl _)
  replace hoo4 := hoo4.below hbv7
  replace hoo5 := ownN_below hoo5 hbv7 (Nat.le_refl _)
  replace HB := HB.trans (hbv7.mono HB.size)
  have hszv7 := hbv7.size
  replace hrgo6 := Lib.hid (rg_lo hrgo6.out (lo := v6.heap.size + 0) (hi := v7.heap.size) (by first | exact Nat.le_refl _ | exact le_al1 | (simp; done) | (simp; omega)) (Nat.le_refl _))
  go_wp2_with fail
  refine (eqBoolS_same _ _ _ _ r0 (own_rd hoo6) (by omega) _ _ _ (own_rd hoo3)).mono ?_
  rintro e v8 ⟨rfl, hbv8⟩
  (try replace hbv8 := und1 hbv8)
  (try replace hbv8 := undN hbv8)
  replace hoo1 := hoo1.below hbv8
  replace hoo2 := ownN_below hoo2 hbv8 (Nat.le_refl _)
  replace hoo3 := ownN_below hoo3 hbv8 (Nat.le_refl _)
  replace hoo4 := hoo4.below hbv8
  replace hoo5 := ownN_below hoo5 hbv8 (Nat.le_refl _)
  replace hoo6 := ownN_below hoo6 hbv8 (Nat.le_refl _)
  replace HB := HB.trans (hbv8.mono HB.size)
  have hszv8 := hbv8.size
  go_wp2_with fail
  refine (toCommandS_any _ _ _ _ x0 (hr0.below HB (Nat.le_refl _)) (by omega)).mono ?_
  rintro e v9 ⟨Ao7, no7, co7, Fo7, rfl, hoo7, hFo7, hbv9⟩
  have hno7 : no7 ≤ 1048576 := by have h1 := hoo7.len; have h2 := HXL0.out; omega
  have hrgo7 := Lib.hid hFo7; clear hFo7
  (try replace hbv9 := und1 hbv9)
  (try replace hbv9 := undN hbv9)
  replace hoo1 := hoo1.below hbv9
  replace hoo2 := ownN_below hoo2 hbv9 (Nat.le_refl _)
  replace hoo3 := ownN_below hoo3 hbv9 (Nat.le_refl _)
  replace hoo4 := hoo4.below hbv9
  replace hoo5 := ownN_below hoo5 hbv9 (Nat.le_refl _)
  replace hoo6 := ownN_below hoo6 hbv9 (Nat.le_refl _)
  replace HB := HB.trans (hbv9.mono HB.size)
  have hszv9 := hbv9.size
  replace hrgo7 := Lib.hid (rg_lo hrgo7.out (lo := v8.heap.size + 0) (hi := v9.heap.size) (by first | exact Nat.le_refl _ | exact le_al1 | (simp; done) | (simp; omega)) (Nat.le_refl _))
  go_wp2_with fail
  refine (eqCommandS_same _ _ _ _ x0 hoo4.rdc (by omega) _ _ _ hoo7.rdc).mono ?_
  rintro e v10 ⟨rfl, hbv10⟩
  (try replace hbv10 := und1 hbv10)
  (try replace hbv10 := undN hbv10)
  replace hoo1 := hoo1.below hbv10
  replace hoo2 := ownN_below hoo2 hbv10 (Nat.le_refl _)
  replace hoo3 := ownN_below hoo3 hbv10 (Nat.le_refl _)
  replace hoo4 := hoo4.below hbv10
  replace hoo5 := ownN_below hoo5 hbv10 (Nat.le_refl _)
  replace hoo6 := ownN_below hoo6 hbv10 (Nat.le_refl _)
  replace hoo7 := hoo7.below hbv10
  replace HB := HB.trans (hbv10.mono HB.size)
  have hszv10 := hbv10.size
  go_wp2_with fail
  refine (toBoolS_any _ _ _ _ x1 (hr1.below HB (Nat.le_refl _)) (by omega)).mono ?_
  rintro e v11 ⟨Ao8, no8, co8, rfl, hoo8, hbv11⟩
  have hno8 : no8 ≤ 1048576 := by have h1 := hoo8.1; simp only [List.length_map] at h1; have h2 := HXL1.out; omega
  have hrgo8 := Lib.hid (rg_row hoo8)
  (try replace hbv11 := und1 hbv11)
  (try replace hbv11 := undN hbv11)
  replace hoo1 := hoo1.below hbv11
  replace hoo2 := ownN_below hoo2 hbv11 (Nat.le_refl _)
  replace hoo3 := ownN_below hoo3 hbv11 (Nat.le_refl _)
  replace hoo4 := hoo4.below hbv11
  replace hoo5 := ownN_below hoo5 hbv11 (Nat.le_refl _)
  replace hoo6 := ownN_below hoo6 hbv11 (Nat.le_refl _)
  replace hoo7 := hoo7.below hbv11
  replace HB := HB.trans (hbv11.mono HB.size)
  have hszv11 := hbv11.size
  replace hrgo8 := Lib.hid (rg_lo hrgo8.out (lo := v10.heap.size + 0) (hi := v11.heap.size) (by first | exact Nat.le_refl _ | exact le_al1 | (simp; done) | (simp; omega)) (Nat.le_refl _))
  go_wp2_with fail
  refine (eqBoolS_same _ _ _ _ x1 (own_rd hoo5) (by omega) _ _ _ (own_rd hoo8)).mono ?_
  rintro e v12 ⟨rfl, hbv12⟩
  (try replace hbv12 := und1 hbv12)
  (try replace hbv12 := undN hbv12)
  replace hoo1 := hoo1.below hbv12
  replace hoo2 := ownN_below hoo2 hbv12 (Nat.le_refl _)
  replace hoo3 := ownN_below hoo3 hbv12 (Nat.le_refl _)
  replace hoo4 := hoo4.below hbv12
  replace hoo5 := ownN_below hoo5 hbv12 (Nat.le_refl _)
  replace hoo6 := ownN_below hoo6 hbv12 (Nat.le_refl _)
  replace hoo7 := hoo7.below hbv12
  replace hoo8 := ownN_below hoo8 hbv12 (Nat.le_refl _)
  replace HB := HB.trans (hbv12.mono HB.size)
  have hszv12 := hbv12.size
  go_wp2_with fail
  have hTv13o4 : mkC x0 ≤ 6000000 := by have := HTX0.out; omega
  refine (markCommandS_any _ _ _ _ _ x0 hoo4 (by omega) (by omega)  (1) (by omega) (by omega)).mono ?_
  rintro e v13 ⟨rfl, hmo4, hCv13⟩
  replace hoo1 := hoo1.ch hCv13 (fun k h1 h2 => (by have := hrgo1.out k h1; have := hrgo4.out k h2; omega))
  replace hoo2 := own_ch hoo2 hCv13 (fun k h1 h2 => (by have := hrgo2.out k h1; have := hrgo4.out k h2; omega))
  replace hoo3 := own_ch hoo3 hCv13 (fun k h1 h2 => (by have := hrgo3.out k h1; have := hrgo4.out k h2; omega))
  replace hoo5 := own_ch hoo5 hCv13 (fun k h1 h2 => (by have := hrgo5.out k h1; have := hrgo4.out k h2; omega))
  replace hoo6 := own_ch hoo6 hCv13 (fun k h1 h2 => (by have := hrgo6.out k h1; have := hrgo4.out k h2; omega))
  replace hoo7 := hoo7.ch hCv13 (fun k h1 h2 => (by have := hrgo7.out k h1; have := hrgo4.out k h2; omega))
  replace hoo8 := own_ch hoo8 hCv13 (fun k h1 h2 => (by have := hrgo8.out k h1; have := hrgo4.out k h2; omega))
  replace HB := below_ch HB hCv13 (fun k h => by have := hrgo4.out k h; omega) HB.size
  replace hoo4 := hmo4
  have hszv13 := hCv13.size
  go_wp2_with fail
  refine (markBoolS_any _ _ _ _ _ _ hoo5 (by omega)  (1 + (mkC x0 : Int)) (by omega) (by omega)).mono ?_
  rintro e v14 ⟨rfl, hmo5, hCv14⟩
  replace hCv14 := ch_row hCv14
  replace hoo1 := hoo1.ch hCv14 (fun k h1 h2 => (by have := hrgo1.out k h1; have := hrgo5.out k h2; omega))
  replace hoo2 := own_ch hoo2 hCv14 (fun k h1 h2 => (by have := hrgo2.out k h1; have := hrgo5.out k h2; omega))
  replace hoo3 := own_ch hoo3 hCv14 (fun k h1 h2 => (by have := hrgo3.out k h1; have := hrgo5.out k h2; omega))
  replace hoo4 := hoo4.ch hCv14 (fun k h1 h2 => (by have := hrgo4.out k h1; have := hrgo5.out k h2; omega))
  replace hoo6 := own_ch hoo6 hCv14 (fun k h1 h2 => (by have := hrgo6.out k h1; have := hrgo5.out k h2; omega))
  replace hoo7 := hoo7.ch hCv14 (fun k h1 h2 => (by have := hrgo7.out k h1; have := hrgo5.out k h2; omega))
  replace hoo8 := own_ch hoo8 hCv14 (fun k h1 h2 => (by have := hrgo8.out k h1; have := hrgo5.out k h2; omega))
  replace HB := below_ch HB hCv14 (fun k h => by have := hrgo5.out k h; omega) HB.size
  replace hoo5 := hmo5
  have hszv14 := hCv14.size
  go_wp2_with fail
  refine (eqBoolS_same _ _ _ _ r0 (own_rd hoo6) (by omega) _ _ _ (own_rd hoo3)).mono ?_
  rintro e v15 ⟨rfl, hbv15⟩
  (try replace hbv15 := und1 hbv15)
  (try replace hbv15 := undN hbv15)
  replace hoo1 := hoo1.below hbv15
  replace hoo2 := ownN_below hoo2 hbv15 (Nat.le_refl _)
  replace hoo3 := ownN_below hoo3 hbv15 (Nat.le_refl _)
  replace hoo4 := hoo4.below hbv15
  replace hoo5 := ownN_below hoo5 hbv15 (Nat.le_refl _)
  replace hoo6 := ownN_below hoo6 hbv15 (Nat.le_refl _)
  replace hoo7 := hoo7.below hbv15
  replace hoo8 := ownN_below hoo8 hbv15 (Nat.le_refl _)
  replace HB := HB.trans (hbv15.mono HB.size)
  have hszv15 := hbv15.size
  go_wp2_with fail
  refine (markBoolS_any _ _ _ _ _ _ hoo6 (by omega)  (1) (by omega) (by omega)).mono ?_
  rintro e v16 ⟨rfl, hmo6, hCv16⟩
  replace hCv16 := ch_row hCv16
  replace hoo1 := hoo1.ch hCv16 (fun k h1 h2 => (by have := hrgo1.out k h1; have := hrgo6.out k h2; omega))
  replace hoo2 := own_ch hoo2 hCv16 (fun k h1 h2 => (by have := hrgo2.out k h1; have := hrgo6.out k h2; omega))
  replace hoo3 := own_ch hoo3 hCv16 (fun k h1 h2 => (by have := hrgo3.out k h1; have := hrgo6.out k h2; omega))
  replace hoo4 := hoo4.ch hCv16 (fun k h1 h2 => (by have := hrgo4.out k h1; have := hrgo6.out k h2; omega))
  replace hoo5 := own_ch hoo5 hCv16 (fun k h1 h2 => (by have := hrgo5.out k h1; have := hrgo6.out k h2; omega))
  replace hoo7 := hoo7.ch hCv16 (fun k h1 h2 => (by have := hrgo7.out k h1; have := hrgo6.out k h2; omega))
  replace hoo8 := own_ch hoo8 hCv16 (fun k h1 h2 => (by have := hrgo8.out k h1; have := hrgo6.out k h2; omega))
  replace HB := below_ch HB hCv16 (fun k h => by have := hrgo6.out k h; omega) HB.size
  replace hoo6 := hmo6
  have hszv16 := hCv16.size
  go_wp2_with fail
  refine (heldBoolS_any _ _ _ _ (1) (own_rd hoo6) (by omega) (by omega) (by omega)).mono ?_
  rintro e v17 ⟨rfl, hbv17⟩
  (try replace hbv17 := und1 hbv17)
  (try replace hbv17 := undN hbv17)
  replace hoo1 := hoo1.below hbv17
  replace hoo2 := ownN_below hoo2 hbv17 (Nat.le_refl _)
  replace hoo3 := ownN_below hoo3 hbv17 (Nat.le_refl _)
  replace hoo4 := hoo4.below hbv17
  replace hoo5 := ownN_below hoo5 hbv17 (Nat.le_refl _)
  replace hoo6 := ownN_below hoo6 hbv17 (Nat.le_refl _)
  replace hoo7 := hoo7.below hbv17
  replace hoo8 := ownN_below hoo8 hbv17 (Nat.le_refl _)
  replace HB := HB.trans (hbv17.mono HB.size)
  have hszv17 := hbv17.size
  go_wp2_with fail
  refine (toCommandS_any _ _ _ _ x0 (hr0.below HB (Nat.le_refl _)) (by omega)).mono ?_
  rintro e v18 ⟨Ao9, no9, co9, Fo9, rfl, hoo9, hFo9, hbv18⟩
  have hno9 : no9 ≤ 1048576 := by have h1 := hoo9.len; have h2 := HXL0.out; omega
  have hrgo9 := Lib.hid hFo9; clear hFo9
  (try replace hbv18 := und1 hbv18)
  (try replace hbv18 := undN hbv18)
  replace hoo1 := hoo1.below hbv18
  replace hoo2 := ownN_below hoo2 hbv18 (Nat.le_refl _)
  replace hoo3 := ownN_below hoo3 hbv18 (Nat.le_refl _)
  replace hoo4 := hoo4.below hbv18
  replace hoo5 := ownN_below hoo5 hbv18 (Nat.le_refl _)
  replace hoo6 := ownN_below hoo6 hbv18 (Nat.le_refl _)
  replace hoo7 := hoo7.below hbv18
  replace hoo8 := ownN_below hoo8 hbv18 (Nat.le_refl _)
  replace HB := HB.trans (hbv18.mono HB.size)
  have hszv18 := hbv18.size
  replace hrgo9 := Lib.hid (rg_lo hrgo9.out (lo := v17.heap.size + 0) (hi := v18.heap.size) (by first | exact Nat.le_refl _ | exact le_al1 | (simp; done) | (simp; omega)) (Nat.le_refl _))
  go_wp2_with fail
  refine (toBoolS_any _ _ _ _ x1 (hr1.below HB (Nat.le_refl _)) (by omega)).mono ?_
  rintro e v19 ⟨Ao10, no10, co10, rfl, hoo10, hbv19⟩
  have hno10 : no10 ≤ 1048576 := by have h1 := hoo10.1; simp only [List.length_map] at h1; have h2 := HXL1.out; omega
  have hrgo10 := Lib.hid (rg_row hoo10)
  (try replace hbv19 := und1 hbv19)
  (try replace hbv19 := undN hbv19)
  replace hoo1 := hoo1.below hbv19
  replace hoo2 := ownN_below hoo2 hbv19 (Nat.le_refl _)
  replace hoo3 := ownN_below hoo3 hbv19 (Nat.le_refl _)
  replace hoo4 := hoo4.below hbv19
  replace hoo5 := ownN_below hoo5 hbv19 (Nat.le_refl _)
  replace hoo6 := ownN_below hoo6 hbv19 (Nat.le_refl _)
  replace hoo7 := hoo7.below hbv19
  replace hoo8 := ownN_below hoo8 hbv19 (Nat.le_refl _)
  replace hoo9 := hoo9.below hbv19
  replace HB := HB.trans (hbv19.mono HB.size)
  have hszv19 := hbv19.size
  replace hrgo10 := Lib.hid (rg_lo hrgo10.out (lo := v18.heap.size + 0) (hi := v19.heap.size) (by first | exact Nat.le_refl _ | exact le_al1 | (simp; done) | (simp; omega)) (Nat.le_refl _))
  go_wp2_with fail
  refine (HI.out _ _ _ _ hoo9.rdc (by omega) hoo9.cap _ _ _ (own_rd hoo10) (by omega) (ownN_cap hoo10)).mono ?_
  rintro e v20 ⟨Ao11, no11, co11, rfl, hoo11, hbv20⟩
  have hno11 : no11 ≤ 1000000 := by have h1 := hoo11.1; simp only [List.length_map] at h1; have h2 := HRLR0.out; omega
  have hrgo11 := Lib.hid (rg_row hoo11)
  (try replace hbv20 := und1 hbv20)
  (try replace hbv20 := undN hbv20)
  replace hoo1 := hoo1.below hbv20
  replace hoo2 := ownN_below hoo2 hbv20 (Nat.le_refl _)
  replace hoo3 := ownN_below hoo3 hbv20 (Nat.le_refl _)
  replace hoo4 := hoo4.below hbv20
  replace hoo5 := ownN_below hoo5 hbv20 (Nat.le_refl _)
  replace hoo6 := ownN_below hoo6 hbv20 (Nat.le_refl _)
  replace hoo7 := hoo7.below hbv20
  replace hoo8 := ownN_below hoo8 hbv20 (Nat.le_refl _)
  replace hoo9 := hoo9.below hbv20
  replace hoo10 := ownN_below hoo10 hbv20 (Nat.le_refl _)
  replace HB := HB.trans (hbv20.mono HB.size)
  have hszv20 := hbv20.size
  replace hrgo11 := Lib.hid (rg_lo hrgo11.out (lo := v19.heap.size + 0) (hi := v20.heap.size) (by first | exact Nat.le_refl _ | exact le_al1 | (simp; done) | (simp; omega)) (Nat.le_refl _))
  go_wp2_with fail
  refine (eqBoolS_same _ _ _ _ r0 (own_rd hoo11) (by omega) _ _ _ (own_rd hoo3)).mono ?_
  rintro e v21 ⟨rfl, hbv21⟩
  (try replace hbv21 := und1 hbv21)
  (try replace hbv21 := undN hbv21)
  replace hoo1 := hoo1.below hbv21
  replace hoo2 := ownN_below hoo2 hbv21 (Nat.le_refl _)
  replace hoo3 := ownN_below hoo3 hbv21 (Nat.le_refl _)
  replace hoo4 := hoo4.below hbv21
  replace hoo5 := ownN_below hoo5 hbv21 (Nat.le_refl _)
  replace hoo6 := ownN_below hoo6 hbv21 (Nat.le_refl _)
  replace hoo7 := hoo7.below hbv21
  replace hoo8 := ownN_below hoo8 hbv21 (Nat.le_refl _)
  replace hoo9 := hoo9.below hbv21
  replace hoo10 := ownN_below hoo10 hbv21 (Nat.le_refl _)
  replace hoo11 := ownN_below hoo11 hbv21 (Nat.le_refl _)
  replace HB := HB.trans (hbv21.mono HB.size)
  have hszv21 := hbv21.size
  go_wp2_with fail
  refine (heldBoolS_any _ _ _ _ (1) (own_rd hoo6) (by omega) (by omega) (by omega)).mono ?_
  rintro e v22 ⟨rfl, hbv22⟩
  (try replace hbv22 := und1 hbv22)
  (try replace hbv22 := undN hbv22)
  replace hoo1 := hoo1.below hbv22
  replace hoo2 := ownN_below hoo2 hbv22 (Nat.le_refl _)
  replace hoo3 := ownN_below hoo3 hbv22 (Nat.le_refl _)
  replace hoo4 := hoo4.below hbv22
  replace hoo5 := ownN_below hoo5 hbv22 (Nat.le_refl _)
  replace hoo6 := ownN_below hoo6 hbv22 (Nat.le_refl _)
  replace hoo7 := hoo7.below hbv22
  replace hoo8 := ownN_below hoo8 hbv22 (Nat.le_refl _)
  replace hoo9 := hoo9.below hbv22
  replace hoo10 := ownN_below hoo10 hbv22 (Nat.le_refl _)
  replace hoo11 := ownN_below hoo11 hbv22 (Nat.le_refl _)
  replace HB := HB.trans (hbv22.mono HB.size)
  have hszv22 := hbv22.size
  go_wp2_with fail
  go_ret
  first | exact ⟨rfl, HB⟩ | exact ⟨rfl, below_drewN HB⟩
end Go.Proofs.Ytilbgbibddjdcaa
