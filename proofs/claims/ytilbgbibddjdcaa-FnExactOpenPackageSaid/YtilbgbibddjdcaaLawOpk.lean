/- The law on OpenPackage. Written by genlaw5.py. -/
import Derived.Test.YtilbgbibddjdcaaPrc
import Derived.Test.YtilbgbibddjdcaaLawCmd2
namespace Go.Proofs.Ytilbgbibddjdcaa
open Go.RowKit
set_option linter.unusedVariables false
set_option linter.unusedSimpArgs false
theorem eqBoolS_same (w : World) (A : Option Addr) (n c : Nat) (xs : List Bool) (hr : Rd w A n (bools xs)) (hn : n ≤ 1099511627776) (A' : Option Addr) (n' c' : Nat) (hr' : Rd w A' n' (bools xs)) :
    Calls Try.prog 17 #[.slice A n c, .slice A' n' c'] w (RetV w (.bool true)) := eqB_same w A n c xs hr hn A' n' c' hr'
theorem pot_lenO (t : Tr) (h : t.nodes ≤ 2000) : mkC (pot t).1 ≤ 1000000 ∧ (pot t).1.length ≤ 1000000 := by
  unfold pot
  split
  · simp [mkC]
  · rename_i z hz
    have := backW_len t z hz
    split
    · rw [mkC_eq]; exact ⟨by simp only; omega, by simp only; omega⟩
    · simp [mkC]
theorem opkL_len (bs : List Bool) : mkC (opkL bs) ≤ 1000000 ∧ (opkL bs).length ≤ 1000000 := by
  unfold opkL
  split
  · rename_i h
    obtain ⟨t, rfl, ht, _⟩ := opk_zero h
    rw [treeB_bits]
    cases t with
    | nil => simp [opProg, mkC]
    | node a b => exact pot_lenO a (by simp only [Tr.nodes] at ht; omega)
  · simp [mkC]
theorem opkB_len (bs : List Bool) : (opkB bs).length ≤ 1000000 := by
  unfold opkB
  split
  · rename_i h
    obtain ⟨t, rfl, ht, _⟩ := opk_zero h
    rw [treeB_bits]
    cases t with
    | nil => simp [opData]
    | node a b => simp only [opData, Tr.bits_len]; simp only [Tr.nodes] at ht; omega
  · simp
set_option maxHeartbeats 16000000 in
set_option maxRecDepth 100000 in
theorem lawOpenPackage (w : World) (A0 : Option Addr) (n0 c0 : Nat) (x0 : List Bool) (hr0 : Rd w A0 n0 (bools x0)) (hnn0 : n0 ≤ 9223372036854775807) :
    Calls Try.prog 13 #[.slice A0 n0 c0] w fun e w' => e = .returned (.bool true) ∧ Below w.heap.size w w' := by
  have hS : ∀ (w : World) (A0 : Option Addr) (n0 c0 : Nat) (h0 : Rd w A0 n0 (bools x0)) (hn0 : n0 ≤ 1000000000) (hcp0 : n0 ≤ c0), Calls Try.prog 56 #[.slice A0 n0 c0] w (fun e w' => ∃ (AR0 : Option Addr) (nR0 cR0 : Nat) (FR0 : Nat → Prop) (AR1 : Option Addr) (nR1 cR1 : Nat), e = .returned (.tuple #[.slice AR0 nR0 cR0, .slice AR1 nR1 cR1, .int .i64 (opkC x0)]) ∧ OwnC w' FR0 AR0 nR0 cR0 ((opkL x0)) ∧ (∀ k, FR0 k → w.heap.size ≤ k ∧ k < w'.heap.size) ∧ w'.ownsRow w.heap.size 4 1 (.slice AR1 nR1 cR1) nR1 (bools ((opkB x0))) ∧ (∀ k, FR0 k → Fo (.slice AR1 nR1 cR1) k → False) ∧ Below w.heap.size w w') := fun w A0 n0 c0 h0 hn0 hcp0 => specOpenPackage_any w A0 n0 c0 x0 h0 (by omega) hcp0
  have hI : ∀ (w : World) (A0 : Option Addr) (n0 c0 : Nat) (h0 : Rd w A0 n0 (bools x0)) (hn0 : n0 ≤ 1000000000) (hcp0 : n0 ≤ c0), Calls Try.prog 57 #[.slice A0 n0 c0] w (fun e w' => ∃ (AR0 : Option Addr) (nR0 cR0 : Nat) (FR0 : Nat → Prop) (AR1 : Option Addr) (nR1 cR1 : Nat), e = .returned (.tuple #[.slice AR0 nR0 cR0, .slice AR1 nR1 cR1, .int .i64 (opkC x0)]) ∧ OwnC w' FR0 AR0 nR0 cR0 ((opkL x0)) ∧ (∀ k, FR0 k → w.heap.size ≤ k ∧ k < w'.heap.size) ∧ w'.ownsRow w.heap.size 4 1 (.slice AR1 nR1 cR1) nR1 (bools ((opkB x0))) ∧ (∀ k, FR0 k → Fo (.slice AR1 nR1 cR1) k → False) ∧ Below w.heap.size w w') := fun w A0 n0 c0 h0 hn0 hcp0 => implOpenPackage_any w A0 n0 c0 x0 h0 hn0
  have HRLR0 : Hid (mkC ((opkL x0)) ≤ 1000000 ∧ ((opkL x0)).length ≤ 1000000) := Lib.hid (opkL_len x0)
  have HRLR1 : Hid (((opkB x0)).length ≤ 1000000) := Lib.hid (opkB_len x0)
  have HS := Lib.hid hS; have HI := Lib.hid hI
  clear hS hI
  generalize (opkL x0) = r0 at HS HI HRLR0
  generalize (opkB x0) = r1 at HS HI HRLR1
  generalize opkC x0 = r2 at HS HI 
  have HXL0 : Hid ((x0).length = n0 * 1) := Lib.hid (by have := hr0.1; simp at this; omega)
  have HB := Below.refl w.heap.size w
  go_enter Try.func13, Try.ntmps13
  by_cases hbig0 : 1048576 < n0
  · have hbi0 : (1048576 : Int) < (n0 : Int) := by omega
    go_wp2_with fail
    go_ret
    exact ⟨rfl, HB⟩
  have hbi0 : ¬ (1048576 : Int) < (n0 : Int) := by omega
  replace hbig0 : n0 ≤ 1048576 := by omega
  go_wp2_with fail
  refine (toBoolS_any _ _ _ _ x0 (hr0.below HB (Nat.le_refl _)) (by omega)).mono ?_
  rintro e v1 ⟨Ao1, no1, co1, rfl, hoo1, hbv1⟩
  have hno1 : no1 ≤ 1048576 := by have h1 := hoo1.1; simp only [List.length_map] at h1; have h2 := HXL0.out; omega
  have hrgo1 := Lib.hid (rg_row hoo1)
  (try replace hbv1 := und1 hbv1)
  (try replace hbv1 := undN hbv1)
  replace HB := HB.trans (hbv1.mono HB.size)
  have hszv1 := hbv1.size
  replace hrgo1 := Lib.hid (rg_lo hrgo1.out (lo := w.heap.size + 0) (hi := v1.heap.size) (by first | exact Nat.le_refl _ | exact le_al1 | (simp; done) | (simp; omega)) (Nat.le_refl _))
  go_wp2_with fail
  refine (HS.out _ _ _ _ (own_rd hoo1) (by omega) (ownN_cap hoo1)).mono ?_
  rintro e v2 ⟨Ao2, no2, co2, Fo2, Ao3, no3, co3, rfl, hoo2, hFo2, hoo3, hdo2o3, hbv2⟩
  have hno2 : no2 ≤ 1000000 := by have h1 := hoo2.len; have h2 := HRLR0.out; omega
  have hno3 : no3 ≤ 1000000 := by have h1 := hoo3.1; simp only [List.length_map] at h1; have h2 := HRLR1.out; omega
  have hrgo2 := Lib.hid hFo2; clear hFo2
  have hrgo3 := Lib.hid (rg_row hoo3)
  have HDo2o3 := Lib.hid hdo2o3; clear hdo2o3
  (try replace hbv2 := und1 hbv2)
  (try replace hbv2 := undN hbv2)
  replace hoo1 := ownN_below hoo1 hbv2 (Nat.le_refl _)
  replace HB := HB.trans (hbv2.mono HB.size)
  have hszv2 := hbv2.size
  replace hrgo2 := Lib.hid (rg_lo hrgo2.out (lo := v1.heap.size + 0) (hi := v2.heap.size) (by first | exact Nat.le_refl _ | exact le_al1 | (simp; done) | (simp; omega)) (Nat.le_refl _))
  replace hrgo3 := Lib.hid (rg_lo hrgo3.out (lo := v1.heap.size + 0) (hi := v2.heap.size) (by first | exact Nat.le_refl _ | exact le_al1 | (simp; done) | (simp; omega)) (Nat.le_refl _))
  go_wp2_with fail
  refine (toBoolS_any _ _ _ _ x0 (hr0.below HB (Nat.le_refl _)) (by omega)).mono ?_
  rintro e v3 ⟨Ao4, no4, co4, rfl, hoo4, hbv3⟩
  have hno4 : no4 ≤ 1048576 := by have h1 := hoo4.1; simp only [List.length_map] at h1; have h2 := HXL0.out; omega
  have hrgo4 := Lib.hid (rg_row hoo4)
  (try replace hbv3 := und1 hbv3)
  (try replace hbv3 := undN hbv3)
  replace hoo1 := ownN_below hoo1 hbv3 (Nat.le_refl _)
  replace hoo2 := hoo2.below hbv3
  replace hoo3 := ownN_below hoo3 hbv3 (Nat.le_refl _)
  replace HB := HB.trans (hbv3.mono HB.size)
  have hszv3 := hbv3.size
  replace hrgo4 := Lib.hid (rg_lo hrgo4.out (lo := v2.heap.size + 0) (hi := v3.heap.size) (by first | exact Nat.le_refl _ | exact le_al1 | (simp; done) | (simp; omega)) (Nat.le_refl _))
  go_wp2_with fail
  refine (HI.out _ _ _ _ (own_rd hoo4) (by omega) (ownN_cap hoo4)).mono ?_
  rintro e v4 ⟨Ao5, no5, co5, Fo5, Ao6, no6, co6, rfl, hoo5, hFo5, hoo6, hdo5o6, hbv4⟩
  have hno5 : no5 ≤ 1000000 := by have h1 := hoo5.len; have h2 := HRLR0.out; omega
  have hno6 : no6 ≤ 1000000 := by have h1 := hoo6.1; simp only [List.length_map] at h1; have h2 := HRLR1.out; omega
  have hrgo5 := Lib.hid hFo5; clear hFo5
  have hrgo6 := Lib.hid (rg_row hoo6)
  have HDo5o6 := Lib.hid hdo5o6; clear hdo5o6
  (try replace hbv4 := und1 hbv4)
  (try replace hbv4 := undN hbv4)
  replace hoo1 := ownN_below hoo1 hbv4 (Nat.le_refl _)
  replace hoo2 := hoo2.below hbv4
  replace hoo3 := ownN_below hoo3 hbv4 (Nat.le_refl _)
  replace hoo4 := ownN_below hoo4 hbv4 (Nat.le_refl _)
  replace HB := HB.trans (hbv4.mono HB.size)
  have hszv4 := hbv4.size
  replace hrgo5 := Lib.hid (rg_lo hrgo5.out (lo := v3.heap.size + 0) (hi := v4.heap.size) (by first | exact Nat.le_refl _ | exact le_al1 | (simp; done) | (simp; omega)) (Nat.le_refl _))
  replace hrgo6 := Lib.hid (rg_lo hrgo6.out (lo := v3.heap.size + 0) (hi := v4.heap.size) (by first | exact Nat.le_refl _ | exact le_al1 | (simp; done) | (simp; omega)) (Nat.le_refl _))
  go_wp2_with fail
  refine (eqCommandS_same _ _ _ _ r0 hoo5.rdc (by omega) _ _ _ hoo2.rdc).mono ?_
  rintro e v5 ⟨rfl, hbv5⟩
  (try replace hbv5 := und1 hbv5)
  (try replace hbv5 := undN hbv5)
  replace hoo1 := ownN_below hoo1 hbv5 (Nat.le_refl _)
  replace hoo2 := hoo2.below hbv5
  replace hoo3 := ownN_below hoo3 hbv5 (Nat.le_refl _)
  replace hoo4 := ownN_below hoo4 hbv5 (Nat.le_refl _)
  replace hoo5 := hoo5.below hbv5
  replace hoo6 := ownN_below hoo6 hbv5 (Nat.le_refl _)
  replace HB := HB.trans (hbv5.mono HB.size)
  have hszv5 := hbv5.size
  go_wp2_with fail
  refine (eqBoolS_same _ _ _ _ r1 (own_rd hoo6) (by omega) _ _ _ (own_rd hoo3)).mono ?_
  rintro e v6 ⟨rfl, hbv6⟩
  (try replace hbv6 := und1 hbv6)
  (try replace hbv6 := undN hbv6)
  replace hoo1 := ownN_below hoo1 hbv6 (Nat.le_refl _)
  replace hoo2 := hoo2.below hbv6
  replace hoo3 := ownN_below hoo3 hbv6 (Nat.le_refl _)
  replace hoo4 := ownN_below hoo4 hbv6 (Nat.le_refl _)
  replace hoo5 := hoo5.below hbv6
  replace hoo6 := ownN_below hoo6 hbv6 (Nat.le_refl _)
  replace HB := HB.trans (hbv6.mono HB.size)
  have hszv6 := hbv6.size
  go_wp2_with fail
  refine (toBoolS_any _ _ _ _ x0 (hr0.below HB (Nat.le_refl _)) (by omega)).mono ?_
  rintro e v7 ⟨Ao7, no7, co7, rfl, hoo7, hbv7⟩
  have hno7 : no7 ≤ 1048576 := by have h1 := hoo7.1; simp only [List.length_map] at h1; have h2 := HXL0.out; omega
  have hrgo7 := Lib.hid (rg_row hoo7)
  (try replace hbv7 := und1 hbv7)
  (try replace hbv7 := undN hbv7)
  replace hoo1 := ownN_below hoo1 hbv7 (Nat.le_refl _)
  replace hoo2 := hoo2.below hbv7
  replace hoo3 := ownN_below hoo3 hbv7 (Nat.le_refl _)
  replace hoo4 := ownN_below hoo4 hbv7 (Nat.le_refl _)
  replace hoo5 := hoo5.below hbv7
  replace hoo6 := ownN_below hoo6 hbv7 (Nat.le_refl _)
  replace HB := HB.trans (hbv7.mono HB.size)
  have hszv7 := hbv7.size
  replace hrgo7 := Lib.hid (rg_lo hrgo7.out (lo := v6.heap.size + 0) (hi := v7.heap.size) (by first | exact Nat.le_refl _ | exact le_al1 | (simp; done) | (simp; omega)) (Nat.le_refl _))
  go_wp2_with fail
  refine (eqBoolS_same _ _ _ _ x0 (own_rd hoo4) (by omega) _ _ _ (own_rd hoo7)).mono ?_
  rintro e v8 ⟨rfl, hbv8⟩
  (try replace hbv8 := und1 hbv8)
  (try replace hbv8 := undN hbv8)
  replace hoo1 := ownN_below hoo1 hbv8 (Nat.le_refl _)
  replace hoo2 := hoo2.below hbv8
  replace hoo3 := ownN_below hoo3 hbv8 (Nat.le_refl _)
  replace hoo4 := ownN_below hoo4 hbv8 (Nat.le_refl _)
  replace hoo5 := hoo5.below hbv8
  replace hoo6 := ownN_below hoo6 hbv8 (Nat.le_refl _)
  replace hoo7 := ownN_below hoo7 hbv8 (Nat.le_refl _)
  replace HB := HB.trans (hbv8.mono HB.size)
  have hszv8 := hbv8.size
  go_wp2_with fail
  refine (markBoolS_any _ _ _ _ _ _ hoo4 (by omega)  (1) (by omega) (by omega)).mono ?_
  rintro e v9 ⟨rfl, hmo4, hCv9⟩
  replace hCv9 := ch_row hCv9
  replace hoo1 := own_ch hoo1 hCv9 (fun k h1 h2 => (by have := hrgo1.out k h1; have := hrgo4.out k h2; omega))
  replace hoo2 := hoo2.ch hCv9 (fun k h1 h2 => (by have := hrgo2.out k h1; have := hrgo4.out k h2; omega))
  replace hoo3 := own_ch hoo3 hCv9 (fun k h1 h2 => (by have := hrgo3.out k h1; have := hrgo4.out k h2; omega))
  replace hoo5 := hoo5.ch hCv9 (fun k h1 h2 => (by have := hrgo5.out k h1; have := hrgo4.out k h2; omega))
  replace hoo6 := own_ch hoo6 hCv9 (fun k h1 h2 => (by have := hrgo6.out k h1; have := hrgo4.out k h2; omega))
  replace hoo7 := own_ch hoo7 hCv9 (fun k h1 h2 => (by have := hrgo7.out k h1; have := hrgo4.out k h2; omega))
  replace HB := below_ch HB hCv9 (fun k h => by have := hrgo4.out k h; omega) HB.size
  replace hoo4 := hmo4
  have hszv9 := hCv9.size
  go_wp2_with fail
  refine (eqCommandS_same _ _ _ _ r0 hoo5.rdc (by omega) _ _ _ hoo2.rdc).mono ?_
  rintro e v10 ⟨rfl, hbv10⟩
  (try replace hbv10 := und1 hbv10)
  (try replace hbv10 := undN hbv10)
  replace hoo1 := ownN_below hoo1 hbv10 (Nat.le_refl _)
  replace hoo2 := hoo2.below hbv10
  replace hoo3 := ownN_below hoo3 hbv10 (Nat.le_refl _)
  replace hoo4 := ownN_below hoo4 hbv10 (Nat.le_refl _)
  replace hoo5 := hoo5.below hbv10
  replace hoo6 := ownN_below hoo6 hbv10 (Nat.le_refl _)
  replace hoo7 := ownN_below hoo7 hbv10 (Nat.le_refl _)
  replace HB := HB.trans (hbv10.mono HB.size)
  have hszv10 := hbv10.size
  go_wp2_with fail
  refine (eqBoolS_same _ _ _ _ r1 (own_rd hoo6) (by omega) _ _ _ (own_rd hoo3)).mono ?_
  rintro e v11 ⟨rfl, hbv11⟩
  (try replace hbv11 := und1 hbv11)
  (try replace hbv11 := undN hbv11)
  replace hoo1 := ownN_below hoo1 hbv11 (Nat.le_refl _)
  replace hoo2 := hoo2.below hbv11
  replace hoo3 := ownN_below hoo3 hbv11 (Nat.le_refl _)
  replace hoo4 := ownN_below hoo4 hbv11 (Nat.le_refl _)
  replace hoo5 := hoo5.below hbv11
  replace hoo6 := ownN_below hoo6 hbv11 (Nat.le_refl _)
  replace hoo7 := ownN_below hoo7 hbv11 (Nat.le_refl _)
  replace HB := HB.trans (hbv11.mono HB.size)
  have hszv11 := hbv11.size
  go_wp2_with fail
  have hTv12o5 : mkC r0 ≤ 6000000 := by have := HRLR0.out.1; omega
  refine (markCommandS_any _ _ _ _ _ r0 hoo5 (by omega) (by omega)  (1) (by omega) (by omega)).mono ?_
  rintro e v12 ⟨rfl, hmo5, hCv12⟩
  replace hoo1 := own_ch hoo1 hCv12 (fun k h1 h2 => (by have := hrgo1.out k h1; have := hrgo5.out k h2; omega))
  replace hoo2 := hoo2.ch hCv12 (fun k h1 h2 => (by have := hrgo2.out k h1; have := hrgo5.out k h2; omega))
  replace hoo3 := own_ch hoo3 hCv12 (fun k h1 h2 => (by have := hrgo3.out k h1; have := hrgo5.out k h2; omega))
  replace hoo4 := own_ch hoo4 hCv12 (fun k h1 h2 => (by have := hrgo4.out k h1; have := hrgo5.out k h2; omega))
  replace hoo6 := own_ch hoo6 hCv12 (fun k h1 h2 => (HDo5o6.out k h2 h1))
  replace hoo7 := own_ch hoo7 hCv12 (fun k h1 h2 => (by have := hrgo7.out k h1; have := hrgo5.out k h2; omega))
  replace HB := below_ch HB hCv12 (fun k h => by have := hrgo5.out k h; omega) HB.size
  replace hoo5 := hmo5
  have hszv12 := hCv12.size
  go_wp2_with fail
  refine (markBoolS_any _ _ _ _ _ _ hoo6 (by omega)  (1 + (mkC r0 : Int)) (by omega) (by omega)).mono ?_
  rintro e v13 ⟨rfl, hmo6, hCv13⟩
  replace hCv13 := ch_row hCv13
  replace hoo1 := own_ch hoo1 hCv13 (fun k h1 h2 => (by have := hrgo1.out k h1; have := hrgo6.out k h2; omega))
  replace hoo2 := hoo2.ch hCv13 (fun k h1 h2 => (by have := hrgo2.out k h1; have := hrgo6.out k h2; omega))
  replace hoo3 := own_ch hoo3 hCv13 (fun k h1 h2 => (by have := hrgo3.out k h1; have := hrgo6.out k h2; omega))
  replace hoo4 := own_ch hoo4 hCv13 (fun k h1 h2 => (by have := hrgo4.out k h1; have := hrgo6.out k h2; omega))
  replace hoo5 := hoo5.ch hCv13 (fun k h1 h2 => (HDo5o6.out k h1 h2))
  replace hoo7 := own_ch hoo7 hCv13 (fun k h1 h2 => (by have := hrgo7.out k h1; have := hrgo6.out k h2; omega))
  replace HB := below_ch HB hCv13 (fun k h => by have := hrgo6.out k h; omega) HB.size
  replace hoo6 := hmo6
  have hszv13 := hCv13.size
  go_wp2_with fail
  have hTv14o5 : mkC r0 ≤ 6000000 := by have := HRLR0.out.1; omega
  refine (heldCommandS_any _ _ _ _ r0 (1) hoo5.rdc (by omega) (by omega) (by omega) (by omega)).mono ?_
  rintro e v14 ⟨rfl, hbv14⟩
  (try replace hbv14 := und1 hbv14)
  (try replace hbv14 := undN hbv14)
  replace hoo1 := ownN_below hoo1 hbv14 (Nat.le_refl _)
  replace hoo2 := hoo2.below hbv14
  replace hoo3 := ownN_below hoo3 hbv14 (Nat.le_refl _)
  replace hoo4 := ownN_below hoo4 hbv14 (Nat.le_refl _)
  replace hoo5 := hoo5.below hbv14
  replace hoo6 := ownN_below hoo6 hbv14 (Nat.le_refl _)
  replace hoo7 := ownN_below hoo7 hbv14 (Nat.le_refl _)
  replace HB := HB.trans (hbv14.mono HB.size)
  have hszv14 := hbv14.size
  go_wp2_with fail
  refine (heldBoolS_any _ _ _ _ (1 + (mkC r0 : Int)) (own_rd hoo6) (by omega) (by omega) (by omega)).mono ?_
  rintro e v15 ⟨rfl, hbv15⟩
  (try replace hbv15 := und1 hbv15)
  (try replace hbv15 := undN hbv15)
  replace hoo1 := ownN_below hoo1 hbv15 (Nat.le_refl _)
  replace hoo2 := hoo2.below hbv15
  replace hoo3 := ownN_below hoo3 hbv15 (Nat.le_refl _)
  replace hoo4 := ownN_below hoo4 hbv15 (Nat.le_refl _)
  replace hoo5 := hoo5.below hbv15
  replace hoo6 := ownN_below hoo6 hbv15 (Nat.le_refl _)
  replace hoo7 := ownN_below hoo7 hbv15 (Nat.le_refl _)
  replace HB := HB.trans (hbv15.mono HB.size)
  have hszv15 := hbv15.size
  go_wp2_with fail
  refine (toBoolS_any _ _ _ _ x0 (hr0.below HB (Nat.le_refl _)) (by omega)).mono ?_
  rintro e v16 ⟨Ao8, no8, co8, rfl, hoo8, hbv16⟩
  have hno8 : no8 ≤ 1048576 := by have h1 := hoo8.1; simp only [List.length_map] at h1; have h2 := HXL0.out; omega
  have hrgo8 := Lib.hid (rg_row hoo8)
  (try replace hbv16 := und1 hbv16)
  (try replace hbv16 := undN hbv16)
  replace hoo1 := ownN_below hoo1 hbv16 (Nat.le_refl _)
  replace hoo2 := hoo2.below hbv16
  replace hoo3 := ownN_below hoo3 hbv16 (Nat.le_refl _)
  replace hoo4 := ownN_below hoo4 hbv16 (Nat.le_refl _)
  replace hoo5 := hoo5.below hbv16
  replace hoo6 := ownN_below hoo6 hbv16 (Nat.le_refl _)
  replace hoo7 := ownN_below hoo7 hbv16 (Nat.le_refl _)
  replace HB := HB.trans (hbv16.mono HB.size)
  have hszv16 := hbv16.size
  replace hrgo8 := Lib.hid (rg_lo hrgo8.out (lo := v15.heap.size + 0) (hi := v16.heap.size) (by first | exact Nat.le_refl _ | exact le_al1 | (simp; done) | (simp; omega)) (Nat.le_refl _))
  go_wp2_with fail
  refine (HI.out _ _ _ _ (own_rd hoo8) (by omega) (ownN_cap hoo8)).mono ?_
  rintro e v17 ⟨Ao9, no9, co9, Fo9, Ao10, no10, co10, rfl, hoo9, hFo9, hoo10, hdo9o10, hbv17⟩
  have hno9 : no9 ≤ 1000000 := by have h1 := hoo9.len; have h2 := HRLR0.out; omega
  have hno10 : no10 ≤ 1000000 := by have h1 := hoo10.1; simp only [List.length_map] at h1; have h2 := HRLR1.out; omega
  have hrgo9 := Lib.hid hFo9; clear hFo9
  have hrgo10 := Lib.hid (rg_row hoo10)
  have HDo9o10 := Lib.hid hdo9o10; clear hdo9o10
  (try replace hbv17 := und1 hbv17)
  (try replace hbv17 := undN hbv17)
  replace hoo1 := ownN_below hoo1 hbv17 (Nat.le_refl _)
  replace hoo2 := hoo2.below hbv17
  replace hoo3 := ownN_below hoo3 hbv17 (Nat.le_refl _)
  replace hoo4 := ownN_below hoo4 hbv17 (Nat.le_refl _)
  replace hoo5 := hoo5.below hbv17
  replace hoo6 := ownN_below hoo6 hbv17 (Nat.le_refl _)
  replace hoo7 := ownN_below hoo7 hbv17 (Nat.le_refl _)
  replace hoo8 := ownN_below hoo8 hbv17 (Nat.le_refl _)
  replace HB := HB.trans (hbv17.mono HB.size)
  have hszv17 := hbv17.size
  replace hrgo9 := Lib.hid (rg_lo hrgo9.out (lo := v16.heap.size + 0) (hi := v17.heap.size) (by first | exact Nat.le_refl _ | exact le_al1 | (simp; done) | (simp; omega)) (Nat.le_refl _))
  replace hrgo10 := Lib.hid (rg_lo hrgo10.out (lo := v16.heap.size + 0) (hi := v17.heap.size) (by first | exact Nat.le_refl _ | exact le_al1 | (simp; done) | (simp; omega)) (Nat.le_refl _))
  go_wp2_with fail
  refine (eqCommandS_same _ _ _ _ r0 hoo9.rdc (by omega) _ _ _ hoo2.rdc).mono ?_
  rintro e v18 ⟨rfl, hbv18⟩
  (try replace hbv18 := und1 hbv18)
  (try replace hbv18 := undN hbv18)
  replace hoo1 := ownN_below hoo1 hbv18 (Nat.le_refl _)
  replace hoo2 := hoo2.below hbv18
  replace hoo3 := ownN_below hoo3 hbv18 (Nat.le_refl _)
  replace hoo4 := ownN_below hoo4 hbv18 (Nat.le_refl _)
  replace hoo5 := hoo5.below hbv18
  replace hoo6 := ownN_below hoo6 hbv18 (Nat.le_refl _)
  replace hoo7 := ownN_below hoo7 hbv18 (Nat.le_refl _)
  replace hoo8 := ownN_below hoo8 hbv18 (Nat.le_refl _)
  replace hoo9 := hoo9.below hbv18
  replace hoo10 := ownN_below hoo10 hbv18 (Nat.le_refl _)
  replace HB := HB.trans (hbv18.mono HB.size)
  have hszv18 := hbv18.size
  go_wp2_with fail
  refine (eqBoolS_same _ _ _ _ r1 (own_rd hoo10) (by omega) _ _ _ (own_rd hoo3)).mono ?_
  rintro e v19 ⟨rfl, hbv19⟩
  (try replace hbv19 := und1 hbv19)
  (try replace hbv19 := undN hbv19)
  replace hoo1 := ownN_below hoo1 hbv19 (Nat.le_refl _)
  replace hoo2 := hoo2.below hbv19
  replace hoo3 := ownN_below hoo3 hbv19 (Nat.le_refl _)
  replace hoo4 := ownN_below hoo4 hbv19 (Nat.le_refl _)
  replace hoo5 := hoo5.below hbv19
  replace hoo6 := ownN_below hoo6 hbv19 (Nat.le_refl _)
  replace hoo7 := ownN_below hoo7 hbv19 (Nat.le_refl _)
  replace hoo8 := ownN_below hoo8 hbv19 (Nat.le_refl _)
  replace hoo9 := hoo9.below hbv19
  replace hoo10 := ownN_below hoo10 hbv19 (Nat.le_refl _)
  replace HB := HB.trans (hbv19.mono HB.size)
  have hszv19 := hbv19.size
  go_wp2_with fail
  have hTv20o5 : mkC r0 ≤ 6000000 := by have := HRLR0.out.1; omega
  refine (heldCommandS_any _ _ _ _ r0 (1) hoo5.rdc (by omega) (by omega) (by omega) (by omega)).mono ?_
  rintro e v20 ⟨rfl, hbv20⟩
  (try replace hbv20 := und1 hbv20)
  (try replace hbv20 := undN hbv20)
  replace hoo1 := ownN_below hoo1 hbv20 (Nat.le_refl _)
  replace hoo2 := hoo2.below hbv20
  replace hoo3 := ownN_below hoo3 hbv20 (Nat.le_refl _)
  replace hoo4 := ownN_below hoo4 hbv20 (Nat.le_refl _)
  replace hoo5 := hoo5.below hbv20
  replace hoo6 := ownN_below hoo6 hbv20 (Nat.le_refl _)
  replace hoo7 := ownN_below hoo7 hbv20 (Nat.le_refl _)
  replace hoo8 := ownN_below hoo8 hbv20 (Nat.le_refl _)
  replace hoo9 := hoo9.below hbv20
  replace hoo10 := ownN_below hoo10 hbv20 (Nat.le_refl _)
  replace HB := HB.trans (hbv20.mono HB.size)
  have hszv20 := hbv20.size
  go_wp2_with fail
  refine (heldBoolS_any _ _ _ _ (1 + (mkC r0 : Int)) (own_rd hoo6) (by omega) (by omega) (by omega)).mono ?_
  rintro e v21 ⟨rfl, hbv21⟩
  (try replace hbv21 := und1 hbv21)
  (try replace hbv21 := undN hbv21)
  replace hoo1 := ownN_below hoo1 hbv21 (Nat.le_refl _)
  replace hoo2 := hoo2.below hbv21
  replace hoo3 := ownN_below hoo3 hbv21 (Nat.le_refl _)
  replace hoo4 := ownN_below hoo4 hbv21 (Nat.le_refl _)
  replace hoo5 := hoo5.below hbv21
  replace hoo6 := ownN_below hoo6 hbv21 (Nat.le_refl _)
  replace hoo7 := ownN_below hoo7 hbv21 (Nat.le_refl _)
  replace hoo8 := ownN_below hoo8 hbv21 (Nat.le_refl _)
  replace hoo9 := hoo9.below hbv21
  replace hoo10 := ownN_below hoo10 hbv21 (Nat.le_refl _)
  replace HB := HB.trans (hbv21.mono HB.size)
  have hszv21 := hbv21.size
  go_wp2_with fail
  go_ret
  first | exact ⟨rfl, HB⟩ | exact ⟨rfl, below_drewN HB⟩
end Go.Proofs.Ytilbgbibddjdcaa
