/- The law on PlainPackage. Written by genlaw5.py. -/
import Derived.Test.YtaadobggenbbdaaGreatDoorPkN
import Derived.Test.YtaadobggenbbdaaGreatDoorLawCmd2
namespace Go.Proofs.YtaadobggenbbdaaGreatDoor
open Go.RowKit
set_option linter.unusedVariables false
set_option linter.unusedSimpArgs false
theorem eqBoolS_same (w : World) (A : Option Addr) (n c : Nat) (xs : List Bool) (hr : Rd w A n (bools xs)) (hn : n ≤ 1099511627776) (A' : Option Addr) (n' c' : Nat) (hr' : Rd w A' n' (bools xs)) :
    Calls Tryz.prog 11 #[.slice A n c, .slice A' n' c'] w (RetV w (.bool true)) := eqB_same w A n c xs hr hn A' n' c' hr'
set_option maxHeartbeats 16000000 in
set_option maxRecDepth 100000 in
theorem lawPlainPackage (w : World) (A0 : Option Addr) (n0 c0 : Nat) (x0 : List Cmd) (hw0 : RdCW w A0 n0 x0) (hnn0 : n0 ≤ 9223372036854775807) :
    Calls Tryz.prog 4 #[.slice A0 n0 c0] w fun e w' => e = .returned (.bool true) ∧ Below w.heap.size w w' := by
  have hS : ∀ (w : World) (A0 : Option Addr) (n0 c0 : Nat) (h0 : RdC w A0 n0 x0) (hn0 : n0 ≤ 1099511627776) (hcp0 : n0 ≤ c0), Calls Tryz.prog 15 #[.slice A0 n0 c0] w (fun e w' => ∃ (AR0 : Option Addr) (nR0 cR0 : Nat), e = .returned (.tuple #[.slice AR0 nR0 cR0, .int .i64 ((plainP x0).2)]) ∧ w'.ownsRow w.heap.size 4 1 (.slice AR0 nR0 cR0) nR0 (bools ((plainP x0).1)) ∧ Below w.heap.size w w') := fun w A0 n0 c0 h0 hn0 hcp0 => specPlainPackage_any w A0 n0 c0 x0 h0 hn0
  have hI : ∀ (w : World) (A0 : Option Addr) (n0 c0 : Nat) (h0 : RdC w A0 n0 x0) (hn0 : n0 ≤ 1099511627776) (hcp0 : n0 ≤ c0), Calls Tryz.prog 17 #[.slice A0 n0 c0] w (fun e w' => ∃ (AR0 : Option Addr) (nR0 cR0 : Nat), e = .returned (.tuple #[.slice AR0 nR0 cR0, .int .i64 ((plainP x0).2)]) ∧ w'.ownsRow w.heap.size 4 1 (.slice AR0 nR0 cR0) nR0 (bools ((plainP x0).1)) ∧ Below w.heap.size w w') := fun w A0 n0 c0 h0 hn0 hcp0 => implPlainPackage_any w A0 n0 c0 x0 h0 hn0 hcp0
  have HRLR0 : Hid (((plainP x0).1).length ≤ 1000000) := Lib.hid (plain_len x0)
  have HS := Lib.hid hS; have HI := Lib.hid hI
  clear hS hI
  generalize (plainP x0).1 = r0 at HS HI HRLR0
  generalize (plainP x0).2 = r1 at HS HI 
  have HXL0 : Hid ((x0).length = n0) := Lib.hid hw0.len
  have HB := Below.refl w.heap.size w
  go_enter Tryz.func4, Tryz.ntmps4
  go_wp2_with fail
  refine (szCommandS_post _ _ _ _ x0 (by have h := hw0.below HB (Nat.le_refl _); first | exact h | exact h.below (below_new _ _) (Nat.le_refl _) | exact (h.below (below_new _ _) (Nat.le_refl _)).below (below_new _ _) (Nat.le_refl _) | exact ((h.below (below_new _ _) (Nat.le_refl _)).below (below_new _ _) (Nat.le_refl _)).below (below_new _ _) (Nat.le_refl _)) hnn0 _ (by omega) (by omega)).mono ?_
  rintro e v1 ⟨lfv1, rfl, hqv1, hpv1, hbv1⟩
  (try replace hbv1 := und1 hbv1)
  (try replace hbv1 := undN hbv1)
  replace HB := HB.trans (hbv1.mono HB.size)
  have hszv1 := hbv1.size
  by_cases hzv1 : lfv1 < 0
  · clear hqv1 hpv1
    go_wp2_with fail
    go_ret
    exact ⟨rfl, HB⟩
  replace hqv1 := hqv1 (by omega)
  have hbig0 : n0 ≤ 1048576 := by omega
  have HTC0 : Hid (totC x0 ≤ 1048576) := Lib.hid (by omega)
  have HTX0 : Hid (mkC x0 ≤ 6000000) := Lib.hid (by have h1 := mkC_eq x0; have h2 := HTC0.out; have h3 := HXL0.out; omega)
  have hr0 := hw0.rdc (by have := HTC0.out; omega)
  have HQv1 := Lib.hid hqv1; clear hqv1
  go_wp2_with fail
  refine (toCommandS_any _ _ _ _ x0 (hr0.below HB (Nat.le_refl _)) (by omega)).mono ?_
  rintro e v2 ⟨Ao1, no1, co1, Fo1, rfl, hoo1, hFo1, hbv2⟩
  have hno1 : no1 ≤ 1048576 := by have h1 := hoo1.len; have h2 := HXL0.out; omega
  have hrgo1 := Lib.hid hFo1; clear hFo1
  (try replace hbv2 := und1 hbv2)
  (try replace hbv2 := undN hbv2)
  replace HB := HB.trans (hbv2.mono HB.size)
  have hszv2 := hbv2.size
  replace hrgo1 := Lib.hid (rg_lo hrgo1.out (lo := v1.heap.size + 0) (hi := v2.heap.size) (by first | exact Nat.le_refl _ | exact le_al1 | (simp; done) | (simp; omega)) (Nat.le_refl _))
  go_wp2_with fail
  refine (HS.out _ _ _ _ hoo1.rdc (by omega) hoo1.cap).mono ?_
  rintro e v3 ⟨Ao2, no2, co2, rfl, hoo2, hbv3⟩
  have hno2 : no2 ≤ 1000000 := by have h1 := hoo2.1; simp only [List.length_map] at h1; have h2 := HRLR0.out; omega
  have hrgo2 := Lib.hid (rg_row hoo2)
  (try replace hbv3 := und1 hbv3)
  (try replace hbv3 := undN hbv3)
  replace hoo1 := hoo1.below hbv3
  replace HB := HB.trans (hbv3.mono HB.size)
  have hszv3 := hbv3.size
  replace hrgo2 := Lib.hid (rg_lo hrgo2.out (lo := v2.heap.size + 0) (hi := v3.heap.size) (by first | exact Nat.le_refl _ | exact le_al1 | (simp; done) | (simp; omega)) (Nat.le_refl _))
  go_wp2_with fail
  refine (toCommandS_any _ _ _ _ x0 (hr0.below HB (Nat.le_refl _)) (by omega)).mono ?_
  rintro e v4 ⟨Ao3, no3, co3, Fo3, rfl, hoo3, hFo3, hbv4⟩
  have hno3 : no3 ≤ 1048576 := by have h1 := hoo3.len; have h2 := HXL0.out; omega
  have hrgo3 := Lib.hid hFo3; clear hFo3
  (try replace hbv4 := und1 hbv4)
  (try replace hbv4 := undN hbv4)
  replace hoo1 := hoo1.below hbv4
  replace hoo2 := ownN_below hoo2 hbv4 (Nat.le_refl _)
  replace HB := HB.trans (hbv4.mono HB.size)
  have hszv4 := hbv4.size
  replace hrgo3 := Lib.hid (rg_lo hrgo3.out (lo := v3.heap.size + 0) (hi := v4.heap.size) (by first | exact Nat.le_refl _ | exact le_al1 | (simp; done) | (simp; omega)) (Nat.le_refl _))
  go_wp2_with fail
  refine (HI.out _ _ _ _ hoo3.rdc (by omega) hoo3.cap).mono ?_
  rintro e v5 ⟨Ao4, no4, co4, rfl, hoo4, hbv5⟩
  have hno4 : no4 ≤ 1000000 := by have h1 := hoo4.1; simp only [List.length_map] at h1; have h2 := HRLR0.out; omega
  have hrgo4 := Lib.hid (rg_row hoo4)
  (try replace hbv5 := und1 hbv5)
  (try replace hbv5 := undN hbv5)
  replace hoo1 := hoo1.below hbv5
  replace hoo2 := ownN_below hoo2 hbv5 (Nat.le_refl _)
  replace hoo3 := hoo3.below hbv5
  replace HB := HB.trans (hbv5.mono HB.size)
  have hszv5 := hbv5.size
  replace hrgo4 := Lib.hid (rg_lo hrgo4.out (lo := v4.heap.size + 0) (hi := v5.heap.size) (by first | exact Nat.le_refl _ | exact le_al1 | (simp; done) | (simp; omega)) (Nat.le_refl _))
  go_wp2_with fail
  refine (eqBoolS_same _ _ _ _ r0 (own_rd hoo4) (by omega) _ _ _ (own_rd hoo2)).mono ?_
  rintro e v6 ⟨rfl, hbv6⟩
  (try replace hbv6 := und1 hbv6)
  (try replace hbv6 := undN hbv6)
  replace hoo1 := hoo1.below hbv6
  replace hoo2 := ownN_below hoo2 hbv6 (Nat.le_refl _)
  replace hoo3 := hoo3.below hbv6
  replace hoo4 := ownN_below hoo4 hbv6 (Nat.le_refl _)
  replace HB := HB.trans (hbv6.mono HB.size)
  have hszv6 := hbv6.size
  go_wp2_with fail
  refine (toCommandS_any _ _ _ _ x0 (hr0.below HB (Nat.le_refl _)) (by omega)).mono ?_
  rintro e v7 ⟨Ao5, no5, co5, Fo5, rfl, hoo5, hFo5, hbv7⟩
  have hno5 : no5 ≤ 1048576 := by have h1 := hoo5.len; have h2 := HXL0.out; omega
  have hrgo5 := Lib.hid hFo5; clear hFo5
  (try replace hbv7 := und1 hbv7)
  (try replace hbv7 := undN hbv7)
  replace hoo1 := hoo1.below hbv7
  replace hoo2 := ownN_below hoo2 hbv7 (Nat.le_refl _)
  replace hoo3 := hoo3.below hbv7
  replace hoo4 := ownN_below hoo4 hbv7 (Nat.le_refl _)
  replace HB := HB.trans (hbv7.mono HB.size)
  have hszv7 := hbv7.size
  replace hrgo5 := Lib.hid (rg_lo hrgo5.out (lo := v6.heap.size + 0) (hi := v7.heap.size) (by first | exact Nat.le_refl _ | exact le_al1 | (simp; done) | (simp; omega)) (Nat.le_refl _))
  go_wp2_with fail
  refine (eqCommandS_same _ _ _ _ x0 hoo3.rdc (by omega) _ _ _ hoo5.rdc).mono ?_
  rintro e v8 ⟨rfl, hbv8⟩
  (try replace hbv8 := und1 hbv8)
  (try replace hbv8 := undN hbv8)
  replace hoo1 := hoo1.below hbv8
  replace hoo2 := ownN_below hoo2 hbv8 (Nat.le_refl _)
  replace hoo3 := hoo3.below hbv8
  replace hoo4 := ownN_below hoo4 hbv8 (Nat.le_refl _)
  replace hoo5 := hoo5.below hbv8
  replace HB := HB.trans (hbv8.mono HB.size)
  have hszv8 := hbv8.size
  go_wp2_with fail
  have hTv9o3 : mkC x0 ≤ 6000000 := by have := HTX0.out; omega
  refine (markCommandS_any _ _ _ _ _ x0 hoo3 (by omega) (by omega)  (1) (by omega) (by omega)).mono ?_
  rintro e v9 ⟨rfl, hmo3, hCv9⟩
  replace hoo1 := hoo1.ch hCv9 (fun k h1 h2 => (by have := hrgo1.out k h1; have := hrgo3.out k h2; omega))
  replace hoo2 := own_ch hoo2 hCv9 (fun k h1 h2 => (by have := hrgo2.out k h1; have := hrgo3.out k h2; omega))
  replace hoo4 := own_ch hoo4 hCv9 (fun k h1 h2 => (by have := hrgo4.out k h1; have := hrgo3.out k h2; omega))
  replace hoo5 := hoo5.ch hCv9 (fun k h1 h2 => (by have := hrgo5.out k h1; have := hrgo3.out k h2; omega))
  replace HB := below_ch HB hCv9 (fun k h => by have := hrgo3.out k h; omega) HB.size
  replace hoo3 := hmo3
  have hszv9 := hCv9.size
  go_wp2_with fail
  refine (eqBoolS_same _ _ _ _ r0 (own_rd hoo4) (by omega) _ _ _ (own_rd hoo2)).mono ?_
  rintro e v10 ⟨rfl, hbv10⟩
  (try replace hbv10 := und1 hbv10)
  (try replace hbv10 := undN hbv10)
  replace hoo1 := hoo1.below hbv10
  replace hoo2 := ownN_below hoo2 hbv10 (Nat.le_refl _)
  replace hoo3 := hoo3.below hbv10
  replace hoo4 := ownN_below hoo4 hbv10 (Nat.le_refl _)
  replace hoo5 := hoo5.below hbv10
  replace HB := HB.trans (hbv10.mono HB.size)
  have hszv10 := hbv10.size
  go_wp2_with fail
  refine (markBoolS_any _ _ _ _ _ _ hoo4 (by omega)  (1) (by omega) (by omega)).mono ?_
  rintro e v11 ⟨rfl, hmo4, hCv11⟩
  replace hCv11 := ch_row hCv11
  replace hoo1 := hoo1.ch hCv11 (fun k h1 h2 => (by have := hrgo1.out k h1; have := hrgo4.out k h2; omega))
  replace hoo2 := own_ch hoo2 hCv11 (fun k h1 h2 => (by have := hrgo2.out k h1; have := hrgo4.out k h2; omega))
  replace hoo3 := hoo3.ch hCv11 (fun k h1 h2 => (by have := hrgo3.out k h1; have := hrgo4.out k h2; omega))
  replace hoo5 := hoo5.ch hCv11 (fun k h1 h2 => (by have := hrgo5.out k h1; have := hrgo4.out k h2; omega))
  replace HB := below_ch HB hCv11 (fun k h => by have := hrgo4.out k h; omega) HB.size
  replace hoo4 := hmo4
  have hszv11 := hCv11.size
  go_wp2_with fail
  refine (heldBoolS_any _ _ _ _ (1) (own_rd hoo4) (by omega) (by omega) (by omega)).mono ?_
  rintro e v12 ⟨rfl, hbv12⟩
  (try replace hbv12 := und1 hbv12)
  (try replace hbv12 := undN hbv12)
  replace hoo1 := hoo1.below hbv12
  replace hoo2 := ownN_below hoo2 hbv12 (Nat.le_refl _)
  replace hoo3 := hoo3.below hbv12
  replace hoo4 := ownN_below hoo4 hbv12 (Nat.le_refl _)
  replace hoo5 := hoo5.below hbv12
  replace HB := HB.trans (hbv12.mono HB.size)
  have hszv12 := hbv12.size
  go_wp2_with fail
  refine (toCommandS_any _ _ _ _ x0 (hr0.below HB (Nat.le_refl _)) (by omega)).mono ?_
  rintro e v13 ⟨Ao6, no6, co6, Fo6, rfl, hoo6, hFo6, hbv13⟩
  have hno6 : no6 ≤ 1048576 := by have h1 := hoo6.len; have h2 := HXL0.out; omega
  have hrgo6 := Lib.hid hFo6; clear hFo6
  (try replace hbv13 := und1 hbv13)
  (try replace hbv13 := undN hbv13)
  replace hoo1 := hoo1.below hbv13
  replace hoo2 := ownN_below hoo2 hbv13 (Nat.le_refl _)
  replace hoo3 := hoo3.below hbv13
  replace hoo4 := ownN_below hoo4 hbv13 (Nat.le_refl _)
  replace hoo5 := hoo5.below hbv13
  replace HB := HB.trans (hbv13.mono HB.size)
  have hszv13 := hbv13.size
  replace hrgo6 := Lib.hid (rg_lo hrgo6.out (lo := v12.heap.size + 0) (hi := v13.heap.size) (by first | exact Nat.le_refl _ | exact le_al1 | (simp; done) | (simp; omega)) (Nat.le_refl _))
  go_wp2_with fail
  refine (HI.out _ _ _ _ hoo6.rdc (by omega) hoo6.cap).mono ?_
  rintro e v14 ⟨Ao7, no7, co7, rfl, hoo7, hbv14⟩
  have hno7 : no7 ≤ 1000000 := by have h1 := hoo7.1; simp only [List.length_map] at h1; have h2 := HRLR0.out; omega
  have hrgo7 := Lib.hid (rg_row hoo7)
  (try replace hbv14 := und1 hbv14)
  (try replace hbv14 := undN hbv14)
  replace hoo1 := hoo1.below hbv14
  replace hoo2 := ownN_below hoo2 hbv14 (Nat.le_refl _)
  replace hoo3 := hoo3.below hbv14
  replace hoo4 := ownN_below hoo4 hbv14 (Nat.le_refl _)
  replace hoo5 := hoo5.below hbv14
  replace hoo6 := hoo6.below hbv14
  replace HB := HB.trans (hbv14.mono HB.size)
  have hszv14 := hbv14.size
  replace hrgo7 := Lib.hid (rg_lo hrgo7.out (lo := v13.heap.size + 0) (hi := v14.heap.size) (by first | exact Nat.le_refl _ | exact le_al1 | (simp; done) | (simp; omega)) (Nat.le_refl _))
  go_wp2_with fail
  refine (eqBoolS_same _ _ _ _ r0 (own_rd hoo7) (by omega) _ _ _ (own_rd hoo2)).mono ?_
  rintro e v15 ⟨rfl, hbv15⟩
  (try replace hbv15 := und1 hbv15)
  (try replace hbv15 := undN hbv15)
  replace hoo1 := hoo1.below hbv15
  replace hoo2 := ownN_below hoo2 hbv15 (Nat.le_refl _)
  replace hoo3 := hoo3.below hbv15
  replace hoo4 := ownN_below hoo4 hbv15 (Nat.le_refl _)
  replace hoo5 := hoo5.below hbv15
  replace hoo6 := hoo6.below hbv15
  replace hoo7 := ownN_below hoo7 hbv15 (Nat.le_refl _)
  replace HB := HB.trans (hbv15.mono HB.size)
  have hszv15 := hbv15.size
  go_wp2_with fail
  refine (heldBoolS_any _ _ _ _ (1) (own_rd hoo4) (by omega) (by omega) (by omega)).mono ?_
  rintro e v16 ⟨rfl, hbv16⟩
  (try replace hbv16 := und1 hbv16)
  (try replace hbv16 := undN hbv16)
  replace hoo1 := hoo1.below hbv16
  replace hoo2 := ownN_below hoo2 hbv16 (Nat.le_refl _)
  replace hoo3 := hoo3.below hbv16
  replace hoo4 := ownN_below hoo4 hbv16 (Nat.le_refl _)
  replace hoo5 := hoo5.below hbv16
  replace hoo6 := hoo6.below hbv16
  replace hoo7 := ownN_below hoo7 hbv16 (Nat.le_refl _)
  replace HB := HB.trans (hbv16.mono HB.size)
  have hszv16 := hbv16.size
  go_wp2_with fail
  go_ret
  first | exact ⟨rfl, HB⟩ | exact ⟨rfl, below_drewN HB⟩
end Go.Proofs.YtaadobggenbbdaaGreatDoor
