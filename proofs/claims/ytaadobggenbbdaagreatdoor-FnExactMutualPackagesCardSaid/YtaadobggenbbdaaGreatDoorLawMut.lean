/- The law on MutualPackages. Written by genlaw5.py. -/
import Derived.Test.YtaadobggenbbdaaGreatDoorPkO
import Derived.Test.YtaadobggenbbdaaGreatDoorLawCmd2
namespace Go.Proofs.YtaadobggenbbdaaGreatDoor
open Go.RowKit
set_option linter.unusedVariables false
set_option linter.unusedSimpArgs false
theorem eqBoolS_same (w : World) (A : Option Addr) (n c : Nat) (xs : List Bool) (hr : Rd w A n (bools xs)) (hn : n ≤ 1099511627776) (A' : Option Addr) (n' c' : Nat) (hr' : Rd w A' n' (bools xs)) :
    Calls Tryz.prog 11 #[.slice A n c, .slice A' n' c'] w (RetV w (.bool true)) := eqB_same w A n c xs hr hn A' n' c' hr'
set_option maxHeartbeats 16000000 in
set_option maxRecDepth 100000 in
theorem lawMutualPackages (w : World) (A0 : Option Addr) (n0 c0 : Nat) (x0 : List Cmd) (hw0 : RdCW w A0 n0 x0) (hnn0 : n0 ≤ 9223372036854775807) (A1 : Option Addr) (n1 c1 : Nat) (x1 : List Cmd) (hw1 : RdCW w A1 n1 x1) (hnn1 : n1 ≤ 9223372036854775807) :
    Calls Tryz.prog 6 #[.slice A0 n0 c0, .slice A1 n1 c1] w fun e w' => e = .returned (.bool true) ∧ Below w.heap.size w w' := by
  have hS : ∀ (w : World) (A0 : Option Addr) (n0 c0 : Nat) (h0 : RdC w A0 n0 x0) (hn0 : n0 ≤ 1099511627776) (hcp0 : n0 ≤ c0) (A1 : Option Addr) (n1 c1 : Nat) (h1 : RdC w A1 n1 x1) (hn1 : n1 ≤ 1099511627776) (hcp1 : n1 ≤ c1), Calls Tryz.prog 22 #[.slice A0 n0 c0, .slice A1 n1 c1] w (fun e w' => ∃ (AR0 : Option Addr) (nR0 cR0 : Nat) (AR1 : Option Addr) (nR1 cR1 : Nat), e = .returned (.tuple #[.slice AR0 nR0 cR0, .slice AR1 nR1 cR1, .int .i64 ((mutP x0 x1).2.2)]) ∧ w'.ownsRow w.heap.size 4 1 (.slice AR0 nR0 cR0) nR0 (bools ((mutP x0 x1).1)) ∧ w'.ownsRow w.heap.size 4 1 (.slice AR1 nR1 cR1) nR1 (bools ((mutP x0 x1).2.1)) ∧ (∀ k, Fo (.slice AR0 nR0 cR0) k → Fo (.slice AR1 nR1 cR1) k → False) ∧ Below w.heap.size w w') := fun w A0 n0 c0 h0 hn0 hcp0 A1 n1 c1 h1 hn1 hcp1 => specMutualPackages_any w A0 n0 c0 x0 h0 hn0 A1 n1 c1 x1 h1 hn1
  have hI : ∀ (w : World) (A0 : Option Addr) (n0 c0 : Nat) (h0 : RdC w A0 n0 x0) (hn0 : n0 ≤ 1099511627776) (hcp0 : n0 ≤ c0) (A1 : Option Addr) (n1 c1 : Nat) (h1 : RdC w A1 n1 x1) (hn1 : n1 ≤ 1099511627776) (hcp1 : n1 ≤ c1), Calls Tryz.prog 23 #[.slice A0 n0 c0, .slice A1 n1 c1] w (fun e w' => ∃ (AR0 : Option Addr) (nR0 cR0 : Nat) (AR1 : Option Addr) (nR1 cR1 : Nat), e = .returned (.tuple #[.slice AR0 nR0 cR0, .slice AR1 nR1 cR1, .int .i64 ((mutP x0 x1).2.2)]) ∧ w'.ownsRow w.heap.size 4 1 (.slice AR0 nR0 cR0) nR0 (bools ((mutP x0 x1).1)) ∧ w'.ownsRow w.heap.size 4 1 (.slice AR1 nR1 cR1) nR1 (bools ((mutP x0 x1).2.1)) ∧ (∀ k, Fo (.slice AR0 nR0 cR0) k → Fo (.slice AR1 nR1 cR1) k → False) ∧ Below w.heap.size w w') := fun w A0 n0 c0 h0 hn0 hcp0 A1 n1 c1 h1 hn1 hcp1 => implMutualPackages_any w A0 n0 c0 x0 h0 hn0 hcp0 A1 n1 c1 x1 h1 hn1 hcp1
  have HRLR0 : Hid (((mutP x0 x1).1).length ≤ 1000000) := Lib.hid (mut_len0 x0 x1)
  have HRLR1 : Hid (((mutP x0 x1).2.1).length ≤ 1000000) := Lib.hid (mut_len1 x0 x1)
  have HS := Lib.hid hS; have HI := Lib.hid hI
  clear hS hI
  generalize (mutP x0 x1).1 = r0 at HS HI HRLR0
  generalize (mutP x0 x1).2.1 = r1 at HS HI HRLR1
  generalize (mutP x0 x1).2.2 = r2 at HS HI 
  have HXL0 : Hid ((x0).length = n0) := Lib.hid hw0.len
  have HXL1 : Hid ((x1).length = n1) := Lib.hid hw1.len
  have HB := Below.refl w.heap.size w
  go_enter Tryz.func6, Tryz.ntmps6
  go_wp2_with fail
  refine (szCommandS_post _ _ _ _ x0 (by have h := hw0.below HB (Nat.le_refl _); first | exact h | exact h.below (below_new _ _) (Nat.le_refl _) | exact (h.below (below_new _ _) (Nat.le_refl _)).below (below_new _ _) (Nat.le_refl _) | exact ((h.below (below_new _ _) (Nat.le_refl _)).below (below_new _ _) (Nat.le_refl _)).below (below_new _ _) (Nat.le_refl _)) hnn0 _ (by omega) (by omega)).mono ?_
  rintro e v1 ⟨lfv1, rfl, hqv1, hpv1, hbv1⟩
  (try replace hbv1 := und1 hbv1)
  (try replace hbv1 := undN hbv1)
  replace HB := HB.trans (hbv1.mono HB.size)
  have hszv1 := hbv1.size
  by_cases hzv1 : lfv1 < 0
  · clear hqv1 hpv1
    go_wp2_with fail
    go_ret
    exact ⟨rfl, HB⟩
  replace hqv1 := hqv1 (by omega)
  have hbig0 : n0 ≤ 1048576 := by omega
  have HTC0 : Hid (totC x0 ≤ 1048576) := Lib.hid (by omega)
  have HTX0 : Hid (mkC x0 ≤ 6000000) := Lib.hid (by have h1 := mkC_eq x0; have h2 := HTC0.out; have h3 := HXL0.out; omega)
  have hr0 := hw0.rdc (by have := HTC0.out; omega)
  have HQv1 := Lib.hid hqv1; clear hqv1
  go_wp2_with fail
  refine (szCommandS_post _ _ _ _ x1 (by have h := hw1.below HB (Nat.le_refl _); first | exact h | exact h.below (below_new _ _) (Nat.le_refl _) | exact (h.below (below_new _ _) (Nat.le_refl _)).below (below_new _ _) (Nat.le_refl _) | exact ((h.below (below_new _ _) (Nat.le_refl _)).below (below_new _ _) (Nat.le_refl _)).below (below_new _ _) (Nat.le_refl _)) hnn1 _ (by omega) (by omega)).mono ?_
  rintro e v2 ⟨lfv2, rfl, hqv2, hpv2, hbv2⟩
  (try replace hbv2 := und1 hbv2)
  (try replace hbv2 := undN hbv2)
  replace HB := HB.trans (hbv2.mono HB.size)
  have hszv2 := hbv2.size
  by_cases hzv2 : lfv2 < 0
  · clear hqv2 hpv2
    go_wp2_with fail
    go_ret
    exact ⟨rfl, HB⟩
  replace hqv2 := hqv2 (by omega)
  have hbig1 : n1 ≤ 1048576 := by omega
  have HTC1 : Hid (totC x1 ≤ 1048576) := Lib.hid (by omega)
  have HTX1 : Hid (mkC x1 ≤ 6000000) := Lib.hid (by have h1 := mkC_eq x1; have h2 := HTC1.out; have h3 := HXL1.out; omega)
  have hr1 := hw1.rdc (by have := HTC1.out; omega)
  have HQv2 := Lib.hid hqv2; clear hqv2
  go_wp2_with fail
  refine (toCommandS_any _ _ _ _ x0 (hr0.below HB (Nat.le_refl _)) (by omega)).mono ?_
  rintro e v3 ⟨Ao1, no1, co1, Fo1, rfl, hoo1, hFo1, hbv3⟩
  have hno1 : no1 ≤ 1048576 := by have h1 := hoo1.len; have h2 := HXL0.out; omega
  have hrgo1 := Lib.hid hFo1; clear hFo1
  (try replace hbv3 := und1 hbv3)
  (try replace hbv3 := undN hbv3)
  replace HB := HB.trans (hbv3.mono HB.size)
  have hszv3 := hbv3.size
  replace hrgo1 := Lib.hid (rg_lo hrgo1.out (lo := v2.heap.size + 0) (hi := v3.heap.size) (by first | exact Nat.le_refl _ | exact le_al1 | (simp; done) | (simp; omega)) (Nat.le_refl _))
  go_wp2_with fail
  refine (toCommandS_any _ _ _ _ x1 (hr1.below HB (Nat.le_refl _)) (by omega)).mono ?_
  rintro e v4 ⟨Ao2, no2, co2, Fo2, rfl, hoo2, hFo2, hbv4⟩
  have hno2 : no2 ≤ 1048576 := by have h1 := hoo2.len; have h2 := HXL1.out; omega
  have hrgo2 := Lib.hid hFo2; clear hFo2
  (try replace hbv4 := und1 hbv4)
  (try replace hbv4 := undN hbv4)
  replace hoo1 := hoo1.below hbv4
  replace HB := HB.trans (hbv4.mono HB.size)
  have hszv4 := hbv4.size
  replace hrgo2 := Lib.hid (rg_lo hrgo2.out (lo := v3.heap.size + 0) (hi := v4.heap.size) (by first | exact Nat.le_refl _ | exact le_al1 | (simp; done) | (simp; omega)) (Nat.le_refl _))
  go_wp2_with fail
  refine (HS.out _ _ _ _ hoo1.rdc (by omega) hoo1.cap _ _ _ hoo2.rdc (by omega) hoo2.cap).mono ?_
  rintro e v5 ⟨Ao3, no3, co3, Ao4, no4, co4, rfl, hoo3, hoo4, hdo3o4, hbv5⟩
  have hno3 : no3 ≤ 1000000 := by have h1 := hoo3.1; simp only [List.length_map] at h1; have h2 := HRLR0.out; omega
  have hno4 : no4 ≤ 1000000 := by have h1 := hoo4.1; simp only [List.length_map] at h1; have h2 := HRLR1.out; omega
  have hrgo3 := Lib.hid (rg_row hoo3)
  have hrgo4 := Lib.hid (rg_row hoo4)
  have HDo3o4 := Lib.hid hdo3o4; clear hdo3o4
  (try replace hbv5 := und1 hbv5)
  (try replace hbv5 := undN hbv5)
  replace hoo1 := hoo1.below hbv5
  replace hoo2 := hoo2.below hbv5
  replace HB := HB.trans (hbv5.mono HB.size)
  have hszv5 := hbv5.size
  replace hrgo3 := Lib.hid (rg_lo hrgo3.out (lo := v4.heap.size + 0) (hi := v5.heap.size) (by first | exact Nat.le_refl _ | exact le_al1 | (simp; done) | (simp; omega)) (Nat.le_refl _))
  replace hrgo4 := Lib.hid (rg_lo hrgo4.out (lo := v4.heap.size + 0) (hi := v5.heap.size) (by first | exact Nat.le_refl _ | exact le_al1 | (simp; done) | (simp; omega)) (Nat.le_refl _))
  go_wp2_with fail
  refine (toCommandS_any _ _ _ _ x0 (hr0.below HB (Nat.le_refl _)) (by omega)).mono ?_
  rintro e v6 ⟨Ao5, no5, co5, Fo5, rfl, hoo5, hFo5, hbv6⟩
  have hno5 : no5 ≤ 1048576 := by have h1 := hoo5.len; have h2 := HXL0.out; omega
  have hrgo5 := Lib.hid hFo5; clear hFo5
  (try replace hbv6 := und1 hbv6)
  (try replace hbv6 := undN hbv6)
  replace hoo1 := hoo1.below hbv6
  replace hoo2 := hoo2.below hbv6
  replace hoo3 := ownN_below hoo3 hbv6 (Nat.le_refl _)
  replace hoo4 := ownN_below hoo4 hbv6 (Nat.le_refl _)
  replace HB := HB.trans (hbv6.mono HB.size)
  have hszv6 := hbv6.size
  replace hrgo5 := Lib.hid (rg_lo hrgo5.out (lo := v5.heap.size + 0) (hi := v6.heap.size) (by first | exact Nat.le_refl _ | exact le_al1 | (simp; done) | (simp; omega)) (Nat.le_refl _))
  go_wp2_with fail
  refine (toCommandS_any _ _ _ _ x1 (hr1.below HB (Nat.le_refl _)) (by omega)).mono ?_
  rintro e v7 ⟨Ao6, no6, co6, Fo6, rfl, hoo6, hFo6, hbv7⟩
  have hno6 : no6 ≤ 1048576 := by have h1 := hoo6.len; have h2 := HXL1.out; omega
  have hrgo6 := Lib.hid hFo6; clear hFo6
  (try replace hbv7 := und1 hbv7)
  (try replace hbv7 := undN hbv7)
  replace hoo1 := hoo1.below hbv7
  replace hoo2 := hoo2.below hbv7
  replace hoo3 := ownN_below hoo3 hbv7 (Nat.le_refl _)
  replace hoo4 := ownN_below hoo4 hbv7 (Nat.le_refl _)
  replace hoo5 := hoo5.below hbv7
  replace HB := HB.trans (hbv7.mono HB.size)
  have hszv7 := hbv7.size
  replace hrgo6 := Lib.hid (rg_lo hrgo6.out (lo := v6.heap.size + 0) (hi := v7.heap.size) (by first | exact Nat.le_refl _ | exact le_al1 | (simp; done) | (simp; omega)) (Nat.le_refl _))
  go_wp2_with fail
  refine (HI.out _ _ _ _ hoo5.rdc (by omega) hoo5.cap _ _ _ hoo6.rdc (by omega) hoo6.cap).mono ?_
  rintro e v8 ⟨Ao7, no7, co7, Ao8, no8, co8, rfl, hoo7, hoo8, hdo7o8, hbv8⟩
  have hno7 : no7 ≤ 1000000 := by have h1 := hoo7.1; simp only [List.length_map] at h1; have h2 := HRLR0.out; omega
  have hno8 : no8 ≤ 1000000 := by have h1 := hoo8.1; simp only [List.length_map] at h1; have h2 := HRLR1.out; omega
  have hrgo7 := Lib.hid (rg_row hoo7)
  have hrgo8 := Lib.hid (rg_row hoo8)
  have HDo7o8 := Lib.hid hdo7o8; clear hdo7o8
  (try replace hbv8 := und1 hbv8)
  (try replace hbv8 := undN hbv8)
  replace hoo1 := hoo1.below hbv8
  replace hoo2 := hoo2.below hbv8
  replace hoo3 := ownN_below hoo3 hbv8 (Nat.le_refl _)
  replace hoo4 := ownN_below hoo4 hbv8 (Nat.le_refl _)
  replace hoo5 := hoo5.below hbv8
  replace hoo6 := hoo6.below hbv8
  replace HB := HB.trans (hbv8.mono HB.size)
  have hszv8 := hbv8.size
  replace hrgo7 := Lib.hid (rg_lo hrgo7.out (lo := v7.heap.size + 0) (hi := v8.heap.size) (by first | exact Nat.le_refl _ | exact le_al1 | (simp; done) | (simp; omega)) (Nat.le_refl _))
  replace hrgo8 := Lib.hid (rg_lo hrgo8.out (lo := v7.heap.size + 0) (hi := v8.heap.size) (by first | exact Nat.le_refl _ | exact le_al1 | (simp; done) | (simp; omega)) (Nat.le_refl _))
  go_wp2_with fail
  refine (eqBoolS_same _ _ _ _ r0 (own_rd hoo7) (by omega) _ _ _ (own_rd hoo3)).mono ?_
  rintro e v9 ⟨rfl, hbv9⟩
  (try replace hbv9 := und1 hbv9)
  (try replace hbv9 := undN hbv9)
  replace hoo1 := hoo1.below hbv9
  replace hoo2 := hoo2.below hbv9
  replace hoo3 := ownN_below hoo3 hbv9 (Nat.le_refl _)
  replace hoo4 := ownN_below hoo4 hbv9 (Nat.le_refl _)
  replace hoo5 := hoo5.below hbv9
  replace hoo6 := hoo6.below hbv9
  replace hoo7 := ownN_below hoo7 hbv9 (Nat.le_refl _)
  replace hoo8 := ownN_below hoo8 hbv9 (Nat.le_refl _)
  replace HB := HB.trans (hbv9.mono HB.size)
  have hszv9 := hbv9.size
  go_wp2_with fail
  refine (eqBoolS_same _ _ _ _ r1 (own_rd hoo8) (by omega) _ _ _ (own_rd hoo4)).mono ?_
  rintro e v10 ⟨rfl, hbv10⟩
  (try replace hbv10 := und1 hbv10)
  (try replace hbv10 := undN hbv10)
  replace hoo1 := hoo1.below hbv10
  replace hoo2 := hoo2.below hbv10
  replace hoo3 := ownN_below hoo3 hbv10 (Nat.le_refl _)
  replace hoo4 := ownN_below hoo4 hbv10 (Nat.le_refl _)
  replace hoo5 := hoo5.below hbv10
  replace hoo6 := hoo6.below hbv10
  replace hoo7 := ownN_below hoo7 hbv10 (Nat.le_refl _)
  replace hoo8 := ownN_below hoo8 hbv10 (Nat.le_refl _)
  replace HB := HB.trans (hbv10.mono HB.size)
  have hszv10 := hbv10.size
  go_wp2_with fail
  refine (toCommandS_any _ _ _ _ x0 (hr0.below HB (Nat.le_refl _)) (by omega)).mono ?_
  rintro e v11 ⟨Ao9, no9, co9, Fo9, rfl, hoo9, hFo9, hbv11⟩
  have hno9 : no9 ≤ 1048576 := by have h1 := hoo9.len; have h2 := HXL0.out; omega
  have hrgo9 := Lib.hid hFo9; clear hFo9
  (try replace hbv11 := und1 hbv11)
  (try replace hbv11 := undN hbv11)
  replace hoo1 := hoo1.below hbv11
  replace hoo2 := hoo2.below hbv11
  replace hoo3 := ownN_below hoo3 hbv11 (Nat.le_refl _)
  replace hoo4 := ownN_below hoo4 hbv11 (Nat.le_refl _)
  replace hoo5 := hoo5.below hbv11
  replace hoo6 := hoo6.below hbv11
  replace hoo7 := ownN_below hoo7 hbv11 (Nat.le_refl _)
  replace hoo8 := ownN_below hoo8 hbv11 (Nat.le_refl _)
  replace HB := HB.trans (hbv11.mono HB.size)
  have hszv11 := hbv11.size
  replace hrgo9 := Lib.hid (rg_lo hrgo9.out (lo := v10.heap.size + 0) (hi := v11.heap.size) (by first | exact Nat.le_refl _ | exact le_al1 | (simp; done) | (simp; omega)) (Nat.le_refl _))
  go_wp2_with fail
  refine (eqCommandS_same _ _ _ _ x0 hoo5.rdc (by omega) _ _ _ hoo9.rdc).mono ?_
  rintro e v12 ⟨rfl, hbv12⟩
  (try replace hbv12 := und1 hbv12)
  (try replace hbv12 := undN hbv12)
  replace hoo1 := hoo1.below hbv12
  replace hoo2 := hoo2.below hbv12
  replace hoo3 := ownN_below hoo3 hbv12 (Nat.le_refl _)
  replace hoo4 := ownN_below hoo4 hbv12 (Nat.le_refl _)
  replace hoo5 := hoo5.below hbv12
  replace hoo6 := hoo6.below hbv12
  replace hoo7 := ownN_below hoo7 hbv12 (Nat.le_refl _)
  replace hoo8 := ownN_below hoo8 hbv12 (Nat.le_refl _)
  replace hoo9 := hoo9.below hbv12
  replace HB := HB.trans (hbv12.mono HB.size)
  have hszv12 := hbv12.size
  go_wp2_with fail
  refine (toCommandS_any _ _ _ _ x1 (hr1.below HB (Nat.le_refl _)) (by omega)).mono ?_
  rintro e v13 ⟨Ao10, no10, co10, Fo10, rfl, hoo10, hFo10, hbv13⟩
  have hno10 : no10 ≤ 1048576 := by have h1 := hoo10.len; have h2 := HXL1.out; omega
  have hrgo10 := Lib.hid hFo10; clear hFo10
  (try replace hbv13 := und1 hbv13)
  (try replace hbv13 := undN hbv13)
  replace hoo1 := hoo1.below hbv13
  replace hoo2 := hoo2.below hbv13
  replace hoo3 := ownN_below hoo3 hbv13 (Nat.le_refl _)
  replace hoo4 := ownN_below hoo4 hbv13 (Nat.le_refl _)
  replace hoo5 := hoo5.below hbv13
  replace hoo6 := hoo6.below hbv13
  replace hoo7 := ownN_below hoo7 hbv13 (Nat.le_refl _)
  replace hoo8 := ownN_below hoo8 hbv13 (Nat.le_refl _)
  replace hoo9 := hoo9.below hbv13
  replace HB := HB.trans (hbv13.mono HB.size)
  have hszv13 := hbv13.size
  replace hrgo10 := Lib.hid (rg_lo hrgo10.out (lo := v12.heap.size + 0) (hi := v13.heap.size) (by first | exact Nat.le_refl _ | exact le_al1 | (simp; done) | (simp; omega)) (Nat.le_refl _))
  go_wp2_with fail
  refine (eqCommandS_same _ _ _ _ x1 hoo6.rdc (by omega) _ _ _ hoo10.rdc).mono ?_
  rintro e v14 ⟨rfl, hbv14⟩
  (try replace hbv14 := und1 hbv14)
  (try replace hbv14 := undN hbv14)
  replace hoo1 := hoo1.below hbv14
  replace hoo2 := hoo2.below hbv14
  replace hoo3 := ownN_below hoo3 hbv14 (Nat.le_refl _)
  replace hoo4 := ownN_below hoo4 hbv14 (Nat.le_refl _)
  replace hoo5 := hoo5.below hbv14
  replace hoo6 := hoo6.below hbv14
  replace hoo7 := ownN_below hoo7 hbv14 (Nat.le_refl _)
  replace hoo8 := ownN_below hoo8 hbv14 (Nat.le_refl _)
  replace hoo9 := hoo9.below hbv14
  replace hoo10 := hoo10.below hbv14
  replace HB := HB.trans (hbv14.mono HB.size)
  have hszv14 := hbv14.size
  go_wp2_with fail
  have hTv15o5 : mkC x0 ≤ 6000000 := by have := HTX0.out; omega
  refine (markCommandS_any _ _ _ _ _ x0 hoo5 (by omega) (by omega)  (1) (by omega) (by omega)).mono ?_
  rintro e v15 ⟨rfl, hmo5, hCv15⟩
  replace hoo1 := hoo1.ch hCv15 (fun k h1 h2 => (by have := hrgo1.out k h1; have := hrgo5.out k h2; omega))
  replace hoo2 := hoo2.ch hCv15 (fun k h1 h2 => (by have := hrgo2.out k h1; have := hrgo5.out k h2; omega))
  replace hoo3 := own_ch hoo3 hCv15 (fun k h1 h2 => (by have := hrgo3.out k h1; have := hrgo5.out k h2; omega))
  replace hoo4 := own_ch hoo4 hCv15 (fun k h1 h2 => (by have := hrgo4.out k h1; have := hrgo5.out k h2; omega))
  replace hoo6 := hoo6.ch hCv15 (fun k h1 h2 => (by have := hrgo6.out k h1; have := hrgo5.out k h2; omega))
  replace hoo7 := own_ch hoo7 hCv15 (fun k h1 h2 => (by have := hrgo7.out k h1; have := hrgo5.out k h2; omega))
  replace hoo8 := own_ch hoo8 hCv15 (fun k h1 h2 => (by have := hrgo8.out k h1; have := hrgo5.out k h2; omega))
  replace hoo9 := hoo9.ch hCv15 (fun k h1 h2 => (by have := hrgo9.out k h1; have := hrgo5.out k h2; omega))
  replace hoo10 := hoo10.ch hCv15 (fun k h1 h2 => (by have := hrgo10.out k h1; have := hrgo5.out k h2; omega))
  replace HB := below_ch HB hCv15 (fun k h => by have := hrgo5.out k h; omega) HB.size
  replace hoo5 := hmo5
  have hszv15 := hCv15.size
  go_wp2_with fail
  have hTv16o6 : mkC x1 ≤ 6000000 := by have := HTX1.out; omega
  refine (markCommandS_any _ _ _ _ _ x1 hoo6 (by omega) (by omega)  (1 + (mkC x0 : Int)) (by omega) (by omega)).mono ?_
  rintro e v16 ⟨rfl, hmo6, hCv16⟩
  replace hoo1 := hoo1.ch hCv16 (fun k h1 h2 => (by have := hrgo1.out k h1; have := hrgo6.out k h2; omega))
  replace hoo2 := hoo2.ch hCv16 (fun k h1 h2 => (by have := hrgo2.out k h1; have := hrgo6.out k h2; omega))
  replace hoo3 := own_ch hoo3 hCv16 (fun k h1 h2 => (by have := hrgo3.out k h1; have := hrgo6.out k h2; omega))
  replace hoo4 := own_ch hoo4 hCv16 (fun k h1 h2 => (by have := hrgo4.out k h1; have := hrgo6.out k h2; omega))
  replace hoo5 := hoo5.ch hCv16 (fun k h1 h2 => (by have := hrgo5.out k h1; have := hrgo6.out k h2; omega))
  replace hoo7 := own_ch hoo7 hCv16 (fun k h1 h2 => (by have := hrgo7.out k h1; have := hrgo6.out k h2; omega))
  replace hoo8 := own_ch hoo8 hCv16 (fun k h1 h2 => (by have := hrgo8.out k h1; have := hrgo6.out k h2; omega))
  replace hoo9 := hoo9.ch hCv16 (fun k h1 h2 => (by have := hrgo9.out k h1; have := hrgo6.out k h2; omega))
  replace hoo10 := hoo10.ch hCv16 (fun k h1 h2 => (by have := hrgo10.out k h1; have := hrgo6.out k h2; omega))
  replace HB := below_ch HB hCv16 (fun k h => by have := hrgo6.out k h; omega) HB.size
  replace hoo6 := hmo6
  have hszv16 := hCv16.size
  go_wp2_with fail
  refine (eqBoolS_same _ _ _ _ r0 (own_rd hoo7) (by omega) _ _ _ (own_rd hoo3)).mono ?_
  rintro e v17 ⟨rfl, hbv17⟩
  (try replace hbv17 := und1 hbv17)
  (try replace hbv17 := undN hbv17)
  replace hoo1 := hoo1.below hbv17
  replace hoo2 := hoo2.below hbv17
  replace hoo3 := ownN_below hoo3 hbv17 (Nat.le_refl _)
  replace hoo4 := ownN_below hoo4 hbv17 (Nat.le_refl _)
  replace hoo5 := hoo5.below hbv17
  replace hoo6 := hoo6.below hbv17
  replace hoo7 := ownN_below hoo7 hbv17 (Nat.le_refl _)
  replace hoo8 := ownN_below hoo8 hbv17 (Nat.le_refl _)
  replace hoo9 := hoo9.below hbv17
  replace hoo10 := hoo10.below hbv17
  replace HB := HB.trans (hbv17.mono HB.size)
  have hszv17 := hbv17.size
  go_wp2_with fail
  refine (eqBoolS_same _ _ _ _ r1 (own_rd hoo8) (by omega) _ _ _ (own_rd hoo4)).mono ?_
  rintro e v18 ⟨rfl, hbv18⟩
  (try replace hbv18 := und1 hbv18)
  (try replace hbv18 := undN hbv18)
  replace hoo1 := hoo1.below hbv18
  replace hoo2 := hoo2.below hbv18
  replace hoo3 := ownN_below hoo3 hbv18 (Nat.le_refl _)
  replace hoo4 := ownN_below hoo4 hbv18 (Nat.le_refl _)
  replace hoo5 := hoo5.below hbv18
  replace hoo6 := hoo6.below hbv18
  replace hoo7 := ownN_below hoo7 hbv18 (Nat.le_refl _)
  replace hoo8 := ownN_below hoo8 hbv18 (Nat.le_refl _)
  replace hoo9 := hoo9.below hbv18
  replace hoo10 := hoo10.below hbv18
  replace HB := HB.trans (hbv18.mono HB.size)
  have hszv18 := hbv18.size
  go_wp2_with fail
  refine (markBoolS_any _ _ _ _ _ _ hoo7 (by omega)  (1) (by omega) (by omega)).mono ?_
  rintro e v19 ⟨rfl, hmo7, hCv19⟩
  replace hCv19 := ch_row hCv19
  replace hoo1 := hoo1.ch hCv19 (fun k h1 h2 => (by have := hrgo1.out k h1; have := hrgo7.out k h2; omega))
  replace hoo2 := hoo2.ch hCv19 (fun k h1 h2 => (by have := hrgo2.out k h1; have := hrgo7.out k h2; omega))
  replace hoo3 := own_ch hoo3 hCv19 (fun k h1 h2 => (by have := hrgo3.out k h1; have := hrgo7.out k h2; omega))
  replace hoo4 := own_ch hoo4 hCv19 (fun k h1 h2 => (by have := hrgo4.out k h1; have := hrgo7.out k h2; omega))
  replace hoo5 := hoo5.ch hCv19 (fun k h1 h2 => (by have := hrgo5.out k h1; have := hrgo7.out k h2; omega))
  replace hoo6 := hoo6.ch hCv19 (fun k h1 h2 => (by have := hrgo6.out k h1; have := hrgo7.out k h2; omega))
  replace hoo8 := own_ch hoo8 hCv19 (fun k h1 h2 => (HDo7o8.out k h2 h1))
  replace hoo9 := hoo9.ch hCv19 (fun k h1 h2 => (by have := hrgo9.out k h1; have := hrgo7.out k h2; omega))
  replace hoo10 := hoo10.ch hCv19 (fun k h1 h2 => (by have := hrgo10.out k h1; have := hrgo7.out k h2; omega))
  replace HB := below_ch HB hCv19 (fun k h => by have := hrgo7.out k h; omega) HB.size
  replace hoo7 := hmo7
  have hszv19 := hCv19.size
  go_wp2_with fail
  refine (markBoolS_any _ _ _ _ _ _ hoo8 (by omega)  (1 + (no7 : Int)) (by omega) (by omega)).mono ?_
  rintro e v20 ⟨rfl, hmo8, hCv20⟩
  replace hCv20 := ch_row hCv20
  replace hoo1 := hoo1.ch hCv20 (fun k h1 h2 => (by have := hrgo1.out k h1; have := hrgo8.out k h2; omega))
  replace hoo2 := hoo2.ch hCv20 (fun k h1 h2 => (by have := hrgo2.out k h1; have := hrgo8.out k h2; omega))
  replace hoo3 := own_ch hoo3 hCv20 (fun k h1 h2 => (by have := hrgo3.out k h1; have := hrgo8.out k h2; omega))
  replace hoo4 := own_ch hoo4 hCv20 (fun k h1 h2 => (by have := hrgo4.out k h1; have := hrgo8.out k h2; omega))
  replace hoo5 := hoo5.ch hCv20 (fun k h1 h2 => (by have := hrgo5.out k h1; have := hrgo8.out k h2; omega))
  replace hoo6 := hoo6.ch hCv20 (fun k h1 h2 => (by have := hrgo6.out k h1; have := hrgo8.out k h2; omega))
  replace hoo7 := own_ch hoo7 hCv20 (fun k h1 h2 => (HDo7o8.out k h1 h2))
  replace hoo9 := hoo9.ch hCv20 (fun k h1 h2 => (by have := hrgo9.out k h1; have := hrgo8.out k h2; omega))
  replace hoo10 := hoo10.ch hCv20 (fun k h1 h2 => (by have := hrgo10.out k h1; have := hrgo8.out k h2; omega))
  replace HB := below_ch HB hCv20 (fun k h => by have := hrgo8.out k h; omega) HB.size
  replace hoo8 := hmo8
  have hszv20 := hCv20.size
  go_wp2_with fail
  refine (heldBoolS_any _ _ _ _ (1) (own_rd hoo7) (by omega) (by omega) (by omega)).mono ?_
  rintro e v21 ⟨rfl, hbv21⟩
  (try replace hbv21 := und1 hbv21)
  (try replace hbv21 := undN hbv21)
  replace hoo1 := hoo1.below hbv21
  replace hoo2 := hoo2.below hbv21
  replace hoo3 := ownN_below hoo3 hbv21 (Nat.le_refl _)
  replace hoo4 := ownN_below hoo4 hbv21 (Nat.le_refl _)
  replace hoo5 := hoo5.below hbv21
  replace hoo6 := hoo6.below hbv21
  replace hoo7 := ownN_below hoo7 hbv21 (Nat.le_refl _)
  replace hoo8 := ownN_below hoo8 hbv21 (Nat.le_refl _)
  replace hoo9 := hoo9.below hbv21
  replace hoo10 := hoo10.below hbv21
  replace HB := HB.trans (hbv21.mono HB.size)
  have hszv21 := hbv21.size
  go_wp2_with fail
  refine (heldBoolS_any _ _ _ _ (1 + (no7 : Int)) (own_rd hoo8) (by omega) (by omega) (by omega)).mono ?_
  rintro e v22 ⟨rfl, hbv22⟩
  (try replace hbv22 := und1 hbv22)
  (try replace hbv22 := undN hbv22)
  replace hoo1 := hoo1.below hbv22
  replace hoo2 := hoo2.below hbv22
  replace hoo3 := ownN_below hoo3 hbv22 (Nat.le_refl _)
  replace hoo4 := ownN_below hoo4 hbv22 (Nat.le_refl _)
  replace hoo5 := hoo5.below hbv22
  replace hoo6 := hoo6.below hbv22
  replace hoo7 := ownN_below hoo7 hbv22 (Nat.le_refl _)
  replace hoo8 := ownN_below hoo8 hbv22 (Nat.le_refl _)
  replace hoo9 := hoo9.below hbv22
  replace hoo10 := hoo10.below hbv22
  replace HB := HB.trans (hbv22.mono HB.size)
  have hszv22 := hbv22.size
  go_wp2_with fail
  refine (toCommandS_any _ _ _ _ x0 (hr0.below HB (Nat.le_refl _)) (by omega)).mono ?_
  rintro e v23 ⟨Ao11, no11, co11, Fo11, rfl, hoo11, hFo11, hbv23⟩
  have hno11 : no11 ≤ 1048576 := by have h1 := hoo11.len; have h2 := HXL0.out; omega
  have hrgo11 := Lib.hid hFo11; clear hFo11
  (try replace hbv23 := und1 hbv23)
  (try replace hbv23 := undN hbv23)
  replace hoo1 := hoo1.below hbv23
  replace hoo2 := hoo2.below hbv23
  replace hoo3 := ownN_below hoo3 hbv23 (Nat.le_refl _)
  replace hoo4 := ownN_below hoo4 hbv23 (Nat.le_refl _)
  replace hoo5 := hoo5.below hbv23
  replace hoo6 := hoo6.below hbv23
  replace hoo7 := ownN_below hoo7 hbv23 (Nat.le_refl _)
  replace hoo8 := ownN_below hoo8 hbv23 (Nat.le_refl _)
  replace hoo9 := hoo9.below hbv23
  replace hoo10 := hoo10.below hbv23
  replace HB := HB.trans (hbv23.mono HB.size)
  have hszv23 := hbv23.size
  replace hrgo11 := Lib.hid (rg_lo hrgo11.out (lo := v22.heap.size + 0) (hi := v23.heap.size) (by first | exact Nat.le_refl _ | exact le_al1 | (simp; done) | (simp; omega)) (Nat.le_refl _))
  go_wp2_with fail
  refine (toCommandS_any _ _ _ _ x1 (hr1.below HB (Nat.le_refl _)) (by omega)).mono ?_
  rintro e v24 ⟨Ao12, no12, co12, Fo12, rfl, hoo12, hFo12, hbv24⟩
  have hno12 : no12 ≤ 1048576 := by have h1 := hoo12.len; have h2 := HXL1.out; omega
  have hrgo12 := Lib.hid hFo12; clear hFo12
  (try replace hbv24 := und1 hbv24)
  (try replace hbv24 := undN hbv24)
  replace hoo1 := hoo1.below hbv24
  replace hoo2 := hoo2.below hbv24
  replace hoo3 := ownN_below hoo3 hbv24 (Nat.le_refl _)
  replace hoo4 := ownN_below hoo4 hbv24 (Nat.le_refl _)
  replace hoo5 := hoo5.below hbv24
  replace hoo6 := hoo6.below hbv24
  replace hoo7 := ownN_below hoo7 hbv24 (Nat.le_refl _)
  replace hoo8 := ownN_below hoo8 hbv24 (Nat.le_refl _)
  replace hoo9 := hoo9.below hbv24
  replace hoo10 := hoo10.below hbv24
  replace hoo11 := hoo11.below hbv24
  replace HB := HB.trans (hbv24.mono HB.size)
  have hszv24 := hbv24.size
  replace hrgo12 := Lib.hid (rg_lo hrgo12.out (lo := v23.heap.size + 0) (hi := v24.heap.size) (by first | exact Nat.le_refl _ | exact le_al1 | (simp; done) | (simp; omega)) (Nat.le_refl _))
  go_wp2_with fail
  refine (HI.out _ _ _ _ hoo11.rdc (by omega) hoo11.cap _ _ _ hoo12.rdc (by omega) hoo12.cap).mono ?_
  rintro e v25 ⟨Ao13, no13, co13, Ao14, no14, co14, rfl, hoo13, hoo14, hdo13o14, hbv25⟩
  have hno13 : no13 ≤ 1000000 := by have h1 := hoo13.1; simp only [List.length_map] at h1; have h2 := HRLR0.out; omega
  have hno14 : no14 ≤ 1000000 := by have h1 := hoo14.1; simp only [List.length_map] at h1; have h2 := HRLR1.out; omega
  have hrgo13 := Lib.hid (rg_row hoo13)
  have hrgo14 := Lib.hid (rg_row hoo14)
  have HDo13o14 := Lib.hid hdo13o14; clear hdo13o14
  (try replace hbv25 := und1 hbv25)
  (try replace hbv25 := undN hbv25)
  replace hoo1 := hoo1.below hbv25
  replace hoo2 := hoo2.below hbv25
  replace hoo3 := ownN_below hoo3 hbv25 (Nat.le_refl _)
  replace hoo4 := ownN_below hoo4 hbv25 (Nat.le_refl _)
  replace hoo5 := hoo5.below hbv25
  replace hoo6 := hoo6.below hbv25
  replace hoo7 := ownN_below hoo7 hbv25 (Nat.le_refl _)
  replace hoo8 := ownN_below hoo8 hbv25 (Nat.le_refl _)
  replace hoo9 := hoo9.below hbv25
  replace hoo10 := hoo10.below hbv25
  replace hoo11 := hoo11.below hbv25
  replace hoo12 := hoo12.below hbv25
  replace HB := HB.trans (hbv25.mono HB.size)
  have hszv25 := hbv25.size
  replace hrgo13 := Lib.hid (rg_lo hrgo13.out (lo := v24.heap.size + 0) (hi := v25.heap.size) (by first | exact Nat.le_refl _ | exact le_al1 | (simp; done) | (simp; omega)) (Nat.le_refl _))
  replace hrgo14 := Lib.hid (rg_lo hrgo14.out (lo := v24.heap.size + 0) (hi := v25.heap.size) (by first | exact Nat.le_refl _ | exact le_al1 | (simp; done) | (simp; omega)) (Nat.le_refl _))
  go_wp2_with fail
  refine (eqBoolS_same _ _ _ _ r0 (own_rd hoo13) (by omega) _ _ _ (own_rd hoo3)).mono ?_
  rintro e v26 ⟨rfl, hbv26⟩
  (try replace hbv26 := und1 hbv26)
  (try replace hbv26 := undN hbv26)
  replace hoo1 := hoo1.below hbv26
  replace hoo2 := hoo2.below hbv26
  replace hoo3 := ownN_below hoo3 hbv26 (Nat.le_refl _)
  replace hoo4 := ownN_below hoo4 hbv26 (Nat.le_refl _)
  replace hoo5 := hoo5.below hbv26
  replace hoo6 := hoo6.below hbv26
  replace hoo7 := ownN_below hoo7 hbv26 (Nat.le_refl _)
  replace hoo8 := ownN_below hoo8 hbv26 (Nat.le_refl _)
  replace hoo9 := hoo9.below hbv26
  replace hoo10 := hoo10.below hbv26
  replace hoo11 := hoo11.below hbv26
  replace hoo12 := hoo12.below hbv26
  replace hoo13 := ownN_below hoo13 hbv26 (Nat.le_refl _)
  replace hoo14 := ownN_below hoo14 hbv26 (Nat.le_refl _)
  replace HB := HB.trans (hbv26.mono HB.size)
  have hszv26 := hbv26.size
  go_wp2_with fail
  refine (eqBoolS_same _ _ _ _ r1 (own_rd hoo14) (by omega) _ _ _ (own_rd hoo4)).mono ?_
  rintro e v27 ⟨rfl, hbv27⟩
  (try replace hbv27 := und1 hbv27)
  (try replace hbv27 := undN hbv27)
  replace hoo1 := hoo1.below hbv27
  replace hoo2 := hoo2.below hbv27
  replace hoo3 := ownN_below hoo3 hbv27 (Nat.le_refl _)
  replace hoo4 := ownN_below hoo4 hbv27 (Nat.le_refl _)
  replace hoo5 := hoo5.below hbv27
  replace hoo6 := hoo6.below hbv27
  replace hoo7 := ownN_below hoo7 hbv27 (Nat.le_refl _)
  replace hoo8 := ownN_below hoo8 hbv27 (Nat.le_refl _)
  replace hoo9 := hoo9.below hbv27
  replace hoo10 := hoo10.below hbv27
  replace hoo11 := hoo11.below hbv27
  replace hoo12 := hoo12.below hbv27
  replace hoo13 := ownN_below hoo13 hbv27 (Nat.le_refl _)
  replace hoo14 := ownN_below hoo14 hbv27 (Nat.le_refl _)
  replace HB := HB.trans (hbv27.mono HB.size)
  have hszv27 := hbv27.size
  go_wp2_with fail
  refine (heldBoolS_any _ _ _ _ (1) (own_rd hoo7) (by omega) (by omega) (by omega)).mono ?_
  rintro e v28 ⟨rfl, hbv28⟩
  (try replace hbv28 := und1 hbv28)
  (try replace hbv28 := undN hbv28)
  replace hoo1 := hoo1.below hbv28
  replace hoo2 := hoo2.below hbv28
  replace hoo3 := ownN_below hoo3 hbv28 (Nat.le_refl _)
  replace hoo4 := ownN_below hoo4 hbv28 (Nat.le_refl _)
  replace hoo5 := hoo5.below hbv28
  replace hoo6 := hoo6.below hbv28
  replace hoo7 := ownN_below hoo7 hbv28 (Nat.le_refl _)
  replace hoo8 := ownN_below hoo8 hbv28 (Nat.le_refl _)
  replace hoo9 := hoo9.below hbv28
  replace hoo10 := hoo10.below hbv28
  replace hoo11 := hoo11.below hbv28
  replace hoo12 := hoo12.below hbv28
  replace hoo13 := ownN_below hoo13 hbv28 (Nat.le_refl _)
  replace hoo14 := ownN_below hoo14 hbv28 (Nat.le_refl _)
  replace HB := HB.trans (hbv28.mono HB.size)
  have hszv28 := hbv28.size
  go_wp2_with fail
  refine (heldBoolS_any _ _ _ _ (1 + (no7 : Int)) (own_rd hoo8) (by omega) (by omega) (by omega)).mono ?_
  rintro e v29 ⟨rfl, hbv29⟩
  (try replace hbv29 := und1 hbv29)
  (try replace hbv29 := undN hbv29)
  replace hoo1 := hoo1.below hbv29
  replace hoo2 := hoo2.below hbv29
  replace hoo3 := ownN_below hoo3 hbv29 (Nat.le_refl _)
  replace hoo4 := ownN_below hoo4 hbv29 (Nat.le_refl _)
  replace hoo5 := hoo5.below hbv29
  replace hoo6 := hoo6.below hbv29
  replace hoo7 := ownN_below hoo7 hbv29 (Nat.le_refl _)
  replace hoo8 := ownN_below hoo8 hbv29 (Nat.le_refl _)
  replace hoo9 := hoo9.below hbv29
  replace hoo10 := hoo10.below hbv29
  replace hoo11 := hoo11.below hbv29
  replace hoo12 := hoo12.below hbv29
  replace hoo13 := ownN_below hoo13 hbv29 (Nat.le_refl _)
  replace hoo14 := ownN_below hoo14 hbv29 (Nat.le_refl _)
  replace HB := HB.trans (hbv29.mono HB.size)
  have hszv29 := hbv29.size
  go_wp2_with fail
  go_ret
  first | exact ⟨rfl, HB⟩ | exact ⟨rfl, below_drewN HB⟩
end Go.Proofs.YtaadobggenbbdaaGreatDoor
