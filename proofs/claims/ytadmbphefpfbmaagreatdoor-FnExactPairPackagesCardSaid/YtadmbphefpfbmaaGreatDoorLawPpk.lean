/- The law on PairPackages. Written by genlaw5.py. -/
import Derived.Test.YtadmbphefpfbmaaGreatDoorPvG
import Derived.Test.YtadmbphefpfbmaaGreatDoorLawCmd2
namespace Go.Proofs.YtadmbphefpfbmaaGreatDoor
open Go.RowKit
set_option linter.unusedVariables false
set_option linter.unusedSimpArgs false
theorem eqBoolS_same (w : World) (A : Option Addr) (n c : Nat) (xs : List Bool) (hr : Rd w A n (bools xs)) (hn : n ≤ 1099511627776) (A' : Option Addr) (n' c' : Nat) (hr' : Rd w A' n' (bools xs)) :
    Calls Tryz.prog 10 #[.slice A n c, .slice A' n' c'] w (RetV w (.bool true)) := eqB_same w A n c xs hr hn A' n' c' hr'
set_option maxHeartbeats 16000000 in
set_option maxRecDepth 100000 in
theorem lawPairPackages (w : World) (A0 : Option Addr) (n0 c0 : Nat) (x0 : List Bool) (hr0 : Rd w A0 n0 (bools x0)) (hnn0 : n0 ≤ 9223372036854775807) (A1 : Option Addr) (n1 c1 : Nat) (x1 : List Bool) (hr1 : Rd w A1 n1 (bools x1)) (hnn1 : n1 ≤ 9223372036854775807) :
    Calls Tryz.prog 4 #[.slice A0 n0 c0, .slice A1 n1 c1] w fun e w' => e = .returned (.bool true) ∧ Below w.heap.size w w' := by
  have hS : ∀ (w : World) (A0 : Option Addr) (n0 c0 : Nat) (h0 : Rd w A0 n0 (bools x0)) (hn0 : n0 ≤ 1000000000) (hcp0 : n0 ≤ c0) (A1 : Option Addr) (n1 c1 : Nat) (h1 : Rd w A1 n1 (bools x1)) (hn1 : n1 ≤ 1000000000) (hcp1 : n1 ≤ c1), Calls Tryz.prog 13 #[.slice A0 n0 c0, .slice A1 n1 c1] w (fun e w' => ∃ (AR0 : Option Addr) (nR0 cR0 : Nat), e = .returned (.tuple #[.slice AR0 nR0 cR0, .int .i64 ((twoP pairT x0 x1).2)]) ∧ w'.ownsRow w.heap.size 4 1 (.slice AR0 nR0 cR0) nR0 (bools ((twoP pairT x0 x1).1)) ∧ Below w.heap.size w w') := fun w A0 n0 c0 h0 hn0 hcp0 A1 n1 c1 h1 hn1 hcp1 => specPairPackages_any w A0 n0 c0 x0 h0 (by omega) hcp0 A1 n1 c1 x1 h1 (by omega) hcp1
  have hI : ∀ (w : World) (A0 : Option Addr) (n0 c0 : Nat) (h0 : Rd w A0 n0 (bools x0)) (hn0 : n0 ≤ 1000000000) (hcp0 : n0 ≤ c0) (A1 : Option Addr) (n1 c1 : Nat) (h1 : Rd w A1 n1 (bools x1)) (hn1 : n1 ≤ 1000000000) (hcp1 : n1 ≤ c1), Calls Tryz.prog 14 #[.slice A0 n0 c0, .slice A1 n1 c1] w (fun e w' => ∃ (AR0 : Option Addr) (nR0 cR0 : Nat), e = .returned (.tuple #[.slice AR0 nR0 cR0, .int .i64 ((twoP pairT x0 x1).2)]) ∧ w'.ownsRow w.heap.size 4 1 (.slice AR0 nR0 cR0) nR0 (bools ((twoP pairT x0 x1).1)) ∧ Below w.heap.size w w') := fun w A0 n0 c0 h0 hn0 hcp0 A1 n1 c1 h1 hn1 hcp1 => implPairPackages_any w A0 n0 c0 x0 h0 hn0 A1 n1 c1 x1 h1 hn1
  have HRLR0 : Hid (((twoP pairT x0 x1).1).length ≤ 1000000) := Lib.hid (two_len pairT x0 x1)
  have HS := Lib.hid hS; have HI := Lib.hid hI
  clear hS hI
  generalize (twoP pairT x0 x1).1 = r0 at HS HI HRLR0
  generalize (twoP pairT x0 x1).2 = r1 at HS HI 
  have HXL0 : Hid ((x0).length = n0 * 1) := Lib.hid (by have := hr0.1; simp at this; omega)
  have HXL1 : Hid ((x1).length = n1 * 1) := Lib.hid (by have := hr1.1; simp at this; omega)
  have HB := Below.refl w.heap.size w
  go_enter Tryz.func4, Tryz.ntmps4
  by_cases hbig0 : 1048576 < n0
  · have hbi0 : (1048576 : Int) < (n0 : Int) := by omega
    go_wp2_with fail
    go_ret
    exact ⟨rfl, by first | exact HB | exact below_new _ _ | exact (below_new _ _).trans ((below_new _ _).mono (by simp))⟩
  have hbi0 : ¬ (1048576 : Int) < (n0 : Int) := by omega
  replace hbig0 : n0 ≤ 1048576 := by omega
  by_cases hbig1 : 1048576 < n1
  · have hbi1 : (1048576 : Int) < (n1 : Int) := by omega
    go_wp2_with fail
    go_ret
    exact ⟨rfl, by first | exact HB | exact below_new _ _ | exact (below_new _ _).trans ((below_new _ _).mono (by simp))⟩
  have hbi1 : ¬ (1048576 : Int) < (n1 : Int) := by omega
  replace hbig1 : n1 ≤ 1048576 := by omega
  go_wp2_with fail
  refine (toBoolS_any _ _ _ _ x0 (hr0.below HB (Nat.le_refl _)) (by omega)).mono ?_
  rintro e v1 ⟨Ao1, no1, co1, rfl, hoo1, hbv1⟩
  have hno1 : no1 ≤ 1048576 := by have h1 := hoo1.1; simp only [List.length_map] at h1; have h2 := HXL0.out; omega
  have hrgo1 := Lib.hid (rg_row hoo1)
  (try replace hbv1 := und1 hbv1)
  (try replace hbv1 := undN hbv1)
  replace HB := HB.trans (hbv1.mono HB.size)
  have hszv1 := hbv1.size
  replace hrgo1 := Lib.hid (rg_lo hrgo1.out (lo := w.heap.size + 0) (hi := v1.heap.size) (by first | exact Nat.le_refl _ | exact le_al1 | (simp; done) | (simp; omega)) (Nat.le_refl _))
  go_wp2_with fail
  refine (toBoolS_any _ _ _ _ x1 (hr1.below HB (Nat.le_refl _)) (by omega)).mono ?_
  rintro e v2 ⟨Ao2, no2, co2, rfl, hoo2, hbv2⟩
  have hno2 : no2 ≤ 1048576 := by have h1 := hoo2.1; simp only [List.length_map] at h1; have h2 := HXL1.out; omega
  have hrgo2 := Lib.hid (rg_row hoo2)
  (try replace hbv2 := und1 hbv2)
  (try replace hbv2 := undN hbv2)
  replace hoo1 := ownN_below hoo1 hbv2 (Nat.le_refl _)
  replace HB := HB.trans (hbv2.mono HB.size)
  have hszv2 := hbv2.size
  replace hrgo2 := Lib.hid (rg_lo hrgo2.out (lo := v1.heap.size + 0) (hi := v2.heap.size) (by first | exact Nat.le_refl _ | exact le_al1 | (simp; done) | (simp; omega)) (Nat.le_refl _))
  go_wp2_with fail
  refine (HS.out _ _ _ _ (own_rd hoo1) (by omega) (ownN_cap hoo1) _ _ _ (own_rd hoo2) (by omega) (ownN_cap hoo2)).mono ?_
  rintro e v3 ⟨Ao3, no3, co3, rfl, hoo3, hbv3⟩
  have hno3 : no3 ≤ 1000000 := by have h1 := hoo3.1; simp only [List.length_map] at h1; have h2 := HRLR0.out; omega
  have hrgo3 := Lib.hid (rg_row hoo3)
  (try replace hbv3 := und1 hbv3)
  (try replace hbv3 := undN hbv3)
  replace hoo1 := ownN_below hoo1 hbv3 (Nat.le_refl _)
  replace hoo2 := ownN_below hoo2 hbv3 (Nat.le_refl _)
  replace HB := HB.trans (hbv3.mono HB.size)
  have hszv3 := hbv3.size
  replace hrgo3 := Lib.hid (rg_lo hrgo3.out (lo := v2.heap.size + 0) (hi := v3.heap.size) (by first | exact Nat.le_refl _ | exact le_al1 | (simp; done) | (simp; omega)) (Nat.le_refl _))
  go_wp2_with fail
  refine (toBoolS_any _ _ _ _ x0 (hr0.below HB (Nat.le_refl _)) (by omega)).mono ?_
  rintro e v4 ⟨Ao4, no4, co4, rfl, hoo4, hbv4⟩
  have hno4 : no4 ≤ 1048576 := by have h1 := hoo4.1; simp only [List.length_map] at h1; have h2 := HXL0.out; omega
  have hrgo4 := Lib.hid (rg_row hoo4)
  (try replace hbv4 := und1 hbv4)
  (try replace hbv4 := undN hbv4)
  replace hoo1 := ownN_below hoo1 hbv4 (Nat.le_refl _)
  replace hoo2 := ownN_below hoo2 hbv4 (Nat.le_refl _)
  replace hoo3 := ownN_below hoo3 hbv4 (Nat.le_refl _)
  replace HB := HB.trans (hbv4.mono HB.size)
  have hszv4 := hbv4.size
  replace hrgo4 := Lib.hid (rg_lo hrgo4.out (lo := v3.heap.size + 0) (hi := v4.heap.size) (by first | exact Nat.le_refl _ | exact le_al1 | (simp; done) | (simp; omega)) (Nat.le_refl _))
  go_wp2_with fail
  refine (toBoolS_any _ _ _ _ x1 (hr1.below HB (Nat.le_refl _)) (by omega)).mono ?_
  rintro e v5 ⟨Ao5, no5, co5, rfl, hoo5, hbv5⟩
  have hno5 : no5 ≤ 1048576 := by have h1 := hoo5.1; simp only [List.length_map] at h1; have h2 := HXL1.out; omega
  have hrgo5 := Lib.hid (rg_row hoo5)
  (try replace hbv5 := und1 hbv5)
  (try replace hbv5 := undN hbv5)
  replace hoo1 := ownN_below hoo1 hbv5 (Nat.le_refl _)
  replace hoo2 := ownN_below hoo2 hbv5 (Nat.le_refl _)
  replace hoo3 := ownN_below hoo3 hbv5 (Nat.le_refl _)
  replace hoo4 := ownN_below hoo4 hbv5 (Nat.le_refl _)
  replace HB := HB.trans (hbv5.mono HB.size)
  have hszv5 := hbv5.size
  replace hrgo5 := Lib.hid (rg_lo hrgo5.out (lo := v4.heap.size + 0) (hi := v5.heap.size) (by first | exact Nat.le_refl _ | exact le_al1 | (simp; done) | (simp; omega)) (Nat.le_refl _))
  go_wp2_with fail
  refine (HI.out _ _ _ _ (own_rd hoo4) (by omega) (ownN_cap hoo4) _ _ _ (own_rd hoo5) (by omega) (ownN_cap hoo5)).mono ?_
  rintro e v6 ⟨Ao6, no6, co6, rfl, hoo6, hbv6⟩
  have hno6 : no6 ≤ 1000000 := by have h1 := hoo6.1; simp only [List.length_map] at h1; have h2 := HRLR0.out; omega
  have hrgo6 := Lib.hid (rg_row hoo6)
  (try replace hbv6 := und1 hbv6)
  (try replace hbv6 := undN hbv6)
  replace hoo1 := ownN_below hoo1 hbv6 (Nat.le_refl _)
  replace hoo2 := ownN_below hoo2 hbv6 (Nat.le_refl _)
  replace hoo3 := ownN_below hoo3 hbv6 (Nat.le_refl _)
  replace hoo4 := ownN_below hoo4 hbv6 (Nat.le_refl _)
  replace hoo5 := ownN_below hoo5 hbv6 (Nat.le_refl _)
  replace HB := HB.trans (hbv6.mono HB.size)
  have hszv6 := hbv6.size
  replace hrgo6 := Lib.hid (rg_lo hrgo6.out (lo := v5.heap.size + 0) (hi := v6.heap.size) (by first | exact Nat.le_refl _ | exact le_al1 | (simp; done) | (simp; omega)) (Nat.le_refl _))
  go_wp2_with fail
  refine (eqBoolS_same _ _ _ _ r0 (own_rd hoo6) (by omega) _ _ _ (own_rd hoo3)).mono ?_
  rintro e v7 ⟨rfl, hbv7⟩
  (try replace hbv7 := und1 hbv7)
  (try replace hbv7 := undN hbv7)
  replace hoo1 := ownN_below hoo1 hbv7 (Nat.le_refl _)
  replace hoo2 := ownN_below hoo2 hbv7 (Nat.le_refl _)
  replace hoo3 := ownN_below hoo3 hbv7 (Nat.le_refl _)
  replace hoo4 := ownN_below hoo4 hbv7 (Nat.le_refl _)
  replace hoo5 := ownN_below hoo5 hbv7 (Nat.le_refl _)
  replace hoo6 := ownN_below hoo6 hbv7 (Nat.le_refl _)
  replace HB := HB.trans (hbv7.mono HB.size)
  have hszv7 := hbv7.size
  go_wp2_with fail
  refine (toBoolS_any _ _ _ _ x0 (hr0.below HB (Nat.le_refl _)) (by omega)).mono ?_
  rintro e v8 ⟨Ao7, no7, co7, rfl, hoo7, hbv8⟩
  have hno7 : no7 ≤ 1048576 := by have h1 := hoo7.1; simp only [List.length_map] at h1; have h2 := HXL0.out; omega
  have hrgo7 := Lib.hid (rg_row hoo7)
  (try replace hbv8 := und1 hbv8)
  (try replace hbv8 := undN hbv8)
  replace hoo1 := ownN_below hoo1 hbv8 (Nat.le_refl _)
  replace hoo2 := ownN_below hoo2 hbv8 (Nat.le_refl _)
  replace hoo3 := ownN_below hoo3 hbv8 (Nat.le_refl _)
  replace hoo4 := ownN_below hoo4 hbv8 (Nat.le_refl _)
  replace hoo5 := ownN_below hoo5 hbv8 (Nat.le_refl _)
  replace hoo6 := ownN_below hoo6 hbv8 (Nat.le_refl _)
  replace HB := HB.trans (hbv8.mono HB.size)
  have hszv8 := hbv8.size
  replace hrgo7 := Lib.hid (rg_lo hrgo7.out (lo := v7.heap.size + 0) (hi := v8.heap.size) (by first | exact Nat.le_refl _ | exact le_al1 | (simp; done) | (simp; omega)) (Nat.le_refl _))
  go_wp2_with fail
  refine (eqBoolS_same _ _ _ _ x0 (own_rd hoo4) (by omega) _ _ _ (own_rd hoo7)).mono ?_
  rintro e v9 ⟨rfl, hbv9⟩
  (try replace hbv9 := und1 hbv9)
  (try replace hbv9 := undN hbv9)
  replace hoo1 := ownN_below hoo1 hbv9 (Nat.le_refl _)
  replace hoo2 := ownN_below hoo2 hbv9 (Nat.le_refl _)
  replace hoo3 := ownN_below hoo3 hbv9 (Nat.le_refl _)
  replace hoo4 := ownN_below hoo4 hbv9 (Nat.le_refl _)
  replace hoo5 := ownN_below hoo5 hbv9 (Nat.le_refl _)
  replace hoo6 := ownN_below hoo6 hbv9 (Nat.le_refl _)
  replace hoo7 := ownN_below hoo7 hbv9 (Nat.le_refl _)
  replace HB := HB.trans (hbv9.mono HB.size)
  have hszv9 := hbv9.size
  go_wp2_with fail
  refine (toBoolS_any _ _ _ _ x1 (hr1.below HB (Nat.le_refl _)) (by omega)).mono ?_
  rintro e v10 ⟨Ao8, no8, co8, rfl, hoo8, hbv10⟩
  have hno8 : no8 ≤ 1048576 := by have h1 := hoo8.1; simp only [List.length_map] at h1; have h2 := HXL1.out; omega
  have hrgo8 := Lib.hid (rg_row hoo8)
  (try replace hbv10 := und1 hbv10)
  (try replace hbv10 := undN hbv10)
  replace hoo1 := ownN_below hoo1 hbv10 (Nat.le_refl _)
  replace hoo2 := ownN_below hoo2 hbv10 (Nat.le_refl _)
  replace hoo3 := ownN_below hoo3 hbv10 (Nat.le_refl _)
  replace hoo4 := ownN_below hoo4 hbv10 (Nat.le_refl _)
  replace hoo5 := ownN_below hoo5 hbv10 (Nat.le_refl _)
  replace hoo6 := ownN_below hoo6 hbv10 (Nat.le_refl _)
  replace hoo7 := ownN_below hoo7 hbv10 (Nat.le_refl _)
  replace HB := HB.trans (hbv10.mono HB.size)
  have hszv10 := hbv10.size
  replace hrgo8 := Lib.hid (rg_lo hrgo8.out (lo := v9.heap.size + 0) (hi := v10.heap.size) (by first | exact Nat.le_refl _ | exact le_al1 | (simp; done) | (simp; omega)) (Nat.le_refl _))
  go_wp2_with fail
  refine (eqBoolS_same _ _ _ _ x1 (own_rd hoo5) (by omega) _ _ _ (own_rd hoo8)).mono ?_
  rintro e v11 ⟨rfl, hbv11⟩
  (try replace hbv11 := und1 hbv11)
  (try replace hbv11 := undN hbv11)
  replace hoo1 := ownN_below hoo1 hbv11 (Nat.le_refl _)
  replace hoo2 := ownN_below hoo2 hbv11 (Nat.le_refl _)
  replace hoo3 := ownN_below hoo3 hbv11 (Nat.le_refl _)
  replace hoo4 := ownN_below hoo4 hbv11 (Nat.le_refl _)
  replace hoo5 := ownN_below hoo5 hbv11 (Nat.le_refl _)
  replace hoo6 := ownN_below hoo6 hbv11 (Nat.le_refl _)
  replace hoo7 := ownN_below hoo7 hbv11 (Nat.le_refl _)
  replace hoo8 := ownN_below hoo8 hbv11 (Nat.le_refl _)
  replace HB := HB.trans (hbv11.mono HB.size)
  have hszv11 := hbv11.size
  go_wp2_with fail
  refine (markBoolS_any _ _ _ _ _ _ hoo4 (by omega)  (1) (by omega) (by omega)).mono ?_
  rintro e v12 ⟨rfl, hmo4, hCv12⟩
  replace hCv12 := ch_row hCv12
  replace hoo1 := own_ch hoo1 hCv12 (fun k h1 h2 => (by have := hrgo1.out k h1; have := hrgo4.out k h2; omega))
  replace hoo2 := own_ch hoo2 hCv12 (fun k h1 h2 => (by have := hrgo2.out k h1; have := hrgo4.out k h2; omega))
  replace hoo3 := own_ch hoo3 hCv12 (fun k h1 h2 => (by have := hrgo3.out k h1; have := hrgo4.out k h2; omega))
  replace hoo5 := own_ch hoo5 hCv12 (fun k h1 h2 => (by have := hrgo5.out k h1; have := hrgo4.out k h2; omega))
  replace hoo6 := own_ch hoo6 hCv12 (fun k h1 h2 => (by have := hrgo6.out k h1; have := hrgo4.out k h2; omega))
  replace hoo7 := own_ch hoo7 hCv12 (fun k h1 h2 => (by have := hrgo7.out k h1; have := hrgo4.out k h2; omega))
  replace hoo8 := own_ch hoo8 hCv12 (fun k h1 h2 => (by have := hrgo8.out k h1; have := hrgo4.out k h2; omega))
  replace HB := below_ch HB hCv12 (fun k h => by have := hrgo4.out k h; omega) HB.size
  replace hoo4 := hmo4
  have hszv12 := hCv12.size
  go_wp2_with fail
  refine (markBoolS_any _ _ _ _ _ _ hoo5 (by omega)  (1 + (no4 : Int)) (by omega) (by omega)).mono ?_
  rintro e v13 ⟨rfl, hmo5, hCv13⟩
  replace hCv13 := ch_row hCv13
  replace hoo1 := own_ch hoo1 hCv13 (fun k h1 h2 => (by have := hrgo1.out k h1; have := hrgo5.out k h2; omega))
  replace hoo2 := own_ch hoo2 hCv13 (fun k h1 h2 => (by have := hrgo2.out k h1; have := hrgo5.out k h2; omega))
  replace hoo3 := own_ch hoo3 hCv13 (fun k h1 h2 => (by have := hrgo3.out k h1; have := hrgo5.out k h2; omega))
  replace hoo4 := own_ch hoo4 hCv13 (fun k h1 h2 => (by have := hrgo4.out k h1; have := hrgo5.out k h2; omega))
  replace hoo6 := own_ch hoo6 hCv13 (fun k h1 h2 => (by have := hrgo6.out k h1; have := hrgo5.out k h2; omega))
  replace hoo7 := own_ch hoo7 hCv13 (fun k h1 h2 => (by have := hrgo7.out k h1; have := hrgo5.out k h2; omega))
  replace hoo8 := own_ch hoo8 hCv13 (fun k h1 h2 => (by have := hrgo8.out k h1; have := hrgo5.out k h2; omega))
  replace HB := below_ch HB hCv13 (fun k h => by have := hrgo5.out k h; omega) HB.size
  replace hoo5 := hmo5
  have hszv13 := hCv13.size
  go_wp2_with fail
  refine (eqBoolS_same _ _ _ _ r0 (own_rd hoo6) (by omega) _ _ _ (own_rd hoo3)).mono ?_
  rintro e v14 ⟨rfl, hbv14⟩
  (try replace hbv14 := und1 hbv14)
  (try replace hbv14 := undN hbv14)
  replace hoo1 := ownN_below hoo1 hbv14 (Nat.le_refl _)
  replace hoo2 := ownN_below hoo2 hbv14 (Nat.le_refl _)
  replace hoo3 := ownN_below hoo3 hbv14 (Nat.le_refl _)
  replace hoo4 := ownN_below hoo4 hbv14 (Nat.le_refl _)
  replace hoo5 := ownN_below hoo5 hbv14 (Nat.le_refl _)
  replace hoo6 := ownN_below hoo6 hbv14 (Nat.le_refl _)
  replace hoo7 := ownN_below hoo7 hbv14 (Nat.le_refl _)
  replace hoo8 := ownN_below hoo8 hbv14 (Nat.le_refl _)
  replace HB := HB.trans (hbv14.mono HB.size)
  have hszv14 := hbv14.size
  go_wp2_with fail
  refine (markBoolS_any _ _ _ _ _ _ hoo6 (by omega)  (1) (by omega) (by omega)).mono ?_
  rintro e v15 ⟨rfl, hmo6, hCv15⟩
  replace hCv15 := ch_row hCv15
  replace hoo1 := own_ch hoo1 hCv15 (fun k h1 h2 => (by have := hrgo1.out k h1; have := hrgo6.out k h2; omega))
  replace hoo2 := own_ch hoo2 hCv15 (fun k h1 h2 => (by have := hrgo2.out k h1; have := hrgo6.out k h2; omega))
  replace hoo3 := own_ch hoo3 hCv15 (fun k h1 h2 => (by have := hrgo3.out k h1; have := hrgo6.out k h2; omega))
  replace hoo4 := own_ch hoo4 hCv15 (fun k h1 h2 => (by have := hrgo4.out k h1; have := hrgo6.out k h2; omega))
  replace hoo5 := own_ch hoo5 hCv15 (fun k h1 h2 => (by have := hrgo5.out k h1; have := hrgo6.out k h2; omega))
  replace hoo7 := own_ch hoo7 hCv15 (fun k h1 h2 => (by have := hrgo7.out k h1; have := hrgo6.out k h2; omega))
  replace hoo8 := own_ch hoo8 hCv15 (fun k h1 h2 => (by have := hrgo8.out k h1; have := hrgo6.out k h2; omega))
  replace HB := below_ch HB hCv15 (fun k h => by have := hrgo6.out k h; omega) HB.size
  replace hoo6 := hmo6
  have hszv15 := hCv15.size
  go_wp2_with fail
  refine (heldBoolS_any _ _ _ _ (1) (own_rd hoo6) (by omega) (by omega) (by omega)).mono ?_
  rintro e v16 ⟨rfl, hbv16⟩
  (try replace hbv16 := und1 hbv16)
  (try replace hbv16 := undN hbv16)
  replace hoo1 := ownN_below hoo1 hbv16 (Nat.le_refl _)
  replace hoo2 := ownN_below hoo2 hbv16 (Nat.le_refl _)
  replace hoo3 := ownN_below hoo3 hbv16 (Nat.le_refl _)
  replace hoo4 := ownN_below hoo4 hbv16 (Nat.le_refl _)
  replace hoo5 := ownN_below hoo5 hbv16 (Nat.le_refl _)
  replace hoo6 := ownN_below hoo6 hbv16 (Nat.le_refl _)
  replace hoo7 := ownN_below hoo7 hbv16 (Nat.le_refl _)
  replace hoo8 := ownN_below hoo8 hbv16 (Nat.le_refl _)
  replace HB := HB.trans (hbv16.mono HB.size)
  have hszv16 := hbv16.size
  go_wp2_with fail
  refine (toBoolS_any _ _ _ _ x0 (hr0.below HB (Nat.le_refl _)) (by omega)).mono ?_
  rintro e v17 ⟨Ao9, no9, co9, rfl, hoo9, hbv17⟩
  have hno9 : no9 ≤ 1048576 := by have h1 := hoo9.1; simp only [List.length_map] at h1; have h2 := HXL0.out; omega
  have hrgo9 := Lib.hid (rg_row hoo9)
  (try replace hbv17 := und1 hbv17)
  (try replace hbv17 := undN hbv17)
  replace hoo1 := ownN_below hoo1 hbv17 (Nat.le_refl _)
  replace hoo2 := ownN_below hoo2 hbv17 (Nat.le_refl _)
  replace hoo3 := ownN_below hoo3 hbv17 (Nat.le_refl _)
  replace hoo4 := ownN_below hoo4 hbv17 (Nat.le_refl _)
  replace hoo5 := ownN_below hoo5 hbv17 (Nat.le_refl _)
  replace hoo6 := ownN_below hoo6 hbv17 (Nat.le_refl _)
  replace hoo7 := ownN_below hoo7 hbv17 (Nat.le_refl _)
  replace hoo8 := ownN_below hoo8 hbv17 (Nat.le_refl _)
  replace HB := HB.trans (hbv17.mono HB.size)
  have hszv17 := hbv17.size
  replace hrgo9 := Lib.hid (rg_lo hrgo9.out (lo := v16.heap.size + 0) (hi := v17.heap.size) (by first | exact Nat.le_refl _ | exact le_al1 | (simp; done) | (simp; omega)) (Nat.le_refl _))
  go_wp2_with fail
  refine (toBoolS_any _ _ _ _ x1 (hr1.below HB (Nat.le_refl _)) (by omega)).mono ?_
  rintro e v18 ⟨Ao10, no10, co10, rfl, hoo10, hbv18⟩
  have hno10 : no10 ≤ 1048576 := by have h1 := hoo10.1; simp only [List.length_map] at h1; have h2 := HXL1.out; omega
  have hrgo10 := Lib.hid (rg_row hoo10)
  (try replace hbv18 := und1 hbv18)
  (try replace hbv18 := undN hbv18)
  replace hoo1 := ownN_below hoo1 hbv18 (Nat.le_refl _)
  replace hoo2 := ownN_below hoo2 hbv18 (Nat.le_refl _)
  replace hoo3 := ownN_below hoo3 hbv18 (Nat.le_refl _)
  replace hoo4 := ownN_below hoo4 hbv18 (Nat.le_refl _)
  replace hoo5 := ownN_below hoo5 hbv18 (Nat.le_refl _)
  replace hoo6 := ownN_below hoo6 hbv18 (Nat.le_refl _)
  replace hoo7 := ownN_below hoo7 hbv18 (Nat.le_refl _)
  replace hoo8 := ownN_below hoo8 hbv18 (Nat.le_refl _)
  replace hoo9 := ownN_below hoo9 hbv18 (Nat.le_refl _)
  replace HB := HB.trans (hbv18.mono HB.size)
  have hszv18 := hbv18.size
  replace hrgo10 := Lib.hid (rg_lo hrgo10.out (lo := v17.heap.size + 0) (hi := v18.heap.size) (by first | exact Nat.le_refl _ | exact le_al1 | (simp; done) | (simp; omega)) (Nat.le_refl _))
  go_wp2_with fail
  refine (HI.out _ _ _ _ (own_rd hoo9) (by omega) (ownN_cap hoo9) _ _ _ (own_rd hoo10) (by omega) (ownN_cap hoo10)).mono ?_
  rintro e v19 ⟨Ao11, no11, co11, rfl, hoo11, hbv19⟩
  have hno11 : no11 ≤ 1000000 := by have h1 := hoo11.1; simp only [List.length_map] at h1; have h2 := HRLR0.out; omega
  have hrgo11 := Lib.hid (rg_row hoo11)
  (try replace hbv19 := und1 hbv19)
  (try replace hbv19 := undN hbv19)
  replace hoo1 := ownN_below hoo1 hbv19 (Nat.le_refl _)
  replace hoo2 := ownN_below hoo2 hbv19 (Nat.le_refl _)
  replace hoo3 := ownN_below hoo3 hbv19 (Nat.le_refl _)
  replace hoo4 := ownN_below hoo4 hbv19 (Nat.le_refl _)
  replace hoo5 := ownN_below hoo5 hbv19 (Nat.le_refl _)
  replace hoo6 := ownN_below hoo6 hbv19 (Nat.le_refl _)
  replace hoo7 := ownN_below hoo7 hbv19 (Nat.le_refl _)
  replace hoo8 := ownN_below hoo8 hbv19 (Nat.le_refl _)
  replace hoo9 := ownN_below hoo9 hbv19 (Nat.le_refl _)
  replace hoo10 := ownN_below hoo10 hbv19 (Nat.le_refl _)
  replace HB := HB.trans (hbv19.mono HB.size)
  have hszv19 := hbv19.size
  replace hrgo11 := Lib.hid (rg_lo hrgo11.out (lo := v18.heap.size + 0) (hi := v19.heap.size) (by first | exact Nat.le_refl _ | exact le_al1 | (simp; done) | (simp; omega)) (Nat.le_refl _))
  go_wp2_with fail
  refine (eqBoolS_same _ _ _ _ r0 (own_rd hoo11) (by omega) _ _ _ (own_rd hoo3)).mono ?_
  rintro e v20 ⟨rfl, hbv20⟩
  (try replace hbv20 := und1 hbv20)
  (try replace hbv20 := undN hbv20)
  replace hoo1 := ownN_below hoo1 hbv20 (Nat.le_refl _)
  replace hoo2 := ownN_below hoo2 hbv20 (Nat.le_refl _)
  replace hoo3 := ownN_below hoo3 hbv20 (Nat.le_refl _)
  replace hoo4 := ownN_below hoo4 hbv20 (Nat.le_refl _)
  replace hoo5 := ownN_below hoo5 hbv20 (Nat.le_refl _)
  replace hoo6 := ownN_below hoo6 hbv20 (Nat.le_refl _)
  replace hoo7 := ownN_below hoo7 hbv20 (Nat.le_refl _)
  replace hoo8 := ownN_below hoo8 hbv20 (Nat.le_refl _)
  replace hoo9 := ownN_below hoo9 hbv20 (Nat.le_refl _)
  replace hoo10 := ownN_below hoo10 hbv20 (Nat.le_refl _)
  replace hoo11 := ownN_below hoo11 hbv20 (Nat.le_refl _)
  replace HB := HB.trans (hbv20.mono HB.size)
  have hszv20 := hbv20.size
  go_wp2_with fail
  refine (heldBoolS_any _ _ _ _ (1) (own_rd hoo6) (by omega) (by omega) (by omega)).mono ?_
  rintro e v21 ⟨rfl, hbv21⟩
  (try replace hbv21 := und1 hbv21)
  (try replace hbv21 := undN hbv21)
  replace hoo1 := ownN_below hoo1 hbv21 (Nat.le_refl _)
  replace hoo2 := ownN_below hoo2 hbv21 (Nat.le_refl _)
  replace hoo3 := ownN_below hoo3 hbv21 (Nat.le_refl _)
  replace hoo4 := ownN_below hoo4 hbv21 (Nat.le_refl _)
  replace hoo5 := ownN_below hoo5 hbv21 (Nat.le_refl _)
  replace hoo6 := ownN_below hoo6 hbv21 (Nat.le_refl _)
  replace hoo7 := ownN_below hoo7 hbv21 (Nat.le_refl _)
  replace hoo8 := ownN_below hoo8 hbv21 (Nat.le_refl _)
  replace hoo9 := ownN_below hoo9 hbv21 (Nat.le_refl _)
  replace hoo10 := ownN_below hoo10 hbv21 (Nat.le_refl _)
  replace hoo11 := ownN_below hoo11 hbv21 (Nat.le_refl _)
  replace HB := HB.trans (hbv21.mono HB.size)
  have hszv21 := hbv21.size
  go_wp2_with fail
  go_ret
  first | exact ⟨rfl, HB⟩ | exact ⟨rfl, below_drewN HB⟩
end Go.Proofs.YtadmbphefpfbmaaGreatDoor
