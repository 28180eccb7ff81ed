/- The law on PadPackage. Written by genlaw5.py. -/
import Derived.Test.YtadmbphefpfbmaaGreatDoorPkR
import Derived.Test.YtadmbphefpfbmaaGreatDoorLawCmd2
namespace Go.Proofs.YtadmbphefpfbmaaGreatDoor
open Go.RowKit
set_option linter.unusedVariables false
set_option linter.unusedSimpArgs false
theorem eqBoolS_same (w : World) (A : Option Addr) (n c : Nat) (xs : List Bool) (hr : Rd w A n (bools xs)) (hn : n ≤ 1099511627776) (A' : Option Addr) (n' c' : Nat) (hr' : Rd w A' n' (bools xs)) :
    Calls Tryz.prog 10 #[.slice A n c, .slice A' n' c'] w (RetV w (.bool true)) := eqB_same w A n c xs hr hn A' n' c' hr'
set_option maxHeartbeats 16000000 in
set_option maxRecDepth 100000 in
theorem lawPadPackage (w : World) (A0 : Option Addr) (n0 c0 : Nat) (x0 : List Bool) (hr0 : Rd w A0 n0 (bools x0)) (hnn0 : n0 ≤ 9223372036854775807) (x1 : Int) :
    Calls Tryz.prog 6 #[.slice A0 n0 c0, .int .i64 x1] w fun e w' => e = .returned (.bool true) ∧ Below w.heap.size w w' := by
  have hS : ∀ (w : World) (A0 : Option Addr) (n0 c0 : Nat) (h0 : Rd w A0 n0 (bools x0)) (hn0 : n0 ≤ 1000000000) (hcp0 : n0 ≤ c0), Calls Tryz.prog 20 #[.slice A0 n0 c0, .int .i64 x1] w (fun e w' => ∃ (AR0 : Option Addr) (nR0 cR0 : Nat), e = .returned (.tuple #[.slice AR0 nR0 cR0, .int .i64 ((padP x0 x1).2)]) ∧ w'.ownsRow w.heap.size 4 1 (.slice AR0 nR0 cR0) nR0 (bools ((padP x0 x1).1)) ∧ Below w.heap.size w w') := fun w A0 n0 c0 h0 hn0 hcp0 => specPadPackage_any w A0 n0 c0 x0 h0 (by omega) hcp0 x1
  have hI : ∀ (w : World) (A0 : Option Addr) (n0 c0 : Nat) (h0 : Rd w A0 n0 (bools x0)) (hn0 : n0 ≤ 1000000000) (hcp0 : n0 ≤ c0), Calls Tryz.prog 21 #[.slice A0 n0 c0, .int .i64 x1] w (fun e w' => ∃ (AR0 : Option Addr) (nR0 cR0 : Nat), e = .returned (.tuple #[.slice AR0 nR0 cR0, .int .i64 ((padP x0 x1).2)]) ∧ w'.ownsRow w.heap.size 4 1 (.slice AR0 nR0 cR0) nR0 (bools ((padP x0 x1).1)) ∧ Below w.heap.size w w') := fun w A0 n0 c0 h0 hn0 hcp0 => implPadPackage_any w A0 n0 c0 x0 h0 hn0 x1
  have HRLR0 : Hid (((padP x0 x1).1).length ≤ 1000000) := Lib.hid (pad_len x0 x1)
  have HS := Lib.hid hS; have HI := Lib.hid hI
  clear hS hI
  generalize (padP x0 x1).1 = r0 at HS HI HRLR0
  generalize (padP x0 x1).2 = r1 at HS HI 
  have HXL0 : Hid ((x0).length = n0 * 1) := Lib.hid (by have := hr0.1; simp at this; omega)
  have HB := Below.refl w.heap.size w
  go_enter Tryz.func6, Tryz.ntmps6
  by_cases hbig0 : 1048576 < n0
  · have hbi0 : (1048576 : Int) < (n0 : Int) := by omega
    go_wp2_with fail
    go_ret
    exact ⟨rfl, by first | exact HB | exact below_new _ _ | exact (below_new _ _).trans ((below_new _ _).mono (by simp))⟩
  have hbi0 : ¬ (1048576 : Int) < (n0 : Int) := by omega
  replace hbig0 : n0 ≤ 1048576 := by omega
  go_wp2_with fail
  refine (toBoolS_any _ _ _ _ x0 (hr0.below HB (Nat.le_refl _)) (by omega)).mono ?_
  rintro e v1 ⟨Ao1, no1, co1, rfl, hoo1, hbv1⟩
  have hno1 : no1 ≤ 1048576 := by have h1 := hoo1.1; simp only [List.length_map] at h1; have h2 := HXL0.out; omega
  have hrgo1 := Lib.hid (rg_row hoo1)
  (try replace hbv1 := und1 hbv1)
  (try replace hbv1 := undN hbv1)
  replace HB := HB.trans (hbv1.mono HB.size)
  have hszv1 := hbv1.size
  replace hrgo1 := Lib.hid (rg_lo hrgo1.out (lo := w.heap.size + 0) (hi := v1.heap.size) (by first | exact Nat.le_refl _ | exact le_al1 | (simp; done) | (simp; omega)) (Nat.le_refl _))
  go_wp2_with fail
  refine (HS.out _ _ _ _ (own_rd hoo1) (by omega) (ownN_cap hoo1)).mono ?_
  rintro e v2 ⟨Ao2, no2, co2, rfl, hoo2, hbv2⟩
  have hno2 : no2 ≤ 1000000 := by have h1 := hoo2.1; simp only [List.length_map] at h1; have h2 := HRLR0.out; omega
  have hrgo2 := Lib.hid (rg_row hoo2)
  (try replace hbv2 := und1 hbv2)
  (try replace hbv2 := undN hbv2)
  replace hoo1 := ownN_below hoo1 hbv2 (Nat.le_refl _)
  replace HB := HB.trans (hbv2.mono HB.size)
  have hszv2 := hbv2.size
  replace hrgo2 := Lib.hid (rg_lo hrgo2.out (lo := v1.heap.size + 0) (hi := v2.heap.size) (by first | exact Nat.le_refl _ | exact le_al1 | (simp; done) | (simp; omega)) (Nat.le_refl _))
  go_wp2_with fail
  refine (toBoolS_any _ _ _ _ x0 (hr0.below HB (Nat.le_refl _)) (by omega)).mono ?_
  rintro e v3 ⟨Ao3, no3, co3, rfl, hoo3, hbv3⟩
  have hno3 : no3 ≤ 1048576 := by have h1 := hoo3.1; simp only [List.length_map] at h1; have h2 := HXL0.out; omega
  have hrgo3 := Lib.hid (rg_row hoo3)
  (try replace hbv3 := und1 hbv3)
  (try replace hbv3 := undN hbv3)
  replace hoo1 := ownN_below hoo1 hbv3 (Nat.le_refl _)
  replace hoo2 := ownN_below hoo2 hbv3 (Nat.le_refl _)
  replace HB := HB.trans (hbv3.mono HB.size)
  have hszv3 := hbv3.size
  replace hrgo3 := Lib.hid (rg_lo hrgo3.out (lo := v2.heap.size + 0) (hi := v3.heap.size) (by first | exact Nat.le_refl _ | exact le_al1 | (simp; done) | (simp; omega)) (Nat.le_refl _))
  go_wp2_with fail
  refine (HI.out _ _ _ _ (own_rd hoo3) (by omega) (ownN_cap hoo3)).mono ?_
  rintro e v4 ⟨Ao4, no4, co4, rfl, hoo4, hbv4⟩
  have hno4 : no4 ≤ 1000000 := by have h1 := hoo4.1; simp only [List.length_map] at h1; have h2 := HRLR0.out; omega
  have hrgo4 := Lib.hid (rg_row hoo4)
  (try replace hbv4 := und1 hbv4)
  (try replace hbv4 := undN hbv4)
  replace hoo1 := ownN_below hoo1 hbv4 (Nat.le_refl _)
  replace hoo2 := ownN_below hoo2 hbv4 (Nat.le_refl _)
  replace hoo3 := ownN_below hoo3 hbv4 (Nat.le_refl _)
  replace HB := HB.trans (hbv4.mono HB.size)
  have hszv4 := hbv4.size
  replace hrgo4 := Lib.hid (rg_lo hrgo4.out (lo := v3.heap.size + 0) (hi := v4.heap.size) (by first | exact Nat.le_refl _ | exact le_al1 | (simp; done) | (simp; omega)) (Nat.le_refl _))
  go_wp2_with fail
  refine (eqBoolS_same _ _ _ _ r0 (own_rd hoo4) (by omega) _ _ _ (own_rd hoo2)).mono ?_
  rintro e v5 ⟨rfl, hbv5⟩
  (try replace hbv5 := und1 hbv5)
  (try replace hbv5 := undN hbv5)
  replace hoo1 := ownN_below hoo1 hbv5 (Nat.le_refl _)
  replace hoo2 := ownN_below hoo2 hbv5 (Nat.le_refl _)
  replace hoo3 := ownN_below hoo3 hbv5 (Nat.le_refl _)
  replace hoo4 := ownN_below hoo4 hbv5 (Nat.le_refl _)
  replace HB := HB.trans (hbv5.mono HB.size)
  have hszv5 := hbv5.size
  go_wp2_with fail
  refine (toBoolS_any _ _ _ _ x0 (hr0.below HB (Nat.le_refl _)) (by omega)).mono ?_
  rintro e v6 ⟨Ao5, no5, co5, rfl, hoo5, hbv6⟩
  have hno5 : no5 ≤ 1048576 := by have h1 := hoo5.1; simp only [List.length_map] at h1; have h2 := HXL0.out; omega
  have hrgo5 := Lib.hid (rg_row hoo5)
  (try replace hbv6 := und1 hbv6)
  (try replace hbv6 := undN hbv6)
  replace hoo1 := ownN_below hoo1 hbv6 (Nat.le_refl _)
  replace hoo2 := ownN_below hoo2 hbv6 (Nat.le_refl _)
  replace hoo3 := ownN_below hoo3 hbv6 (Nat.le_refl _)
  replace hoo4 := ownN_below hoo4 hbv6 (Nat.le_refl _)
  replace HB := HB.trans (hbv6.mono HB.size)
  have hszv6 := hbv6.size
  replace hrgo5 := Lib.hid (rg_lo hrgo5.out (lo := v5.heap.size + 0) (hi := v6.heap.size) (by first | exact Nat.le_refl _ | exact le_al1 | (simp; done) | (simp; omega)) (Nat.le_refl _))
  go_wp2_with fail
  refine (eqBoolS_same _ _ _ _ x0 (own_rd hoo3) (by omega) _ _ _ (own_rd hoo5)).mono ?_
  rintro e v7 ⟨rfl, hbv7⟩
  (try replace hbv7 := und1 hbv7)
  (try replace hbv7 := undN hbv7)
  replace hoo1 := ownN_below hoo1 hbv7 (Nat.le_refl _)
  replace hoo2 := ownN_below hoo2 hbv7 (Nat.le_refl _)
  replace hoo3 := ownN_below hoo3 hbv7 (Nat.le_refl _)
  replace hoo4 := ownN_below hoo4 hbv7 (Nat.le_refl _)
  replace hoo5 := ownN_below hoo5 hbv7 (Nat.le_refl _)
  replace HB := HB.trans (hbv7.mono HB.size)
  have hszv7 := hbv7.size
  go_wp2_with fail
  refine (markBoolS_any _ _ _ _ _ _ hoo3 (by omega)  (1) (by omega) (by omega)).mono ?_
  rintro e v8 ⟨rfl, hmo3, hCv8⟩
  replace hCv8 := ch_row hCv8
  replace hoo1 := own_ch hoo1 hCv8 (fun k h1 h2 => (by have := hrgo1.out k h1; have := hrgo3.out k h2; omega))
  replace hoo2 := own_ch hoo2 hCv8 (fun k h1 h2 => (by have := hrgo2.out k h1; have := hrgo3.out k h2; omega))
  replace hoo4 := own_ch hoo4 hCv8 (fun k h1 h2 => (by have := hrgo4.out k h1; have := hrgo3.out k h2; omega))
  replace hoo5 := own_ch hoo5 hCv8 (fun k h1 h2 => (by have := hrgo5.out k h1; have := hrgo3.out k h2; omega))
  replace HB := below_ch HB hCv8 (fun k h => by have := hrgo3.out k h; omega) HB.size
  replace hoo3 := hmo3
  have hszv8 := hCv8.size
  go_wp2_with fail
  refine (eqBoolS_same _ _ _ _ r0 (own_rd hoo4) (by omega) _ _ _ (own_rd hoo2)).mono ?_
  rintro e v9 ⟨rfl, hbv9⟩
  (try replace hbv9 := und1 hbv9)
  (try replace hbv9 := undN hbv9)
  replace hoo1 := ownN_below hoo1 hbv9 (Nat.le_refl _)
  replace hoo2 := ownN_below hoo2 hbv9 (Nat.le_refl _)
  replace hoo3 := ownN_below hoo3 hbv9 (Nat.le_refl _)
  replace hoo4 := ownN_below hoo4 hbv9 (Nat.le_refl _)
  replace hoo5 := ownN_below hoo5 hbv9 (Nat.le_refl _)
  replace HB := HB.trans (hbv9.mono HB.size)
  have hszv9 := hbv9.size
  go_wp2_with fail
  refine (markBoolS_any _ _ _ _ _ _ hoo4 (by omega)  (1) (by omega) (by omega)).mono ?_
  rintro e v10 ⟨rfl, hmo4, hCv10⟩
  replace hCv10 := ch_row hCv10
  replace hoo1 := own_ch hoo1 hCv10 (fun k h1 h2 => (by have := hrgo1.out k h1; have := hrgo4.out k h2; omega))
  replace hoo2 := own_ch hoo2 hCv10 (fun k h1 h2 => (by have := hrgo2.out k h1; have := hrgo4.out k h2; omega))
  replace hoo3 := own_ch hoo3 hCv10 (fun k h1 h2 => (by have := hrgo3.out k h1; have := hrgo4.out k h2; omega))
  replace hoo5 := own_ch hoo5 hCv10 (fun k h1 h2 => (by have := hrgo5.out k h1; have := hrgo4.out k h2; omega))
  replace HB := below_ch HB hCv10 (fun k h => by have := hrgo4.out k h; omega) HB.size
  replace hoo4 := hmo4
  have hszv10 := hCv10.size
  go_wp2_with fail
  refine (heldBoolS_any _ _ _ _ (1) (own_rd hoo4) (by omega) (by omega) (by omega)).mono ?_
  rintro e v11 ⟨rfl, hbv11⟩
  (try replace hbv11 := und1 hbv11)
  (try replace hbv11 := undN hbv11)
  replace hoo1 := ownN_below hoo1 hbv11 (Nat.le_refl _)
  replace hoo2 := ownN_below hoo2 hbv11 (Nat.le_refl _)
  replace hoo3 := ownN_below hoo3 hbv11 (Nat.le_refl _)
  replace hoo4 := ownN_below hoo4 hbv11 (Nat.le_refl _)
  replace hoo5 := ownN_below hoo5 hbv11 (Nat.le_refl _)
  replace HB := HB.trans (hbv11.mono HB.size)
  have hszv11 := hbv11.size
  go_wp2_with fail
  refine (toBoolS_any _ _ _ _ x0 (hr0.below HB (Nat.le_refl _)) (by omega)).mono ?_
  rintro e v12 ⟨Ao6, no6, co6, rfl, hoo6, hbv12⟩
  have hno6 : no6 ≤ 1048576 := by have h1 := hoo6.1; simp only [List.length_map] at h1; have h2 := HXL0.out; omega
  have hrgo6 := Lib.hid (rg_row hoo6)
  (try replace hbv12 := und1 hbv12)
  (try replace hbv12 := undN hbv12)
  replace hoo1 := ownN_below hoo1 hbv12 (Nat.le_refl _)
  replace hoo2 := ownN_below hoo2 hbv12 (Nat.le_refl _)
  replace hoo3 := ownN_below hoo3 hbv12 (Nat.le_refl _)
  replace hoo4 := ownN_below hoo4 hbv12 (Nat.le_refl _)
  replace hoo5 := ownN_below hoo5 hbv12 (Nat.le_refl _)
  replace HB := HB.trans (hbv12.mono HB.size)
  have hszv12 := hbv12.size
  replace hrgo6 := Lib.hid (rg_lo hrgo6.out (lo := v11.heap.size + 0) (hi := v12.heap.size) (by first | exact Nat.le_refl _ | exact le_al1 | (simp; done) | (simp; omega)) (Nat.le_refl _))
  go_wp2_with fail
  refine (HI.out _ _ _ _ (own_rd hoo6) (by omega) (ownN_cap hoo6)).mono ?_
  rintro e v13 ⟨Ao7, no7, co7, rfl, hoo7, hbv13⟩
  have hno7 : no7 ≤ 1000000 := by have h1 := hoo7.1; simp only [List.length_map] at h1; have h2 := HRLR0.out; omega
  have hrgo7 := Lib.hid (rg_row hoo7)
  (try replace hbv13 := und1 hbv13)
  (try replace hbv13 := undN hbv13)
  replace hoo1 := ownN_below hoo1 hbv13 (Nat.le_refl _)
  replace hoo2 := ownN_below hoo2 hbv13 (Nat.le_refl _)
  replace hoo3 := ownN_below hoo3 hbv13 (Nat.le_refl _)
  replace hoo4 := ownN_below hoo4 hbv13 (Nat.le_refl _)
  replace hoo5 := ownN_below hoo5 hbv13 (Nat.le_refl _)
  replace hoo6 := ownN_below hoo6 hbv13 (Nat.le_refl _)
  replace HB := HB.trans (hbv13.mono HB.size)
  have hszv13 := hbv13.size
  replace hrgo7 := Lib.hid (rg_lo hrgo7.out (lo := v12.heap.size + 0) (hi := v13.heap.size) (by first | exact Nat.le_refl _ | exact le_al1 | (simp; done) | (simp; omega)) (Nat.le_refl _))
  go_wp2_with fail
  refine (eqBoolS_same _ _ _ _ r0 (own_rd hoo7) (by omega) _ _ _ (own_rd hoo2)).mono ?_
  rintro e v14 ⟨rfl, hbv14⟩
  (try replace hbv14 := und1 hbv14)
  (try replace hbv14 := undN hbv14)
  replace hoo1 := ownN_below hoo1 hbv14 (Nat.le_refl _)
  replace hoo2 := ownN_below hoo2 hbv14 (Nat.le_refl _)
  replace hoo3 := ownN_below hoo3 hbv14 (Nat.le_refl _)
  replace hoo4 := ownN_below hoo4 hbv14 (Nat.le_refl _)
  replace hoo5 := ownN_below hoo5 hbv14 (Nat.le_refl _)
  replace hoo6 := ownN_below hoo6 hbv14 (Nat.le_refl _)
  replace hoo7 := ownN_below hoo7 hbv14 (Nat.le_refl _)
  replace HB := HB.trans (hbv14.mono HB.size)
  have hszv14 := hbv14.size
  go_wp2_with fail
  refine (heldBoolS_any _ _ _ _ (1) (own_rd hoo4) (by omega) (by omega) (by omega)).mono ?_
  rintro e v15 ⟨rfl, hbv15⟩
  (try replace hbv15 := und1 hbv15)
  (try replace hbv15 := undN hbv15)
  replace hoo1 := ownN_below hoo1 hbv15 (Nat.le_refl _)
  replace hoo2 := ownN_below hoo2 hbv15 (Nat.le_refl _)
  replace hoo3 := ownN_below hoo3 hbv15 (Nat.le_refl _)
  replace hoo4 := ownN_below hoo4 hbv15 (Nat.le_refl _)
  replace hoo5 := ownN_below hoo5 hbv15 (Nat.le_refl _)
  replace hoo6 := ownN_below hoo6 hbv15 (Nat.le_refl _)
  replace hoo7 := ownN_below hoo7 hbv15 (Nat.le_refl _)
  replace HB := HB.trans (hbv15.mono HB.size)
  have hszv15 := hbv15.size
  go_wp2_with fail
  go_ret
  first | exact ⟨rfl, HB⟩ | exact ⟨rfl, below_drewN HB⟩
end Go.Proofs.YtadmbphefpfbmaaGreatDoor
