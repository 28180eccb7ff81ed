/- The law on QuinePackage. Written by genlaw5.py. -/
import Derived.Test.YtaadobggenbbdaaGreatDoorPkW
namespace Go.Proofs.YtaadobggenbbdaaGreatDoor
open Go.RowKit
set_option linter.unusedVariables false
set_option linter.unusedSimpArgs false
theorem eqBoolS_same (w : World) (A : Option Addr) (n c : Nat) (xs : List Bool) (hr : Rd w A n (bools xs)) (hn : n ≤ 1099511627776) (A' : Option Addr) (n' c' : Nat) (hr' : Rd w A' n' (bools xs)) :
    Calls Tryz.prog 11 #[.slice A n c, .slice A' n' c'] w (RetV w (.bool true)) := eqB_same w A n c xs hr hn A' n' c' hr'
set_option maxHeartbeats 16000000 in
set_option maxRecDepth 100000 in
theorem lawQuinePackage (w : World) :
    Calls Tryz.prog 3 #[] w fun e w' => e = .returned (.bool true) ∧ Below w.heap.size w w' := by
  have hS : ∀ (w : World), Calls Tryz.prog 9 #[] w (fun e w' => ∃ (AR0 : Option Addr) (nR0 cR0 : Nat), e = .returned (.slice AR0 nR0 cR0) ∧ w'.ownsRow w.heap.size 4 1 (.slice AR0 nR0 cR0) nR0 (bools ((fixP [tQuine.cmd]).1)) ∧ Below w.heap.size w w') := fun w => specQuinePackage_any w
  have hI : ∀ (w : World), Calls Tryz.prog 10 #[] w (fun e w' => ∃ (AR0 : Option Addr) (nR0 cR0 : Nat), e = .returned (.slice AR0 nR0 cR0) ∧ w'.ownsRow w.heap.size 4 1 (.slice AR0 nR0 cR0) nR0 (bools ((fixP [tQuine.cmd]).1)) ∧ Below w.heap.size w w') := fun w => implQuinePackage_any w
  have HRLR0 : Hid (((fixP [tQuine.cmd]).1).length ≤ 1000000) := Lib.hid (fix_len _)
  have HS := Lib.hid hS; have HI := Lib.hid hI
  clear hS hI
  generalize (fixP [tQuine.cmd]).1 = r0 at HS HI HRLR0
  have HB := Below.refl w.heap.size w
  go_enter Tryz.func3, Tryz.ntmps3
  go_wp2_with fail
  refine (HS.out _).mono ?_
  rintro e v1 ⟨Ao1, no1, co1, rfl, hoo1, hbv1⟩
  have hno1 : no1 ≤ 1000000 := by have h1 := hoo1.1; simp only [List.length_map] at h1; have h2 := HRLR0.out; omega
  have hrgo1 := Lib.hid (rg_row hoo1)
  (try replace hbv1 := und1 hbv1)
  (try replace hbv1 := undN hbv1)
  replace HB := HB.trans (hbv1.mono HB.size)
  have hszv1 := hbv1.size
  replace hrgo1 := Lib.hid (rg_lo hrgo1.out (lo := w.heap.size + 0) (hi := v1.heap.size) (by first | exact Nat.le_refl _ | exact le_al1 | (simp; done) | (simp; omega)) (Nat.le_refl _))
  go_wp2_with fail
  refine (HI.out _).mono ?_
  rintro e v2 ⟨Ao2, no2, co2, rfl, hoo2, hbv2⟩
  have hno2 : no2 ≤ 1000000 := by have h1 := hoo2.1; simp only [List.length_map] at h1; have h2 := HRLR0.out; omega
  have hrgo2 := Lib.hid (rg_row hoo2)
  (try replace hbv2 := und1 hbv2)
  (try replace hbv2 := undN hbv2)
  replace hoo1 := ownN_below hoo1 hbv2 (Nat.le_refl _)
  replace HB := HB.trans (hbv2.mono HB.size)
  have hszv2 := hbv2.size
  replace hrgo2 := Lib.hid (rg_lo hrgo2.out (lo := v1.heap.size + 0) (hi := v2.heap.size) (by first | exact Nat.le_refl _ | exact le_al1 | (simp; done) | (simp; omega)) (Nat.le_refl _))
  go_wp2_with fail
  refine (eqBoolS_same _ _ _ _ r0 (own_rd hoo2) (by omega) _ _ _ (own_rd hoo1)).mono ?_
  rintro e v3 ⟨rfl, hbv3⟩
  (try replace hbv3 := und1 hbv3)
  (try replace hbv3 := undN hbv3)
  replace hoo1 := ownN_below hoo1 hbv3 (Nat.le_refl _)
  replace hoo2 := ownN_below hoo2 hbv3 (Nat.le_refl _)
  replace HB := HB.trans (hbv3.mono HB.size)
  have hszv3 := hbv3.size
  go_wp2_with fail
  refine (markBoolS_any _ _ _ _ _ _ hoo2 (by omega)  (1) (by omega) (by omega)).mono ?_
  rintro e v4 ⟨rfl, hmo2, hCv4⟩
  replace hCv4 := ch_row hCv4
  replace hoo1 := own_ch hoo1 hCv4 (fun k h1 h2 => (by have := hrgo1.out k h1; have := hrgo2.out k h2; omega))
  replace HB := below_ch HB hCv4 (fun k h => by have := hrgo2.out k h; omega) HB.size
  replace hoo2 := hmo2
  have hszv4 := hCv4.size
  go_wp2_with fail
  refine (heldBoolS_any _ _ _ _ (1) (own_rd hoo2) (by omega) (by omega) (by omega)).mono ?_
  rintro e v5 ⟨rfl, hbv5⟩
  (try replace hbv5 := und1 hbv5)
  (try replace hbv5 := undN hbv5)
  replace hoo1 := ownN_below hoo1 hbv5 (Nat.le_refl _)
  replace hoo2 := ownN_below hoo2 hbv5 (Nat.le_refl _)
  replace HB := HB.trans (hbv5.mono HB.size)
  have hszv5 := hbv5.size
  go_wp2_with fail
  refine (HI.out _).mono ?_
  rintro e v6 ⟨Ao3, no3, co3, rfl, hoo3, hbv6⟩
  have hno3 : no3 ≤ 1000000 := by have h1 := hoo3.1; simp only [List.length_map] at h1; have h2 := HRLR0.out; omega
  have hrgo3 := Lib.hid (rg_row hoo3)
  (try replace hbv6 := und1 hbv6)
  (try replace hbv6 := undN hbv6)
  replace hoo1 := ownN_below hoo1 hbv6 (Nat.le_refl _)
  replace hoo2 := ownN_below hoo2 hbv6 (Nat.le_refl _)
  replace HB := HB.trans (hbv6.mono HB.size)
  have hszv6 := hbv6.size
  replace hrgo3 := Lib.hid (rg_lo hrgo3.out (lo := v5.heap.size + 0) (hi := v6.heap.size) (by first | exact Nat.le_refl _ | exact le_al1 | (simp; done) | (simp; omega)) (Nat.le_refl _))
  go_wp2_with fail
  refine (eqBoolS_same _ _ _ _ r0 (own_rd hoo3) (by omega) _ _ _ (own_rd hoo1)).mono ?_
  rintro e v7 ⟨rfl, hbv7⟩
  (try replace hbv7 := und1 hbv7)
  (try replace hbv7 := undN hbv7)
  replace hoo1 := ownN_below hoo1 hbv7 (Nat.le_refl _)
  replace hoo2 := ownN_below hoo2 hbv7 (Nat.le_refl _)
  replace hoo3 := ownN_below hoo3 hbv7 (Nat.le_refl _)
  replace HB := HB.trans (hbv7.mono HB.size)
  have hszv7 := hbv7.size
  go_wp2_with fail
  refine (heldBoolS_any _ _ _ _ (1) (own_rd hoo2) (by omega) (by omega) (by omega)).mono ?_
  rintro e v8 ⟨rfl, hbv8⟩
  (try replace hbv8 := und1 hbv8)
  (try replace hbv8 := undN hbv8)
  replace hoo1 := ownN_below hoo1 hbv8 (Nat.le_refl _)
  replace hoo2 := ownN_below hoo2 hbv8 (Nat.le_refl _)
  replace hoo3 := ownN_below hoo3 hbv8 (Nat.le_refl _)
  replace HB := HB.trans (hbv8.mono HB.size)
  have hszv8 := hbv8.size
  go_wp2_with fail
  go_ret
  first | exact ⟨rfl, HB⟩ | exact ⟨rfl, below_drewN HB⟩
end Go.Proofs.YtaadobggenbbdaaGreatDoor
