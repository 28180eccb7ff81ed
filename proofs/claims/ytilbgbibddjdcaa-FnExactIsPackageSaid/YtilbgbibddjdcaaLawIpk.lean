/- The law on IsPackage. Written by genlaw5.py. -/
import Derived.Test.YtilbgbibddjdcaaPkg
import Derived.Test.YtilbgbibddjdcaaGA
namespace Go.Proofs.Ytilbgbibddjdcaa
open Go.RowKit
set_option linter.unusedVariables false
set_option linter.unusedSimpArgs false
theorem eqBoolS_same (w : World) (A : Option Addr) (n c : Nat) (xs : List Bool) (hr : Rd w A n (bools xs)) (hn : n ≤ 1099511627776) (A' : Option Addr) (n' c' : Nat) (hr' : Rd w A' n' (bools xs)) :
    Calls Try.prog 17 #[.slice A n c, .slice A' n' c'] w (RetV w (.bool true)) := eqB_same w A n c xs hr hn A' n' c' hr'
set_option maxHeartbeats 16000000 in
set_option maxRecDepth 100000 in
theorem lawIsPackage (w : World) (A0 : Option Addr) (n0 c0 : Nat) (x0 : List Bool) (hr0 : Rd w A0 n0 (bools x0)) (hnn0 : n0 ≤ 9223372036854775807) :
    Calls Try.prog 8 #[.slice A0 n0 c0] w fun e w' => e = .returned (.bool true) ∧ Below w.heap.size w w' := by
  have hS : ∀ (w : World) (A0 : Option Addr) (n0 c0 : Nat) (h0 : Rd w A0 n0 (bools x0)) (hn0 : n0 ≤ 1099511627776) (hcp0 : n0 ≤ c0), Calls Try.prog 41 #[.slice A0 n0 c0] w (fun e w' => e = .returned (.bool (isPkg x0)) ∧ Below w.heap.size w w') := fun w A0 n0 c0 h0 hn0 hcp0 => specIsPackage_any w A0 n0 c0 x0 h0 hn0 hcp0
  have hI : ∀ (w : World) (A0 : Option Addr) (n0 c0 : Nat) (h0 : Rd w A0 n0 (bools x0)) (hn0 : n0 ≤ 1099511627776) (hcp0 : n0 ≤ c0), Calls Try.prog 42 #[.slice A0 n0 c0] w (fun e w' => e = .returned (.bool (isPkg x0)) ∧ Below w.heap.size w w') := fun w A0 n0 c0 h0 hn0 hcp0 => implIsPackage_any w A0 n0 c0 x0 h0 hn0
  have HS := Lib.hid hS; have HI := Lib.hid hI
  clear hS hI
  generalize isPkg x0 = r0 at HS HI 
  have HXL0 : Hid ((x0).length = n0 * 1) := Lib.hid (by have := hr0.1; simp at this; omega)
  have HB := Below.refl w.heap.size w
  go_enter Try.func8, Try.ntmps8
  by_cases hbig0 : 1048576 < n0
  · have hbi0 : (1048576 : Int) < (n0 : Int) := by omega
    go_wp2_with fail
    go_ret
    exact ⟨rfl, HB⟩
  have hbi0 : ¬ (1048576 : Int) < (n0 : Int) := by omega
  replace hbig0 : n0 ≤ 1048576 := by omega
  go_wp2_with fail
  refine (toBoolS_any _ _ _ _ x0 (hr0.below HB (Nat.le_refl _)) (by omega)).mono ?_
  rintro e v1 ⟨Ao1, no1, co1, rfl, hoo1, hbv1⟩
  have hno1 : no1 ≤ 1048576 := by have h1 := hoo1.1; simp only [List.length_map] at h1; have h2 := HXL0.out; omega
  have hrgo1 := Lib.hid (rg_row hoo1)
  (try replace hbv1 := und1 hbv1)
  (try replace hbv1 := undN hbv1)
  replace HB := HB.trans (hbv1.mono HB.size)
  have hszv1 := hbv1.size
  replace hrgo1 := Lib.hid (rg_lo hrgo1.out (lo := w.heap.size + 0) (hi := v1.heap.size) (by first | exact Nat.le_refl _ | exact le_al1 | (simp; done) | (simp; omega)) (Nat.le_refl _))
  go_wp2_with fail
  refine (HS.out _ _ _ _ (own_rd hoo1) (by omega) (ownN_cap hoo1)).mono ?_
  rintro e v2 ⟨rfl, hbv2⟩
  (try replace hbv2 := und1 hbv2)
  (try replace hbv2 := undN hbv2)
  replace hoo1 := ownN_below hoo1 hbv2 (Nat.le_refl _)
  replace HB := HB.trans (hbv2.mono HB.size)
  have hszv2 := hbv2.size
  go_wp2_with fail
  refine (toBoolS_any _ _ _ _ x0 (hr0.below HB (Nat.le_refl _)) (by omega)).mono ?_
  rintro e v3 ⟨Ao2, no2, co2, rfl, hoo2, hbv3⟩
  have hno2 : no2 ≤ 1048576 := by have h1 := hoo2.1; simp only [List.length_map] at h1; have h2 := HXL0.out; omega
  have hrgo2 := Lib.hid (rg_row hoo2)
  (try replace hbv3 := und1 hbv3)
  (try replace hbv3 := undN hbv3)
  replace hoo1 := ownN_below hoo1 hbv3 (Nat.le_refl _)
  replace HB := HB.trans (hbv3.mono HB.size)
  have hszv3 := hbv3.size
  replace hrgo2 := Lib.hid (rg_lo hrgo2.out (lo := v2.heap.size + 0) (hi := v3.heap.size) (by first | exact Nat.le_refl _ | exact le_al1 | (simp; done) | (simp; omega)) (Nat.le_refl _))
  go_wp2_with fail
  refine (HI.out _ _ _ _ (own_rd hoo2) (by omega) (ownN_cap hoo2)).mono ?_
  rintro e v4 ⟨rfl, hbv4⟩
  (try replace hbv4 := und1 hbv4)
  (try replace hbv4 := undN hbv4)
  replace hoo1 := ownN_below hoo1 hbv4 (Nat.le_refl _)
  replace hoo2 := ownN_below hoo2 hbv4 (Nat.le_refl _)
  replace HB := HB.trans (hbv4.mono HB.size)
  have hszv4 := hbv4.size
  go_wp2_with fail
  refine (toBoolS_any _ _ _ _ x0 (hr0.below HB (Nat.le_refl _)) (by omega)).mono ?_
  rintro e v5 ⟨Ao3, no3, co3, rfl, hoo3, hbv5⟩
  have hno3 : no3 ≤ 1048576 := by have h1 := hoo3.1; simp only [List.length_map] at h1; have h2 := HXL0.out; omega
  have hrgo3 := Lib.hid (rg_row hoo3)
  (try replace hbv5 := und1 hbv5)
  (try replace hbv5 := undN hbv5)
  replace hoo1 := ownN_below hoo1 hbv5 (Nat.le_refl _)
  replace hoo2 := ownN_below hoo2 hbv5 (Nat.le_refl _)
  replace HB := HB.trans (hbv5.mono HB.size)
  have hszv5 := hbv5.size
  replace hrgo3 := Lib.hid (rg_lo hrgo3.out (lo := v4.heap.size + 0) (hi := v5.heap.size) (by first | exact Nat.le_refl _ | exact le_al1 | (simp; done) | (simp; omega)) (Nat.le_refl _))
  go_wp2_with fail
  refine (eqBoolS_same _ _ _ _ x0 (own_rd hoo2) (by omega) _ _ _ (own_rd hoo3)).mono ?_
  rintro e v6 ⟨rfl, hbv6⟩
  (try replace hbv6 := und1 hbv6)
  (try replace hbv6 := undN hbv6)
  replace hoo1 := ownN_below hoo1 hbv6 (Nat.le_refl _)
  replace hoo2 := ownN_below hoo2 hbv6 (Nat.le_refl _)
  replace hoo3 := ownN_below hoo3 hbv6 (Nat.le_refl _)
  replace HB := HB.trans (hbv6.mono HB.size)
  have hszv6 := hbv6.size
  go_wp2_with fail
  go_ret
  first | exact ⟨rfl, HB⟩ | exact ⟨rfl, below_drewN HB⟩
end Go.Proofs.Ytilbgbibddjdcaa
