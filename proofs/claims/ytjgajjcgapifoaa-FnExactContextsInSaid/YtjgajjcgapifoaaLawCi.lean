/- The law on ContextsIn. Written by genlaw5.py. -/
import Derived.Test.YtjgajjcgapifoaaCiJ
import Derived.Test.YtjgajjcgapifoaaLawProof
import Derived.Test.YtjgajjcgapifoaaLawK
namespace Go.Proofs.Ytjgajjcgapifoaa
open Go.RowKit
set_option linter.unusedVariables false
set_option linter.unusedSimpArgs false
set_option maxHeartbeats 16000000 in
set_option maxRecDepth 100000 in
theorem lawContextsIn (w : World) (x0_0 : Int) (A0_1 : Option Addr) (n0_1 c0_1 : Nat) (x0_1 : List Int) (hr0_1 : Rd w A0_1 n0_1 (ints x0_1)) (hnn0_1 : n0_1 ≤ 9223372036854775807) (A0_2 : Option Addr) (n0_2 c0_2 : Nat) (x0_2 : List (List Int)) (hw0_2 : RdW w A0_2 n0_2 x0_2) (hnn0_2 : n0_2 ≤ 9223372036854775807) :
    Calls Try.prog 7 #[.agg #[.int .i64 x0_0, .slice A0_1 n0_1 c0_1, .slice A0_2 n0_2 c0_2]] w fun e w' => e = .returned (.bool true) ∧ Below w.heap.size w w' := by
  have hS : ∀ (w : World) (A0_1 : Option Addr) (n0_1 c0_1 : Nat) (h0_1 : Rd w A0_1 n0_1 (ints x0_1)) (hn0_1 : n0_1 ≤ 1000000000) (hcp0_1 : n0_1 ≤ c0_1) (A0_2 : Option Addr) (n0_2 c0_2 : Nat) (h0_2 : RdL w A0_2 n0_2 x0_2) (hn0_2 : n0_2 ≤ 1000000000) (hcp0_2 : n0_2 ≤ c0_2), Calls Try.prog 41 #[.agg #[.int .i64 x0_0, .slice A0_1 n0_1 c0_1, .slice A0_2 n0_2 c0_2]] w (fun e w' => ∃ (AR0 : Option Addr) (nR0 cR0 : Nat) (FR0 : Nat → Prop) (AR1 : Option Addr) (nR1 cR1 : Nat) (FR1 : Nat → Prop) (AR2 : Option Addr) (nR2 cR2 : Nat) (FR2 : Nat → Prop) (AR3 : Option Addr) (nR3 cR3 : Nat), e = .returned (.tuple #[.slice AR0 nR0 cR0, .slice AR1 nR1 cR1, .slice AR2 nR2 cR2, .slice AR3 nR3 cR3, .int .i64 ((ciR x0_0 x0_1 x0_2).2.2.2.2)]) ∧ OwnP w' FR0 AR0 nR0 cR0 ((ciR x0_0 x0_1 x0_2).1) ∧ (∀ k, FR0 k → w.heap.size ≤ k ∧ k < w'.heap.size) ∧ OwnP w' FR1 AR1 nR1 cR1 ((ciR x0_0 x0_1 x0_2).2.1) ∧ (∀ k, FR1 k → w.heap.size ≤ k ∧ k < w'.heap.size) ∧ OwnK w' FR2 AR2 nR2 cR2 ((ciR x0_0 x0_1 x0_2).2.2.1) ∧ (∀ k, FR2 k → w.heap.size ≤ k ∧ k < w'.heap.size) ∧ w'.ownsRow w.heap.size 2 1 (.slice AR3 nR3 cR3) nR3 (ints ((ciR x0_0 x0_1 x0_2).2.2.2.1)) ∧ (∀ k, FR0 k → FR1 k → False) ∧ (∀ k, FR0 k → FR2 k → False) ∧ (∀ k, FR0 k → Fo (.slice AR3 nR3 cR3) k → False) ∧ (∀ k, FR1 k → FR2 k → False) ∧ (∀ k, FR1 k → Fo (.slice AR3 nR3 cR3) k → False) ∧ (∀ k, FR2 k → Fo (.slice AR3 nR3 cR3) k → False) ∧ Below w.heap.size w w') := fun w A0_1 n0_1 c0_1 h0_1 hn0_1 hcp0_1 A0_2 n0_2 c0_2 h0_2 hn0_2 hcp0_2 => specContextsIn_any w x0_0 A0_1 n0_1 c0_1 x0_1 h0_1 hn0_1 hcp0_1 A0_2 n0_2 c0_2 x0_2 h0_2 hn0_2
  have hI : ∀ (w : World) (A0_1 : Option Addr) (n0_1 c0_1 : Nat) (h0_1 : Rd w A0_1 n0_1 (ints x0_1)) (hn0_1 : n0_1 ≤ 1000000000) (hcp0_1 : n0_1 ≤ c0_1) (A0_2 : Option Addr) (n0_2 c0_2 : Nat) (h0_2 : RdL w A0_2 n0_2 x0_2) (hn0_2 : n0_2 ≤ 1000000000) (hcp0_2 : n0_2 ≤ c0_2), Calls Try.prog 42 #[.agg #[.int .i64 x0_0, .slice A0_1 n0_1 c0_1, .slice A0_2 n0_2 c0_2]] w (fun e w' => ∃ (AR0 : Option Addr) (nR0 cR0 : Nat) (FR0 : Nat → Prop) (AR1 : Option Addr) (nR1 cR1 : Nat) (FR1 : Nat → Prop) (AR2 : Option Addr) (nR2 cR2 : Nat) (FR2 : Nat → Prop) (AR3 : Option Addr) (nR3 cR3 : Nat), e = .returned (.tuple #[.slice AR0 nR0 cR0, .slice AR1 nR1 cR1, .slice AR2 nR2 cR2, .slice AR3 nR3 cR3, .int .i64 ((ciR x0_0 x0_1 x0_2).2.2.2.2)]) ∧ OwnP w' FR0 AR0 nR0 cR0 ((ciR x0_0 x0_1 x0_2).1) ∧ (∀ k, FR0 k → w.heap.size ≤ k ∧ k < w'.heap.size) ∧ OwnP w' FR1 AR1 nR1 cR1 ((ciR x0_0 x0_1 x0_2).2.1) ∧ (∀ k, FR1 k → w.heap.size ≤ k ∧ k < w'.heap.size) ∧ OwnK w' FR2 AR2 nR2 cR2 ((ciR x0_0 x0_1 x0_2).2.2.1) ∧ (∀ k, FR2 k → w.heap.size ≤ k ∧ k < w'.heap.size) ∧ w'.ownsRow w.heap.size 2 1 (.slice AR3 nR3 cR3) nR3 (ints ((ciR x0_0 x0_1 x0_2).2.2.2.1)) ∧ (∀ k, FR0 k → FR1 k → False) ∧ (∀ k, FR0 k → FR2 k → False) ∧ (∀ k, FR0 k → Fo (.slice AR3 nR3 cR3) k → False) ∧ (∀ k, FR1 k → FR2 k → False) ∧ (∀ k, FR1 k → Fo (.slice AR3 nR3 cR3) k → False) ∧ (∀ k, FR2 k → Fo (.slice AR3 nR3 cR3) k → False) ∧ Below w.heap.size w w') := fun w A0_1 n0_1 c0_1 h0_1 hn0_1 hcp0_1 A0_2 n0_2 c0_2 h0_2 hn0_2 hcp0_2 => implContextsIn_any w x0_0 A0_1 n0_1 c0_1 x0_1 h0_1 hn0_1 hcp0_1 A0_2 n0_2 c0_2 x0_2 h0_2 hn0_2 hcp0_2
  have HRLR0 : Hid (tot ((ciR x0_0 x0_1 x0_2).1) ≤ 1000000 ∧ ((ciR x0_0 x0_1 x0_2).1).length ≤ 1000000) := Lib.hid (ciR_b0 x0_0 x0_1 x0_2)
  have HRLR1 : Hid (tot ((ciR x0_0 x0_1 x0_2).2.1) ≤ 1000000 ∧ ((ciR x0_0 x0_1 x0_2).2.1).length ≤ 1000000) := Lib.hid (ciR_b1 x0_0 x0_1 x0_2)
  have HRLR2 : Hid (tot ((ciR x0_0 x0_1 x0_2).2.2.1) ≤ 1000000 ∧ ((ciR x0_0 x0_1 x0_2).2.2.1).length ≤ 1000000) := Lib.hid (ciR_b2 x0_0 x0_1 x0_2)
  have HRLR3 : Hid (((ciR x0_0 x0_1 x0_2).2.2.2.1).length ≤ 1000000) := Lib.hid (ciR_b3 x0_0 x0_1 x0_2)
  have HS := Lib.hid hS; have HI := Lib.hid hI
  clear hS hI
  generalize (ciR x0_0 x0_1 x0_2).1 = r0 at HS HI HRLR0
  generalize (ciR x0_0 x0_1 x0_2).2.1 = r1 at HS HI HRLR1
  generalize (ciR x0_0 x0_1 x0_2).2.2.1 = r2 at HS HI HRLR2
  generalize (ciR x0_0 x0_1 x0_2).2.2.2.1 = r3 at HS HI HRLR3
  generalize (ciR x0_0 x0_1 x0_2).2.2.2.2 = r4 at HS HI 
  have HXL0_1 : Hid ((x0_1).length = n0_1 * 1) := Lib.hid (by have := hr0_1.1; simp at this; omega)
  have HXL0_2 : Hid ((x0_2).length = n0_2) := Lib.hid hw0_2.len
  have HB := Below.refl w.heap.size w
  go_enter Try.func7, Try.ntmps7
  go_wp2_with fail
  refine (szProof_post _ x0_0 _ _ _ hnn0_1 _ _ _ x0_2 (by have h := hw0_2.below HB (Nat.le_refl _); first | exact h | exact h.below (below_new _ _) (Nat.le_refl _) | exact (h.below (below_new _ _) (Nat.le_refl _)).below (below_new _ _) (Nat.le_refl _) | exact ((h.below (below_new _ _) (Nat.le_refl _)).below (below_new _ _) (Nat.le_refl _)).below (below_new _ _) (Nat.le_refl _)) hnn0_2 _ (by omega) (by omega)).mono ?_
  rintro e v1 ⟨lfv1, rfl, hqv1, hpv1, hbv1⟩
  (try replace hbv1 := und1 hbv1)
  (try replace hbv1 := undN hbv1)
  obtain ⟨hbv1b, hxo1, hso1⟩ := box_step hbv1
  (try simp only [World.size_alloc] at hxo1 hso1)
  replace HB := HB.trans (hbv1b.mono HB.size)
  have hszv1 := hbv1b.size
  have qo1_0 := blk_cell hxo1 0 rfl
  have qo1_1 := blk_cell hxo1 1 rfl
  have qo1_2 := blk_cell hxo1 2 rfl
  have hlo1 := blk_lt hxo1
  by_cases hzv1 : lfv1 < 0
  · clear hqv1 hpv1
    go_wp2_with fail
    go_ret
    exact ⟨rfl, HB⟩
  replace hqv1 := hqv1 (by omega)
  have hbig0_1 : n0_1 ≤ 1048576 := by omega
  have hbig0_2 : n0_2 ≤ 1048576 := by omega
  have HTX0_2 : Hid (tot x0_2 ≤ 1048576) := Lib.hid (by omega)
  have hr0_2 := hw0_2.rdl (by have := HTX0_2.out; omega)
  have HQv1 := Lib.hid hqv1; clear hqv1
  go_wp2_with fail
  refine (toProof_any _ x0_0 _ _ _ x0_1 (hr0_1.below HB (Nat.le_refl _)) (by omega) _ _ _ x0_2 (hr0_2.below HB (Nat.le_refl _)) (by omega)).mono ?_
  rintro e v2 ⟨Ao2, no2, co2, Ao3, no3, co3, Fo3, rfl, hoo2, hoo3, hFo3, hdo2o3, hbv2⟩
  have hno2 : no2 ≤ 1048576 := by have h1 := hoo2.1; simp only [List.length_map] at h1; have h2 := HXL0_1.out; omega
  have hno3 : no3 ≤ 1048576 := by have h1 := hoo3.len; have h2 := HXL0_2.out; omega
  have hrgo2 := Lib.hid (rg_row hoo2)
  have hrgo3 := Lib.hid hFo3; clear hFo3
  have HDo2o3 := Lib.hid hdo2o3; clear hdo2o3
  clear qo1_0 qo1_1 qo1_2 hlo1
  (try replace hbv2 := und1 hbv2)
  (try replace hbv2 := undN hbv2)
  replace hxo1 := blk_bel hxo1 hbv2
  replace HB := HB.trans (hbv2.mono HB.size)
  have hszv2 := hbv2.size
  have qo1_0 := blk_cell hxo1 0 rfl
  have qo1_1 := blk_cell hxo1 1 rfl
  have qo1_2 := blk_cell hxo1 2 rfl
  have hlo1 := blk_lt hxo1
  replace hrgo2 := Lib.hid (rg_lo hrgo2.out (lo := v1.heap.size + 0) (hi := v2.heap.size) (by first | exact Nat.le_refl _ | exact le_al1 | (simp; done) | (simp; omega)) (Nat.le_refl _))
  replace hrgo3 := Lib.hid (rg_lo hrgo3.out (lo := v1.heap.size + 0) (hi := v2.heap.size) (by first | exact Nat.le_refl _ | exact le_al1 | (simp; done) | (simp; omega)) (Nat.le_refl _))
  go_wp2_with fail
  refine (HS.out _ _ _ _ (own_rd hoo2) (by omega) (ownN_cap hoo2) _ _ _ hoo3.rdl (by omega) hoo3.cap).mono ?_
  rintro e v3 ⟨Ao4, no4, co4, Fo4, Ao5, no5, co5, Fo5, Ao6, no6, co6, Fo6, Ao7, no7, co7, rfl, hoo4, hFo4, hoo5, hFo5, hoo6, hFo6, hoo7, hdo4o5, hdo4o6, hdo4o7, hdo5o6, hdo5o7, hdo6o7, hbv3⟩
  have hno4 : no4 ≤ 1000000 := by have h1 := hoo4.len; have h2 := HRLR0.out; omega
  have hno5 : no5 ≤ 1000000 := by have h1 := hoo5.len; have h2 := HRLR1.out; omega
  have hno6 : no6 ≤ 1000000 := by have h1 := hoo6.len; have h2 := HRLR2.out; omega
  have hno7 : no7 ≤ 1000000 := by have h1 := hoo7.1; simp only [List.length_map] at h1; have h2 := HRLR3.out; omega
  have hrgo4 := Lib.hid hFo4; clear hFo4
  have hrgo5 := Lib.hid hFo5; clear hFo5
  have hrgo6 := Lib.hid hFo6; clear hFo6
  have hrgo7 := Lib.hid (rg_row hoo7)
  have HDo4o5 := Lib.hid hdo4o5; clear hdo4o5
  have HDo4o6 := Lib.hid hdo4o6; clear hdo4o6
  have HDo4o7 := Lib.hid hdo4o7; clear hdo4o7
  have HDo5o6 := Lib.hid hdo5o6; clear hdo5o6
  have HDo5o7 := Lib.hid hdo5o7; clear hdo5o7
  have HDo6o7 := Lib.hid hdo6o7; clear hdo6o7
  clear qo1_0 qo1_1 qo1_2 hlo1
  (try replace hbv3 := und1 hbv3)
  (try replace hbv3 := undN hbv3)
  replace hoo2 := ownN_below hoo2 hbv3 (Nat.le_refl _)
  replace hoo3 := hoo3.below hbv3
  replace hxo1 := blk_bel hxo1 hbv3
  replace HB := HB.trans (hbv3.mono HB.size)
  have hszv3 := hbv3.size
  have qo1_0 := blk_cell hxo1 0 rfl
  have qo1_1 := blk_cell hxo1 1 rfl
  have qo1_2 := blk_cell hxo1 2 rfl
  have hlo1 := blk_lt hxo1
  replace hrgo4 := Lib.hid (rg_lo hrgo4.out (lo := v2.heap.size + 0) (hi := v3.heap.size) (by first | exact Nat.le_refl _ | exact le_al1 | (simp; done) | (simp; omega)) (Nat.le_refl _))
  replace hrgo5 := Lib.hid (rg_lo hrgo5.out (lo := v2.heap.size + 0) (hi := v3.heap.size) (by first | exact Nat.le_refl _ | exact le_al1 | (simp; done) | (simp; omega)) (Nat.le_refl _))
  replace hrgo6 := Lib.hid (rg_lo hrgo6.out (lo := v2.heap.size + 0) (hi := v3.heap.size) (by first | exact Nat.le_refl _ | exact le_al1 | (simp; done) | (simp; omega)) (Nat.le_refl _))
  replace hrgo7 := Lib.hid (rg_lo hrgo7.out (lo := v2.heap.size + 0) (hi := v3.heap.size) (by first | exact Nat.le_refl _ | exact le_al1 | (simp; done) | (simp; omega)) (Nat.le_refl _))
  go_wp2_with fail
  refine (toProof_any _ x0_0 _ _ _ x0_1 (hr0_1.below HB (Nat.le_refl _)) (by omega) _ _ _ x0_2 (hr0_2.below HB (Nat.le_refl _)) (by omega)).mono ?_
  rintro e v4 ⟨Ao8, no8, co8, Ao9, no9, co9, Fo9, rfl, hoo8, hoo9, hFo9, hdo8o9, hbv4⟩
  have hno8 : no8 ≤ 1048576 := by have h1 := hoo8.1; simp only [List.length_map] at h1; have h2 := HXL0_1.out; omega
  have hno9 : no9 ≤ 1048576 := by have h1 := hoo9.len; have h2 := HXL0_2.out; omega
  have hrgo8 := Lib.hid (rg_row hoo8)
  have hrgo9 := Lib.hid hFo9; clear hFo9
  have HDo8o9 := Lib.hid hdo8o9; clear hdo8o9
  clear qo1_0 qo1_1 qo1_2 hlo1
  (try replace hbv4 := und1 hbv4)
  (try replace hbv4 := undN hbv4)
  replace hoo2 := ownN_below hoo2 hbv4 (Nat.le_refl _)
  replace hoo3 := hoo3.below hbv4
  replace hoo4 := hoo4.below hbv4
  replace hoo5 := hoo5.below hbv4
  replace hoo6 := hoo6.below hbv4
  replace hoo7 := ownN_below hoo7 hbv4 (Nat.le_refl _)
  replace hxo1 := blk_bel hxo1 hbv4
  replace HB := HB.trans (hbv4.mono HB.size)
  have hszv4 := hbv4.size
  have qo1_0 := blk_cell hxo1 0 rfl
  have qo1_1 := blk_cell hxo1 1 rfl
  have qo1_2 := blk_cell hxo1 2 rfl
  have hlo1 := blk_lt hxo1
  replace hrgo8 := Lib.hid (rg_lo hrgo8.out (lo := v3.heap.size + 0) (hi := v4.heap.size) (by first | exact Nat.le_refl _ | exact le_al1 | (simp; done) | (simp; omega)) (Nat.le_refl _))
  replace hrgo9 := Lib.hid (rg_lo hrgo9.out (lo := v3.heap.size + 0) (hi := v4.heap.size) (by first | exact Nat.le_refl _ | exact le_al1 | (simp; done) | (simp; omega)) (Nat.le_refl _))
  go_wp2_with fail
  refine (HI.out _ _ _ _ ((own_rd hoo8).below (below_new _ _) (Nat.le_refl _)) (by omega) (ownN_cap hoo8) _ _ _ (hoo9.rdl.below (below_new _ _) (Nat.le_refl _)) (by omega) hoo9.cap).mono ?_
  rintro e v5 ⟨Ao11, no11, co11, Fo11, Ao12, no12, co12, Fo12, Ao13, no13, co13, Fo13, Ao14, no14, co14, rfl, hoo11, hFo11, hoo12, hFo12, hoo13, hFo13, hoo14, hdo11o12, hdo11o13, hdo11o14, hdo12o13, hdo12o14, hdo13o14, hbv5⟩
  have hno11 : no11 ≤ 1000000 := by have h1 := hoo11.len; have h2 := HRLR0.out; omega
  have hno12 : no12 ≤ 1000000 := by have h1 := hoo12.len; have h2 := HRLR1.out; omega
  have hno13 : no13 ≤ 1000000 := by have h1 := hoo13.len; have h2 := HRLR2.out; omega
  have hno14 : no14 ≤ 1000000 := by have h1 := hoo14.1; simp only [List.length_map] at h1; have h2 := HRLR3.out; omega
  have hrgo11 := Lib.hid hFo11; clear hFo11
  have hrgo12 := Lib.hid hFo12; clear hFo12
  have hrgo13 := Lib.hid hFo13; clear hFo13
  have hrgo14 := Lib.hid (rg_row hoo14)
  have HDo11o12 := Lib.hid hdo11o12; clear hdo11o12
  have HDo11o13 := Lib.hid hdo11o13; clear hdo11o13
  have HDo11o14 := Lib.hid hdo11o14; clear hdo11o14
  have HDo12o13 := Lib.hid hdo12o13; clear hdo12o13
  have HDo12o14 := Lib.hid hdo12o14; clear hdo12o14
  have HDo13o14 := Lib.hid hdo13o14; clear hdo13o14
  clear qo1_0 qo1_1 qo1_2 hlo1
  (try replace hbv5 := und1 hbv5)
  (try replace hbv5 := undN hbv5)
  obtain ⟨hbv5b, hxo10, hso10⟩ := box_step hbv5
  (try simp only [World.size_alloc] at hxo10 hso10)
  replace hoo2 := ownN_below hoo2 hbv5b (Nat.le_refl _)
  replace hoo3 := hoo3.below hbv5b
  replace hoo4 := hoo4.below hbv5b
  replace hoo5 := hoo5.below hbv5b
  replace hoo6 := hoo6.below hbv5b
  replace hoo7 := ownN_below hoo7 hbv5b (Nat.le_refl _)
  replace hoo8 := ownN_below hoo8 hbv5b (Nat.le_refl _)
  replace hoo9 := hoo9.below hbv5b
  replace hxo1 := blk_bel hxo1 hbv5b
  replace HB := HB.trans (hbv5b.mono HB.size)
  have hszv5 := hbv5b.size
  have qo1_0 := blk_cell hxo1 0 rfl
  have qo1_1 := blk_cell hxo1 1 rfl
  have qo1_2 := blk_cell hxo1 2 rfl
  have hlo1 := blk_lt hxo1
  have qo10_0 := blk_cell hxo10 0 rfl
  have qo10_1 := blk_cell hxo10 1 rfl
  have qo10_2 := blk_cell hxo10 2 rfl
  have hlo10 := blk_lt hxo10
  replace hrgo11 := Lib.hid (rg_lo hrgo11.out (lo := v4.heap.size + 1) (hi := v5.heap.size) (by first | exact Nat.le_refl _ | exact le_al1 | (simp; done) | (simp; omega)) (Nat.le_refl _))
  replace hrgo12 := Lib.hid (rg_lo hrgo12.out (lo := v4.heap.size + 1) (hi := v5.heap.size) (by first | exact Nat.le_refl _ | exact le_al1 | (simp; done) | (simp; omega)) (Nat.le_refl _))
  replace hrgo13 := Lib.hid (rg_lo hrgo13.out (lo := v4.heap.size + 1) (hi := v5.heap.size) (by first | exact Nat.le_refl _ | exact le_al1 | (simp; done) | (simp; omega)) (Nat.le_refl _))
  replace hrgo14 := Lib.hid (rg_lo hrgo14.out (lo := v4.heap.size + 1) (hi := v5.heap.size) (by first | exact Nat.le_refl _ | exact le_al1 | (simp; done) | (simp; omega)) (Nat.le_refl _))
  go_wp2_with fail
  refine (eqInt64SS_same _ _ _ _ r0 hoo11.rdl (by omega) _ _ _ hoo4.rdl).mono ?_
  rintro e v6 ⟨rfl, hbv6⟩
  clear qo1_0 qo1_1 qo1_2 qo10_0 qo10_1 qo10_2 hlo1 hlo10
  (try replace hbv6 := und1 hbv6)
  (try replace hbv6 := undN hbv6)
  replace hoo2 := ownN_below hoo2 hbv6 (Nat.le_refl _)
  replace hoo3 := hoo3.below hbv6
  replace hoo4 := hoo4.below hbv6
  replace hoo5 := hoo5.below hbv6
  replace hoo6 := hoo6.below hbv6
  replace hoo7 := ownN_below hoo7 hbv6 (Nat.le_refl _)
  replace hoo8 := ownN_below hoo8 hbv6 (Nat.le_refl _)
  replace hoo9 := hoo9.below hbv6
  replace hoo11 := hoo11.below hbv6
  replace hoo12 := hoo12.below hbv6
  replace hoo13 := hoo13.below hbv6
  replace hoo14 := ownN_below hoo14 hbv6 (Nat.le_refl _)
  replace hxo1 := blk_bel hxo1 hbv6
  replace hxo10 := blk_bel hxo10 hbv6
  replace HB := HB.trans (hbv6.mono HB.size)
  have hszv6 := hbv6.size
  have qo1_0 := blk_cell hxo1 0 rfl
  have qo1_1 := blk_cell hxo1 1 rfl
  have qo1_2 := blk_cell hxo1 2 rfl
  have hlo1 := blk_lt hxo1
  have qo10_0 := blk_cell hxo10 0 rfl
  have qo10_1 := blk_cell hxo10 1 rfl
  have qo10_2 := blk_cell hxo10 2 rfl
  have hlo10 := blk_lt hxo10
  go_wp2_with fail
  refine (eqInt64SS_same _ _ _ _ r1 hoo12.rdl (by omega) _ _ _ hoo5.rdl).mono ?_
  rintro e v7 ⟨rfl, hbv7⟩
  clear qo1_0 qo1_1 qo1_2 qo10_0 qo10_1 qo10_2 hlo1 hlo10
  (try replace hbv7 := und1 hbv7)
  (try replace hbv7 := undN hbv7)
  replace hoo2 := ownN_below hoo2 hbv7 (Nat.le_refl _)
  replace hoo3 := hoo3.below hbv7
  replace hoo4 := hoo4.below hbv7
  replace hoo5 := hoo5.below hbv7
  replace hoo6 := hoo6.below hbv7
  replace hoo7 := ownN_below hoo7 hbv7 (Nat.le_refl _)
  replace hoo8 := ownN_below hoo8 hbv7 (Nat.le_refl _)
  replace hoo9 := hoo9.below hbv7
  replace hoo11 := hoo11.below hbv7
  replace hoo12 := hoo12.below hbv7
  replace hoo13 := hoo13.below hbv7
  replace hoo14 := ownN_below hoo14 hbv7 (Nat.le_refl _)
  replace hxo1 := blk_bel hxo1 hbv7
  replace hxo10 := blk_bel hxo10 hbv7
  replace HB := HB.trans (hbv7.mono HB.size)
  have hszv7 := hbv7.size
  have qo1_0 := blk_cell hxo1 0 rfl
  have qo1_1 := blk_cell hxo1 1 rfl
  have qo1_2 := blk_cell hxo1 2 rfl
  have hlo1 := blk_lt hxo1
  have qo10_0 := blk_cell hxo10 0 rfl
  have qo10_1 := blk_cell hxo10 1 rfl
  have qo10_2 := blk_cell hxo10 2 rfl
  have hlo10 := blk_lt hxo10
  go_wp2_with fail
  refine (eqInt64SS_same _ _ _ _ r2 hoo13.rdl (by omega) _ _ _ hoo6.rdl).mono ?_
  rintro e v8 ⟨rfl, hbv8⟩
  clear qo1_0 qo1_1 qo1_2 qo10_0 qo10_1 qo10_2 hlo1 hlo10
  (try replace hbv8 := und1 hbv8)
  (try replace hbv8 := undN hbv8)
  replace hoo2 := ownN_below hoo2 hbv8 (Nat.le_refl _)
  replace hoo3 := hoo3.below hbv8
  replace hoo4 := hoo4.below hbv8
  replace hoo5 := hoo5.below hbv8
  replace hoo6 := hoo6.below hbv8
  replace hoo7 := ownN_below hoo7 hbv8 (Nat.le_refl _)
  replace hoo8 := ownN_below hoo8 hbv8 (Nat.le_refl _)
  replace hoo9 := hoo9.below hbv8
  replace hoo11 := hoo11.below hbv8
  replace hoo12 := hoo12.below hbv8
  replace hoo13 := hoo13.below hbv8
  replace hoo14 := ownN_below hoo14 hbv8 (Nat.le_refl _)
  replace hxo1 := blk_bel hxo1 hbv8
  replace hxo10 := blk_bel hxo10 hbv8
  replace HB := HB.trans (hbv8.mono HB.size)
  have hszv8 := hbv8.size
  have qo1_0 := blk_cell hxo1 0 rfl
  have qo1_1 := blk_cell hxo1 1 rfl
  have qo1_2 := blk_cell hxo1 2 rfl
  have hlo1 := blk_lt hxo1
  have qo10_0 := blk_cell hxo10 0 rfl
  have qo10_1 := blk_cell hxo10 1 rfl
  have qo10_2 := blk_cell hxo10 2 rfl
  have hlo10 := blk_lt hxo10
  go_wp2_with fail
  refine (eqInt64S_same _ _ _ _ r3 (own_rd hoo14) (by omega) _ _ _ (own_rd hoo7)).mono ?_
  rintro e v9 ⟨rfl, hbv9⟩
  clear qo1_0 qo1_1 qo1_2 qo10_0 qo10_1 qo10_2 hlo1 hlo10
  (try replace hbv9 := und1 hbv9)
  (try replace hbv9 := undN hbv9)
  replace hoo2 := ownN_below hoo2 hbv9 (Nat.le_refl _)
  replace hoo3 := hoo3.below hbv9
  replace hoo4 := hoo4.below hbv9
  replace hoo5 := hoo5.below hbv9
  replace hoo6 := hoo6.below hbv9
  replace hoo7 := ownN_below hoo7 hbv9 (Nat.le_refl _)
  replace hoo8 := ownN_below hoo8 hbv9 (Nat.le_refl _)
  replace hoo9 := hoo9.below hbv9
  replace hoo11 := hoo11.below hbv9
  replace hoo12 := hoo12.below hbv9
  replace hoo13 := hoo13.below hbv9
  replace hoo14 := ownN_below hoo14 hbv9 (Nat.le_refl _)
  replace hxo1 := blk_bel hxo1 hbv9
  replace hxo10 := blk_bel hxo10 hbv9
  replace HB := HB.trans (hbv9.mono HB.size)
  have hszv9 := hbv9.size
  have qo1_0 := blk_cell hxo1 0 rfl
  have qo1_1 := blk_cell hxo1 1 rfl
  have qo1_2 := blk_cell hxo1 2 rfl
  have hlo1 := blk_lt hxo1
  have qo10_0 := blk_cell hxo10 0 rfl
  have qo10_1 := blk_cell hxo10 1 rfl
  have qo10_2 := blk_cell hxo10 2 rfl
  have hlo10 := blk_lt hxo10
  go_wp2_with fail
  go_region_held3 (fun w' => w'.cell? ⟨v4.heap.size, 0, none⟩ = some (.int .i64 x0_0) ∧ w'.cell? ⟨v4.heap.size, 1, none⟩ = some (.slice Ao8 no8 co8) ∧ w'.cell? ⟨v4.heap.size, 2, none⟩ = some (.slice Ao9 no9 co9) ∧ w'.cell? ⟨w.heap.size, 0, none⟩ = some (.int .i64 x0_0) ∧ w'.cell? ⟨w.heap.size, 1, none⟩ = some (.slice A0_1 n0_1 c0_1) ∧ w'.cell? ⟨w.heap.size, 2, none⟩ = some (.slice A0_2 n0_2 c0_2)) (first | exact ⟨qo10_0, qo10_1, qo10_2, qo1_0, qo1_1, qo1_2⟩ | go_keep) (first
    | (go_at_call 30
       refine (toProof_any _ x0_0 _ _ _ x0_1 (by have h := (hr0_1.below HB (Nat.le_refl _)); first | exact h | exact h.below (below_new _ _) (Nat.le_refl _) | exact h.below (below_drew1 (below_new _ _)) (Nat.le_refl _)) (by omega) _ _ _ x0_2 (by have h := (hr0_2.below HB (Nat.le_refl _)); first | exact h | exact h.below (below_new _ _) (Nat.le_refl _) | exact h.below (below_drew1 (below_new _ _)) (Nat.le_refl _)) (by omega)).mono ?_
       rintro e v10 ⟨Ao15, no15, co15, Ao16, no16, co16, Fo16, rfl, hoo15, hoo16, hFo16, hdo15o16, hbv10⟩
       have hno15 : no15 ≤ 1048576 := by have h1 := hoo15.1; simp only [List.length_map] at h1; have h2 := HXL0_1.out; omega
       have hno16 : no16 ≤ 1048576 := by have h1 := hoo16.len; have h2 := HXL0_2.out; omega
       have hrgo15 := Lib.hid (rg_row hoo15)
       have hrgo16 := Lib.hid hFo16; clear hFo16
       have HDo15o16 := Lib.hid hdo15o16; clear hdo15o16
       clear qo1_0 qo1_1 qo1_2 qo10_0 qo10_1 qo10_2 hlo1 hlo10
       (try replace hbv10 := und1 hbv10)
       (try replace hbv10 := undN hbv10)
       replace hoo2 := ownN_below hoo2 hbv10 (Nat.le_refl _)
       replace hoo3 := hoo3.below hbv10
       replace hoo4 := hoo4.below hbv10
       replace hoo5 := hoo5.below hbv10
       replace hoo6 := hoo6.below hbv10
       replace hoo7 := ownN_below hoo7 hbv10 (Nat.le_refl _)
       replace hoo8 := ownN_below hoo8 hbv10 (Nat.le_refl _)
       replace hoo9 := hoo9.below hbv10
       replace hoo11 := hoo11.below hbv10
       replace hoo12 := hoo12.below hbv10
       replace hoo13 := hoo13.below hbv10
       replace hoo14 := ownN_below hoo14 hbv10 (Nat.le_refl _)
       replace hxo1 := blk_bel hxo1 hbv10
       replace hxo10 := blk_bel hxo10 hbv10
       replace HB := HB.trans (hbv10.mono HB.size)
       have hszv10 := hbv10.size
       have qo1_0 := blk_cell hxo1 0 rfl
       have qo1_1 := blk_cell hxo1 1 rfl
       have qo1_2 := blk_cell hxo1 2 rfl
       have hlo1 := blk_lt hxo1
       have qo10_0 := blk_cell hxo10 0 rfl
       have qo10_1 := blk_cell hxo10 1 rfl
       have qo10_2 := blk_cell hxo10 2 rfl
       have hlo10 := blk_lt hxo10
       replace hrgo15 := Lib.hid (rg_lo hrgo15.out (lo := v9.heap.size + 0) (hi := v10.heap.size) (by first | exact Nat.le_refl _ | exact le_al1 | (simp; done) | (simp; omega)) (Nat.le_refl _))
       replace hrgo16 := Lib.hid (rg_lo hrgo16.out (lo := v9.heap.size + 0) (hi := v10.heap.size) (by first | exact Nat.le_refl _ | exact le_al1 | (simp; done) | (simp; omega)) (Nat.le_refl _))
       )
    | (go_at_call 32
       refine (eqProof_same _ _ _ _ _ x0_1 (by have h := (own_rd hoo8); first | exact h | exact h.below (below_new _ _) (Nat.le_refl _) | exact h.below (below_drew1 (below_new _ _)) (Nat.le_refl _)) (by omega) _ _ _ (by have h := (own_rd hoo15); first | exact h | exact h.below (below_new _ _) (Nat.le_refl _) | exact h.below (below_drew1 (below_new _ _)) (Nat.le_refl _)) _ _ _ x0_2 (by have h := hoo9.rdl; first | exact h | exact h.below (below_new _ _) (Nat.le_refl _) | exact h.below (below_drew1 (below_new _ _)) (Nat.le_refl _)) (by omega) _ _ _ (by have h := hoo16.rdl; first | exact h | exact h.below (below_new _ _) (Nat.le_refl _) | exact h.below (below_drew1 (below_new _ _)) (Nat.le_refl _))).mono ?_
       rintro e v11 ⟨rfl, hbv11⟩
       clear qo1_0 qo1_1 qo1_2 qo10_0 qo10_1 qo10_2 hlo1 hlo10
       (try replace hbv11 := und1 hbv11)
       (try replace hbv11 := undN hbv11)
       replace hoo2 := ownN_below hoo2 hbv11 (Nat.le_refl _)
       replace hoo3 := hoo3.below hbv11
       replace hoo4 := hoo4.below hbv11
       replace hoo5 := hoo5.below hbv11
       replace hoo6 := hoo6.below hbv11
       replace hoo7 := ownN_below hoo7 hbv11 (Nat.le_refl _)
       replace hoo8 := ownN_below hoo8 hbv11 (Nat.le_refl _)
       replace hoo9 := hoo9.below hbv11
       replace hoo11 := hoo11.below hbv11
       replace hoo12 := hoo12.below hbv11
       replace hoo13 := hoo13.below hbv11
       replace hoo14 := ownN_below hoo14 hbv11 (Nat.le_refl _)
       replace hoo15 := ownN_below hoo15 hbv11 (Nat.le_refl _)
       replace hoo16 := hoo16.below hbv11
       replace hxo1 := blk_bel hxo1 hbv11
       replace hxo10 := blk_bel hxo10 hbv11
       replace HB := HB.trans (hbv11.mono HB.size)
       have hszv11 := hbv11.size
       have qo1_0 := blk_cell hxo1 0 rfl
       have qo1_1 := blk_cell hxo1 1 rfl
       have qo1_2 := blk_cell hxo1 2 rfl
       have hlo1 := blk_lt hxo1
       have qo10_0 := blk_cell hxo10 0 rfl
       have qo10_1 := blk_cell hxo10 1 rfl
       have qo10_2 := blk_cell hxo10 2 rfl
       have hlo10 := blk_lt hxo10
       )
    )
  go_wp2_with fail
  have hTv12o9 : tot x0_2 ≤ 1048576 := by have := HTX0_2.out; omega
  refine (markProof_any _ _ _ _ _ _ _ hoo8 (by omega) _ _ _ _ x0_2 hoo9 (by omega) (by omega) HDo8o9.out (1) (by omega) (by omega)).mono ?_
  rintro e v12 ⟨rfl, hmo8, hmo9, hCv12⟩
  clear qo1_0 qo1_1 qo1_2 qo10_0 qo10_1 qo10_2 hlo1 hlo10
  replace hoo2 := own_ch hoo2 hCv12 (fun k h1 h => h.elim (fun h2 => (by have := hrgo2.out k h1; have := hrgo8.out k h2; omega)) (fun h2 => (by have := hrgo2.out k h1; have := hrgo9.out k h2; omega)))
  replace hoo3 := hoo3.ch hCv12 (fun k h1 h => h.elim (fun h2 => (by have := hrgo3.out k h1; have := hrgo8.out k h2; omega)) (fun h2 => (by have := hrgo3.out k h1; have := hrgo9.out k h2; omega)))
  replace hoo4 := hoo4.ch hCv12 (fun k h1 h => h.elim (fun h2 => (by have := hrgo4.out k h1; have := hrgo8.out k h2; omega)) (fun h2 => (by have := hrgo4.out k h1; have := hrgo9.out k h2; omega)))
  replace hoo5 := hoo5.ch hCv12 (fun k h1 h => h.elim (fun h2 => (by have := hrgo5.out k h1; have := hrgo8.out k h2; omega)) (fun h2 => (by have := hrgo5.out k h1; have := hrgo9.out k h2; omega)))
  replace hoo6 := hoo6.ch hCv12 (fun k h1 h => h.elim (fun h2 => (by have := hrgo6.out k h1; have := hrgo8.out k h2; omega)) (fun h2 => (by have := hrgo6.out k h1; have := hrgo9.out k h2; omega)))
  replace hoo7 := own_ch hoo7 hCv12 (fun k h1 h => h.elim (fun h2 => (by have := hrgo7.out k h1; have := hrgo8.out k h2; omega)) (fun h2 => (by have := hrgo7.out k h1; have := hrgo9.out k h2; omega)))
  replace hoo11 := hoo11.ch hCv12 (fun k h1 h => h.elim (fun h2 => (by have := hrgo11.out k h1; have := hrgo8.out k h2; omega)) (fun h2 => (by have := hrgo11.out k h1; have := hrgo9.out k h2; omega)))
  replace hoo12 := hoo12.ch hCv12 (fun k h1 h => h.elim (fun h2 => (by have := hrgo12.out k h1; have := hrgo8.out k h2; omega)) (fun h2 => (by have := hrgo12.out k h1; have := hrgo9.out k h2; omega)))
  replace hoo13 := hoo13.ch hCv12 (fun k h1 h => h.elim (fun h2 => (by have := hrgo13.out k h1; have := hrgo8.out k h2; omega)) (fun h2 => (by have := hrgo13.out k h1; have := hrgo9.out k h2; omega)))
  replace hoo14 := own_ch hoo14 hCv12 (fun k h1 h => h.elim (fun h2 => (by have := hrgo14.out k h1; have := hrgo8.out k h2; omega)) (fun h2 => (by have := hrgo14.out k h1; have := hrgo9.out k h2; omega)))
  replace hoo15 := own_ch hoo15 hCv12 (fun k h1 h => h.elim (fun h2 => (by have := hrgo15.out k h1; have := hrgo8.out k h2; omega)) (fun h2 => (by have := hrgo15.out k h1; have := hrgo9.out k h2; omega)))
  replace hoo16 := hoo16.ch hCv12 (fun k h1 h => h.elim (fun h2 => (by have := hrgo16.out k h1; have := hrgo8.out k h2; omega)) (fun h2 => (by have := hrgo16.out k h1; have := hrgo9.out k h2; omega)))
  replace hxo1 := blk_ch hxo1 hCv12 (fun h => h.elim (fun h => by have := hrgo8.out _ h; omega) (fun h => by have := hrgo9.out _ h; omega))
  replace hxo10 := blk_ch hxo10 hCv12 (fun h => h.elim (fun h => by have := hrgo8.out _ h; omega) (fun h => by have := hrgo9.out _ h; omega))
  replace HB := below_ch HB hCv12 (fun k h => h.elim (fun h => by have := hrgo8.out k h; omega) (fun h => by have := hrgo9.out k h; omega)) HB.size
  replace hoo8 := hmo8
  replace hoo9 := hmo9
  have hszv12 := hCv12.size
  have qo1_0 := blk_cell hxo1 0 rfl
  have qo1_1 := blk_cell hxo1 1 rfl
  have qo1_2 := blk_cell hxo1 2 rfl
  have hlo1 := blk_lt hxo1
  have qo10_0 := blk_cell hxo10 0 rfl
  have qo10_1 := blk_cell hxo10 1 rfl
  have qo10_2 := blk_cell hxo10 2 rfl
  have hlo10 := blk_lt hxo10
  go_wp2_with fail
  refine (eqInt64SS_same _ _ _ _ r0 hoo11.rdl (by omega) _ _ _ hoo4.rdl).mono ?_
  rintro e v13 ⟨rfl, hbv13⟩
  clear qo1_0 qo1_1 qo1_2 qo10_0 qo10_1 qo10_2 hlo1 hlo10
  (try replace hbv13 := und1 hbv13)
  (try replace hbv13 := undN hbv13)
  replace hoo2 := ownN_below hoo2 hbv13 (Nat.le_refl _)
  replace hoo3 := hoo3.below hbv13
  replace hoo4 := hoo4.below hbv13
  replace hoo5 := hoo5.below hbv13
  replace hoo6 := hoo6.below hbv13
  replace hoo7 := ownN_below hoo7 hbv13 (Nat.le_refl _)
  replace hoo8 := ownN_below hoo8 hbv13 (Nat.le_refl _)
  replace hoo9 := hoo9.below hbv13
  replace hoo11 := hoo11.below hbv13
  replace hoo12 := hoo12.below hbv13
  replace hoo13 := hoo13.below hbv13
  replace hoo14 := ownN_below hoo14 hbv13 (Nat.le_refl _)
  replace hoo15 := ownN_below hoo15 hbv13 (Nat.le_refl _)
  replace hoo16 := hoo16.below hbv13
  replace hxo1 := blk_bel hxo1 hbv13
  replace hxo10 := blk_bel hxo10 hbv13
  replace HB := HB.trans (hbv13.mono HB.size)
  have hszv13 := hbv13.size
  have qo1_0 := blk_cell hxo1 0 rfl
  have qo1_1 := blk_cell hxo1 1 rfl
  have qo1_2 := blk_cell hxo1 2 rfl
  have hlo1 := blk_lt hxo1
  have qo10_0 := blk_cell hxo10 0 rfl
  have qo10_1 := blk_cell hxo10 1 rfl
  have qo10_2 := blk_cell hxo10 2 rfl
  have hlo10 := blk_lt hxo10
  go_wp2_with fail
  refine (eqInt64SS_same _ _ _ _ r1 hoo12.rdl (by omega) _ _ _ hoo5.rdl).mono ?_
  rintro e v14 ⟨rfl, hbv14⟩
  clear qo1_0 qo1_1 qo1_2 qo10_0 qo10_1 qo10_2 hlo1 hlo10
  (try replace hbv14 := und1 hbv14)
  (try replace hbv14 := undN hbv14)
  replace hoo2 := ownN_below hoo2 hbv14 (Nat.le_refl _)
  replace hoo3 := hoo3.below hbv14
  replace hoo4 := hoo4.below hbv14
  replace hoo5 := hoo5.below hbv14
  replace hoo6 := hoo6.below hbv14
  replace hoo7 := ownN_below hoo7 hbv14 (Nat.le_refl _)
  replace hoo8 := ownN_below hoo8 hbv14 (Nat.le_refl _)
  replace hoo9 := hoo9.below hbv14
  replace hoo11 := hoo11.below hbv14
  replace hoo12 := hoo12.below hbv14
  replace hoo13 := hoo13.below hbv14
  replace hoo14 := ownN_below hoo14 hbv14 (Nat.le_refl _)
  replace hoo15 := ownN_below hoo15 hbv14 (Nat.le_refl _)
  replace hoo16 := hoo16.below hbv14
  replace hxo1 := blk_bel hxo1 hbv14
  replace hxo10 := blk_bel hxo10 hbv14
  replace HB := HB.trans (hbv14.mono HB.size)
  have hszv14 := hbv14.size
  have qo1_0 := blk_cell hxo1 0 rfl
  have qo1_1 := blk_cell hxo1 1 rfl
  have qo1_2 := blk_cell hxo1 2 rfl
  have hlo1 := blk_lt hxo1
  have qo10_0 := blk_cell hxo10 0 rfl
  have qo10_1 := blk_cell hxo10 1 rfl
  have qo10_2 := blk_cell hxo10 2 rfl
  have hlo10 := blk_lt hxo10
  go_wp2_with fail
  refine (eqInt64SS_same _ _ _ _ r2 hoo13.rdl (by omega) _ _ _ hoo6.rdl).mono ?_
  rintro e v15 ⟨rfl, hbv15⟩
  clear qo1_0 qo1_1 qo1_2 qo10_0 qo10_1 qo10_2 hlo1 hlo10
  (try replace hbv15 := und1 hbv15)
  (try replace hbv15 := undN hbv15)
  replace hoo2 := ownN_below hoo2 hbv15 (Nat.le_refl _)
  replace hoo3 := hoo3.below hbv15
  replace hoo4 := hoo4.below hbv15
  replace hoo5 := hoo5.below hbv15
  replace hoo6 := hoo6.below hbv15
  replace hoo7 := ownN_below hoo7 hbv15 (Nat.le_refl _)
  replace hoo8 := ownN_below hoo8 hbv15 (Nat.le_refl _)
  replace hoo9 := hoo9.below hbv15
  replace hoo11 := hoo11.below hbv15
  replace hoo12 := hoo12.below hbv15
  replace hoo13 := hoo13.below hbv15
  replace hoo14 := ownN_below hoo14 hbv15 (Nat.le_refl _)
  replace hoo15 := ownN_below hoo15 hbv15 (Nat.le_refl _)
  replace hoo16 := hoo16.below hbv15
  replace hxo1 := blk_bel hxo1 hbv15
  replace hxo10 := blk_bel hxo10 hbv15
  replace HB := HB.trans (hbv15.mono HB.size)
  have hszv15 := hbv15.size
  have qo1_0 := blk_cell hxo1 0 rfl
  have qo1_1 := blk_cell hxo1 1 rfl
  have qo1_2 := blk_cell hxo1 2 rfl
  have hlo1 := blk_lt hxo1
  have qo10_0 := blk_cell hxo10 0 rfl
  have qo10_1 := blk_cell hxo10 1 rfl
  have qo10_2 := blk_cell hxo10 2 rfl
  have hlo10 := blk_lt hxo10
  go_wp2_with fail
  refine (eqInt64S_same _ _ _ _ r3 (own_rd hoo14) (by omega) _ _ _ (own_rd hoo7)).mono ?_
  rintro e v16 ⟨rfl, hbv16⟩
  clear qo1_0 qo1_1 qo1_2 qo10_0 qo10_1 qo10_2 hlo1 hlo10
  (try replace hbv16 := und1 hbv16)
  (try replace hbv16 := undN hbv16)
  replace hoo2 := ownN_below hoo2 hbv16 (Nat.le_refl _)
  replace hoo3 := hoo3.below hbv16
  replace hoo4 := hoo4.below hbv16
  replace hoo5 := hoo5.below hbv16
  replace hoo6 := hoo6.below hbv16
  replace hoo7 := ownN_below hoo7 hbv16 (Nat.le_refl _)
  replace hoo8 := ownN_below hoo8 hbv16 (Nat.le_refl _)
  replace hoo9 := hoo9.below hbv16
  replace hoo11 := hoo11.below hbv16
  replace hoo12 := hoo12.below hbv16
  replace hoo13 := hoo13.below hbv16
  replace hoo14 := ownN_below hoo14 hbv16 (Nat.le_refl _)
  replace hoo15 := ownN_below hoo15 hbv16 (Nat.le_refl _)
  replace hoo16 := hoo16.below hbv16
  replace hxo1 := blk_bel hxo1 hbv16
  replace hxo10 := blk_bel hxo10 hbv16
  replace HB := HB.trans (hbv16.mono HB.size)
  have hszv16 := hbv16.size
  have qo1_0 := blk_cell hxo1 0 rfl
  have qo1_1 := blk_cell hxo1 1 rfl
  have qo1_2 := blk_cell hxo1 2 rfl
  have hlo1 := blk_lt hxo1
  have qo10_0 := blk_cell hxo10 0 rfl
  have qo10_1 := blk_cell hxo10 1 rfl
  have qo10_2 := blk_cell hxo10 2 rfl
  have hlo10 := blk_lt hxo10
  go_wp2_with fail
  have hTv17o11 : tot r0 ≤ 1048576 := by have := HRLR0.out.1; omega
  refine (markInt64SS_any _ _ _ _ _ r0 hoo11 (by omega) (by omega)  (1) (by omega) (by omega)).mono ?_
  rintro e v17 ⟨rfl, hmo11, hCv17⟩
  clear qo1_0 qo1_1 qo1_2 qo10_0 qo10_1 qo10_2 hlo1 hlo10
  replace hoo2 := own_ch hoo2 hCv17 (fun k h1 h2 => (by have := hrgo2.out k h1; have := hrgo11.out k h2; omega))
  replace hoo3 := hoo3.ch hCv17 (fun k h1 h2 => (by have := hrgo3.out k h1; have := hrgo11.out k h2; omega))
  replace hoo4 := hoo4.ch hCv17 (fun k h1 h2 => (by have := hrgo4.out k h1; have := hrgo11.out k h2; omega))
  replace hoo5 := hoo5.ch hCv17 (fun k h1 h2 => (by have := hrgo5.out k h1; have := hrgo11.out k h2; omega))
  replace hoo6 := hoo6.ch hCv17 (fun k h1 h2 => (by have := hrgo6.out k h1; have := hrgo11.out k h2; omega))
  replace hoo7 := own_ch hoo7 hCv17 (fun k h1 h2 => (by have := hrgo7.out k h1; have := hrgo11.out k h2; omega))
  replace hoo8 := own_ch hoo8 hCv17 (fun k h1 h2 => (by have := hrgo8.out k h1; have := hrgo11.out k h2; omega))
  replace hoo9 := hoo9.ch hCv17 (fun k h1 h2 => (by have := hrgo9.out k h1; have := hrgo11.out k h2; omega))
  replace hoo12 := hoo12.ch hCv17 (fun k h1 h2 => (HDo11o12.out k h2 h1))
  replace hoo13 := hoo13.ch hCv17 (fun k h1 h2 => (HDo11o13.out k h2 h1))
  replace hoo14 := own_ch hoo14 hCv17 (fun k h1 h2 => (HDo11o14.out k h2 h1))
  replace hoo15 := own_ch hoo15 hCv17 (fun k h1 h2 => (by have := hrgo15.out k h1; have := hrgo11.out k h2; omega))
  replace hoo16 := hoo16.ch hCv17 (fun k h1 h2 => (by have := hrgo16.out k h1; have := hrgo11.out k h2; omega))
  replace hxo1 := blk_ch hxo1 hCv17 (fun h => by have := hrgo11.out _ h; omega)
  replace hxo10 := blk_ch hxo10 hCv17 (fun h => by have := hrgo11.out _ h; omega)
  replace HB := below_ch HB hCv17 (fun k h => by have := hrgo11.out k h; omega) HB.size
  replace hoo11 := hmo11
  have hszv17 := hCv17.size
  have qo1_0 := blk_cell hxo1 0 rfl
  have qo1_1 := blk_cell hxo1 1 rfl
  have qo1_2 := blk_cell hxo1 2 rfl
  have hlo1 := blk_lt hxo1
  have qo10_0 := blk_cell hxo10 0 rfl
  have qo10_1 := blk_cell hxo10 1 rfl
  have qo10_2 := blk_cell hxo10 2 rfl
  have hlo10 := blk_lt hxo10
  go_wp2_with fail
  have hTv18o12 : tot r1 ≤ 1048576 := by have := HRLR1.out.1; omega
  refine (markInt64SS_any _ _ _ _ _ r1 hoo12 (by omega) (by omega)  (1 + (tot r0 : Int)) (by omega) (by omega)).mono ?_
  rintro e v18 ⟨rfl, hmo12, hCv18⟩
  clear qo1_0 qo1_1 qo1_2 qo10_0 qo10_1 qo10_2 hlo1 hlo10
  replace hoo2 := own_ch hoo2 hCv18 (fun k h1 h2 => (by have := hrgo2.out k h1; have := hrgo12.out k h2; omega))
  replace hoo3 := hoo3.ch hCv18 (fun k h1 h2 => (by have := hrgo3.out k h1; have := hrgo12.out k h2; omega))
  replace hoo4 := hoo4.ch hCv18 (fun k h1 h2 => (by have := hrgo4.out k h1; have := hrgo12.out k h2; omega))
  replace hoo5 := hoo5.ch hCv18 (fun k h1 h2 => (by have := hrgo5.out k h1; have := hrgo12.out k h2; omega))
  replace hoo6 := hoo6.ch hCv18 (fun k h1 h2 => (by have := hrgo6.out k h1; have := hrgo12.out k h2; omega))
  replace hoo7 := own_ch hoo7 hCv18 (fun k h1 h2 => (by have := hrgo7.out k h1; have := hrgo12.out k h2; omega))
  replace hoo8 := own_ch hoo8 hCv18 (fun k h1 h2 => (by have := hrgo8.out k h1; have := hrgo12.out k h2; omega))
  replace hoo9 := hoo9.ch hCv18 (fun k h1 h2 => (by have := hrgo9.out k h1; have := hrgo12.out k h2; omega))
  replace hoo11 := hoo11.ch hCv18 (fun k h1 h2 => (HDo11o12.out k h1 h2))
  replace hoo13 := hoo13.ch hCv18 (fun k h1 h2 => (HDo12o13.out k h2 h1))
  replace hoo14 := own_ch hoo14 hCv18 (fun k h1 h2 => (HDo12o14.out k h2 h1))
  replace hoo15 := own_ch hoo15 hCv18 (fun k h1 h2 => (by have := hrgo15.out k h1; have := hrgo12.out k h2; omega))
  replace hoo16 := hoo16.ch hCv18 (fun k h1 h2 => (by have := hrgo16.out k h1; have := hrgo12.out k h2; omega))
  replace hxo1 := blk_ch hxo1 hCv18 (fun h => by have := hrgo12.out _ h; omega)
  replace hxo10 := blk_ch hxo10 hCv18 (fun h => by have := hrgo12.out _ h; omega)
  replace HB := below_ch HB hCv18 (fun k h => by have := hrgo12.out k h; omega) HB.size
  replace hoo12 := hmo12
  have hszv18 := hCv18.size
  have qo1_0 := blk_cell hxo1 0 rfl
  have qo1_1 := blk_cell hxo1 1 rfl
  have qo1_2 := blk_cell hxo1 2 rfl
  have hlo1 := blk_lt hxo1
  have qo10_0 := blk_cell hxo10 0 rfl
  have qo10_1 := blk_cell hxo10 1 rfl
  have qo10_2 := blk_cell hxo10 2 rfl
  have hlo10 := blk_lt hxo10
  go_wp2_with fail
  have hTv19o13 : tot r2 ≤ 1048576 := by have := HRLR2.out.1; omega
  refine (markInt64SS_anyK _ _ _ _ _ r2 hoo13 (by omega) (by omega)  (1 + (tot r0 : Int) + (tot r1 : Int)) (by omega) (by omega)).mono ?_
  rintro e v19 ⟨rfl, hmo13, hCv19⟩
  clear qo1_0 qo1_1 qo1_2 qo10_0 qo10_1 qo10_2 hlo1 hlo10
  replace hoo2 := own_ch hoo2 hCv19 (fun k h1 h2 => (by have := hrgo2.out k h1; have := hrgo13.out k h2; omega))
  replace hoo3 := hoo3.ch hCv19 (fun k h1 h2 => (by have := hrgo3.out k h1; have := hrgo13.out k h2; omega))
  replace hoo4 := hoo4.ch hCv19 (fun k h1 h2 => (by have := hrgo4.out k h1; have := hrgo13.out k h2; omega))
  replace hoo5 := hoo5.ch hCv19 (fun k h1 h2 => (by have := hrgo5.out k h1; have := hrgo13.out k h2; omega))
  replace hoo6 := hoo6.ch hCv19 (fun k h1 h2 => (by have := hrgo6.out k h1; have := hrgo13.out k h2; omega))
  replace hoo7 := own_ch hoo7 hCv19 (fun k h1 h2 => (by have := hrgo7.out k h1; have := hrgo13.out k h2; omega))
  replace hoo8 := own_ch hoo8 hCv19 (fun k h1 h2 => (by have := hrgo8.out k h1; have := hrgo13.out k h2; omega))
  replace hoo9 := hoo9.ch hCv19 (fun k h1 h2 => (by have := hrgo9.out k h1; have := hrgo13.out k h2; omega))
  replace hoo11 := hoo11.ch hCv19 (fun k h1 h2 => (HDo11o13.out k h1 h2))
  replace hoo12 := hoo12.ch hCv19 (fun k h1 h2 => (HDo12o13.out k h1 h2))
  replace hoo14 := own_ch hoo14 hCv19 (fun k h1 h2 => (HDo13o14.out k h2 h1))
  replace hoo15 := own_ch hoo15 hCv19 (fun k h1 h2 => (by have := hrgo15.out k h1; have := hrgo13.out k h2; omega))
  replace hoo16 := hoo16.ch hCv19 (fun k h1 h2 => (by have := hrgo16.out k h1; have := hrgo13.out k h2; omega))
  replace hxo1 := blk_ch hxo1 hCv19 (fun h => by have := hrgo13.out _ h; omega)
  replace hxo10 := blk_ch hxo10 hCv19 (fun h => by have := hrgo13.out _ h; omega)
  replace HB := below_ch HB hCv19 (fun k h => by have := hrgo13.out k h; omega) HB.size
  replace hoo13 := hmo13
  have hszv19 := hCv19.size
  have qo1_0 := blk_cell hxo1 0 rfl
  have qo1_1 := blk_cell hxo1 1 rfl
  have qo1_2 := blk_cell hxo1 2 rfl
  have hlo1 := blk_lt hxo1
  have qo10_0 := blk_cell hxo10 0 rfl
  have qo10_1 := blk_cell hxo10 1 rfl
  have qo10_2 := blk_cell hxo10 2 rfl
  have hlo10 := blk_lt hxo10
  go_wp2_with fail
  refine (markInt64S_any _ _ _ _ _ _ hoo14 (by omega)  (1 + (tot r0 : Int) + (tot r1 : Int) + (tot r2 : Int)) (by omega) (by omega)).mono ?_
  rintro e v20 ⟨rfl, hmo14, hCv20⟩
  clear qo1_0 qo1_1 qo1_2 qo10_0 qo10_1 qo10_2 hlo1 hlo10
  replace hCv20 := ch_row hCv20
  replace hoo2 := own_ch hoo2 hCv20 (fun k h1 h2 => (by have := hrgo2.out k h1; have := hrgo14.out k h2; omega))
  replace hoo3 := hoo3.ch hCv20 (fun k h1 h2 => (by have := hrgo3.out k h1; have := hrgo14.out k h2; omega))
  replace hoo4 := hoo4.ch hCv20 (fun k h1 h2 => (by have := hrgo4.out k h1; have := hrgo14.out k h2; omega))
  replace hoo5 := hoo5.ch hCv20 (fun k h1 h2 => (by have := hrgo5.out k h1; have := hrgo14.out k h2; omega))
  replace hoo6 := hoo6.ch hCv20 (fun k h1 h2 => (by have := hrgo6.out k h1; have := hrgo14.out k h2; omega))
  replace hoo7 := own_ch hoo7 hCv20 (fun k h1 h2 => (by have := hrgo7.out k h1; have := hrgo14.out k h2; omega))
  replace hoo8 := own_ch hoo8 hCv20 (fun k h1 h2 => (by have := hrgo8.out k h1; have := hrgo14.out k h2; omega))
  replace hoo9 := hoo9.ch hCv20 (fun k h1 h2 => (by have := hrgo9.out k h1; have := hrgo14.out k h2; omega))
  replace hoo11 := hoo11.ch hCv20 (fun k h1 h2 => (HDo11o14.out k h1 h2))
  replace hoo12 := hoo12.ch hCv20 (fun k h1 h2 => (HDo12o14.out k h1 h2))
  replace hoo13 := hoo13.ch hCv20 (fun k h1 h2 => (HDo13o14.out k h1 h2))
  replace hoo15 := own_ch hoo15 hCv20 (fun k h1 h2 => (by have := hrgo15.out k h1; have := hrgo14.out k h2; omega))
  replace hoo16 := hoo16.ch hCv20 (fun k h1 h2 => (by have := hrgo16.out k h1; have := hrgo14.out k h2; omega))
  replace hxo1 := blk_ch hxo1 hCv20 (fun h => by have := hrgo14.out _ h; omega)
  replace hxo10 := blk_ch hxo10 hCv20 (fun h => by have := hrgo14.out _ h; omega)
  replace HB := below_ch HB hCv20 (fun k h => by have := hrgo14.out k h; omega) HB.size
  replace hoo14 := hmo14
  have hszv20 := hCv20.size
  have qo1_0 := blk_cell hxo1 0 rfl
  have qo1_1 := blk_cell hxo1 1 rfl
  have qo1_2 := blk_cell hxo1 2 rfl
  have hlo1 := blk_lt hxo1
  have qo10_0 := blk_cell hxo10 0 rfl
  have qo10_1 := blk_cell hxo10 1 rfl
  have qo10_2 := blk_cell hxo10 2 rfl
  have hlo10 := blk_lt hxo10
  go_wp2_with fail
  have hTv21o11 : tot r0 ≤ 1048576 := by have := HRLR0.out.1; omega
  refine (heldInt64SS_any _ _ _ _ r0 (1) hoo11.rdl (by omega) (by omega) (by omega) (by omega)).mono ?_
  rintro e v21 ⟨rfl, hbv21⟩
  clear qo1_0 qo1_1 qo1_2 qo10_0 qo10_1 qo10_2 hlo1 hlo10
  (try replace hbv21 := und1 hbv21)
  (try replace hbv21 := undN hbv21)
  replace hoo2 := ownN_below hoo2 hbv21 (Nat.le_refl _)
  replace hoo3 := hoo3.below hbv21
  replace hoo4 := hoo4.below hbv21
  replace hoo5 := hoo5.below hbv21
  replace hoo6 := hoo6.below hbv21
  replace hoo7 := ownN_below hoo7 hbv21 (Nat.le_refl _)
  replace hoo8 := ownN_below hoo8 hbv21 (Nat.le_refl _)
  replace hoo9 := hoo9.below hbv21
  replace hoo11 := hoo11.below hbv21
  replace hoo12 := hoo12.below hbv21
  replace hoo13 := hoo13.below hbv21
  replace hoo14 := ownN_below hoo14 hbv21 (Nat.le_refl _)
  replace hoo15 := ownN_below hoo15 hbv21 (Nat.le_refl _)
  replace hoo16 := hoo16.below hbv21
  replace hxo1 := blk_bel hxo1 hbv21
  replace hxo10 := blk_bel hxo10 hbv21
  replace HB := HB.trans (hbv21.mono HB.size)
  have hszv21 := hbv21.size
  have qo1_0 := blk_cell hxo1 0 rfl
  have qo1_1 := blk_cell hxo1 1 rfl
  have qo1_2 := blk_cell hxo1 2 rfl
  have hlo1 := blk_lt hxo1
  have qo10_0 := blk_cell hxo10 0 rfl
  have qo10_1 := blk_cell hxo10 1 rfl
  have qo10_2 := blk_cell hxo10 2 rfl
  have hlo10 := blk_lt hxo10
  go_wp2_with fail
  have hTv22o12 : tot r1 ≤ 1048576 := by have := HRLR1.out.1; omega
  refine (heldInt64SS_any _ _ _ _ r1 (1 + (tot r0 : Int)) hoo12.rdl (by omega) (by omega) (by omega) (by omega)).mono ?_
  rintro e v22 ⟨rfl, hbv22⟩
  clear qo1_0 qo1_1 qo1_2 qo10_0 qo10_1 qo10_2 hlo1 hlo10
  (try replace hbv22 := und1 hbv22)
  (try replace hbv22 := undN hbv22)
  replace hoo2 := ownN_below hoo2 hbv22 (Nat.le_refl _)
  replace hoo3 := hoo3.below hbv22
  replace hoo4 := hoo4.below hbv22
  replace hoo5 := hoo5.below hbv22
  replace hoo6 := hoo6.below hbv22
  replace hoo7 := ownN_below hoo7 hbv22 (Nat.le_refl _)
  replace hoo8 := ownN_below hoo8 hbv22 (Nat.le_refl _)
  replace hoo9 := hoo9.below hbv22
  replace hoo11 := hoo11.below hbv22
  replace hoo12 := hoo12.below hbv22
  replace hoo13 := hoo13.below hbv22
  replace hoo14 := ownN_below hoo14 hbv22 (Nat.le_refl _)
  replace hoo15 := ownN_below hoo15 hbv22 (Nat.le_refl _)
  replace hoo16 := hoo16.below hbv22
  replace hxo1 := blk_bel hxo1 hbv22
  replace hxo10 := blk_bel hxo10 hbv22
  replace HB := HB.trans (hbv22.mono HB.size)
  have hszv22 := hbv22.size
  have qo1_0 := blk_cell hxo1 0 rfl
  have qo1_1 := blk_cell hxo1 1 rfl
  have qo1_2 := blk_cell hxo1 2 rfl
  have hlo1 := blk_lt hxo1
  have qo10_0 := blk_cell hxo10 0 rfl
  have qo10_1 := blk_cell hxo10 1 rfl
  have qo10_2 := blk_cell hxo10 2 rfl
  have hlo10 := blk_lt hxo10
  go_wp2_with fail
  have hTv23o13 : tot r2 ≤ 1048576 := by have := HRLR2.out.1; omega
  refine (heldInt64SS_any _ _ _ _ r2 (1 + (tot r0 : Int) + (tot r1 : Int)) hoo13.rdl (by omega) (by omega) (by omega) (by omega)).mono ?_
  rintro e v23 ⟨rfl, hbv23⟩
  clear qo1_0 qo1_1 qo1_2 qo10_0 qo10_1 qo10_2 hlo1 hlo10
  (try replace hbv23 := und1 hbv23)
  (try replace hbv23 := undN hbv23)
  replace hoo2 := ownN_below hoo2 hbv23 (Nat.le_refl _)
  replace hoo3 := hoo3.below hbv23
  replace hoo4 := hoo4.below hbv23
  replace hoo5 := hoo5.below hbv23
  replace hoo6 := hoo6.below hbv23
  replace hoo7 := ownN_below hoo7 hbv23 (Nat.le_refl _)
  replace hoo8 := ownN_below hoo8 hbv23 (Nat.le_refl _)
  replace hoo9 := hoo9.below hbv23
  replace hoo11 := hoo11.below hbv23
  replace hoo12 := hoo12.below hbv23
  replace hoo13 := hoo13.below hbv23
  replace hoo14 := ownN_below hoo14 hbv23 (Nat.le_refl _)
  replace hoo15 := ownN_below hoo15 hbv23 (Nat.le_refl _)
  replace hoo16 := hoo16.below hbv23
  replace hxo1 := blk_bel hxo1 hbv23
  replace hxo10 := blk_bel hxo10 hbv23
  replace HB := HB.trans (hbv23.mono HB.size)
  have hszv23 := hbv23.size
  have qo1_0 := blk_cell hxo1 0 rfl
  have qo1_1 := blk_cell hxo1 1 rfl
  have qo1_2 := blk_cell hxo1 2 rfl
  have hlo1 := blk_lt hxo1
  have qo10_0 := blk_cell hxo10 0 rfl
  have qo10_1 := blk_cell hxo10 1 rfl
  have qo10_2 := blk_cell hxo10 2 rfl
  have hlo10 := blk_lt hxo10
  go_wp2_with fail
  refine (heldInt64S_any _ _ _ _ (1 + (tot r0 : Int) + (tot r1 : Int) + (tot r2 : Int)) (own_rd hoo14) (by omega) (by omega) (by omega)).mono ?_
  rintro e v24 ⟨rfl, hbv24⟩
  clear qo1_0 qo1_1 qo1_2 qo10_0 qo10_1 qo10_2 hlo1 hlo10
  (try replace hbv24 := und1 hbv24)
  (try replace hbv24 := undN hbv24)
  replace hoo2 := ownN_below hoo2 hbv24 (Nat.le_refl _)
  replace hoo3 := hoo3.below hbv24
  replace hoo4 := hoo4.below hbv24
  replace hoo5 := hoo5.below hbv24
  replace hoo6 := hoo6.below hbv24
  replace hoo7 := ownN_below hoo7 hbv24 (Nat.le_refl _)
  replace hoo8 := ownN_below hoo8 hbv24 (Nat.le_refl _)
  replace hoo9 := hoo9.below hbv24
  replace hoo11 := hoo11.below hbv24
  replace hoo12 := hoo12.below hbv24
  replace hoo13 := hoo13.below hbv24
  replace hoo14 := ownN_below hoo14 hbv24 (Nat.le_refl _)
  replace hoo15 := ownN_below hoo15 hbv24 (Nat.le_refl _)
  replace hoo16 := hoo16.below hbv24
  replace hxo1 := blk_bel hxo1 hbv24
  replace hxo10 := blk_bel hxo10 hbv24
  replace HB := HB.trans (hbv24.mono HB.size)
  have hszv24 := hbv24.size
  have qo1_0 := blk_cell hxo1 0 rfl
  have qo1_1 := blk_cell hxo1 1 rfl
  have qo1_2 := blk_cell hxo1 2 rfl
  have hlo1 := blk_lt hxo1
  have qo10_0 := blk_cell hxo10 0 rfl
  have qo10_1 := blk_cell hxo10 1 rfl
  have qo10_2 := blk_cell hxo10 2 rfl
  have hlo10 := blk_lt hxo10
  go_wp2_with fail
  refine (toProof_any _ x0_0 _ _ _ x0_1 (hr0_1.below HB (Nat.le_refl _)) (by omega) _ _ _ x0_2 (hr0_2.below HB (Nat.le_refl _)) (by omega)).mono ?_
  rintro e v25 ⟨Ao17, no17, co17, Ao18, no18, co18, Fo18, rfl, hoo17, hoo18, hFo18, hdo17o18, hbv25⟩
  have hno17 : no17 ≤ 1048576 := by have h1 := hoo17.1; simp only [List.length_map] at h1; have h2 := HXL0_1.out; omega
  have hno18 : no18 ≤ 1048576 := by have h1 := hoo18.len; have h2 := HXL0_2.out; omega
  have hrgo17 := Lib.hid (rg_row hoo17)
  have hrgo18 := Lib.hid hFo18; clear hFo18
  have HDo17o18 := Lib.hid hdo17o18; clear hdo17o18
  clear qo1_0 qo1_1 qo1_2 qo10_0 qo10_1 qo10_2 hlo1 hlo10
  (try replace hbv25 := und1 hbv25)
  (try replace hbv25 := undN hbv25)
  replace hoo2 := ownN_below hoo2 hbv25 (Nat.le_refl _)
  replace hoo3 := hoo3.below hbv25
  replace hoo4 := hoo4.below hbv25
  replace hoo5 := hoo5.below hbv25
  replace hoo6 := hoo6.below hbv25
  replace hoo7 := ownN_below hoo7 hbv25 (Nat.le_refl _)
  replace hoo8 := ownN_below hoo8 hbv25 (Nat.le_refl _)
  replace hoo9 := hoo9.below hbv25
  replace hoo11 := hoo11.below hbv25
  replace hoo12 := hoo12.below hbv25
  replace hoo13 := hoo13.below hbv25
  replace hoo14 := ownN_below hoo14 hbv25 (Nat.le_refl _)
  replace hoo15 := ownN_below hoo15 hbv25 (Nat.le_refl _)
  replace hoo16 := hoo16.below hbv25
  replace hxo1 := blk_bel hxo1 hbv25
  replace hxo10 := blk_bel hxo10 hbv25
  replace HB := HB.trans (hbv25.mono HB.size)
  have hszv25 := hbv25.size
  have qo1_0 := blk_cell hxo1 0 rfl
  have qo1_1 := blk_cell hxo1 1 rfl
  have qo1_2 := blk_cell hxo1 2 rfl
  have hlo1 := blk_lt hxo1
  have qo10_0 := blk_cell hxo10 0 rfl
  have qo10_1 := blk_cell hxo10 1 rfl
  have qo10_2 := blk_cell hxo10 2 rfl
  have hlo10 := blk_lt hxo10
  replace hrgo17 := Lib.hid (rg_lo hrgo17.out (lo := v24.heap.size + 0) (hi := v25.heap.size) (by first | exact Nat.le_refl _ | exact le_al1 | (simp; done) | (simp; omega)) (Nat.le_refl _))
  replace hrgo18 := Lib.hid (rg_lo hrgo18.out (lo := v24.heap.size + 0) (hi := v25.heap.size) (by first | exact Nat.le_refl _ | exact le_al1 | (simp; done) | (simp; omega)) (Nat.le_refl _))
  go_wp2_with fail
  refine (HI.out _ _ _ _ (own_rd hoo17) (by omega) (ownN_cap hoo17) _ _ _ hoo18.rdl (by omega) hoo18.cap).mono ?_
  rintro e v26 ⟨Ao19, no19, co19, Fo19, Ao20, no20, co20, Fo20, Ao21, no21, co21, Fo21, Ao22, no22, co22, rfl, hoo19, hFo19, hoo20, hFo20, hoo21, hFo21, hoo22, hdo19o20, hdo19o21, hdo19o22, hdo20o21, hdo20o22, hdo21o22, hbv26⟩
  have hno19 : no19 ≤ 1000000 := by have h1 := hoo19.len; have h2 := HRLR0.out; omega
  have hno20 : no20 ≤ 1000000 := by have h1 := hoo20.len; have h2 := HRLR1.out; omega
  have hno21 : no21 ≤ 1000000 := by have h1 := hoo21.len; have h2 := HRLR2.out; omega
  have hno22 : no22 ≤ 1000000 := by have h1 := hoo22.1; simp only [List.length_map] at h1; have h2 := HRLR3.out; omega
  have hrgo19 := Lib.hid hFo19; clear hFo19
  have hrgo20 := Lib.hid hFo20; clear hFo20
  have hrgo21 := Lib.hid hFo21; clear hFo21
  have hrgo22 := Lib.hid (rg_row hoo22)
  have HDo19o20 := Lib.hid hdo19o20; clear hdo19o20
  have HDo19o21 := Lib.hid hdo19o21; clear hdo19o21
  have HDo19o22 := Lib.hid hdo19o22; clear hdo19o22
  have HDo20o21 := Lib.hid hdo20o21; clear hdo20o21
  have HDo20o22 := Lib.hid hdo20o22; clear hdo20o22
  have HDo21o22 := Lib.hid hdo21o22; clear hdo21o22
  clear qo1_0 qo1_1 qo1_2 qo10_0 qo10_1 qo10_2 hlo1 hlo10
  (try replace hbv26 := und1 hbv26)
  (try replace hbv26 := undN hbv26)
  replace hoo2 := ownN_below hoo2 hbv26 (Nat.le_refl _)
  replace hoo3 := hoo3.below hbv26
  replace hoo4 := hoo4.below hbv26
  replace hoo5 := hoo5.below hbv26
  replace hoo6 := hoo6.below hbv26
  replace hoo7 := ownN_below hoo7 hbv26 (Nat.le_refl _)
  replace hoo8 := ownN_below hoo8 hbv26 (Nat.le_refl _)
  replace hoo9 := hoo9.below hbv26
  replace hoo11 := hoo11.below hbv26
  replace hoo12 := hoo12.below hbv26
  replace hoo13 := hoo13.below hbv26
  replace hoo14 := ownN_below hoo14 hbv26 (Nat.le_refl _)
  replace hoo15 := ownN_below hoo15 hbv26 (Nat.le_refl _)
  replace hoo16 := hoo16.below hbv26
  replace hoo17 := ownN_below hoo17 hbv26 (Nat.le_refl _)
  replace hoo18 := hoo18.below hbv26
  replace hxo1 := blk_bel hxo1 hbv26
  replace hxo10 := blk_bel hxo10 hbv26
  replace HB := HB.trans (hbv26.mono HB.size)
  have hszv26 := hbv26.size
  have qo1_0 := blk_cell hxo1 0 rfl
  have qo1_1 := blk_cell hxo1 1 rfl
  have qo1_2 := blk_cell hxo1 2 rfl
  have hlo1 := blk_lt hxo1
  have qo10_0 := blk_cell hxo10 0 rfl
  have qo10_1 := blk_cell hxo10 1 rfl
  have qo10_2 := blk_cell hxo10 2 rfl
  have hlo10 := blk_lt hxo10
  replace hrgo19 := Lib.hid (rg_lo hrgo19.out (lo := v25.heap.size + 0) (hi := v26.heap.size) (by first | exact Nat.le_refl _ | exact le_al1 | (simp; done) | (simp; omega)) (Nat.le_refl _))
  replace hrgo20 := Lib.hid (rg_lo hrgo20.out (lo := v25.heap.size + 0) (hi := v26.heap.size) (by first | exact Nat.le_refl _ | exact le_al1 | (simp; done) | (simp; omega)) (Nat.le_refl _))
  replace hrgo21 := Lib.hid (rg_lo hrgo21.out (lo := v25.heap.size + 0) (hi := v26.heap.size) (by first | exact Nat.le_refl _ | exact le_al1 | (simp; done) | (simp; omega)) (Nat.le_refl _))
  replace hrgo22 := Lib.hid (rg_lo hrgo22.out (lo := v25.heap.size + 0) (hi := v26.heap.size) (by first | exact Nat.le_refl _ | exact le_al1 | (simp; done) | (simp; omega)) (Nat.le_refl _))
  go_wp2_with fail
  refine (eqInt64SS_same _ _ _ _ r0 hoo19.rdl (by omega) _ _ _ hoo4.rdl).mono ?_
  rintro e v27 ⟨rfl, hbv27⟩
  clear qo1_0 qo1_1 qo1_2 qo10_0 qo10_1 qo10_2 hlo1 hlo10
  (try replace hbv27 := und1 hbv27)
  (try replace hbv27 := undN hbv27)
  replace hoo2 := ownN_below hoo2 hbv27 (Nat.le_refl _)
  replace hoo3 := hoo3.below hbv27
  replace hoo4 := hoo4.below hbv27
  replace hoo5 := hoo5.below hbv27
  replace hoo6 := hoo6.below hbv27
  replace hoo7 := ownN_below hoo7 hbv27 (Nat.le_refl _)
  replace hoo8 := ownN_below hoo8 hbv27 (Nat.le_refl _)
  replace hoo9 := hoo9.below hbv27
  replace hoo11 := hoo11.below hbv27
  replace hoo12 := hoo12.below hbv27
  replace hoo13 := hoo13.below hbv27
  replace hoo14 := ownN_below hoo14 hbv27 (Nat.le_refl _)
  replace hoo15 := ownN_below hoo15 hbv27 (Nat.le_refl _)
  replace hoo16 := hoo16.below hbv27
  replace hoo17 := ownN_below hoo17 hbv27 (Nat.le_refl _)
  replace hoo18 := hoo18.below hbv27
  replace hoo19 := hoo19.below hbv27
  replace hoo20 := hoo20.below hbv27
  replace hoo21 := hoo21.below hbv27
  replace hoo22 := ownN_below hoo22 hbv27 (Nat.le_refl _)
  replace hxo1 := blk_bel hxo1 hbv27
  replace hxo10 := blk_bel hxo10 hbv27
  replace HB := HB.trans (hbv27.mono HB.size)
  have hszv27 := hbv27.size
  have qo1_0 := blk_cell hxo1 0 rfl
  have qo1_1 := blk_cell hxo1 1 rfl
  have qo1_2 := blk_cell hxo1 2 rfl
  have hlo1 := blk_lt hxo1
  have qo10_0 := blk_cell hxo10 0 rfl
  have qo10_1 := blk_cell hxo10 1 rfl
  have qo10_2 := blk_cell hxo10 2 rfl
  have hlo10 := blk_lt hxo10
  go_wp2_with fail
  refine (eqInt64SS_same _ _ _ _ r1 hoo20.rdl (by omega) _ _ _ hoo5.rdl).mono ?_
  rintro e v28 ⟨rfl, hbv28⟩
  clear qo1_0 qo1_1 qo1_2 qo10_0 qo10_1 qo10_2 hlo1 hlo10
  (try replace hbv28 := und1 hbv28)
  (try replace hbv28 := undN hbv28)
  replace hoo2 := ownN_below hoo2 hbv28 (Nat.le_refl _)
  replace hoo3 := hoo3.below hbv28
  replace hoo4 := hoo4.below hbv28
  replace hoo5 := hoo5.below hbv28
  replace hoo6 := hoo6.below hbv28
  replace hoo7 := ownN_below hoo7 hbv28 (Nat.le_refl _)
  replace hoo8 := ownN_below hoo8 hbv28 (Nat.le_refl _)
  replace hoo9 := hoo9.below hbv28
  replace hoo11 := hoo11.below hbv28
  replace hoo12 := hoo12.below hbv28
  replace hoo13 := hoo13.below hbv28
  replace hoo14 := ownN_below hoo14 hbv28 (Nat.le_refl _)
  replace hoo15 := ownN_below hoo15 hbv28 (Nat.le_refl _)
  replace hoo16 := hoo16.below hbv28
  replace hoo17 := ownN_below hoo17 hbv28 (Nat.le_refl _)
  replace hoo18 := hoo18.below hbv28
  replace hoo19 := hoo19.below hbv28
  replace hoo20 := hoo20.below hbv28
  replace hoo21 := hoo21.below hbv28
  replace hoo22 := ownN_below hoo22 hbv28 (Nat.le_refl _)
  replace hxo1 := blk_bel hxo1 hbv28
  replace hxo10 := blk_bel hxo10 hbv28
  replace HB := HB.trans (hbv28.mono HB.size)
  have hszv28 := hbv28.size
  have qo1_0 := blk_cell hxo1 0 rfl
  have qo1_1 := blk_cell hxo1 1 rfl
  have qo1_2 := blk_cell hxo1 2 rfl
  have hlo1 := blk_lt hxo1
  have qo10_0 := blk_cell hxo10 0 rfl
  have qo10_1 := blk_cell hxo10 1 rfl
  have qo10_2 := blk_cell hxo10 2 rfl
  have hlo10 := blk_lt hxo10
  go_wp2_with fail
  refine (eqInt64SS_same _ _ _ _ r2 hoo21.rdl (by omega) _ _ _ hoo6.rdl).mono ?_
  rintro e v29 ⟨rfl, hbv29⟩
  clear qo1_0 qo1_1 qo1_2 qo10_0 qo10_1 qo10_2 hlo1 hlo10
  (try replace hbv29 := und1 hbv29)
  (try replace hbv29 := undN hbv29)
  replace hoo2 := ownN_below hoo2 hbv29 (Nat.le_refl _)
  replace hoo3 := hoo3.below hbv29
  replace hoo4 := hoo4.below hbv29
  replace hoo5 := hoo5.below hbv29
  replace hoo6 := hoo6.below hbv29
  replace hoo7 := ownN_below hoo7 hbv29 (Nat.le_refl _)
  replace hoo8 := ownN_below hoo8 hbv29 (Nat.le_refl _)
  replace hoo9 := hoo9.below hbv29
  replace hoo11 := hoo11.below hbv29
  replace hoo12 := hoo12.below hbv29
  replace hoo13 := hoo13.below hbv29
  replace hoo14 := ownN_below hoo14 hbv29 (Nat.le_refl _)
  replace hoo15 := ownN_below hoo15 hbv29 (Nat.le_refl _)
  replace hoo16 := hoo16.below hbv29
  replace hoo17 := ownN_below hoo17 hbv29 (Nat.le_refl _)
  replace hoo18 := hoo18.below hbv29
  replace hoo19 := hoo19.below hbv29
  replace hoo20 := hoo20.below hbv29
  replace hoo21 := hoo21.below hbv29
  replace hoo22 := ownN_below hoo22 hbv29 (Nat.le_refl _)
  replace hxo1 := blk_bel hxo1 hbv29
  replace hxo10 := blk_bel hxo10 hbv29
  replace HB := HB.trans (hbv29.mono HB.size)
  have hszv29 := hbv29.size
  have qo1_0 := blk_cell hxo1 0 rfl
  have qo1_1 := blk_cell hxo1 1 rfl
  have qo1_2 := blk_cell hxo1 2 rfl
  have hlo1 := blk_lt hxo1
  have qo10_0 := blk_cell hxo10 0 rfl
  have qo10_1 := blk_cell hxo10 1 rfl
  have qo10_2 := blk_cell hxo10 2 rfl
  have hlo10 := blk_lt hxo10
  go_wp2_with fail
  refine (eqInt64S_same _ _ _ _ r3 (own_rd hoo22) (by omega) _ _ _ (own_rd hoo7)).mono ?_
  rintro e v30 ⟨rfl, hbv30⟩
  clear qo1_0 qo1_1 qo1_2 qo10_0 qo10_1 qo10_2 hlo1 hlo10
  (try replace hbv30 := und1 hbv30)
  (try replace hbv30 := undN hbv30)
  replace hoo2 := ownN_below hoo2 hbv30 (Nat.le_refl _)
  replace hoo3 := hoo3.below hbv30
  replace hoo4 := hoo4.below hbv30
  replace hoo5 := hoo5.below hbv30
  replace hoo6 := hoo6.below hbv30
  replace hoo7 := ownN_below hoo7 hbv30 (Nat.le_refl _)
  replace hoo8 := ownN_below hoo8 hbv30 (Nat.le_refl _)
  replace hoo9 := hoo9.below hbv30
  replace hoo11 := hoo11.below hbv30
  replace hoo12 := hoo12.below hbv30
  replace hoo13 := hoo13.below hbv30
  replace hoo14 := ownN_below hoo14 hbv30 (Nat.le_refl _)
  replace hoo15 := ownN_below hoo15 hbv30 (Nat.le_refl _)
  replace hoo16 := hoo16.below hbv30
  replace hoo17 := ownN_below hoo17 hbv30 (Nat.le_refl _)
  replace hoo18 := hoo18.below hbv30
  replace hoo19 := hoo19.below hbv30
  replace hoo20 := hoo20.below hbv30
  replace hoo21 := hoo21.below hbv30
  replace hoo22 := ownN_below hoo22 hbv30 (Nat.le_refl _)
  replace hxo1 := blk_bel hxo1 hbv30
  replace hxo10 := blk_bel hxo10 hbv30
  replace HB := HB.trans (hbv30.mono HB.size)
  have hszv30 := hbv30.size
  have qo1_0 := blk_cell hxo1 0 rfl
  have qo1_1 := blk_cell hxo1 1 rfl
  have qo1_2 := blk_cell hxo1 2 rfl
  have hlo1 := blk_lt hxo1
  have qo10_0 := blk_cell hxo10 0 rfl
  have qo10_1 := blk_cell hxo10 1 rfl
  have qo10_2 := blk_cell hxo10 2 rfl
  have hlo10 := blk_lt hxo10
  go_wp2_with fail
  have hTv31o11 : tot r0 ≤ 1048576 := by have := HRLR0.out.1; omega
  refine (heldInt64SS_any _ _ _ _ r0 (1) hoo11.rdl (by omega) (by omega) (by omega) (by omega)).mono ?_
  rintro e v31 ⟨rfl, hbv31⟩
  clear qo1_0 qo1_1 qo1_2 qo10_0 qo10_1 qo10_2 hlo1 hlo10
  (try replace hbv31 := und1 hbv31)
  (try replace hbv31 := undN hbv31)
  replace hoo2 := ownN_below hoo2 hbv31 (Nat.le_refl _)
  replace hoo3 := hoo3.below hbv31
  replace hoo4 := hoo4.below hbv31
  replace hoo5 := hoo5.below hbv31
  replace hoo6 := hoo6.below hbv31
  replace hoo7 := ownN_below hoo7 hbv31 (Nat.le_refl _)
  replace hoo8 := ownN_below hoo8 hbv31 (Nat.le_refl _)
  replace hoo9 := hoo9.below hbv31
  replace hoo11 := hoo11.below hbv31
  replace hoo12 := hoo12.below hbv31
  replace hoo13 := hoo13.below hbv31
  replace hoo14 := ownN_below hoo14 hbv31 (Nat.le_refl _)
  replace hoo15 := ownN_below hoo15 hbv31 (Nat.le_refl _)
  replace hoo16 := hoo16.below hbv31
  replace hoo17 := ownN_below hoo17 hbv31 (Nat.le_refl _)
  replace hoo18 := hoo18.below hbv31
  replace hoo19 := hoo19.below hbv31
  replace hoo20 := hoo20.below hbv31
  replace hoo21 := hoo21.below hbv31
  replace hoo22 := ownN_below hoo22 hbv31 (Nat.le_refl _)
  replace hxo1 := blk_bel hxo1 hbv31
  replace hxo10 := blk_bel hxo10 hbv31
  replace HB := HB.trans (hbv31.mono HB.size)
  have hszv31 := hbv31.size
  have qo1_0 := blk_cell hxo1 0 rfl
  have qo1_1 := blk_cell hxo1 1 rfl
  have qo1_2 := blk_cell hxo1 2 rfl
  have hlo1 := blk_lt hxo1
  have qo10_0 := blk_cell hxo10 0 rfl
  have qo10_1 := blk_cell hxo10 1 rfl
  have qo10_2 := blk_cell hxo10 2 rfl
  have hlo10 := blk_lt hxo10
  go_wp2_with fail
  have hTv32o12 : tot r1 ≤ 1048576 := by have := HRLR1.out.1; omega
  refine (heldInt64SS_any _ _ _ _ r1 (1 + (tot r0 : Int)) hoo12.rdl (by omega) (by omega) (by omega) (by omega)).mono ?_
  rintro e v32 ⟨rfl, hbv32⟩
  clear qo1_0 qo1_1 qo1_2 qo10_0 qo10_1 qo10_2 hlo1 hlo10
  (try replace hbv32 := und1 hbv32)
  (try replace hbv32 := undN hbv32)
  replace hoo2 := ownN_below hoo2 hbv32 (Nat.le_refl _)
  replace hoo3 := hoo3.below hbv32
  replace hoo4 := hoo4.below hbv32
  replace hoo5 := hoo5.below hbv32
  replace hoo6 := hoo6.below hbv32
  replace hoo7 := ownN_below hoo7 hbv32 (Nat.le_refl _)
  replace hoo8 := ownN_below hoo8 hbv32 (Nat.le_refl _)
  replace hoo9 := hoo9.below hbv32
  replace hoo11 := hoo11.below hbv32
  replace hoo12 := hoo12.below hbv32
  replace hoo13 := hoo13.below hbv32
  replace hoo14 := ownN_below hoo14 hbv32 (Nat.le_refl _)
  replace hoo15 := ownN_below hoo15 hbv32 (Nat.le_refl _)
  replace hoo16 := hoo16.below hbv32
  replace hoo17 := ownN_below hoo17 hbv32 (Nat.le_refl _)
  replace hoo18 := hoo18.below hbv32
  replace hoo19 := hoo19.below hbv32
  replace hoo20 := hoo20.below hbv32
  replace hoo21 := hoo21.below hbv32
  replace hoo22 := ownN_below hoo22 hbv32 (Nat.le_refl _)
  replace hxo1 := blk_bel hxo1 hbv32
  replace hxo10 := blk_bel hxo10 hbv32
  replace HB := HB.trans (hbv32.mono HB.size)
  have hszv32 := hbv32.size
  have qo1_0 := blk_cell hxo1 0 rfl
  have qo1_1 := blk_cell hxo1 1 rfl
  have qo1_2 := blk_cell hxo1 2 rfl
  have hlo1 := blk_lt hxo1
  have qo10_0 := blk_cell hxo10 0 rfl
  have qo10_1 := blk_cell hxo10 1 rfl
  have qo10_2 := blk_cell hxo10 2 rfl
  have hlo10 := blk_lt hxo10
  go_wp2_with fail
  have hTv33o13 : tot r2 ≤ 1048576 := by have := HRLR2.out.1; omega
  refine (heldInt64SS_any _ _ _ _ r2 (1 + (tot r0 : Int) + (tot r1 : Int)) hoo13.rdl (by omega) (by omega) (by omega) (by omega)).mono ?_
  rintro e v33 ⟨rfl, hbv33⟩
  clear qo1_0 qo1_1 qo1_2 qo10_0 qo10_1 qo10_2 hlo1 hlo10
  (try replace hbv33 := und1 hbv33)
  (try replace hbv33 := undN hbv33)
  replace hoo2 := ownN_below hoo2 hbv33 (Nat.le_refl _)
  replace hoo3 := hoo3.below hbv33
  replace hoo4 := hoo4.below hbv33
  replace hoo5 := hoo5.below hbv33
  replace hoo6 := hoo6.below hbv33
  replace hoo7 := ownN_below hoo7 hbv33 (Nat.le_refl _)
  replace hoo8 := ownN_below hoo8 hbv33 (Nat.le_refl _)
  replace hoo9 := hoo9.below hbv33
  replace hoo11 := hoo11.below hbv33
  replace hoo12 := hoo12.below hbv33
  replace hoo13 := hoo13.below hbv33
  replace hoo14 := ownN_below hoo14 hbv33 (Nat.le_refl _)
  replace hoo15 := ownN_below hoo15 hbv33 (Nat.le_refl _)
  replace hoo16 := hoo16.below hbv33
  replace hoo17 := ownN_below hoo17 hbv33 (Nat.le_refl _)
  replace hoo18 := hoo18.below hbv33
  replace hoo19 := hoo19.below hbv33
  replace hoo20 := hoo20.below hbv33
  replace hoo21 := hoo21.below hbv33
  replace hoo22 := ownN_below hoo22 hbv33 (Nat.le_refl _)
  replace hxo1 := blk_bel hxo1 hbv33
  replace hxo10 := blk_bel hxo10 hbv33
  replace HB := HB.trans (hbv33.mono HB.size)
  have hszv33 := hbv33.size
  have qo1_0 := blk_cell hxo1 0 rfl
  have qo1_1 := blk_cell hxo1 1 rfl
  have qo1_2 := blk_cell hxo1 2 rfl
  have hlo1 := blk_lt hxo1
  have qo10_0 := blk_cell hxo10 0 rfl
  have qo10_1 := blk_cell hxo10 1 rfl
  have qo10_2 := blk_cell hxo10 2 rfl
  have hlo10 := blk_lt hxo10
  go_wp2_with fail
  refine (heldInt64S_any _ _ _ _ (1 + (tot r0 : Int) + (tot r1 : Int) + (tot r2 : Int)) (own_rd hoo14) (by omega) (by omega) (by omega)).mono ?_
  rintro e v34 ⟨rfl, hbv34⟩
  clear qo1_0 qo1_1 qo1_2 qo10_0 qo10_1 qo10_2 hlo1 hlo10
  (try replace hbv34 := und1 hbv34)
  (try replace hbv34 := undN hbv34)
  replace hoo2 := ownN_below hoo2 hbv34 (Nat.le_refl _)
  replace hoo3 := hoo3.below hbv34
  replace hoo4 := hoo4.below hbv34
  replace hoo5 := hoo5.below hbv34
  replace hoo6 := hoo6.below hbv34
  replace hoo7 := ownN_below hoo7 hbv34 (Nat.le_refl _)
  replace hoo8 := ownN_below hoo8 hbv34 (Nat.le_refl _)
  replace hoo9 := hoo9.below hbv34
  replace hoo11 := hoo11.below hbv34
  replace hoo12 := hoo12.below hbv34
  replace hoo13 := hoo13.below hbv34
  replace hoo14 := ownN_below hoo14 hbv34 (Nat.le_refl _)
  replace hoo15 := ownN_below hoo15 hbv34 (Nat.le_refl _)
  replace hoo16 := hoo16.below hbv34
  replace hoo17 := ownN_below hoo17 hbv34 (Nat.le_refl _)
  replace hoo18 := hoo18.below hbv34
  replace hoo19 := hoo19.below hbv34
  replace hoo20 := hoo20.below hbv34
  replace hoo21 := hoo21.below hbv34
  replace hoo22 := ownN_below hoo22 hbv34 (Nat.le_refl _)
  replace hxo1 := blk_bel hxo1 hbv34
  replace hxo10 := blk_bel hxo10 hbv34
  replace HB := HB.trans (hbv34.mono HB.size)
  have hszv34 := hbv34.size
  have qo1_0 := blk_cell hxo1 0 rfl
  have qo1_1 := blk_cell hxo1 1 rfl
  have qo1_2 := blk_cell hxo1 2 rfl
  have hlo1 := blk_lt hxo1
  have qo10_0 := blk_cell hxo10 0 rfl
  have qo10_1 := blk_cell hxo10 1 rfl
  have qo10_2 := blk_cell hxo10 2 rfl
  have hlo10 := blk_lt hxo10
  go_wp2_with fail
  go_ret
  first | exact ⟨rfl, HB⟩ | exact ⟨rfl, below_drewN HB⟩
end Go.Proofs.Ytjgajjcgapifoaa
