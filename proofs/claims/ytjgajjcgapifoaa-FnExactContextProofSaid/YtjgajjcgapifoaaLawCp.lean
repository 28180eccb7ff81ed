/- The law on ContextProof. Written by genlaw5.py. -/
import Derived.Test.YtjgajjcgapifoaaPr
import Derived.Test.YtjgajjcgapifoaaLawProof
namespace Go.Proofs.Ytjgajjcgapifoaa
open Go.RowKit
set_option linter.unusedVariables false
set_option linter.unusedSimpArgs false
set_option maxHeartbeats 16000000 in
set_option maxRecDepth 100000 in
theorem lawContextProof (w : World) (x0 : Int) (A1 : Option Addr) (n1 c1 : Nat) (x1 : List (List Int)) (hw1 : RdW w A1 n1 x1) (hnn1 : n1 ≤ 9223372036854775807) (A2 : Option Addr) (n2 c2 : Nat) (x2 : List (List Int)) (hw2 : RdW w A2 n2 x2) (hnn2 : n2 ≤ 9223372036854775807) (A3 : Option Addr) (n3 c3 : Nat) (x3 : List (List Int)) (hw3 : RdW w A3 n3 x3) (hnn3 : n3 ≤ 9223372036854775807) (A4 : Option Addr) (n4 c4 : Nat) (x4 : List Int) (hr4 : Rd w A4 n4 (ints x4)) (hnn4 : n4 ≤ 9223372036854775807) :
    Calls Try.prog 6 #[.int .i64 x0, .slice A1 n1 c1, .slice A2 n2 c2, .slice A3 n3 c3, .slice A4 n4 c4] w fun e w' => e = .returned (.bool true) ∧ Below w.heap.size w w' := by
  have hS : ∀ (w : World) (A1 : Option Addr) (n1 c1 : Nat) (h1 : RdL w A1 n1 x1) (hn1 : n1 ≤ 100000000) (hcp1 : n1 ≤ c1) (A2 : Option Addr) (n2 c2 : Nat) (h2 : RdL w A2 n2 x2) (hn2 : n2 ≤ 100000000) (hcp2 : n2 ≤ c2) (A3 : Option Addr) (n3 c3 : Nat) (h3 : RdL w A3 n3 x3) (hn3 : n3 ≤ 100000000) (hcp3 : n3 ≤ c3) (A4 : Option Addr) (n4 c4 : Nat) (h4 : Rd w A4 n4 (ints x4)) (hn4 : n4 ≤ 100000000) (hcp4 : n4 ≤ c4), Calls Try.prog 34 #[.int .i64 x0, .slice A1 n1 c1, .slice A2 n2 c2, .slice A3 n3 c3, .slice A4 n4 c4] w (fun e w' => ∃ (AR1 : Option Addr) (nR1 cR1 : Nat) (AR2 : Option Addr) (nR2 cR2 : Nat) (FR2 : Nat → Prop), e = .returned (.tuple #[.agg #[.int .i64 ((cpR x0 x1 x2 x3 x4).1), .slice AR1 nR1 cR1, .slice AR2 nR2 cR2], .int .i64 ((cpR x0 x1 x2 x3 x4).2.2.2)]) ∧ w'.ownsRow w.heap.size 2 1 (.slice AR1 nR1 cR1) nR1 (ints ((cpR x0 x1 x2 x3 x4).2.1)) ∧ OwnP w' FR2 AR2 nR2 cR2 ((cpR x0 x1 x2 x3 x4).2.2.1) ∧ (∀ k, FR2 k → w.heap.size ≤ k ∧ k < w'.heap.size) ∧ (∀ k, Fo (.slice AR1 nR1 cR1) k → FR2 k → False) ∧ Below w.heap.size w w') := fun w A1 n1 c1 h1 hn1 hcp1 A2 n2 c2 h2 hn2 hcp2 A3 n3 c3 h3 hn3 hcp3 A4 n4 c4 h4 hn4 hcp4 => specContextProof_any w x0 A1 n1 c1 x1 h1 hn1 A2 n2 c2 x2 h2 hn2 A3 n3 c3 x3 h3 hn3 A4 n4 c4 x4 h4 hn4
  have hI : ∀ (w : World) (A1 : Option Addr) (n1 c1 : Nat) (h1 : RdL w A1 n1 x1) (hn1 : n1 ≤ 100000000) (hcp1 : n1 ≤ c1) (A2 : Option Addr) (n2 c2 : Nat) (h2 : RdL w A2 n2 x2) (hn2 : n2 ≤ 100000000) (hcp2 : n2 ≤ c2) (A3 : Option Addr) (n3 c3 : Nat) (h3 : RdL w A3 n3 x3) (hn3 : n3 ≤ 100000000) (hcp3 : n3 ≤ c3) (A4 : Option Addr) (n4 c4 : Nat) (h4 : Rd w A4 n4 (ints x4)) (hn4 : n4 ≤ 100000000) (hcp4 : n4 ≤ c4), Calls Try.prog 36 #[.int .i64 x0, .slice A1 n1 c1, .slice A2 n2 c2, .slice A3 n3 c3, .slice A4 n4 c4] w (fun e w' => ∃ (AR1 : Option Addr) (nR1 cR1 : Nat) (AR2 : Option Addr) (nR2 cR2 : Nat) (FR2 : Nat → Prop), e = .returned (.tuple #[.agg #[.int .i64 ((cpR x0 x1 x2 x3 x4).1), .slice AR1 nR1 cR1, .slice AR2 nR2 cR2], .int .i64 ((cpR x0 x1 x2 x3 x4).2.2.2)]) ∧ w'.ownsRow w.heap.size 2 1 (.slice AR1 nR1 cR1) nR1 (ints ((cpR x0 x1 x2 x3 x4).2.1)) ∧ OwnP w' FR2 AR2 nR2 cR2 ((cpR x0 x1 x2 x3 x4).2.2.1) ∧ (∀ k, FR2 k → w.heap.size ≤ k ∧ k < w'.heap.size) ∧ (∀ k, Fo (.slice AR1 nR1 cR1) k → FR2 k → False) ∧ Below w.heap.size w w') := fun w A1 n1 c1 h1 hn1 hcp1 A2 n2 c2 h2 hn2 hcp2 A3 n3 c3 h3 hn3 hcp3 A4 n4 c4 h4 hn4 hcp4 => implContextProof_any w x0 A1 n1 c1 x1 h1 hn1 A2 n2 c2 x2 h2 hn2 A3 n3 c3 x3 h3 hn3 A4 n4 c4 x4 h4 hn4 hcp4
  have HRLR1 : Hid (((cpR x0 x1 x2 x3 x4).2.1).length ≤ 1000000) := Lib.hid ((cpR_bd x0 x1 x2 x3 x4).1)
  have HRLR2 : Hid (tot ((cpR x0 x1 x2 x3 x4).2.2.1) ≤ 1000000 ∧ ((cpR x0 x1 x2 x3 x4).2.2.1).length ≤ 1000000) := Lib.hid ((cpR_bd x0 x1 x2 x3 x4).2)
  have HS := Lib.hid hS; have HI := Lib.hid hI
  clear hS hI
  generalize (cpR x0 x1 x2 x3 x4).1 = r0 at HS HI 
  generalize (cpR x0 x1 x2 x3 x4).2.1 = r1 at HS HI HRLR1
  generalize (cpR x0 x1 x2 x3 x4).2.2.1 = r2 at HS HI HRLR2
  generalize (cpR x0 x1 x2 x3 x4).2.2.2 = r3 at HS HI 
  have HXL1 : Hid ((x1).length = n1) := Lib.hid hw1.len
  have HXL2 : Hid ((x2).length = n2) := Lib.hid hw2.len
  have HXL3 : Hid ((x3).length = n3) := Lib.hid hw3.len
  have HXL4 : Hid ((x4).length = n4 * 1) := Lib.hid (by have := hr4.1; simp at this; omega)
  have HB := Below.refl w.heap.size w
  go_enter Try.func6, Try.ntmps6
  by_cases hbig4 : 1048576 < n4
  · have hbi4 : (1048576 : Int) < (n4 : Int) := by omega
    go_wp2_with fail
    go_ret
    exact ⟨rfl, by first | exact HB | exact below_new _ _ | exact (below_new _ _).trans ((below_new _ _).mono (by simp))⟩
  have hbi4 : ¬ (1048576 : Int) < (n4 : Int) := by omega
  replace hbig4 : n4 ≤ 1048576 := by omega
  go_wp2_with fail
  refine (szInt64SS_post _ _ _ _ x1 (by have h := hw1.below HB (Nat.le_refl _); first | exact h | exact h.below (below_new _ _) (Nat.le_refl _) | exact (h.below (below_new _ _) (Nat.le_refl _)).below (below_new _ _) (Nat.le_refl _) | exact ((h.below (below_new _ _) (Nat.le_refl _)).below (below_new _ _) (Nat.le_refl _)).below (below_new _ _) (Nat.le_refl _)) hnn1 _ (by omega) (by omega)).mono ?_
  rintro e v1 ⟨lfv1, rfl, hqv1, hpv1, hbv1⟩
  (try replace hbv1 := und1 hbv1)
  (try replace hbv1 := undN hbv1)
  replace HB := HB.trans (hbv1.mono HB.size)
  have hszv1 := hbv1.size
  by_cases hzv1 : lfv1 < 0
  · clear hqv1 hpv1
    go_wp2_with fail
    go_ret
    exact ⟨rfl, HB⟩
  replace hqv1 := hqv1 (by omega)
  have hbig1 : n1 ≤ 1048576 := by omega
  have HTX1 : Hid (tot x1 ≤ 1048576) := Lib.hid (by omega)
  have hr1 := hw1.rdl (by have := HTX1.out; omega)
  have HQv1 := Lib.hid hqv1; clear hqv1
  go_wp2_with fail
  refine (szInt64SS_post _ _ _ _ x2 (by have h := hw2.below HB (Nat.le_refl _); first | exact h | exact h.below (below_new _ _) (Nat.le_refl _) | exact (h.below (below_new _ _) (Nat.le_refl _)).below (below_new _ _) (Nat.le_refl _) | exact ((h.below (below_new _ _) (Nat.le_refl _)).below (below_new _ _) (Nat.le_refl _)).below (below_new _ _) (Nat.le_refl _)) hnn2 _ (by omega) (by omega)).mono ?_
  rintro e v2 ⟨lfv2, rfl, hqv2, hpv2, hbv2⟩
  (try replace hbv2 := und1 hbv2)
  (try replace hbv2 := undN hbv2)
  replace HB := HB.trans (hbv2.mono HB.size)
  have hszv2 := hbv2.size
  by_cases hzv2 : lfv2 < 0
  · clear hqv2 hpv2
    go_wp2_with fail
    go_ret
    exact ⟨rfl, HB⟩
  replace hqv2 := hqv2 (by omega)
  have hbig2 : n2 ≤ 1048576 := by omega
  have HTX2 : Hid (tot x2 ≤ 1048576) := Lib.hid (by omega)
  have hr2 := hw2.rdl (by have := HTX2.out; omega)
  have HQv2 := Lib.hid hqv2; clear hqv2
  go_wp2_with fail
  refine (szInt64SS_post _ _ _ _ x3 (by have h := hw3.below HB (Nat.le_refl _); first | exact h | exact h.below (below_new _ _) (Nat.le_refl _) | exact (h.below (below_new _ _) (Nat.le_refl _)).below (below_new _ _) (Nat.le_refl _) | exact ((h.below (below_new _ _) (Nat.le_refl _)).below (below_new _ _) (Nat.le_refl _)).below (below_new _ _) (Nat.le_refl _)) hnn3 _ (by omega) (by omega)).mono ?_
  rintro e v3 ⟨lfv3, rfl, hqv3, hpv3, hbv3⟩
  (try replace hbv3 := und1 hbv3)
  (try replace hbv3 := undN hbv3)
  replace HB := HB.trans (hbv3.mono HB.size)
  have hszv3 := hbv3.size
  by_cases hzv3 : lfv3 < 0
  · clear hqv3 hpv3
    go_wp2_with fail
    go_ret
    exact ⟨rfl, HB⟩
  replace hqv3 := hqv3 (by omega)
  have hbig3 : n3 ≤ 1048576 := by omega
  have HTX3 : Hid (tot x3 ≤ 1048576) := Lib.hid (by omega)
  have hr3 := hw3.rdl (by have := HTX3.out; omega)
  have HQv3 := Lib.hid hqv3; clear hqv3
  go_wp2_with fail
  refine (toInt64SS_any _ _ _ _ x1 (hr1.below HB (Nat.le_refl _)) (by omega)).mono ?_
  rintro e v4 ⟨Ao1, no1, co1, Fo1, rfl, hoo1, hFo1, hbv4⟩
  have hno1 : no1 ≤ 1048576 := by have h1 := hoo1.len; have h2 := HXL1.out; omega
  have hrgo1 := Lib.hid hFo1; clear hFo1
  (try replace hbv4 := und1 hbv4)
  (try replace hbv4 := undN hbv4)
  replace HB := HB.trans (hbv4.mono HB.size)
  have hszv4 := hbv4.size
  replace hrgo1 := Lib.hid (rg_lo hrgo1.out (lo := v3.heap.size + 0) (hi := v4.heap.size) (by first | exact Nat.le_refl _ | exact le_al1 | (simp; done) | (simp; omega)) (Nat.le_refl _))
  go_wp2_with fail
  refine (toInt64SS_any _ _ _ _ x2 (hr2.below HB (Nat.le_refl _)) (by omega)).mono ?_
  rintro e v5 ⟨Ao2, no2, co2, Fo2, rfl, hoo2, hFo2, hbv5⟩
  have hno2 : no2 ≤ 1048576 := by have h1 := hoo2.len; have h2 := HXL2.out; omega
  have hrgo2 := Lib.hid hFo2; clear hFo2
  (try replace hbv5 := und1 hbv5)
  (try replace hbv5 := undN hbv5)
  replace hoo1 := hoo1.below hbv5
  replace HB := HB.trans (hbv5.mono HB.size)
  have hszv5 := hbv5.size
  replace hrgo2 := Lib.hid (rg_lo hrgo2.out (lo := v4.heap.size + 0) (hi := v5.heap.size) (by first | exact Nat.le_refl _ | exact le_al1 | (simp; done) | (simp; omega)) (Nat.le_refl _))
  go_wp2_with fail
  refine (toInt64SS_any _ _ _ _ x3 (hr3.below HB (Nat.le_refl _)) (by omega)).mono ?_
  rintro e v6 ⟨Ao3, no3, co3, Fo3, rfl, hoo3, hFo3, hbv6⟩
  have hno3 : no3 ≤ 1048576 := by have h1 := hoo3.len; have h2 := HXL3.out; omega
  have hrgo3 := Lib.hid hFo3; clear hFo3
  (try replace hbv6 := und1 hbv6)
  (try replace hbv6 := undN hbv6)
  replace hoo1 := hoo1.below hbv6
  replace hoo2 := hoo2.below hbv6
  replace HB := HB.trans (hbv6.mono HB.size)
  have hszv6 := hbv6.size
  replace hrgo3 := Lib.hid (rg_lo hrgo3.out (lo := v5.heap.size + 0) (hi := v6.heap.size) (by first | exact Nat.le_refl _ | exact le_al1 | (simp; done) | (simp; omega)) (Nat.le_refl _))
  go_wp2_with fail
  refine (toInt64S_any _ _ _ _ x4 (hr4.below HB (Nat.le_refl _)) (by omega)).mono ?_
  rintro e v7 ⟨Ao4, no4, co4, rfl, hoo4, hbv7⟩
  have hno4 : no4 ≤ 1048576 := by have h1 := hoo4.1; simp only [List.length_map] at h1; have h2 := HXL4.out; omega
  have hrgo4 := Lib.hid (rg_row hoo4)
  (try replace hbv7 := und1 hbv7)
  (try replace hbv7 := undN hbv7)
  replace hoo1 := hoo1.below hbv7
  replace hoo2 := hoo2.below hbv7
  replace hoo3 := hoo3.below hbv7
  replace HB := HB.trans (hbv7.mono HB.size)
  have hszv7 := hbv7.size
  replace hrgo4 := Lib.hid (rg_lo hrgo4.out (lo := v6.heap.size + 0) (hi := v7.heap.size) (by first | exact Nat.le_refl _ | exact le_al1 | (simp; done) | (simp; omega)) (Nat.le_refl _))
  go_wp2_with fail
  refine (HS.out _ _ _ _ hoo1.rdl (by omega) hoo1.cap _ _ _ hoo2.rdl (by omega) hoo2.cap _ _ _ hoo3.rdl (by omega) hoo3.cap _ _ _ (own_rd hoo4) (by omega) (ownN_cap hoo4)).mono ?_
  rintro e v8 ⟨Ao5, no5, co5, Ao6, no6, co6, Fo6, rfl, hoo5, hoo6, hFo6, hdo5o6, hbv8⟩
  have hno5 : no5 ≤ 1000000 := by have h1 := hoo5.1; simp only [List.length_map] at h1; have h2 := HRLR1.out; omega
  have hno6 : no6 ≤ 1000000 := by have h1 := hoo6.len; have h2 := HRLR2.out; omega
  have hrgo5 := Lib.hid (rg_row hoo5)
  have hrgo6 := Lib.hid hFo6; clear hFo6
  have HDo5o6 := Lib.hid hdo5o6; clear hdo5o6
  (try replace hbv8 := und1 hbv8)
  (try replace hbv8 := undN hbv8)
  replace hoo1 := hoo1.below hbv8
  replace hoo2 := hoo2.below hbv8
  replace hoo3 := hoo3.below hbv8
  replace hoo4 := ownN_below hoo4 hbv8 (Nat.le_refl _)
  replace HB := HB.trans (hbv8.mono HB.size)
  have hszv8 := hbv8.size
  replace hrgo5 := Lib.hid (rg_lo hrgo5.out (lo := v7.heap.size + 0) (hi := v8.heap.size) (by first | exact Nat.le_refl _ | exact le_al1 | (simp; done) | (simp; omega)) (Nat.le_refl _))
  replace hrgo6 := Lib.hid (rg_lo hrgo6.out (lo := v7.heap.size + 0) (hi := v8.heap.size) (by first | exact Nat.le_refl _ | exact le_al1 | (simp; done) | (simp; omega)) (Nat.le_refl _))
  go_wp2_with fail
  refine (toInt64SS_any _ _ _ _ x1 ((hr1.below HB (Nat.le_refl _)).below (below_new _ _) (Nat.le_refl _)) (by omega)).mono ?_
  rintro e v9 ⟨Ao8, no8, co8, Fo8, rfl, hoo8, hFo8, hbv9⟩
  have hno8 : no8 ≤ 1048576 := by have h1 := hoo8.len; have h2 := HXL1.out; omega
  have hrgo8 := Lib.hid hFo8; clear hFo8
  (try replace hbv9 := und1 hbv9)
  (try replace hbv9 := undN hbv9)
  obtain ⟨hbv9b, hxo7, hso7⟩ := box_step hbv9
  (try simp only [World.size_alloc] at hxo7 hso7)
  replace hoo1 := hoo1.below hbv9b
  replace hoo2 := hoo2.below hbv9b
  replace hoo3 := hoo3.below hbv9b
  replace hoo4 := ownN_below hoo4 hbv9b (Nat.le_refl _)
  replace hoo5 := ownN_below hoo5 hbv9b (Nat.le_refl _)
  replace hoo6 := hoo6.below hbv9b
  replace HB := HB.trans (hbv9b.mono HB.size)
  have hszv9 := hbv9b.size
  have qo7_0 := blk_cell hxo7 0 rfl
  have qo7_1 := blk_cell hxo7 1 rfl
  have qo7_2 := blk_cell hxo7 2 rfl
  have hlo7 := blk_lt hxo7
  replace hrgo8 := Lib.hid (rg_lo hrgo8.out (lo := v8.heap.size + 1) (hi := v9.heap.size) (by first | exact Nat.le_refl _ | exact le_al1 | (simp; done) | (simp; omega)) (Nat.le_refl _))
  go_wp2_with fail
  refine (toInt64SS_any _ _ _ _ x2 (hr2.below HB (Nat.le_refl _)) (by omega)).mono ?_
  rintro e v10 ⟨Ao9, no9, co9, Fo9, rfl, hoo9, hFo9, hbv10⟩
  have hno9 : no9 ≤ 1048576 := by have h1 := hoo9.len; have h2 := HXL2.out; omega
  have hrgo9 := Lib.hid hFo9; clear hFo9
  clear qo7_0 qo7_1 qo7_2 hlo7
  (try replace hbv10 := und1 hbv10)
  (try replace hbv10 := undN hbv10)
  replace hoo1 := hoo1.below hbv10
  replace hoo2 := hoo2.below hbv10
  replace hoo3 := hoo3.below hbv10
  replace hoo4 := ownN_below hoo4 hbv10 (Nat.le_refl _)
  replace hoo5 := ownN_below hoo5 hbv10 (Nat.le_refl _)
  replace hoo6 := hoo6.below hbv10
  replace hoo8 := hoo8.below hbv10
  replace hxo7 := blk_bel hxo7 hbv10
  replace HB := HB.trans (hbv10.mono HB.size)
  have hszv10 := hbv10.size
  have qo7_0 := blk_cell hxo7 0 rfl
  have qo7_1 := blk_cell hxo7 1 rfl
  have qo7_2 := blk_cell hxo7 2 rfl
  have hlo7 := blk_lt hxo7
  replace hrgo9 := Lib.hid (rg_lo hrgo9.out (lo := v9.heap.size + 0) (hi := v10.heap.size) (by first | exact Nat.le_refl _ | exact le_al1 | (simp; done) | (simp; omega)) (Nat.le_refl _))
  go_wp2_with fail
  refine (toInt64SS_any _ _ _ _ x3 (hr3.below HB (Nat.le_refl _)) (by omega)).mono ?_
  rintro e v11 ⟨Ao10, no10, co10, Fo10, rfl, hoo10, hFo10, hbv11⟩
  have hno10 : no10 ≤ 1048576 := by have h1 := hoo10.len; have h2 := HXL3.out; omega
  have hrgo10 := Lib.hid hFo10; clear hFo10
  clear qo7_0 qo7_1 qo7_2 hlo7
  (try replace hbv11 := und1 hbv11)
  (try replace hbv11 := undN hbv11)
  replace hoo1 := hoo1.below hbv11
  replace hoo2 := hoo2.below hbv11
  replace hoo3 := hoo3.below hbv11
  replace hoo4 := ownN_below hoo4 hbv11 (Nat.le_refl _)
  replace hoo5 := ownN_below hoo5 hbv11 (Nat.le_refl _)
  replace hoo6 := hoo6.below hbv11
  replace hoo8 := hoo8.below hbv11
  replace hoo9 := hoo9.below hbv11
  replace hxo7 := blk_bel hxo7 hbv11
  replace HB := HB.trans (hbv11.mono HB.size)
  have hszv11 := hbv11.size
  have qo7_0 := blk_cell hxo7 0 rfl
  have qo7_1 := blk_cell hxo7 1 rfl
  have qo7_2 := blk_cell hxo7 2 rfl
  have hlo7 := blk_lt hxo7
  replace hrgo10 := Lib.hid (rg_lo hrgo10.out (lo := v10.heap.size + 0) (hi := v11.heap.size) (by first | exact Nat.le_refl _ | exact le_al1 | (simp; done) | (simp; omega)) (Nat.le_refl _))
  go_wp2_with fail
  refine (toInt64S_any _ _ _ _ x4 (hr4.below HB (Nat.le_refl _)) (by omega)).mono ?_
  rintro e v12 ⟨Ao11, no11, co11, rfl, hoo11, hbv12⟩
  have hno11 : no11 ≤ 1048576 := by have h1 := hoo11.1; simp only [List.length_map] at h1; have h2 := HXL4.out; omega
  have hrgo11 := Lib.hid (rg_row hoo11)
  clear qo7_0 qo7_1 qo7_2 hlo7
  (try replace hbv12 := und1 hbv12)
  (try replace hbv12 := undN hbv12)
  replace hoo1 := hoo1.below hbv12
  replace hoo2 := hoo2.below hbv12
  replace hoo3 := hoo3.below hbv12
  replace hoo4 := ownN_below hoo4 hbv12 (Nat.le_refl _)
  replace hoo5 := ownN_below hoo5 hbv12 (Nat.le_refl _)
  replace hoo6 := hoo6.below hbv12
  replace hoo8 := hoo8.below hbv12
  replace hoo9 := hoo9.below hbv12
  replace hoo10 := hoo10.below hbv12
  replace hxo7 := blk_bel hxo7 hbv12
  replace HB := HB.trans (hbv12.mono HB.size)
  have hszv12 := hbv12.size
  have qo7_0 := blk_cell hxo7 0 rfl
  have qo7_1 := blk_cell hxo7 1 rfl
  have qo7_2 := blk_cell hxo7 2 rfl
  have hlo7 := blk_lt hxo7
  replace hrgo11 := Lib.hid (rg_lo hrgo11.out (lo := v11.heap.size + 0) (hi := v12.heap.size) (by first | exact Nat.le_refl _ | exact le_al1 | (simp; done) | (simp; omega)) (Nat.le_refl _))
  go_wp2_with fail
  refine (HI.out _ _ _ _ hoo8.rdl (by omega) hoo8.cap _ _ _ hoo9.rdl (by omega) hoo9.cap _ _ _ hoo10.rdl (by omega) hoo10.cap _ _ _ (own_rd hoo11) (by omega) (ownN_cap hoo11)).mono ?_
  rintro e v13 ⟨Ao12, no12, co12, Ao13, no13, co13, Fo13, rfl, hoo12, hoo13, hFo13, hdo12o13, hbv13⟩
  have hno12 : no12 ≤ 1000000 := by have h1 := hoo12.1; simp only [List.length_map] at h1; have h2 := HRLR1.out; omega
  have hno13 : no13 ≤ 1000000 := by have h1 := hoo13.len; have h2 := HRLR2.out; omega
  have hrgo12 := Lib.hid (rg_row hoo12)
  have hrgo13 := Lib.hid hFo13; clear hFo13
  have HDo12o13 := Lib.hid hdo12o13; clear hdo12o13
  clear qo7_0 qo7_1 qo7_2 hlo7
  (try replace hbv13 := und1 hbv13)
  (try replace hbv13 := undN hbv13)
  replace hoo1 := hoo1.below hbv13
  replace hoo2 := hoo2.below hbv13
  replace hoo3 := hoo3.below hbv13
  replace hoo4 := ownN_below hoo4 hbv13 (Nat.le_refl _)
  replace hoo5 := ownN_below hoo5 hbv13 (Nat.le_refl _)
  replace hoo6 := hoo6.below hbv13
  replace hoo8 := hoo8.below hbv13
  replace hoo9 := hoo9.below hbv13
  replace hoo10 := hoo10.below hbv13
  replace hoo11 := ownN_below hoo11 hbv13 (Nat.le_refl _)
  replace hxo7 := blk_bel hxo7 hbv13
  replace HB := HB.trans (hbv13.mono HB.size)
  have hszv13 := hbv13.size
  have qo7_0 := blk_cell hxo7 0 rfl
  have qo7_1 := blk_cell hxo7 1 rfl
  have qo7_2 := blk_cell hxo7 2 rfl
  have hlo7 := blk_lt hxo7
  replace hrgo12 := Lib.hid (rg_lo hrgo12.out (lo := v12.heap.size + 0) (hi := v13.heap.size) (by first | exact Nat.le_refl _ | exact le_al1 | (simp; done) | (simp; omega)) (Nat.le_refl _))
  replace hrgo13 := Lib.hid (rg_lo hrgo13.out (lo := v12.heap.size + 0) (hi := v13.heap.size) (by first | exact Nat.le_refl _ | exact le_al1 | (simp; done) | (simp; omega)) (Nat.le_refl _))
  go_wp2_with fail
  refine (eqProof_same _ _ _ _ _ r1 ((own_rd hoo12).below (below_new _ _) (Nat.le_refl _)) (by omega) _ _ _ ((own_rd hoo5).below (below_new _ _) (Nat.le_refl _)) _ _ _ r2 (hoo13.rdl.below (below_new _ _) (Nat.le_refl _)) (by omega) _ _ _ (hoo6.rdl.below (below_new _ _) (Nat.le_refl _))).mono ?_
  rintro e v14 ⟨rfl, hbv14⟩
  clear qo7_0 qo7_1 qo7_2 hlo7
  (try replace hbv14 := und1 hbv14)
  (try replace hbv14 := undN hbv14)
  obtain ⟨hbv14b, hxo14, hso14⟩ := box_step hbv14
  (try simp only [World.size_alloc] at hxo14 hso14)
  replace hoo1 := hoo1.below hbv14b
  replace hoo2 := hoo2.below hbv14b
  replace hoo3 := hoo3.below hbv14b
  replace hoo4 := ownN_below hoo4 hbv14b (Nat.le_refl _)
  replace hoo5 := ownN_below hoo5 hbv14b (Nat.le_refl _)
  replace hoo6 := hoo6.below hbv14b
  replace hoo8 := hoo8.below hbv14b
  replace hoo9 := hoo9.below hbv14b
  replace hoo10 := hoo10.below hbv14b
  replace hoo11 := ownN_below hoo11 hbv14b (Nat.le_refl _)
  replace hoo12 := ownN_below hoo12 hbv14b (Nat.le_refl _)
  replace hoo13 := hoo13.below hbv14b
  replace hxo7 := blk_bel hxo7 hbv14b
  replace HB := HB.trans (hbv14b.mono HB.size)
  have hszv14 := hbv14b.size
  have qo7_0 := blk_cell hxo7 0 rfl
  have qo7_1 := blk_cell hxo7 1 rfl
  have qo7_2 := blk_cell hxo7 2 rfl
  have hlo7 := blk_lt hxo7
  have qo14_0 := blk_cell hxo14 0 rfl
  have qo14_1 := blk_cell hxo14 1 rfl
  have qo14_2 := blk_cell hxo14 2 rfl
  have hlo14 := blk_lt hxo14
  go_wp2_with fail
  refine (toInt64SS_any _ _ _ _ x1 (hr1.below HB (Nat.le_refl _)) (by omega)).mono ?_
  rintro e v15 ⟨Ao15, no15, co15, Fo15, rfl, hoo15, hFo15, hbv15⟩
  have hno15 : no15 ≤ 1048576 := by have h1 := hoo15.len; have h2 := HXL1.out; omega
  have hrgo15 := Lib.hid hFo15; clear hFo15
  clear qo7_0 qo7_1 qo7_2 qo14_0 qo14_1 qo14_2 hlo7 hlo14
  (try replace hbv15 := und1 hbv15)
  (try replace hbv15 := undN hbv15)
  replace hoo1 := hoo1.below hbv15
  replace hoo2 := hoo2.below hbv15
  replace hoo3 := hoo3.below hbv15
  replace hoo4 := ownN_below hoo4 hbv15 (Nat.le_refl _)
  replace hoo5 := ownN_below hoo5 hbv15 (Nat.le_refl _)
  replace hoo6 := hoo6.below hbv15
  replace hoo8 := hoo8.below hbv15
  replace hoo9 := hoo9.below hbv15
  replace hoo10 := hoo10.below hbv15
  replace hoo11 := ownN_below hoo11 hbv15 (Nat.le_refl _)
  replace hoo12 := ownN_below hoo12 hbv15 (Nat.le_refl _)
  replace hoo13 := hoo13.below hbv15
  replace hxo7 := blk_bel hxo7 hbv15
  replace hxo14 := blk_bel hxo14 hbv15
  replace HB := HB.trans (hbv15.mono HB.size)
  have hszv15 := hbv15.size
  have qo7_0 := blk_cell hxo7 0 rfl
  have qo7_1 := blk_cell hxo7 1 rfl
  have qo7_2 := blk_cell hxo7 2 rfl
  have hlo7 := blk_lt hxo7
  have qo14_0 := blk_cell hxo14 0 rfl
  have qo14_1 := blk_cell hxo14 1 rfl
  have qo14_2 := blk_cell hxo14 2 rfl
  have hlo14 := blk_lt hxo14
  replace hrgo15 := Lib.hid (rg_lo hrgo15.out (lo := v14.heap.size + 0) (hi := v15.heap.size) (by first | exact Nat.le_refl _ | exact le_al1 | (simp; done) | (simp; omega)) (Nat.le_refl _))
  go_wp2_with fail
  refine (eqInt64SS_same _ _ _ _ x1 hoo8.rdl (by omega) _ _ _ hoo15.rdl).mono ?_
  rintro e v16 ⟨rfl, hbv16⟩
  clear qo7_0 qo7_1 qo7_2 qo14_0 qo14_1 qo14_2 hlo7 hlo14
  (try replace hbv16 := und1 hbv16)
  (try replace hbv16 := undN hbv16)
  replace hoo1 := hoo1.below hbv16
  replace hoo2 := hoo2.below hbv16
  replace hoo3 := hoo3.below hbv16
  replace hoo4 := ownN_below hoo4 hbv16 (Nat.le_refl _)
  replace hoo5 := ownN_below hoo5 hbv16 (Nat.le_refl _)
  replace hoo6 := hoo6.below hbv16
  replace hoo8 := hoo8.below hbv16
  replace hoo9 := hoo9.below hbv16
  replace hoo10 := hoo10.below hbv16
  replace hoo11 := ownN_below hoo11 hbv16 (Nat.le_refl _)
  replace hoo12 := ownN_below hoo12 hbv16 (Nat.le_refl _)
  replace hoo13 := hoo13.below hbv16
  replace hoo15 := hoo15.below hbv16
  replace hxo7 := blk_bel hxo7 hbv16
  replace hxo14 := blk_bel hxo14 hbv16
  replace HB := HB.trans (hbv16.mono HB.size)
  have hszv16 := hbv16.size
  have qo7_0 := blk_cell hxo7 0 rfl
  have qo7_1 := blk_cell hxo7 1 rfl
  have qo7_2 := blk_cell hxo7 2 rfl
  have hlo7 := blk_lt hxo7
  have qo14_0 := blk_cell hxo14 0 rfl
  have qo14_1 := blk_cell hxo14 1 rfl
  have qo14_2 := blk_cell hxo14 2 rfl
  have hlo14 := blk_lt hxo14
  go_wp2_with fail
  refine (toInt64SS_any _ _ _ _ x2 (hr2.below HB (Nat.le_refl _)) (by omega)).mono ?_
  rintro e v17 ⟨Ao16, no16, co16, Fo16, rfl, hoo16, hFo16, hbv17⟩
  have hno16 : no16 ≤ 1048576 := by have h1 := hoo16.len; have h2 := HXL2.out; omega
  have hrgo16 := Lib.hid hFo16; clear hFo16
  clear qo7_0 qo7_1 qo7_2 qo14_0 qo14_1 qo14_2 hlo7 hlo14
  (try replace hbv17 := und1 hbv17)
  (try replace hbv17 := undN hbv17)
  replace hoo1 := hoo1.below hbv17
  replace hoo2 := hoo2.below hbv17
  replace hoo3 := hoo3.below hbv17
  replace hoo4 := ownN_below hoo4 hbv17 (Nat.le_refl _)
  replace hoo5 := ownN_below hoo5 hbv17 (Nat.le_refl _)
  replace hoo6 := hoo6.below hbv17
  replace hoo8 := hoo8.below hbv17
  replace hoo9 := hoo9.below hbv17
  replace hoo10 := hoo10.below hbv17
  replace hoo11 := ownN_below hoo11 hbv17 (Nat.le_refl _)
  replace hoo12 := ownN_below hoo12 hbv17 (Nat.le_refl _)
  replace hoo13 := hoo13.below hbv17
  replace hoo15 := hoo15.below hbv17
  replace hxo7 := blk_bel hxo7 hbv17
  replace hxo14 := blk_bel hxo14 hbv17
  replace HB := HB.trans (hbv17.mono HB.size)
  have hszv17 := hbv17.size
  have qo7_0 := blk_cell hxo7 0 rfl
  have qo7_1 := blk_cell hxo7 1 rfl
  have qo7_2 := blk_cell hxo7 2 rfl
  have hlo7 := blk_lt hxo7
  have qo14_0 := blk_cell hxo14 0 rfl
  have qo14_1 := blk_cell hxo14 1 rfl
  have qo14_2 := blk_cell hxo14 2 rfl
  have hlo14 := blk_lt hxo14
  replace hrgo16 := Lib.hid (rg_lo hrgo16.out (lo := v16.heap.size + 0) (hi := v17.heap.size) (by first | exact Nat.le_refl _ | exact le_al1 | (simp; done) | (simp; omega)) (Nat.le_refl _))
  go_wp2_with fail
  refine (eqInt64SS_same _ _ _ _ x2 hoo9.rdl (by omega) _ _ _ hoo16.rdl).mono ?_
  rintro e v18 ⟨rfl, hbv18⟩
  clear qo7_0 qo7_1 qo7_2 qo14_0 qo14_1 qo14_2 hlo7 hlo14
  (try replace hbv18 := und1 hbv18)
  (try replace hbv18 := undN hbv18)
  replace hoo1 := hoo1.below hbv18
  replace hoo2 := hoo2.below hbv18
  replace hoo3 := hoo3.below hbv18
  replace hoo4 := ownN_below hoo4 hbv18 (Nat.le_refl _)
  replace hoo5 := ownN_below hoo5 hbv18 (Nat.le_refl _)
  replace hoo6 := hoo6.below hbv18
  replace hoo8 := hoo8.below hbv18
  replace hoo9 := hoo9.below hbv18
  replace hoo10 := hoo10.below hbv18
  replace hoo11 := ownN_below hoo11 hbv18 (Nat.le_refl _)
  replace hoo12 := ownN_below hoo12 hbv18 (Nat.le_refl _)
  replace hoo13 := hoo13.below hbv18
  replace hoo15 := hoo15.below hbv18
  replace hoo16 := hoo16.below hbv18
  replace hxo7 := blk_bel hxo7 hbv18
  replace hxo14 := blk_bel hxo14 hbv18
  replace HB := HB.trans (hbv18.mono HB.size)
  have hszv18 := hbv18.size
  have qo7_0 := blk_cell hxo7 0 rfl
  have qo7_1 := blk_cell hxo7 1 rfl
  have qo7_2 := blk_cell hxo7 2 rfl
  have hlo7 := blk_lt hxo7
  have qo14_0 := blk_cell hxo14 0 rfl
  have qo14_1 := blk_cell hxo14 1 rfl
  have qo14_2 := blk_cell hxo14 2 rfl
  have hlo14 := blk_lt hxo14
  go_wp2_with fail
  refine (toInt64SS_any _ _ _ _ x3 (hr3.below HB (Nat.le_refl _)) (by omega)).mono ?_
  rintro e v19 ⟨Ao17, no17, co17, Fo17, rfl, hoo17, hFo17, hbv19⟩
  have hno17 : no17 ≤ 1048576 := by have h1 := hoo17.len; have h2 := HXL3.out; omega
  have hrgo17 := Lib.hid hFo17; clear hFo17
  clear qo7_0 qo7_1 qo7_2 qo14_0 qo14_1 qo14_2 hlo7 hlo14
  (try replace hbv19 := und1 hbv19)
  (try replace hbv19 := undN hbv19)
  replace hoo1 := hoo1.below hbv19
  replace hoo2 := hoo2.below hbv19
  replace hoo3 := hoo3.below hbv19
  replace hoo4 := ownN_below hoo4 hbv19 (Nat.le_refl _)
  replace hoo5 := ownN_below hoo5 hbv19 (Nat.le_refl _)
  replace hoo6 := hoo6.below hbv19
  replace hoo8 := hoo8.below hbv19
  replace hoo9 := hoo9.below hbv19
  replace hoo10 := hoo10.below hbv19
  replace hoo11 := ownN_below hoo11 hbv19 (Nat.le_refl _)
  replace hoo12 := ownN_below hoo12 hbv19 (Nat.le_refl _)
  replace hoo13 := hoo13.below hbv19
  replace hoo15 := hoo15.below hbv19
  replace hoo16 := hoo16.below hbv19
  replace hxo7 := blk_bel hxo7 hbv19
  replace hxo14 := blk_bel hxo14 hbv19
  replace HB := HB.trans (hbv19.mono HB.size)
  have hszv19 := hbv19.size
  have qo7_0 := blk_cell hxo7 0 rfl
  have qo7_1 := blk_cell hxo7 1 rfl
  have qo7_2 := blk_cell hxo7 2 rfl
  have hlo7 := blk_lt hxo7
  have qo14_0 := blk_cell hxo14 0 rfl
  have qo14_1 := blk_cell hxo14 1 rfl
  have qo14_2 := blk_cell hxo14 2 rfl
  have hlo14 := blk_lt hxo14
  replace hrgo17 := Lib.hid (rg_lo hrgo17.out (lo := v18.heap.size + 0) (hi := v19.heap.size) (by first | exact Nat.le_refl _ | exact le_al1 | (simp; done) | (simp; omega)) (Nat.le_refl _))
  go_wp2_with fail
  refine (eqInt64SS_same _ _ _ _ x3 hoo10.rdl (by omega) _ _ _ hoo17.rdl).mono ?_
  rintro e v20 ⟨rfl, hbv20⟩
  clear qo7_0 qo7_1 qo7_2 qo14_0 qo14_1 qo14_2 hlo7 hlo14
  (try replace hbv20 := und1 hbv20)
  (try replace hbv20 := undN hbv20)
  replace hoo1 := hoo1.below hbv20
  replace hoo2 := hoo2.below hbv20
  replace hoo3 := hoo3.below hbv20
  replace hoo4 := ownN_below hoo4 hbv20 (Nat.le_refl _)
  replace hoo5 := ownN_below hoo5 hbv20 (Nat.le_refl _)
  replace hoo6 := hoo6.below hbv20
  replace hoo8 := hoo8.below hbv20
  replace hoo9 := hoo9.below hbv20
  replace hoo10 := hoo10.below hbv20
  replace hoo11 := ownN_below hoo11 hbv20 (Nat.le_refl _)
  replace hoo12 := ownN_below hoo12 hbv20 (Nat.le_refl _)
  replace hoo13 := hoo13.below hbv20
  replace hoo15 := hoo15.below hbv20
  replace hoo16 := hoo16.below hbv20
  replace hoo17 := hoo17.below hbv20
  replace hxo7 := blk_bel hxo7 hbv20
  replace hxo14 := blk_bel hxo14 hbv20
  replace HB := HB.trans (hbv20.mono HB.size)
  have hszv20 := hbv20.size
  have qo7_0 := blk_cell hxo7 0 rfl
  have qo7_1 := blk_cell hxo7 1 rfl
  have qo7_2 := blk_cell hxo7 2 rfl
  have hlo7 := blk_lt hxo7
  have qo14_0 := blk_cell hxo14 0 rfl
  have qo14_1 := blk_cell hxo14 1 rfl
  have qo14_2 := blk_cell hxo14 2 rfl
  have hlo14 := blk_lt hxo14
  go_wp2_with fail
  refine (toInt64S_any _ _ _ _ x4 (hr4.below HB (Nat.le_refl _)) (by omega)).mono ?_
  rintro e v21 ⟨Ao18, no18, co18, rfl, hoo18, hbv21⟩
  have hno18 : no18 ≤ 1048576 := by have h1 := hoo18.1; simp only [List.length_map] at h1; have h2 := HXL4.out; omega
  have hrgo18 := Lib.hid (rg_row hoo18)
  clear qo7_0 qo7_1 qo7_2 qo14_0 qo14_1 qo14_2 hlo7 hlo14
  (try replace hbv21 := und1 hbv21)
  (try replace hbv21 := undN hbv21)
  replace hoo1 := hoo1.below hbv21
  replace hoo2 := hoo2.below hbv21
  replace hoo3 := hoo3.below hbv21
  replace hoo4 := ownN_below hoo4 hbv21 (Nat.le_refl _)
  replace hoo5 := ownN_below hoo5 hbv21 (Nat.le_refl _)
  replace hoo6 := hoo6.below hbv21
  replace hoo8 := hoo8.below hbv21
  replace hoo9 := hoo9.below hbv21
  replace hoo10 := hoo10.below hbv21
  replace hoo11 := ownN_below hoo11 hbv21 (Nat.le_refl _)
  replace hoo12 := ownN_below hoo12 hbv21 (Nat.le_refl _)
  replace hoo13 := hoo13.below hbv21
  replace hoo15 := hoo15.below hbv21
  replace hoo16 := hoo16.below hbv21
  replace hoo17 := hoo17.below hbv21
  replace hxo7 := blk_bel hxo7 hbv21
  replace hxo14 := blk_bel hxo14 hbv21
  replace HB := HB.trans (hbv21.mono HB.size)
  have hszv21 := hbv21.size
  have qo7_0 := blk_cell hxo7 0 rfl
  have qo7_1 := blk_cell hxo7 1 rfl
  have qo7_2 := blk_cell hxo7 2 rfl
  have hlo7 := blk_lt hxo7
  have qo14_0 := blk_cell hxo14 0 rfl
  have qo14_1 := blk_cell hxo14 1 rfl
  have qo14_2 := blk_cell hxo14 2 rfl
  have hlo14 := blk_lt hxo14
  replace hrgo18 := Lib.hid (rg_lo hrgo18.out (lo := v20.heap.size + 0) (hi := v21.heap.size) (by first | exact Nat.le_refl _ | exact le_al1 | (simp; done) | (simp; omega)) (Nat.le_refl _))
  go_wp2_with fail
  refine (eqInt64S_same _ _ _ _ x4 (own_rd hoo11) (by omega) _ _ _ (own_rd hoo18)).mono ?_
  rintro e v22 ⟨rfl, hbv22⟩
  clear qo7_0 qo7_1 qo7_2 qo14_0 qo14_1 qo14_2 hlo7 hlo14
  (try replace hbv22 := und1 hbv22)
  (try replace hbv22 := undN hbv22)
  replace hoo1 := hoo1.below hbv22
  replace hoo2 := hoo2.below hbv22
  replace hoo3 := hoo3.below hbv22
  replace hoo4 := ownN_below hoo4 hbv22 (Nat.le_refl _)
  replace hoo5 := ownN_below hoo5 hbv22 (Nat.le_refl _)
  replace hoo6 := hoo6.below hbv22
  replace hoo8 := hoo8.below hbv22
  replace hoo9 := hoo9.below hbv22
  replace hoo10 := hoo10.below hbv22
  replace hoo11 := ownN_below hoo11 hbv22 (Nat.le_refl _)
  replace hoo12 := ownN_below hoo12 hbv22 (Nat.le_refl _)
  replace hoo13 := hoo13.below hbv22
  replace hoo15 := hoo15.below hbv22
  replace hoo16 := hoo16.below hbv22
  replace hoo17 := hoo17.below hbv22
  replace hoo18 := ownN_below hoo18 hbv22 (Nat.le_refl _)
  replace hxo7 := blk_bel hxo7 hbv22
  replace hxo14 := blk_bel hxo14 hbv22
  replace HB := HB.trans (hbv22.mono HB.size)
  have hszv22 := hbv22.size
  have qo7_0 := blk_cell hxo7 0 rfl
  have qo7_1 := blk_cell hxo7 1 rfl
  have qo7_2 := blk_cell hxo7 2 rfl
  have hlo7 := blk_lt hxo7
  have qo14_0 := blk_cell hxo14 0 rfl
  have qo14_1 := blk_cell hxo14 1 rfl
  have qo14_2 := blk_cell hxo14 2 rfl
  have hlo14 := blk_lt hxo14
  go_wp2_with fail
  have hTv23o8 : tot x1 ≤ 1048576 := by have := HTX1.out; omega
  refine (markInt64SS_any _ _ _ _ _ x1 hoo8 (by omega) (by omega)  (1) (by omega) (by omega)).mono ?_
  rintro e v23 ⟨rfl, hmo8, hCv23⟩
  clear qo7_0 qo7_1 qo7_2 qo14_0 qo14_1 qo14_2 hlo7 hlo14
  replace hoo1 := hoo1.ch hCv23 (fun k h1 h2 => (by have := hrgo1.out k h1; have := hrgo8.out k h2; omega))
  replace hoo2 := hoo2.ch hCv23 (fun k h1 h2 => (by have := hrgo2.out k h1; have := hrgo8.out k h2; omega))
  replace hoo3 := hoo3.ch hCv23 (fun k h1 h2 => (by have := hrgo3.out k h1; have := hrgo8.out k h2; omega))
  replace hoo4 := own_ch hoo4 hCv23 (fun k h1 h2 => (by have := hrgo4.out k h1; have := hrgo8.out k h2; omega))
  replace hoo5 := own_ch hoo5 hCv23 (fun k h1 h2 => (by have := hrgo5.out k h1; have := hrgo8.out k h2; omega))
  replace hoo6 := hoo6.ch hCv23 (fun k h1 h2 => (by have := hrgo6.out k h1; have := hrgo8.out k h2; omega))
  replace hoo9 := hoo9.ch hCv23 (fun k h1 h2 => (by have := hrgo9.out k h1; have := hrgo8.out k h2; omega))
  replace hoo10 := hoo10.ch hCv23 (fun k h1 h2 => (by have := hrgo10.out k h1; have := hrgo8.out k h2; omega))
  replace hoo11 := own_ch hoo11 hCv23 (fun k h1 h2 => (by have := hrgo11.out k h1; have := hrgo8.out k h2; omega))
  replace hoo12 := own_ch hoo12 hCv23 (fun k h1 h2 => (by have := hrgo12.out k h1; have := hrgo8.out k h2; omega))
  replace hoo13 := hoo13.ch hCv23 (fun k h1 h2 => (by have := hrgo13.out k h1; have := hrgo8.out k h2; omega))
  replace hoo15 := hoo15.ch hCv23 (fun k h1 h2 => (by have := hrgo15.out k h1; have := hrgo8.out k h2; omega))
  replace hoo16 := hoo16.ch hCv23 (fun k h1 h2 => (by have := hrgo16.out k h1; have := hrgo8.out k h2; omega))
  replace hoo17 := hoo17.ch hCv23 (fun k h1 h2 => (by have := hrgo17.out k h1; have := hrgo8.out k h2; omega))
  replace hoo18 := own_ch hoo18 hCv23 (fun k h1 h2 => (by have := hrgo18.out k h1; have := hrgo8.out k h2; omega))
  replace hxo7 := blk_ch hxo7 hCv23 (fun h => by have := hrgo8.out _ h; omega)
  replace hxo14 := blk_ch hxo14 hCv23 (fun h => by have := hrgo8.out _ h; omega)
  replace HB := below_ch HB hCv23 (fun k h => by have := hrgo8.out k h; omega) HB.size
  replace hoo8 := hmo8
  have hszv23 := hCv23.size
  have qo7_0 := blk_cell hxo7 0 rfl
  have qo7_1 := blk_cell hxo7 1 rfl
  have qo7_2 := blk_cell hxo7 2 rfl
  have hlo7 := blk_lt hxo7
  have qo14_0 := blk_cell hxo14 0 rfl
  have qo14_1 := blk_cell hxo14 1 rfl
  have qo14_2 := blk_cell hxo14 2 rfl
  have hlo14 := blk_lt hxo14
  go_wp2_with fail
  have hTv24o9 : tot x2 ≤ 1048576 := by have := HTX2.out; omega
  refine (markInt64SS_any _ _ _ _ _ x2 hoo9 (by omega) (by omega)  (1 + (tot x1 : Int)) (by omega) (by omega)).mono ?_
  rintro e v24 ⟨rfl, hmo9, hCv24⟩
  clear qo7_0 qo7_1 qo7_2 qo14_0 qo14_1 qo14_2 hlo7 hlo14
  replace hoo1 := hoo1.ch hCv24 (fun k h1 h2 => (by have := hrgo1.out k h1; have := hrgo9.out k h2; omega))
  replace hoo2 := hoo2.ch hCv24 (fun k h1 h2 => (by have := hrgo2.out k h1; have := hrgo9.out k h2; omega))
  replace hoo3 := hoo3.ch hCv24 (fun k h1 h2 => (by have := hrgo3.out k h1; have := hrgo9.out k h2; omega))
  replace hoo4 := own_ch hoo4 hCv24 (fun k h1 h2 => (by have := hrgo4.out k h1; have := hrgo9.out k h2; omega))
  replace hoo5 := own_ch hoo5 hCv24 (fun k h1 h2 => (by have := hrgo5.out k h1; have := hrgo9.out k h2; omega))
  replace hoo6 := hoo6.ch hCv24 (fun k h1 h2 => (by have := hrgo6.out k h1; have := hrgo9.out k h2; omega))
  replace hoo8 := hoo8.ch hCv24 (fun k h1 h2 => (by have := hrgo8.out k h1; have := hrgo9.out k h2; omega))
  replace hoo10 := hoo10.ch hCv24 (fun k h1 h2 => (by have := hrgo10.out k h1; have := hrgo9.out k h2; omega))
  replace hoo11 := own_ch hoo11 hCv24 (fun k h1 h2 => (by have := hrgo11.out k h1; have := hrgo9.out k h2; omega))
  replace hoo12 := own_ch hoo12 hCv24 (fun k h1 h2 => (by have := hrgo12.out k h1; have := hrgo9.out k h2; omega))
  replace hoo13 := hoo13.ch hCv24 (fun k h1 h2 => (by have := hrgo13.out k h1; have := hrgo9.out k h2; omega))
  replace hoo15 := hoo15.ch hCv24 (fun k h1 h2 => (by have := hrgo15.out k h1; have := hrgo9.out k h2; omega))
  replace hoo16 := hoo16.ch hCv24 (fun k h1 h2 => (by have := hrgo16.out k h1; have := hrgo9.out k h2; omega))
  replace hoo17 := hoo17.ch hCv24 (fun k h1 h2 => (by have := hrgo17.out k h1; have := hrgo9.out k h2; omega))
  replace hoo18 := own_ch hoo18 hCv24 (fun k h1 h2 => (by have := hrgo18.out k h1; have := hrgo9.out k h2; omega))
  replace hxo7 := blk_ch hxo7 hCv24 (fun h => by have := hrgo9.out _ h; omega)
  replace hxo14 := blk_ch hxo14 hCv24 (fun h => by have := hrgo9.out _ h; omega)
  replace HB := below_ch HB hCv24 (fun k h => by have := hrgo9.out k h; omega) HB.size
  replace hoo9 := hmo9
  have hszv24 := hCv24.size
  have qo7_0 := blk_cell hxo7 0 rfl
  have qo7_1 := blk_cell hxo7 1 rfl
  have qo7_2 := blk_cell hxo7 2 rfl
  have hlo7 := blk_lt hxo7
  have qo14_0 := blk_cell hxo14 0 rfl
  have qo14_1 := blk_cell hxo14 1 rfl
  have qo14_2 := blk_cell hxo14 2 rfl
  have hlo14 := blk_lt hxo14
  go_wp2_with fail
  have hTv25o10 : tot x3 ≤ 1048576 := by have := HTX3.out; omega
  refine (markInt64SS_any _ _ _ _ _ x3 hoo10 (by omega) (by omega)  (1 + (tot x1 : Int) + (tot x2 : Int)) (by omega) (by omega)).mono ?_
  rintro e v25 ⟨rfl, hmo10, hCv25⟩
  clear qo7_0 qo7_1 qo7_2 qo14_0 qo14_1 qo14_2 hlo7 hlo14
  replace hoo1 := hoo1.ch hCv25 (fun k h1 h2 => (by have := hrgo1.out k h1; have := hrgo10.out k h2; omega))
  replace hoo2 := hoo2.ch hCv25 (fun k h1 h2 => (by have := hrgo2.out k h1; have := hrgo10.out k h2; omega))
  replace hoo3 := hoo3.ch hCv25 (fun k h1 h2 => (by have := hrgo3.out k h1; have := hrgo10.out k h2; omega))
  replace hoo4 := own_ch hoo4 hCv25 (fun k h1 h2 => (by have := hrgo4.out k h1; have := hrgo10.out k h2; omega))
  replace hoo5 := own_ch hoo5 hCv25 (fun k h1 h2 => (by have := hrgo5.out k h1; have := hrgo10.out k h2; omega))
  replace hoo6 := hoo6.ch hCv25 (fun k h1 h2 => (by have := hrgo6.out k h1; have := hrgo10.out k h2; omega))
  replace hoo8 := hoo8.ch hCv25 (fun k h1 h2 => (by have := hrgo8.out k h1; have := hrgo10.out k h2; omega))
  replace hoo9 := hoo9.ch hCv25 (fun k h1 h2 => (by have := hrgo9.out k h1; have := hrgo10.out k h2; omega))
  replace hoo11 := own_ch hoo11 hCv25 (fun k h1 h2 => (by have := hrgo11.out k h1; have := hrgo10.out k h2; omega))
  replace hoo12 := own_ch hoo12 hCv25 (fun k h1 h2 => (by have := hrgo12.out k h1; have := hrgo10.out k h2; omega))
  replace hoo13 := hoo13.ch hCv25 (fun k h1 h2 => (by have := hrgo13.out k h1; have := hrgo10.out k h2; omega))
  replace hoo15 := hoo15.ch hCv25 (fun k h1 h2 => (by have := hrgo15.out k h1; have := hrgo10.out k h2; omega))
  replace hoo16 := hoo16.ch hCv25 (fun k h1 h2 => (by have := hrgo16.out k h1; have := hrgo10.out k h2; omega))
  replace hoo17 := hoo17.ch hCv25 (fun k h1 h2 => (by have := hrgo17.out k h1; have := hrgo10.out k h2; omega))
  replace hoo18 := own_ch hoo18 hCv25 (fun k h1 h2 => (by have := hrgo18.out k h1; have := hrgo10.out k h2; omega))
  replace hxo7 := blk_ch hxo7 hCv25 (fun h => by have := hrgo10.out _ h; omega)
  replace hxo14 := blk_ch hxo14 hCv25 (fun h => by have := hrgo10.out _ h; omega)
  replace HB := below_ch HB hCv25 (fun k h => by have := hrgo10.out k h; omega) HB.size
  replace hoo10 := hmo10
  have hszv25 := hCv25.size
  have qo7_0 := blk_cell hxo7 0 rfl
  have qo7_1 := blk_cell hxo7 1 rfl
  have qo7_2 := blk_cell hxo7 2 rfl
  have hlo7 := blk_lt hxo7
  have qo14_0 := blk_cell hxo14 0 rfl
  have qo14_1 := blk_cell hxo14 1 rfl
  have qo14_2 := blk_cell hxo14 2 rfl
  have hlo14 := blk_lt hxo14
  go_wp2_with fail
  refine (markInt64S_any _ _ _ _ _ _ hoo11 (by omega)  (1 + (tot x1 : Int) + (tot x2 : Int) + (tot x3 : Int)) (by omega) (by omega)).mono ?_
  rintro e v26 ⟨rfl, hmo11, hCv26⟩
  clear qo7_0 qo7_1 qo7_2 qo14_0 qo14_1 qo14_2 hlo7 hlo14
  replace hCv26 := ch_row hCv26
  replace hoo1 := hoo1.ch hCv26 (fun k h1 h2 => (by have := hrgo1.out k h1; have := hrgo11.out k h2; omega))
  replace hoo2 := hoo2.ch hCv26 (fun k h1 h2 => (by have := hrgo2.out k h1; have := hrgo11.out k h2; omega))
  replace hoo3 := hoo3.ch hCv26 (fun k h1 h2 => (by have := hrgo3.out k h1; have := hrgo11.out k h2; omega))
  replace hoo4 := own_ch hoo4 hCv26 (fun k h1 h2 => (by have := hrgo4.out k h1; have := hrgo11.out k h2; omega))
  replace hoo5 := own_ch hoo5 hCv26 (fun k h1 h2 => (by have := hrgo5.out k h1; have := hrgo11.out k h2; omega))
  replace hoo6 := hoo6.ch hCv26 (fun k h1 h2 => (by have := hrgo6.out k h1; have := hrgo11.out k h2; omega))
  replace hoo8 := hoo8.ch hCv26 (fun k h1 h2 => (by have := hrgo8.out k h1; have := hrgo11.out k h2; omega))
  replace hoo9 := hoo9.ch hCv26 (fun k h1 h2 => (by have := hrgo9.out k h1; have := hrgo11.out k h2; omega))
  replace hoo10 := hoo10.ch hCv26 (fun k h1 h2 => (by have := hrgo10.out k h1; have := hrgo11.out k h2; omega))
  replace hoo12 := own_ch hoo12 hCv26 (fun k h1 h2 => (by have := hrgo12.out k h1; have := hrgo11.out k h2; omega))
  replace hoo13 := hoo13.ch hCv26 (fun k h1 h2 => (by have := hrgo13.out k h1; have := hrgo11.out k h2; omega))
  replace hoo15 := hoo15.ch hCv26 (fun k h1 h2 => (by have := hrgo15.out k h1; have := hrgo11.out k h2; omega))
  replace hoo16 := hoo16.ch hCv26 (fun k h1 h2 => (by have := hrgo16.out k h1; have := hrgo11.out k h2; omega))
  replace hoo17 := hoo17.ch hCv26 (fun k h1 h2 => (by have := hrgo17.out k h1; have := hrgo11.out k h2; omega))
  replace hoo18 := own_ch hoo18 hCv26 (fun k h1 h2 => (by have := hrgo18.out k h1; have := hrgo11.out k h2; omega))
  replace hxo7 := blk_ch hxo7 hCv26 (fun h => by have := hrgo11.out _ h; omega)
  replace hxo14 := blk_ch hxo14 hCv26 (fun h => by have := hrgo11.out _ h; omega)
  replace HB := below_ch HB hCv26 (fun k h => by have := hrgo11.out k h; omega) HB.size
  replace hoo11 := hmo11
  have hszv26 := hCv26.size
  have qo7_0 := blk_cell hxo7 0 rfl
  have qo7_1 := blk_cell hxo7 1 rfl
  have qo7_2 := blk_cell hxo7 2 rfl
  have hlo7 := blk_lt hxo7
  have qo14_0 := blk_cell hxo14 0 rfl
  have qo14_1 := blk_cell hxo14 1 rfl
  have qo14_2 := blk_cell hxo14 2 rfl
  have hlo14 := blk_lt hxo14
  go_wp2_with fail
  refine (eqProof_same _ _ _ _ _ r1 (own_rd hoo12) (by omega) _ _ _ (own_rd hoo5) _ _ _ r2 hoo13.rdl (by omega) _ _ _ hoo6.rdl).mono ?_
  rintro e v27 ⟨rfl, hbv27⟩
  clear qo7_0 qo7_1 qo7_2 qo14_0 qo14_1 qo14_2 hlo7 hlo14
  (try replace hbv27 := und1 hbv27)
  (try replace hbv27 := undN hbv27)
  replace hoo1 := hoo1.below hbv27
  replace hoo2 := hoo2.below hbv27
  replace hoo3 := hoo3.below hbv27
  replace hoo4 := ownN_below hoo4 hbv27 (Nat.le_refl _)
  replace hoo5 := ownN_below hoo5 hbv27 (Nat.le_refl _)
  replace hoo6 := hoo6.below hbv27
  replace hoo8 := hoo8.below hbv27
  replace hoo9 := hoo9.below hbv27
  replace hoo10 := hoo10.below hbv27
  replace hoo11 := ownN_below hoo11 hbv27 (Nat.le_refl _)
  replace hoo12 := ownN_below hoo12 hbv27 (Nat.le_refl _)
  replace hoo13 := hoo13.below hbv27
  replace hoo15 := hoo15.below hbv27
  replace hoo16 := hoo16.below hbv27
  replace hoo17 := hoo17.below hbv27
  replace hoo18 := ownN_below hoo18 hbv27 (Nat.le_refl _)
  replace hxo7 := blk_bel hxo7 hbv27
  replace hxo14 := blk_bel hxo14 hbv27
  replace HB := HB.trans (hbv27.mono HB.size)
  have hszv27 := hbv27.size
  have qo7_0 := blk_cell hxo7 0 rfl
  have qo7_1 := blk_cell hxo7 1 rfl
  have qo7_2 := blk_cell hxo7 2 rfl
  have hlo7 := blk_lt hxo7
  have qo14_0 := blk_cell hxo14 0 rfl
  have qo14_1 := blk_cell hxo14 1 rfl
  have qo14_2 := blk_cell hxo14 2 rfl
  have hlo14 := blk_lt hxo14
  go_wp2_with fail
  have hTv28o13 : tot r2 ≤ 1048576 := by have := HRLR2.out.1; omega
  refine (markProof_any _ _ _ _ _ _ _ hoo12 (by omega) _ _ _ _ r2 hoo13 (by omega) (by omega) HDo12o13.out (1) (by omega) (by omega)).mono ?_
  rintro e v28 ⟨rfl, hmo12, hmo13, hCv28⟩
  clear qo7_0 qo7_1 qo7_2 qo14_0 qo14_1 qo14_2 hlo7 hlo14
  replace hoo1 := hoo1.ch hCv28 (fun k h1 h => h.elim (fun h2 => (by have := hrgo1.out k h1; have := hrgo12.out k h2; omega)) (fun h2 => (by have := hrgo1.out k h1; have := hrgo13.out k h2; omega)))
  replace hoo2 := hoo2.ch hCv28 (fun k h1 h => h.elim (fun h2 => (by have := hrgo2.out k h1; have := hrgo12.out k h2; omega)) (fun h2 => (by have := hrgo2.out k h1; have := hrgo13.out k h2; omega)))
  replace hoo3 := hoo3.ch hCv28 (fun k h1 h => h.elim (fun h2 => (by have := hrgo3.out k h1; have := hrgo12.out k h2; omega)) (fun h2 => (by have := hrgo3.out k h1; have := hrgo13.out k h2; omega)))
  replace hoo4 := own_ch hoo4 hCv28 (fun k h1 h => h.elim (fun h2 => (by have := hrgo4.out k h1; have := hrgo12.out k h2; omega)) (fun h2 => (by have := hrgo4.out k h1; have := hrgo13.out k h2; omega)))
  replace hoo5 := own_ch hoo5 hCv28 (fun k h1 h => h.elim (fun h2 => (by have := hrgo5.out k h1; have := hrgo12.out k h2; omega)) (fun h2 => (by have := hrgo5.out k h1; have := hrgo13.out k h2; omega)))
  replace hoo6 := hoo6.ch hCv28 (fun k h1 h => h.elim (fun h2 => (by have := hrgo6.out k h1; have := hrgo12.out k h2; omega)) (fun h2 => (by have := hrgo6.out k h1; have := hrgo13.out k h2; omega)))
  replace hoo8 := hoo8.ch hCv28 (fun k h1 h => h.elim (fun h2 => (by have := hrgo8.out k h1; have := hrgo12.out k h2; omega)) (fun h2 => (by have := hrgo8.out k h1; have := hrgo13.out k h2; omega)))
  replace hoo9 := hoo9.ch hCv28 (fun k h1 h => h.elim (fun h2 => (by have := hrgo9.out k h1; have := hrgo12.out k h2; omega)) (fun h2 => (by have := hrgo9.out k h1; have := hrgo13.out k h2; omega)))
  replace hoo10 := hoo10.ch hCv28 (fun k h1 h => h.elim (fun h2 => (by have := hrgo10.out k h1; have := hrgo12.out k h2; omega)) (fun h2 => (by have := hrgo10.out k h1; have := hrgo13.out k h2; omega)))
  replace hoo11 := own_ch hoo11 hCv28 (fun k h1 h => h.elim (fun h2 => (by have := hrgo11.out k h1; have := hrgo12.out k h2; omega)) (fun h2 => (by have := hrgo11.out k h1; have := hrgo13.out k h2; omega)))
  replace hoo15 := hoo15.ch hCv28 (fun k h1 h => h.elim (fun h2 => (by have := hrgo15.out k h1; have := hrgo12.out k h2; omega)) (fun h2 => (by have := hrgo15.out k h1; have := hrgo13.out k h2; omega)))
  replace hoo16 := hoo16.ch hCv28 (fun k h1 h => h.elim (fun h2 => (by have := hrgo16.out k h1; have := hrgo12.out k h2; omega)) (fun h2 => (by have := hrgo16.out k h1; have := hrgo13.out k h2; omega)))
  replace hoo17 := hoo17.ch hCv28 (fun k h1 h => h.elim (fun h2 => (by have := hrgo17.out k h1; have := hrgo12.out k h2; omega)) (fun h2 => (by have := hrgo17.out k h1; have := hrgo13.out k h2; omega)))
  replace hoo18 := own_ch hoo18 hCv28 (fun k h1 h => h.elim (fun h2 => (by have := hrgo18.out k h1; have := hrgo12.out k h2; omega)) (fun h2 => (by have := hrgo18.out k h1; have := hrgo13.out k h2; omega)))
  replace hxo7 := blk_ch hxo7 hCv28 (fun h => h.elim (fun h => by have := hrgo12.out _ h; omega) (fun h => by have := hrgo13.out _ h; omega))
  replace hxo14 := blk_ch hxo14 hCv28 (fun h => h.elim (fun h => by have := hrgo12.out _ h; omega) (fun h => by have := hrgo13.out _ h; omega))
  replace HB := below_ch HB hCv28 (fun k h => h.elim (fun h => by have := hrgo12.out k h; omega) (fun h => by have := hrgo13.out k h; omega)) HB.size
  replace hoo12 := hmo12
  replace hoo13 := hmo13
  have hszv28 := hCv28.size
  have qo7_0 := blk_cell hxo7 0 rfl
  have qo7_1 := blk_cell hxo7 1 rfl
  have qo7_2 := blk_cell hxo7 2 rfl
  have hlo7 := blk_lt hxo7
  have qo14_0 := blk_cell hxo14 0 rfl
  have qo14_1 := blk_cell hxo14 1 rfl
  have qo14_2 := blk_cell hxo14 2 rfl
  have hlo14 := blk_lt hxo14
  go_wp2_with fail
  have hTv29o13 : tot r2 ≤ 1048576 := by have := HRLR2.out.1; omega
  refine (heldProof_any _ _ _ _ _ _ _ _ r2 (1) (own_rd hoo12) (by omega) hoo13.rdl (by omega) (by omega) (by omega) (by omega)).mono ?_
  rintro e v29 ⟨rfl, hbv29⟩
  clear qo7_0 qo7_1 qo7_2 qo14_0 qo14_1 qo14_2 hlo7 hlo14
  (try replace hbv29 := und1 hbv29)
  (try replace hbv29 := undN hbv29)
  replace hoo1 := hoo1.below hbv29
  replace hoo2 := hoo2.below hbv29
  replace hoo3 := hoo3.below hbv29
  replace hoo4 := ownN_below hoo4 hbv29 (Nat.le_refl _)
  replace hoo5 := ownN_below hoo5 hbv29 (Nat.le_refl _)
  replace hoo6 := hoo6.below hbv29
  replace hoo8 := hoo8.below hbv29
  replace hoo9 := hoo9.below hbv29
  replace hoo10 := hoo10.below hbv29
  replace hoo11 := ownN_below hoo11 hbv29 (Nat.le_refl _)
  replace hoo12 := ownN_below hoo12 hbv29 (Nat.le_refl _)
  replace hoo13 := hoo13.below hbv29
  replace hoo15 := hoo15.below hbv29
  replace hoo16 := hoo16.below hbv29
  replace hoo17 := hoo17.below hbv29
  replace hoo18 := ownN_below hoo18 hbv29 (Nat.le_refl _)
  replace hxo7 := blk_bel hxo7 hbv29
  replace hxo14 := blk_bel hxo14 hbv29
  replace HB := HB.trans (hbv29.mono HB.size)
  have hszv29 := hbv29.size
  have qo7_0 := blk_cell hxo7 0 rfl
  have qo7_1 := blk_cell hxo7 1 rfl
  have qo7_2 := blk_cell hxo7 2 rfl
  have hlo7 := blk_lt hxo7
  have qo14_0 := blk_cell hxo14 0 rfl
  have qo14_1 := blk_cell hxo14 1 rfl
  have qo14_2 := blk_cell hxo14 2 rfl
  have hlo14 := blk_lt hxo14
  go_wp2_with fail
  refine (toInt64SS_any _ _ _ _ x1 (hr1.below HB (Nat.le_refl _)) (by omega)).mono ?_
  rintro e v30 ⟨Ao19, no19, co19, Fo19, rfl, hoo19, hFo19, hbv30⟩
  have hno19 : no19 ≤ 1048576 := by have h1 := hoo19.len; have h2 := HXL1.out; omega
  have hrgo19 := Lib.hid hFo19; clear hFo19
  clear qo7_0 qo7_1 qo7_2 qo14_0 qo14_1 qo14_2 hlo7 hlo14
  (try replace hbv30 := und1 hbv30)
  (try replace hbv30 := undN hbv30)
  replace hoo1 := hoo1.below hbv30
  replace hoo2 := hoo2.below hbv30
  replace hoo3 := hoo3.below hbv30
  replace hoo4 := ownN_below hoo4 hbv30 (Nat.le_refl _)
  replace hoo5 := ownN_below hoo5 hbv30 (Nat.le_refl _)
  replace hoo6 := hoo6.below hbv30
  replace hoo8 := hoo8.below hbv30
  replace hoo9 := hoo9.below hbv30
  replace hoo10 := hoo10.below hbv30
  replace hoo11 := ownN_below hoo11 hbv30 (Nat.le_refl _)
  replace hoo12 := ownN_below hoo12 hbv30 (Nat.le_refl _)
  replace hoo13 := hoo13.below hbv30
  replace hoo15 := hoo15.below hbv30
  replace hoo16 := hoo16.below hbv30
  replace hoo17 := hoo17.below hbv30
  replace hoo18 := ownN_below hoo18 hbv30 (Nat.le_refl _)
  replace hxo7 := blk_bel hxo7 hbv30
  replace hxo14 := blk_bel hxo14 hbv30
  replace HB := HB.trans (hbv30.mono HB.size)
  have hszv30 := hbv30.size
  have qo7_0 := blk_cell hxo7 0 rfl
  have qo7_1 := blk_cell hxo7 1 rfl
  have qo7_2 := blk_cell hxo7 2 rfl
  have hlo7 := blk_lt hxo7
  have qo14_0 := blk_cell hxo14 0 rfl
  have qo14_1 := blk_cell hxo14 1 rfl
  have qo14_2 := blk_cell hxo14 2 rfl
  have hlo14 := blk_lt hxo14
  replace hrgo19 := Lib.hid (rg_lo hrgo19.out (lo := v29.heap.size + 0) (hi := v30.heap.size) (by first | exact Nat.le_refl _ | exact le_al1 | (simp; done) | (simp; omega)) (Nat.le_refl _))
  go_wp2_with fail
  refine (toInt64SS_any _ _ _ _ x2 (hr2.below HB (Nat.le_refl _)) (by omega)).mono ?_
  rintro e v31 ⟨Ao20, no20, co20, Fo20, rfl, hoo20, hFo20, hbv31⟩
  have hno20 : no20 ≤ 1048576 := by have h1 := hoo20.len; have h2 := HXL2.out; omega
  have hrgo20 := Lib.hid hFo20; clear hFo20
  clear qo7_0 qo7_1 qo7_2 qo14_0 qo14_1 qo14_2 hlo7 hlo14
  (try replace hbv31 := und1 hbv31)
  (try replace hbv31 := undN hbv31)
  replace hoo1 := hoo1.below hbv31
  replace hoo2 := hoo2.below hbv31
  replace hoo3 := hoo3.below hbv31
  replace hoo4 := ownN_below hoo4 hbv31 (Nat.le_refl _)
  replace hoo5 := ownN_below hoo5 hbv31 (Nat.le_refl _)
  replace hoo6 := hoo6.below hbv31
  replace hoo8 := hoo8.below hbv31
  replace hoo9 := hoo9.below hbv31
  replace hoo10 := hoo10.below hbv31
  replace hoo11 := ownN_below hoo11 hbv31 (Nat.le_refl _)
  replace hoo12 := ownN_below hoo12 hbv31 (Nat.le_refl _)
  replace hoo13 := hoo13.below hbv31
  replace hoo15 := hoo15.below hbv31
  replace hoo16 := hoo16.below hbv31
  replace hoo17 := hoo17.below hbv31
  replace hoo18 := ownN_below hoo18 hbv31 (Nat.le_refl _)
  replace hoo19 := hoo19.below hbv31
  replace hxo7 := blk_bel hxo7 hbv31
  replace hxo14 := blk_bel hxo14 hbv31
  replace HB := HB.trans (hbv31.mono HB.size)
  have hszv31 := hbv31.size
  have qo7_0 := blk_cell hxo7 0 rfl
  have qo7_1 := blk_cell hxo7 1 rfl
  have qo7_2 := blk_cell hxo7 2 rfl
  have hlo7 := blk_lt hxo7
  have qo14_0 := blk_cell hxo14 0 rfl
  have qo14_1 := blk_cell hxo14 1 rfl
  have qo14_2 := blk_cell hxo14 2 rfl
  have hlo14 := blk_lt hxo14
  replace hrgo20 := Lib.hid (rg_lo hrgo20.out (lo := v30.heap.size + 0) (hi := v31.heap.size) (by first | exact Nat.le_refl _ | exact le_al1 | (simp; done) | (simp; omega)) (Nat.le_refl _))
  go_wp2_with fail
  refine (toInt64SS_any _ _ _ _ x3 (hr3.below HB (Nat.le_refl _)) (by omega)).mono ?_
  rintro e v32 ⟨Ao21, no21, co21, Fo21, rfl, hoo21, hFo21, hbv32⟩
  have hno21 : no21 ≤ 1048576 := by have h1 := hoo21.len; have h2 := HXL3.out; omega
  have hrgo21 := Lib.hid hFo21; clear hFo21
  clear qo7_0 qo7_1 qo7_2 qo14_0 qo14_1 qo14_2 hlo7 hlo14
  (try replace hbv32 := und1 hbv32)
  (try replace hbv32 := undN hbv32)
  replace hoo1 := hoo1.below hbv32
  replace hoo2 := hoo2.below hbv32
  replace hoo3 := hoo3.below hbv32
  replace hoo4 := ownN_below hoo4 hbv32 (Nat.le_refl _)
  replace hoo5 := ownN_below hoo5 hbv32 (Nat.le_refl _)
  replace hoo6 := hoo6.below hbv32
  replace hoo8 := hoo8.below hbv32
  replace hoo9 := hoo9.below hbv32
  replace hoo10 := hoo10.below hbv32
  replace hoo11 := ownN_below hoo11 hbv32 (Nat.le_refl _)
  replace hoo12 := ownN_below hoo12 hbv32 (Nat.le_refl _)
  replace hoo13 := hoo13.below hbv32
  replace hoo15 := hoo15.below hbv32
  replace hoo16 := hoo16.below hbv32
  replace hoo17 := hoo17.below hbv32
  replace hoo18 := ownN_below hoo18 hbv32 (Nat.le_refl _)
  replace hoo19 := hoo19.below hbv32
  replace hoo20 := hoo20.below hbv32
  replace hxo7 := blk_bel hxo7 hbv32
  replace hxo14 := blk_bel hxo14 hbv32
  replace HB := HB.trans (hbv32.mono HB.size)
  have hszv32 := hbv32.size
  have qo7_0 := blk_cell hxo7 0 rfl
  have qo7_1 := blk_cell hxo7 1 rfl
  have qo7_2 := blk_cell hxo7 2 rfl
  have hlo7 := blk_lt hxo7
  have qo14_0 := blk_cell hxo14 0 rfl
  have qo14_1 := blk_cell hxo14 1 rfl
  have qo14_2 := blk_cell hxo14 2 rfl
  have hlo14 := blk_lt hxo14
  replace hrgo21 := Lib.hid (rg_lo hrgo21.out (lo := v31.heap.size + 0) (hi := v32.heap.size) (by first | exact Nat.le_refl _ | exact le_al1 | (simp; done) | (simp; omega)) (Nat.le_refl _))
  go_wp2_with fail
  refine (toInt64S_any _ _ _ _ x4 (hr4.below HB (Nat.le_refl _)) (by omega)).mono ?_
  rintro e v33 ⟨Ao22, no22, co22, rfl, hoo22, hbv33⟩
  have hno22 : no22 ≤ 1048576 := by have h1 := hoo22.1; simp only [List.length_map] at h1; have h2 := HXL4.out; omega
  have hrgo22 := Lib.hid (rg_row hoo22)
  clear qo7_0 qo7_1 qo7_2 qo14_0 qo14_1 qo14_2 hlo7 hlo14
  (try replace hbv33 := und1 hbv33)
  (try replace hbv33 := undN hbv33)
  replace hoo1 := hoo1.below hbv33
  replace hoo2 := hoo2.below hbv33
  replace hoo3 := hoo3.below hbv33
  replace hoo4 := ownN_below hoo4 hbv33 (Nat.le_refl _)
  replace hoo5 := ownN_below hoo5 hbv33 (Nat.le_refl _)
  replace hoo6 := hoo6.below hbv33
  replace hoo8 := hoo8.below hbv33
  replace hoo9 := hoo9.below hbv33
  replace hoo10 := hoo10.below hbv33
  replace hoo11 := ownN_below hoo11 hbv33 (Nat.le_refl _)
  replace hoo12 := ownN_below hoo12 hbv33 (Nat.le_refl _)
  replace hoo13 := hoo13.below hbv33
  replace hoo15 := hoo15.below hbv33
  replace hoo16 := hoo16.below hbv33
  replace hoo17 := hoo17.below hbv33
  replace hoo18 := ownN_below hoo18 hbv33 (Nat.le_refl _)
  replace hoo19 := hoo19.below hbv33
  replace hoo20 := hoo20.below hbv33
  replace hoo21 := hoo21.below hbv33
  replace hxo7 := blk_bel hxo7 hbv33
  replace hxo14 := blk_bel hxo14 hbv33
  replace HB := HB.trans (hbv33.mono HB.size)
  have hszv33 := hbv33.size
  have qo7_0 := blk_cell hxo7 0 rfl
  have qo7_1 := blk_cell hxo7 1 rfl
  have qo7_2 := blk_cell hxo7 2 rfl
  have hlo7 := blk_lt hxo7
  have qo14_0 := blk_cell hxo14 0 rfl
  have qo14_1 := blk_cell hxo14 1 rfl
  have qo14_2 := blk_cell hxo14 2 rfl
  have hlo14 := blk_lt hxo14
  replace hrgo22 := Lib.hid (rg_lo hrgo22.out (lo := v32.heap.size + 0) (hi := v33.heap.size) (by first | exact Nat.le_refl _ | exact le_al1 | (simp; done) | (simp; omega)) (Nat.le_refl _))
  go_wp2_with fail
  refine (HI.out _ _ _ _ hoo19.rdl (by omega) hoo19.cap _ _ _ hoo20.rdl (by omega) hoo20.cap _ _ _ hoo21.rdl (by omega) hoo21.cap _ _ _ (own_rd hoo22) (by omega) (ownN_cap hoo22)).mono ?_
  rintro e v34 ⟨Ao23, no23, co23, Ao24, no24, co24, Fo24, rfl, hoo23, hoo24, hFo24, hdo23o24, hbv34⟩
  have hno23 : no23 ≤ 1000000 := by have h1 := hoo23.1; simp only [List.length_map] at h1; have h2 := HRLR1.out; omega
  have hno24 : no24 ≤ 1000000 := by have h1 := hoo24.len; have h2 := HRLR2.out; omega
  have hrgo23 := Lib.hid (rg_row hoo23)
  have hrgo24 := Lib.hid hFo24; clear hFo24
  have HDo23o24 := Lib.hid hdo23o24; clear hdo23o24
  clear qo7_0 qo7_1 qo7_2 qo14_0 qo14_1 qo14_2 hlo7 hlo14
  (try replace hbv34 := und1 hbv34)
  (try replace hbv34 := undN hbv34)
  replace hoo1 := hoo1.below hbv34
  replace hoo2 := hoo2.below hbv34
  replace hoo3 := hoo3.below hbv34
  replace hoo4 := ownN_below hoo4 hbv34 (Nat.le_refl _)
  replace hoo5 := ownN_below hoo5 hbv34 (Nat.le_refl _)
  replace hoo6 := hoo6.below hbv34
  replace hoo8 := hoo8.below hbv34
  replace hoo9 := hoo9.below hbv34
  replace hoo10 := hoo10.below hbv34
  replace hoo11 := ownN_below hoo11 hbv34 (Nat.le_refl _)
  replace hoo12 := ownN_below hoo12 hbv34 (Nat.le_refl _)
  replace hoo13 := hoo13.below hbv34
  replace hoo15 := hoo15.below hbv34
  replace hoo16 := hoo16.below hbv34
  replace hoo17 := hoo17.below hbv34
  replace hoo18 := ownN_below hoo18 hbv34 (Nat.le_refl _)
  replace hoo19 := hoo19.below hbv34
  replace hoo20 := hoo20.below hbv34
  replace hoo21 := hoo21.below hbv34
  replace hoo22 := ownN_below hoo22 hbv34 (Nat.le_refl _)
  replace hxo7 := blk_bel hxo7 hbv34
  replace hxo14 := blk_bel hxo14 hbv34
  replace HB := HB.trans (hbv34.mono HB.size)
  have hszv34 := hbv34.size
  have qo7_0 := blk_cell hxo7 0 rfl
  have qo7_1 := blk_cell hxo7 1 rfl
  have qo7_2 := blk_cell hxo7 2 rfl
  have hlo7 := blk_lt hxo7
  have qo14_0 := blk_cell hxo14 0 rfl
  have qo14_1 := blk_cell hxo14 1 rfl
  have qo14_2 := blk_cell hxo14 2 rfl
  have hlo14 := blk_lt hxo14
  replace hrgo23 := Lib.hid (rg_lo hrgo23.out (lo := v33.heap.size + 0) (hi := v34.heap.size) (by first | exact Nat.le_refl _ | exact le_al1 | (simp; done) | (simp; omega)) (Nat.le_refl _))
  replace hrgo24 := Lib.hid (rg_lo hrgo24.out (lo := v33.heap.size + 0) (hi := v34.heap.size) (by first | exact Nat.le_refl _ | exact le_al1 | (simp; done) | (simp; omega)) (Nat.le_refl _))
  go_wp2_with fail
  refine (eqProof_same _ _ _ _ _ r1 ((own_rd hoo23).below (below_new _ _) (Nat.le_refl _)) (by omega) _ _ _ ((own_rd hoo5).below (below_new _ _) (Nat.le_refl _)) _ _ _ r2 (hoo24.rdl.below (below_new _ _) (Nat.le_refl _)) (by omega) _ _ _ (hoo6.rdl.below (below_new _ _) (Nat.le_refl _))).mono ?_
  rintro e v35 ⟨rfl, hbv35⟩
  clear qo7_0 qo7_1 qo7_2 qo14_0 qo14_1 qo14_2 hlo7 hlo14
  (try replace hbv35 := und1 hbv35)
  (try replace hbv35 := undN hbv35)
  obtain ⟨hbv35b, hxo25, hso25⟩ := box_step hbv35
  (try simp only [World.size_alloc] at hxo25 hso25)
  replace hoo1 := hoo1.below hbv35b
  replace hoo2 := hoo2.below hbv35b
  replace hoo3 := hoo3.below hbv35b
  replace hoo4 := ownN_below hoo4 hbv35b (Nat.le_refl _)
  replace hoo5 := ownN_below hoo5 hbv35b (Nat.le_refl _)
  replace hoo6 := hoo6.below hbv35b
  replace hoo8 := hoo8.below hbv35b
  replace hoo9 := hoo9.below hbv35b
  replace hoo10 := hoo10.below hbv35b
  replace hoo11 := ownN_below hoo11 hbv35b (Nat.le_refl _)
  replace hoo12 := ownN_below hoo12 hbv35b (Nat.le_refl _)
  replace hoo13 := hoo13.below hbv35b
  replace hoo15 := hoo15.below hbv35b
  replace hoo16 := hoo16.below hbv35b
  replace hoo17 := hoo17.below hbv35b
  replace hoo18 := ownN_below hoo18 hbv35b (Nat.le_refl _)
  replace hoo19 := hoo19.below hbv35b
  replace hoo20 := hoo20.below hbv35b
  replace hoo21 := hoo21.below hbv35b
  replace hoo22 := ownN_below hoo22 hbv35b (Nat.le_refl _)
  replace hoo23 := ownN_below hoo23 hbv35b (Nat.le_refl _)
  replace hoo24 := hoo24.below hbv35b
  replace hxo7 := blk_bel hxo7 hbv35b
  replace hxo14 := blk_bel hxo14 hbv35b
  replace HB := HB.trans (hbv35b.mono HB.size)
  have hszv35 := hbv35b.size
  have qo7_0 := blk_cell hxo7 0 rfl
  have qo7_1 := blk_cell hxo7 1 rfl
  have qo7_2 := blk_cell hxo7 2 rfl
  have hlo7 := blk_lt hxo7
  have qo14_0 := blk_cell hxo14 0 rfl
  have qo14_1 := blk_cell hxo14 1 rfl
  have qo14_2 := blk_cell hxo14 2 rfl
  have hlo14 := blk_lt hxo14
  have qo25_0 := blk_cell hxo25 0 rfl
  have qo25_1 := blk_cell hxo25 1 rfl
  have qo25_2 := blk_cell hxo25 2 rfl
  have hlo25 := blk_lt hxo25
  go_wp2_with fail
  have hTv36o13 : tot r2 ≤ 1048576 := by have := HRLR2.out.1; omega
  refine (heldProof_any _ _ _ _ _ _ _ _ r2 (1) (own_rd hoo12) (by omega) hoo13.rdl (by omega) (by omega) (by omega) (by omega)).mono ?_
  rintro e v36 ⟨rfl, hbv36⟩
  clear qo7_0 qo7_1 qo7_2 qo14_0 qo14_1 qo14_2 qo25_0 qo25_1 qo25_2 hlo7 hlo14 hlo25
  (try replace hbv36 := und1 hbv36)
  (try replace hbv36 := undN hbv36)
  replace hoo1 := hoo1.below hbv36
  replace hoo2 := hoo2.below hbv36
  replace hoo3 := hoo3.below hbv36
  replace hoo4 := ownN_below hoo4 hbv36 (Nat.le_refl _)
  replace hoo5 := ownN_below hoo5 hbv36 (Nat.le_refl _)
  replace hoo6 := hoo6.below hbv36
  replace hoo8 := hoo8.below hbv36
  replace hoo9 := hoo9.below hbv36
  replace hoo10 := hoo10.below hbv36
  replace hoo11 := ownN_below hoo11 hbv36 (Nat.le_refl _)
  replace hoo12 := ownN_below hoo12 hbv36 (Nat.le_refl _)
  replace hoo13 := hoo13.below hbv36
  replace hoo15 := hoo15.below hbv36
  replace hoo16 := hoo16.below hbv36
  replace hoo17 := hoo17.below hbv36
  replace hoo18 := ownN_below hoo18 hbv36 (Nat.le_refl _)
  replace hoo19 := hoo19.below hbv36
  replace hoo20 := hoo20.below hbv36
  replace hoo21 := hoo21.below hbv36
  replace hoo22 := ownN_below hoo22 hbv36 (Nat.le_refl _)
  replace hoo23 := ownN_below hoo23 hbv36 (Nat.le_refl _)
  replace hoo24 := hoo24.below hbv36
  replace hxo7 := blk_bel hxo7 hbv36
  replace hxo14 := blk_bel hxo14 hbv36
  replace hxo25 := blk_bel hxo25 hbv36
  replace HB := HB.trans (hbv36.mono HB.size)
  have hszv36 := hbv36.size
  have qo7_0 := blk_cell hxo7 0 rfl
  have qo7_1 := blk_cell hxo7 1 rfl
  have qo7_2 := blk_cell hxo7 2 rfl
  have hlo7 := blk_lt hxo7
  have qo14_0 := blk_cell hxo14 0 rfl
  have qo14_1 := blk_cell hxo14 1 rfl
  have qo14_2 := blk_cell hxo14 2 rfl
  have hlo14 := blk_lt hxo14
  have qo25_0 := blk_cell hxo25 0 rfl
  have qo25_1 := blk_cell hxo25 1 rfl
  have qo25_2 := blk_cell hxo25 2 rfl
  have hlo25 := blk_lt hxo25
  go_wp2_with fail
  go_ret
  first | exact ⟨rfl, HB⟩ | exact ⟨rfl, below_drewN HB⟩
end Go.Proofs.Ytjgajjcgapifoaa
