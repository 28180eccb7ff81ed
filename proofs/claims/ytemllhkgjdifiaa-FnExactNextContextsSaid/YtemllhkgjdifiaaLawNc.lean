/- The law on NextContexts. Written by genlaw5.py. -/
import Derived.Test.YtemllhkgjdifiaaGL
import Derived.Test.YtemllhkgjdifiaaGC
import Derived.Test.YtemllhkgjdifiaaGD
import Derived.Test.YtemllhkgjdifiaaGI
namespace Go.Proofs.Ytemllhkgjdifiaa
open Go.RowKit
set_option linter.unusedVariables false
set_option linter.unusedSimpArgs false
theorem nexts_lens {s : Nat} {r : Rul} {xs : List Int} {ls ws : List (List Int)} : ∀ ys ∈ nextsOf s r xs ls ws, ys.length ≤ 3 * xs.length + 10 := by
  intro ys hy
  unfold nextsOf at hy
  split at hy
  · obtain ⟨i, _, rfl⟩ := nx_mem hy
    simp only [List.length_append, List.length_cons, List.length_take, List.length_drop, List.length_nil]
    omega
  · obtain ⟨i, _, rfl⟩ := nx_mem hy
    simp only [List.length_append, List.length_cons, List.length_take, List.length_drop, List.length_nil]
    omega
theorem ncP_len (s t : Int) (rs : List Rul) (st : Int) (xs : List Int) (ls ws : List (List Int)) : tot (ncP s t rs st xs ls ws).2.1 ≤ 1000000 ∧ (ncP s t rs st xs ls ws).2.1.length ≤ 1000000 := by
  by_cases h : ctxC s t rs st xs = 0
  · obtain ⟨h1, _, h3, _⟩ := ctx_zero h
    obtain ⟨h2, _⟩ := okM_all h1
    have h4 : (ncP s t rs st xs ls ws).2.1.length ≤ 6 := nc_len (fun _ => h2.2)
    have h5 : ∀ ys ∈ (ncP s t rs st xs ls ws).2.1, ys.length ≤ 40 := by
      intro ys hy
      unfold ncP at hy
      rw [if_pos h] at hy
      split at hy
      · split at hy
        · have := nexts_lens ys hy; omega
        · simp at hy
      · simp at hy
    have h6 := tot_bd h5
    exact ⟨by omega, by omega⟩
  · rw [nc_bad h]; simp [tot]
set_option maxHeartbeats 16000000 in
set_option maxRecDepth 100000 in
theorem lawNextContexts (w : World) (x0_0 : Int) (x0_1 : Int) (A0_2 : Option Addr) (n0_2 c0_2 : Nat) (x0_2 : List Int) (hr0_2 : Rd w A0_2 (n0_2 * 3) (ints x0_2)) (hnn0_2 : n0_2 ≤ 9223372036854775807) (x1 : Int) (A2 : Option Addr) (n2 c2 : Nat) (x2 : List Int) (hr2 : Rd w A2 n2 (ints x2)) (hnn2 : n2 ≤ 9223372036854775807) (A3 : Option Addr) (n3 c3 : Nat) (x3 : List (List Int)) (hw3 : RdW w A3 n3 x3) (hnn3 : n3 ≤ 9223372036854775807) (A4 : Option Addr) (n4 c4 : Nat) (x4 : List (List Int)) (hw4 : RdW w A4 n4 x4) (hnn4 : n4 ≤ 9223372036854775807) :
    Calls Try.prog 3 #[.agg #[.int .i64 x0_0, .int .i64 x0_1, .slice A0_2 n0_2 c0_2], .int .i64 x1, .slice A2 n2 c2, .slice A3 n3 c3, .slice A4 n4 c4] w fun e w' => e = .returned (.bool true) ∧ Below w.heap.size w w' := by
  obtain ⟨rs, rfl, hps⟩ := unflatR n0_2 x0_2 (by simpa using hr0_2.1)
  have HPS := Lib.hid hps; clear hps
  have hS : ∀ (w : World) (A0_2 : Option Addr) (n0_2 c0_2 : Nat) (h0_2 : Rd w A0_2 (n0_2 * 3) (ints (flatR rs))) (hn0_2 : n0_2 ≤ 1000000000) (hcp0_2 : n0_2 ≤ c0_2) (A2 : Option Addr) (n2 c2 : Nat) (h2 : Rd w A2 n2 (ints x2)) (hn2 : n2 ≤ 1000000000) (hcp2 : n2 ≤ c2) (A3 : Option Addr) (n3 c3 : Nat) (h3 : RdL w A3 n3 x3) (hn3 : n3 ≤ 1000000000) (hcp3 : n3 ≤ c3) (A4 : Option Addr) (n4 c4 : Nat) (h4 : RdL w A4 n4 x4) (hn4 : n4 ≤ 1000000000) (hcp4 : n4 ≤ c4), Calls Try.prog 11 #[.agg #[.int .i64 x0_0, .int .i64 x0_1, .slice A0_2 n0_2 c0_2], .int .i64 x1, .slice A2 n2 c2, .slice A3 n3 c3, .slice A4 n4 c4] w (fun e w' => ∃ (AR1 : Option Addr) (nR1 cR1 : Nat) (FR1 : Nat → Prop), e = .returned (.tuple #[.int .i64 ((ncP x0_0 x0_1 rs x1 x2 x3 x4).1), .slice AR1 nR1 cR1, .int .i64 ((ncP x0_0 x0_1 rs x1 x2 x3 x4).2.2)]) ∧ OwnP w' FR1 AR1 nR1 cR1 ((ncP x0_0 x0_1 rs x1 x2 x3 x4).2.1) ∧ (∀ k, FR1 k → w.heap.size ≤ k ∧ k < w'.heap.size) ∧ Below w.heap.size w w') := fun w A0_2 n0_2 c0_2 h0_2 hn0_2 hcp0_2 A2 n2 c2 h2 hn2 hcp2 A3 n3 c3 h3 hn3 hcp3 A4 n4 c4 h4 hn4 hcp4 => specNextContexts_any w x0_0 x0_1 A0_2 n0_2 c0_2 rs h0_2 (by omega) x1 A2 n2 c2 x2 h2 (by omega) hcp2 A3 n3 c3 x3 h3 hn3 A4 n4 c4 x4 h4 hn4
  have hI : ∀ (w : World) (A0_2 : Option Addr) (n0_2 c0_2 : Nat) (h0_2 : Rd w A0_2 (n0_2 * 3) (ints (flatR rs))) (hn0_2 : n0_2 ≤ 1000000000) (hcp0_2 : n0_2 ≤ c0_2) (A2 : Option Addr) (n2 c2 : Nat) (h2 : Rd w A2 n2 (ints x2)) (hn2 : n2 ≤ 1000000000) (hcp2 : n2 ≤ c2) (A3 : Option Addr) (n3 c3 : Nat) (h3 : RdL w A3 n3 x3) (hn3 : n3 ≤ 1000000000) (hcp3 : n3 ≤ c3) (A4 : Option Addr) (n4 c4 : Nat) (h4 : RdL w A4 n4 x4) (hn4 : n4 ≤ 1000000000) (hcp4 : n4 ≤ c4), Calls Try.prog 15 #[.agg #[.int .i64 x0_0, .int .i64 x0_1, .slice A0_2 n0_2 c0_2], .int .i64 x1, .slice A2 n2 c2, .slice A3 n3 c3, .slice A4 n4 c4] w (fun e w' => ∃ (AR1 : Option Addr) (nR1 cR1 : Nat) (FR1 : Nat → Prop), e = .returned (.tuple #[.int .i64 ((ncP x0_0 x0_1 rs x1 x2 x3 x4).1), .slice AR1 nR1 cR1, .int .i64 ((ncP x0_0 x0_1 rs x1 x2 x3 x4).2.2)]) ∧ OwnP w' FR1 AR1 nR1 cR1 ((ncP x0_0 x0_1 rs x1 x2 x3 x4).2.1) ∧ (∀ k, FR1 k → w.heap.size ≤ k ∧ k < w'.heap.size) ∧ Below w.heap.size w w') := fun w A0_2 n0_2 c0_2 h0_2 hn0_2 hcp0_2 A2 n2 c2 h2 hn2 hcp2 A3 n3 c3 h3 hn3 hcp3 A4 n4 c4 h4 hn4 hcp4 => implNextContexts_any w x0_0 x0_1 A0_2 n0_2 c0_2 rs h0_2 (by omega) x1 A2 n2 c2 x2 h2 (by omega) hcp2 A3 n3 c3 x3 h3 hn3 A4 n4 c4 x4 h4 hn4
  have HRLR1 : Hid (tot ((ncP x0_0 x0_1 rs x1 x2 x3 x4).2.1) ≤ 1000000 ∧ ((ncP x0_0 x0_1 rs x1 x2 x3 x4).2.1).length ≤ 1000000) := Lib.hid (ncP_len _ _ _ _ _ _ _)
  have HS := Lib.hid hS; have HI := Lib.hid hI
  clear hS hI
  generalize (ncP x0_0 x0_1 rs x1 x2 x3 x4).1 = r0 at HS HI 
  generalize (ncP x0_0 x0_1 rs x1 x2 x3 x4).2.1 = r1 at HS HI HRLR1
  generalize (ncP x0_0 x0_1 rs x1 x2 x3 x4).2.2 = r2 at HS HI 
  have HXL0_2 : Hid (((flatR rs)).length = n0_2 * 3) := Lib.hid (by have := hr0_2.1; simp at this; omega)
  have HXL2 : Hid ((x2).length = n2 * 1) := Lib.hid (by have := hr2.1; simp at this; omega)
  have HXL3 : Hid ((x3).length = n3) := Lib.hid hw3.len
  have HXL4 : Hid ((x4).length = n4) := Lib.hid hw4.len
  have HB := Below.refl w.heap.size w
  go_enter Try.func3, Try.ntmps3
  by_cases hbig2 : 1048576 < n2
  · have hbi2 : (1048576 : Int) < (n2 : Int) := by omega
    go_wp2_with fail
    go_ret
    exact ⟨rfl, by first | exact HB | exact below_new _ _ | exact (below_new _ _).trans ((below_new _ _).mono (by simp))⟩
  have hbi2 : ¬ (1048576 : Int) < (n2 : Int) := by omega
  replace hbig2 : n2 ≤ 1048576 := by omega
  go_wp2_with fail
  refine (szMachine_post _ x0_0 x0_1 _ _ _ hnn0_2 _ (by omega) (by omega)).mono ?_
  rintro e v1 ⟨lfv1, rfl, hqv1, hpv1, hbv1⟩
  (try replace hbv1 := und1 hbv1)
  (try replace hbv1 := undN hbv1)
  obtain ⟨hbv1b, hxo1, hso1⟩ := box_step hbv1
  (try simp only [World.size_alloc] at hxo1 hso1)
  replace HB := HB.trans (hbv1b.mono HB.size)
  have hszv1 := hbv1b.size
  have qo1_0 := blk_cell hxo1 0 rfl
  have qo1_1 := blk_cell hxo1 1 rfl
  have qo1_2 := blk_cell hxo1 2 rfl
  have hlo1 := blk_lt hxo1
  by_cases hzv1 : lfv1 < 0
  · clear hqv1 hpv1
    go_wp2_with fail
    go_ret
    exact ⟨rfl, HB⟩
  replace hqv1 := hqv1 (by omega)
  have hbig0_2 : n0_2 ≤ 1048576 := by omega
  have HQv1 := Lib.hid hqv1; clear hqv1
  go_wp2_with fail
  refine (szInt64SS_post _ _ _ _ x3 (by have h := hw3.below HB (Nat.le_refl _); first | exact h | exact h.below (below_new _ _) (Nat.le_refl _) | exact (h.below (below_new _ _) (Nat.le_refl _)).below (below_new _ _) (Nat.le_refl _) | exact ((h.below (below_new _ _) (Nat.le_refl _)).below (below_new _ _) (Nat.le_refl _)).below (below_new _ _) (Nat.le_refl _)) hnn3 _ (by omega) (by omega)).mono ?_
  rintro e v2 ⟨lfv2, rfl, hqv2, hpv2, hbv2⟩
  clear qo1_0 qo1_1 qo1_2 hlo1
  (try replace hbv2 := und1 hbv2)
  (try replace hbv2 := undN hbv2)
  replace hxo1 := blk_bel hxo1 hbv2
  replace HB := HB.trans (hbv2.mono HB.size)
  have hszv2 := hbv2.size
  have qo1_0 := blk_cell hxo1 0 rfl
  have qo1_1 := blk_cell hxo1 1 rfl
  have qo1_2 := blk_cell hxo1 2 rfl
  have hlo1 := blk_lt hxo1
  by_cases hzv2 : lfv2 < 0
  · clear hqv2 hpv2
    go_wp2_with fail
    go_ret
    exact ⟨rfl, HB⟩
  replace hqv2 := hqv2 (by omega)
  have hbig3 : n3 ≤ 1048576 := by omega
  have HTX3 : Hid (tot x3 ≤ 1048576) := Lib.hid (by omega)
  have hr3 := hw3.rdl (by have := HTX3.out; omega)
  have HQv2 := Lib.hid hqv2; clear hqv2
  go_wp2_with fail
  refine (szInt64SS_post _ _ _ _ x4 (by have h := hw4.below HB (Nat.le_refl _); first | exact h | exact h.below (below_new _ _) (Nat.le_refl _) | exact (h.below (below_new _ _) (Nat.le_refl _)).below (below_new _ _) (Nat.le_refl _) | exact ((h.below (below_new _ _) (Nat.le_refl _)).below (below_new _ _) (Nat.le_refl _)).below (below_new _ _) (Nat.le_refl _)) hnn4 _ (by omega) (by omega)).mono ?_
  rintro e v3 ⟨lfv3, rfl, hqv3, hpv3, hbv3⟩
  clear qo1_0 qo1_1 qo1_2 hlo1
  (try replace hbv3 := und1 hbv3)
  (try replace hbv3 := undN hbv3)
  replace hxo1 := blk_bel hxo1 hbv3
  replace HB := HB.trans (hbv3.mono HB.size)
  have hszv3 := hbv3.size
  have qo1_0 := blk_cell hxo1 0 rfl
  have qo1_1 := blk_cell hxo1 1 rfl
  have qo1_2 := blk_cell hxo1 2 rfl
  have hlo1 := blk_lt hxo1
  by_cases hzv3 : lfv3 < 0
  · clear hqv3 hpv3
    go_wp2_with fail
    go_ret
    exact ⟨rfl, HB⟩
  replace hqv3 := hqv3 (by omega)
  have hbig4 : n4 ≤ 1048576 := by omega
  have HTX4 : Hid (tot x4 ≤ 1048576) := Lib.hid (by omega)
  have hr4 := hw4.rdl (by have := HTX4.out; omega)
  have HQv3 := Lib.hid hqv3; clear hqv3
  go_wp2_with fail
  refine (toMachine_any _ x0_0 x0_1 _ _ _ (flatR rs) (hr0_2.below HB (Nat.le_refl _)) (by omega)).mono ?_
  rintro e v4 ⟨Ao2, no2, co2, rfl, hoo2, hbv4⟩
  have hno2 : no2 ≤ 1048576 := by have h1 := hoo2.1; simp only [List.length_map] at h1; have h2 := HXL0_2.out; omega
  have hrgo2 := Lib.hid (rg_row hoo2)
  clear qo1_0 qo1_1 qo1_2 hlo1
  (try replace hbv4 := und1 hbv4)
  (try replace hbv4 := undN hbv4)
  replace hxo1 := blk_bel hxo1 hbv4
  replace HB := HB.trans (hbv4.mono HB.size)
  have hszv4 := hbv4.size
  have qo1_0 := blk_cell hxo1 0 rfl
  have qo1_1 := blk_cell hxo1 1 rfl
  have qo1_2 := blk_cell hxo1 2 rfl
  have hlo1 := blk_lt hxo1
  replace hrgo2 := Lib.hid (rg_lo hrgo2.out (lo := v3.heap.size + 0) (hi := v4.heap.size) (by first | exact Nat.le_refl _ | exact le_al1 | (simp; done) | (simp; omega)) (Nat.le_refl _))
  go_wp2_with fail
  refine (toInt64S_any _ _ _ _ x2 (hr2.below HB (Nat.le_refl _)) (by omega)).mono ?_
  rintro e v5 ⟨Ao3, no3, co3, rfl, hoo3, hbv5⟩
  have hno3 : no3 ≤ 1048576 := by have h1 := hoo3.1; simp only [List.length_map] at h1; have h2 := HXL2.out; omega
  have hrgo3 := Lib.hid (rg_row hoo3)
  clear qo1_0 qo1_1 qo1_2 hlo1
  (try replace hbv5 := und1 hbv5)
  (try replace hbv5 := undN hbv5)
  replace hoo2 := ownN_below hoo2 hbv5 (Nat.le_refl _)
  replace hxo1 := blk_bel hxo1 hbv5
  replace HB := HB.trans (hbv5.mono HB.size)
  have hszv5 := hbv5.size
  have qo1_0 := blk_cell hxo1 0 rfl
  have qo1_1 := blk_cell hxo1 1 rfl
  have qo1_2 := blk_cell hxo1 2 rfl
  have hlo1 := blk_lt hxo1
  replace hrgo3 := Lib.hid (rg_lo hrgo3.out (lo := v4.heap.size + 0) (hi := v5.heap.size) (by first | exact Nat.le_refl _ | exact le_al1 | (simp; done) | (simp; omega)) (Nat.le_refl _))
  go_wp2_with fail
  refine (toInt64SS_any _ _ _ _ x3 (hr3.below HB (Nat.le_refl _)) (by omega)).mono ?_
  rintro e v6 ⟨Ao4, no4, co4, Fo4, rfl, hoo4, hFo4, hbv6⟩
  have hno4 : no4 ≤ 1048576 := by have h1 := hoo4.len; have h2 := HXL3.out; omega
  have hrgo4 := Lib.hid hFo4; clear hFo4
  clear qo1_0 qo1_1 qo1_2 hlo1
  (try replace hbv6 := und1 hbv6)
  (try replace hbv6 := undN hbv6)
  replace hoo2 := ownN_below hoo2 hbv6 (Nat.le_refl _)
  replace hoo3 := ownN_below hoo3 hbv6 (Nat.le_refl _)
  replace hxo1 := blk_bel hxo1 hbv6
  replace HB := HB.trans (hbv6.mono HB.size)
  have hszv6 := hbv6.size
  have qo1_0 := blk_cell hxo1 0 rfl
  have qo1_1 := blk_cell hxo1 1 rfl
  have qo1_2 := blk_cell hxo1 2 rfl
  have hlo1 := blk_lt hxo1
  replace hrgo4 := Lib.hid (rg_lo hrgo4.out (lo := v5.heap.size + 0) (hi := v6.heap.size) (by first | exact Nat.le_refl _ | exact le_al1 | (simp; done) | (simp; omega)) (Nat.le_refl _))
  go_wp2_with fail
  refine (toInt64SS_any _ _ _ _ x4 (hr4.below HB (Nat.le_refl _)) (by omega)).mono ?_
  rintro e v7 ⟨Ao5, no5, co5, Fo5, rfl, hoo5, hFo5, hbv7⟩
  have hno5 : no5 ≤ 1048576 := by have h1 := hoo5.len; have h2 := HXL4.out; omega
  have hrgo5 := Lib.hid hFo5; clear hFo5
  clear qo1_0 qo1_1 qo1_2 hlo1
  (try replace hbv7 := und1 hbv7)
  (try replace hbv7 := undN hbv7)
  replace hoo2 := ownN_below hoo2 hbv7 (Nat.le_refl _)
  replace hoo3 := ownN_below hoo3 hbv7 (Nat.le_refl _)
  replace hoo4 := hoo4.below hbv7
  replace hxo1 := blk_bel hxo1 hbv7
  replace HB := HB.trans (hbv7.mono HB.size)
  have hszv7 := hbv7.size
  have qo1_0 := blk_cell hxo1 0 rfl
  have qo1_1 := blk_cell hxo1 1 rfl
  have qo1_2 := blk_cell hxo1 2 rfl
  have hlo1 := blk_lt hxo1
  replace hrgo5 := Lib.hid (rg_lo hrgo5.out (lo := v6.heap.size + 0) (hi := v7.heap.size) (by first | exact Nat.le_refl _ | exact le_al1 | (simp; done) | (simp; omega)) (Nat.le_refl _))
  go_wp2_with fail
  refine (HS.out _ _ _ _ (ownN_rd hoo2) (by omega) (ownN_cap hoo2) _ _ _ (own_rd hoo3) (by omega) (ownN_cap hoo3) _ _ _ hoo4.rdl (by omega) hoo4.cap _ _ _ hoo5.rdl (by omega) hoo5.cap).mono ?_
  rintro e v8 ⟨Ao6, no6, co6, Fo6, rfl, hoo6, hFo6, hbv8⟩
  have hno6 : no6 ≤ 1000000 := by have h1 := hoo6.len; have h2 := HRLR1.out; omega
  have hrgo6 := Lib.hid hFo6; clear hFo6
  clear qo1_0 qo1_1 qo1_2 hlo1
  (try replace hbv8 := und1 hbv8)
  (try replace hbv8 := undN hbv8)
  replace hoo2 := ownN_below hoo2 hbv8 (Nat.le_refl _)
  replace hoo3 := ownN_below hoo3 hbv8 (Nat.le_refl _)
  replace hoo4 := hoo4.below hbv8
  replace hoo5 := hoo5.below hbv8
  replace hxo1 := blk_bel hxo1 hbv8
  replace HB := HB.trans (hbv8.mono HB.size)
  have hszv8 := hbv8.size
  have qo1_0 := blk_cell hxo1 0 rfl
  have qo1_1 := blk_cell hxo1 1 rfl
  have qo1_2 := blk_cell hxo1 2 rfl
  have hlo1 := blk_lt hxo1
  replace hrgo6 := Lib.hid (rg_lo hrgo6.out (lo := v7.heap.size + 0) (hi := v8.heap.size) (by first | exact Nat.le_refl _ | exact le_al1 | (simp; done) | (simp; omega)) (Nat.le_refl _))
  go_wp2_with fail
  refine (toMachine_any _ x0_0 x0_1 _ _ _ (flatR rs) (hr0_2.below HB (Nat.le_refl _)) (by omega)).mono ?_
  rintro e v9 ⟨Ao7, no7, co7, rfl, hoo7, hbv9⟩
  have hno7 : no7 ≤ 1048576 := by have h1 := hoo7.1; simp only [List.length_map] at h1; have h2 := HXL0_2.out; omega
  have hrgo7 := Lib.hid (rg_row hoo7)
  clear qo1_0 qo1_1 qo1_2 hlo1
  (try replace hbv9 := und1 hbv9)
  (try replace hbv9 := undN hbv9)
  replace hoo2 := ownN_below hoo2 hbv9 (Nat.le_refl _)
  replace hoo3 := ownN_below hoo3 hbv9 (Nat.le_refl _)
  replace hoo4 := hoo4.below hbv9
  replace hoo5 := hoo5.below hbv9
  replace hoo6 := hoo6.below hbv9
  replace hxo1 := blk_bel hxo1 hbv9
  replace HB := HB.trans (hbv9.mono HB.size)
  have hszv9 := hbv9.size
  have qo1_0 := blk_cell hxo1 0 rfl
  have qo1_1 := blk_cell hxo1 1 rfl
  have qo1_2 := blk_cell hxo1 2 rfl
  have hlo1 := blk_lt hxo1
  replace hrgo7 := Lib.hid (rg_lo hrgo7.out (lo := v8.heap.size + 0) (hi := v9.heap.size) (by first | exact Nat.le_refl _ | exact le_al1 | (simp; done) | (simp; omega)) (Nat.le_refl _))
  go_wp2_with fail
  refine (toInt64S_any _ _ _ _ x2 ((hr2.below HB (Nat.le_refl _)).below (below_new _ _) (Nat.le_refl _)) (by omega)).mono ?_
  rintro e v10 ⟨Ao9, no9, co9, rfl, hoo9, hbv10⟩
  have hno9 : no9 ≤ 1048576 := by have h1 := hoo9.1; simp only [List.length_map] at h1; have h2 := HXL2.out; omega
  have hrgo9 := Lib.hid (rg_row hoo9)
  clear qo1_0 qo1_1 qo1_2 hlo1
  (try replace hbv10 := und1 hbv10)
  (try replace hbv10 := undN hbv10)
  obtain ⟨hbv10b, hxo8, hso8⟩ := box_step hbv10
  (try simp only [World.size_alloc] at hxo8 hso8)
  replace hoo2 := ownN_below hoo2 hbv10b (Nat.le_refl _)
  replace hoo3 := ownN_below hoo3 hbv10b (Nat.le_refl _)
  replace hoo4 := hoo4.below hbv10b
  replace hoo5 := hoo5.below hbv10b
  replace hoo6 := hoo6.below hbv10b
  replace hoo7 := ownN_below hoo7 hbv10b (Nat.le_refl _)
  replace hxo1 := blk_bel hxo1 hbv10b
  replace HB := HB.trans (hbv10b.mono HB.size)
  have hszv10 := hbv10b.size
  have qo1_0 := blk_cell hxo1 0 rfl
  have qo1_1 := blk_cell hxo1 1 rfl
  have qo1_2 := blk_cell hxo1 2 rfl
  have hlo1 := blk_lt hxo1
  have qo8_0 := blk_cell hxo8 0 rfl
  have qo8_1 := blk_cell hxo8 1 rfl
  have qo8_2 := blk_cell hxo8 2 rfl
  have hlo8 := blk_lt hxo8
  replace hrgo9 := Lib.hid (rg_lo hrgo9.out (lo := v9.heap.size + 1) (hi := v10.heap.size) (by first | exact Nat.le_refl _ | exact le_al1 | (simp; done) | (simp; omega)) (Nat.le_refl _))
  go_wp2_with fail
  refine (toInt64SS_any _ _ _ _ x3 (hr3.below HB (Nat.le_refl _)) (by omega)).mono ?_
  rintro e v11 ⟨Ao10, no10, co10, Fo10, rfl, hoo10, hFo10, hbv11⟩
  have hno10 : no10 ≤ 1048576 := by have h1 := hoo10.len; have h2 := HXL3.out; omega
  have hrgo10 := Lib.hid hFo10; clear hFo10
  clear qo1_0 qo1_1 qo1_2 qo8_0 qo8_1 qo8_2 hlo1 hlo8
  (try replace hbv11 := und1 hbv11)
  (try replace hbv11 := undN hbv11)
  replace hoo2 := ownN_below hoo2 hbv11 (Nat.le_refl _)
  replace hoo3 := ownN_below hoo3 hbv11 (Nat.le_refl _)
  replace hoo4 := hoo4.below hbv11
  replace hoo5 := hoo5.below hbv11
  replace hoo6 := hoo6.below hbv11
  replace hoo7 := ownN_below hoo7 hbv11 (Nat.le_refl _)
  replace hoo9 := ownN_below hoo9 hbv11 (Nat.le_refl _)
  replace hxo1 := blk_bel hxo1 hbv11
  replace hxo8 := blk_bel hxo8 hbv11
  replace HB := HB.trans (hbv11.mono HB.size)
  have hszv11 := hbv11.size
  have qo1_0 := blk_cell hxo1 0 rfl
  have qo1_1 := blk_cell hxo1 1 rfl
  have qo1_2 := blk_cell hxo1 2 rfl
  have hlo1 := blk_lt hxo1
  have qo8_0 := blk_cell hxo8 0 rfl
  have qo8_1 := blk_cell hxo8 1 rfl
  have qo8_2 := blk_cell hxo8 2 rfl
  have hlo8 := blk_lt hxo8
  replace hrgo10 := Lib.hid (rg_lo hrgo10.out (lo := v10.heap.size + 0) (hi := v11.heap.size) (by first | exact Nat.le_refl _ | exact le_al1 | (simp; done) | (simp; omega)) (Nat.le_refl _))
  go_wp2_with fail
  refine (toInt64SS_any _ _ _ _ x4 (hr4.below HB (Nat.le_refl _)) (by omega)).mono ?_
  rintro e v12 ⟨Ao11, no11, co11, Fo11, rfl, hoo11, hFo11, hbv12⟩
  have hno11 : no11 ≤ 1048576 := by have h1 := hoo11.len; have h2 := HXL4.out; omega
  have hrgo11 := Lib.hid hFo11; clear hFo11
  clear qo1_0 qo1_1 qo1_2 qo8_0 qo8_1 qo8_2 hlo1 hlo8
  (try replace hbv12 := und1 hbv12)
  (try replace hbv12 := undN hbv12)
  replace hoo2 := ownN_below hoo2 hbv12 (Nat.le_refl _)
  replace hoo3 := ownN_below hoo3 hbv12 (Nat.le_refl _)
  replace hoo4 := hoo4.below hbv12
  replace hoo5 := hoo5.below hbv12
  replace hoo6 := hoo6.below hbv12
  replace hoo7 := ownN_below hoo7 hbv12 (Nat.le_refl _)
  replace hoo9 := ownN_below hoo9 hbv12 (Nat.le_refl _)
  replace hoo10 := hoo10.below hbv12
  replace hxo1 := blk_bel hxo1 hbv12
  replace hxo8 := blk_bel hxo8 hbv12
  replace HB := HB.trans (hbv12.mono HB.size)
  have hszv12 := hbv12.size
  have qo1_0 := blk_cell hxo1 0 rfl
  have qo1_1 := blk_cell hxo1 1 rfl
  have qo1_2 := blk_cell hxo1 2 rfl
  have hlo1 := blk_lt hxo1
  have qo8_0 := blk_cell hxo8 0 rfl
  have qo8_1 := blk_cell hxo8 1 rfl
  have qo8_2 := blk_cell hxo8 2 rfl
  have hlo8 := blk_lt hxo8
  replace hrgo11 := Lib.hid (rg_lo hrgo11.out (lo := v11.heap.size + 0) (hi := v12.heap.size) (by first | exact Nat.le_refl _ | exact le_al1 | (simp; done) | (simp; omega)) (Nat.le_refl _))
  go_wp2_with fail
  refine (HI.out _ _ _ _ (ownN_rd hoo7) (by omega) (ownN_cap hoo7) _ _ _ (own_rd hoo9) (by omega) (ownN_cap hoo9) _ _ _ hoo10.rdl (by omega) hoo10.cap _ _ _ hoo11.rdl (by omega) hoo11.cap).mono ?_
  rintro e v13 ⟨Ao12, no12, co12, Fo12, rfl, hoo12, hFo12, hbv13⟩
  have hno12 : no12 ≤ 1000000 := by have h1 := hoo12.len; have h2 := HRLR1.out; omega
  have hrgo12 := Lib.hid hFo12; clear hFo12
  clear qo1_0 qo1_1 qo1_2 qo8_0 qo8_1 qo8_2 hlo1 hlo8
  (try replace hbv13 := und1 hbv13)
  (try replace hbv13 := undN hbv13)
  replace hoo2 := ownN_below hoo2 hbv13 (Nat.le_refl _)
  replace hoo3 := ownN_below hoo3 hbv13 (Nat.le_refl _)
  replace hoo4 := hoo4.below hbv13
  replace hoo5 := hoo5.below hbv13
  replace hoo6 := hoo6.below hbv13
  replace hoo7 := ownN_below hoo7 hbv13 (Nat.le_refl _)
  replace hoo9 := ownN_below hoo9 hbv13 (Nat.le_refl _)
  replace hoo10 := hoo10.below hbv13
  replace hoo11 := hoo11.below hbv13
  replace hxo1 := blk_bel hxo1 hbv13
  replace hxo8 := blk_bel hxo8 hbv13
  replace HB := HB.trans (hbv13.mono HB.size)
  have hszv13 := hbv13.size
  have qo1_0 := blk_cell hxo1 0 rfl
  have qo1_1 := blk_cell hxo1 1 rfl
  have qo1_2 := blk_cell hxo1 2 rfl
  have hlo1 := blk_lt hxo1
  have qo8_0 := blk_cell hxo8 0 rfl
  have qo8_1 := blk_cell hxo8 1 rfl
  have qo8_2 := blk_cell hxo8 2 rfl
  have hlo8 := blk_lt hxo8
  replace hrgo12 := Lib.hid (rg_lo hrgo12.out (lo := v12.heap.size + 0) (hi := v13.heap.size) (by first | exact Nat.le_refl _ | exact le_al1 | (simp; done) | (simp; omega)) (Nat.le_refl _))
  go_wp2_with fail
  refine (eqInt64SS_same _ _ _ _ r1 hoo12.rdl (by omega) _ _ _ hoo6.rdl).mono ?_
  rintro e v14 ⟨rfl, hbv14⟩
  clear qo1_0 qo1_1 qo1_2 qo8_0 qo8_1 qo8_2 hlo1 hlo8
  (try replace hbv14 := und1 hbv14)
  (try replace hbv14 := undN hbv14)
  replace hoo2 := ownN_below hoo2 hbv14 (Nat.le_refl _)
  replace hoo3 := ownN_below hoo3 hbv14 (Nat.le_refl _)
  replace hoo4 := hoo4.below hbv14
  replace hoo5 := hoo5.below hbv14
  replace hoo6 := hoo6.below hbv14
  replace hoo7 := ownN_below hoo7 hbv14 (Nat.le_refl _)
  replace hoo9 := ownN_below hoo9 hbv14 (Nat.le_refl _)
  replace hoo10 := hoo10.below hbv14
  replace hoo11 := hoo11.below hbv14
  replace hoo12 := hoo12.below hbv14
  replace hxo1 := blk_bel hxo1 hbv14
  replace hxo8 := blk_bel hxo8 hbv14
  replace HB := HB.trans (hbv14.mono HB.size)
  have hszv14 := hbv14.size
  have qo1_0 := blk_cell hxo1 0 rfl
  have qo1_1 := blk_cell hxo1 1 rfl
  have qo1_2 := blk_cell hxo1 2 rfl
  have hlo1 := blk_lt hxo1
  have qo8_0 := blk_cell hxo8 0 rfl
  have qo8_1 := blk_cell hxo8 1 rfl
  have qo8_2 := blk_cell hxo8 2 rfl
  have hlo8 := blk_lt hxo8
  go_wp2_with fail
  go_region_held3 (fun w' => w'.cell? ⟨v9.heap.size, 0, none⟩ = some (.int .i64 x0_0) ∧ w'.cell? ⟨v9.heap.size, 1, none⟩ = some (.int .i64 x0_1) ∧ w'.cell? ⟨v9.heap.size, 2, none⟩ = some (.slice Ao7 no7 co7) ∧ w'.cell? ⟨w.heap.size, 0, none⟩ = some (.int .i64 x0_0) ∧ w'.cell? ⟨w.heap.size, 1, none⟩ = some (.int .i64 x0_1) ∧ w'.cell? ⟨w.heap.size, 2, none⟩ = some (.slice A0_2 n0_2 c0_2)) (first | exact ⟨qo8_0, qo8_1, qo8_2, qo1_0, qo1_1, qo1_2⟩ | go_keep) (first
    | (go_at_call 12
       refine (toMachine_any _ x0_0 x0_1 _ _ _ (flatR rs) (by have h := (hr0_2.below HB (Nat.le_refl _)); first | exact h | exact h.below (below_new _ _) (Nat.le_refl _) | exact h.below (below_drew1 (below_new _ _)) (Nat.le_refl _)) (by omega)).mono ?_
       rintro e v15 ⟨Ao13, no13, co13, rfl, hoo13, hbv15⟩
       have hno13 : no13 ≤ 1048576 := by have h1 := hoo13.1; simp only [List.length_map] at h1; have h2 := HXL0_2.out; omega
       have hrgo13 := Lib.hid (rg_row hoo13)
       clear qo1_0 qo1_1 qo1_2 qo8_0 qo8_1 qo8_2 hlo1 hlo8
       (try replace hbv15 := und1 hbv15)
       (try replace hbv15 := undN hbv15)
       replace hoo2 := ownN_below hoo2 hbv15 (Nat.le_refl _)
       replace hoo3 := ownN_below hoo3 hbv15 (Nat.le_refl _)
       replace hoo4 := hoo4.below hbv15
       replace hoo5 := hoo5.below hbv15
       replace hoo6 := hoo6.below hbv15
       replace hoo7 := ownN_below hoo7 hbv15 (Nat.le_refl _)
       replace hoo9 := ownN_below hoo9 hbv15 (Nat.le_refl _)
       replace hoo10 := hoo10.below hbv15
       replace hoo11 := hoo11.below hbv15
       replace hoo12 := hoo12.below hbv15
       replace hxo1 := blk_bel hxo1 hbv15
       replace hxo8 := blk_bel hxo8 hbv15
       replace HB := HB.trans (hbv15.mono HB.size)
       have hszv15 := hbv15.size
       have qo1_0 := blk_cell hxo1 0 rfl
       have qo1_1 := blk_cell hxo1 1 rfl
       have qo1_2 := blk_cell hxo1 2 rfl
       have hlo1 := blk_lt hxo1
       have qo8_0 := blk_cell hxo8 0 rfl
       have qo8_1 := blk_cell hxo8 1 rfl
       have qo8_2 := blk_cell hxo8 2 rfl
       have hlo8 := blk_lt hxo8
       replace hrgo13 := Lib.hid (rg_lo hrgo13.out (lo := v14.heap.size + 0) (hi := v15.heap.size) (by first | exact Nat.le_refl _ | exact le_al1 | (simp; done) | (simp; omega)) (Nat.le_refl _))
       )
    | (go_at_call 17
       refine (eqMachine_same _ _ _ _ _ _ (flatR rs) (by have h := (ownN_rd hoo7); first | exact h | exact h.below (below_new _ _) (Nat.le_refl _) | exact h.below (below_drew1 (below_new _ _)) (Nat.le_refl _)) (by omega) _ _ _ (by have h := (ownN_rd hoo13); first | exact h | exact h.below (below_new _ _) (Nat.le_refl _) | exact h.below (below_drew1 (below_new _ _)) (Nat.le_refl _))).mono ?_
       rintro e v16 ⟨rfl, hbv16⟩
       clear qo1_0 qo1_1 qo1_2 qo8_0 qo8_1 qo8_2 hlo1 hlo8
       (try replace hbv16 := und1 hbv16)
       (try replace hbv16 := undN hbv16)
       replace hoo2 := ownN_below hoo2 hbv16 (Nat.le_refl _)
       replace hoo3 := ownN_below hoo3 hbv16 (Nat.le_refl _)
       replace hoo4 := hoo4.below hbv16
       replace hoo5 := hoo5.below hbv16
       replace hoo6 := hoo6.below hbv16
       replace hoo7 := ownN_below hoo7 hbv16 (Nat.le_refl _)
       replace hoo9 := ownN_below hoo9 hbv16 (Nat.le_refl _)
       replace hoo10 := hoo10.below hbv16
       replace hoo11 := hoo11.below hbv16
       replace hoo12 := hoo12.below hbv16
       replace hoo13 := ownN_below hoo13 hbv16 (Nat.le_refl _)
       replace hxo1 := blk_bel hxo1 hbv16
       replace hxo8 := blk_bel hxo8 hbv16
       replace HB := HB.trans (hbv16.mono HB.size)
       have hszv16 := hbv16.size
       have qo1_0 := blk_cell hxo1 0 rfl
       have qo1_1 := blk_cell hxo1 1 rfl
       have qo1_2 := blk_cell hxo1 2 rfl
       have hlo1 := blk_lt hxo1
       have qo8_0 := blk_cell hxo8 0 rfl
       have qo8_1 := blk_cell hxo8 1 rfl
       have qo8_2 := blk_cell hxo8 2 rfl
       have hlo8 := blk_lt hxo8
       )
    )
  go_wp2_with fail
  refine (toInt64S_any _ _ _ _ x2 (hr2.below HB (Nat.le_refl _)) (by omega)).mono ?_
  rintro e v17 ⟨Ao14, no14, co14, rfl, hoo14, hbv17⟩
  have hno14 : no14 ≤ 1048576 := by have h1 := hoo14.1; simp only [List.length_map] at h1; have h2 := HXL2.out; omega
  have hrgo14 := Lib.hid (rg_row hoo14)
  clear qo1_0 qo1_1 qo1_2 qo8_0 qo8_1 qo8_2 hlo1 hlo8
  (try replace hbv17 := und1 hbv17)
  (try replace hbv17 := undN hbv17)
  replace hoo2 := ownN_below hoo2 hbv17 (Nat.le_refl _)
  replace hoo3 := ownN_below hoo3 hbv17 (Nat.le_refl _)
  replace hoo4 := hoo4.below hbv17
  replace hoo5 := hoo5.below hbv17
  replace hoo6 := hoo6.below hbv17
  replace hoo7 := ownN_below hoo7 hbv17 (Nat.le_refl _)
  replace hoo9 := ownN_below hoo9 hbv17 (Nat.le_refl _)
  replace hoo10 := hoo10.below hbv17
  replace hoo11 := hoo11.below hbv17
  replace hoo12 := hoo12.below hbv17
  replace hoo13 := ownN_below hoo13 hbv17 (Nat.le_refl _)
  replace hxo1 := blk_bel hxo1 hbv17
  replace hxo8 := blk_bel hxo8 hbv17
  replace HB := HB.trans (hbv17.mono HB.size)
  have hszv17 := hbv17.size
  have qo1_0 := blk_cell hxo1 0 rfl
  have qo1_1 := blk_cell hxo1 1 rfl
  have qo1_2 := blk_cell hxo1 2 rfl
  have hlo1 := blk_lt hxo1
  have qo8_0 := blk_cell hxo8 0 rfl
  have qo8_1 := blk_cell hxo8 1 rfl
  have qo8_2 := blk_cell hxo8 2 rfl
  have hlo8 := blk_lt hxo8
  replace hrgo14 := Lib.hid (rg_lo hrgo14.out (lo := v16.heap.size + 0) (hi := v17.heap.size) (by first | exact Nat.le_refl _ | exact le_al1 | (simp; done) | (simp; omega)) (Nat.le_refl _))
  go_wp2_with fail
  refine (eqInt64S_same _ _ _ _ x2 (own_rd hoo9) (by omega) _ _ _ (own_rd hoo14)).mono ?_
  rintro e v18 ⟨rfl, hbv18⟩
  clear qo1_0 qo1_1 qo1_2 qo8_0 qo8_1 qo8_2 hlo1 hlo8
  (try replace hbv18 := und1 hbv18)
  (try replace hbv18 := undN hbv18)
  replace hoo2 := ownN_below hoo2 hbv18 (Nat.le_refl _)
  replace hoo3 := ownN_below hoo3 hbv18 (Nat.le_refl _)
  replace hoo4 := hoo4.below hbv18
  replace hoo5 := hoo5.below hbv18
  replace hoo6 := hoo6.below hbv18
  replace hoo7 := ownN_below hoo7 hbv18 (Nat.le_refl _)
  replace hoo9 := ownN_below hoo9 hbv18 (Nat.le_refl _)
  replace hoo10 := hoo10.below hbv18
  replace hoo11 := hoo11.below hbv18
  replace hoo12 := hoo12.below hbv18
  replace hoo13 := ownN_below hoo13 hbv18 (Nat.le_refl _)
  replace hoo14 := ownN_below hoo14 hbv18 (Nat.le_refl _)
  replace hxo1 := blk_bel hxo1 hbv18
  replace hxo8 := blk_bel hxo8 hbv18
  replace HB := HB.trans (hbv18.mono HB.size)
  have hszv18 := hbv18.size
  have qo1_0 := blk_cell hxo1 0 rfl
  have qo1_1 := blk_cell hxo1 1 rfl
  have qo1_2 := blk_cell hxo1 2 rfl
  have hlo1 := blk_lt hxo1
  have qo8_0 := blk_cell hxo8 0 rfl
  have qo8_1 := blk_cell hxo8 1 rfl
  have qo8_2 := blk_cell hxo8 2 rfl
  have hlo8 := blk_lt hxo8
  go_wp2_with fail
  refine (toInt64SS_any _ _ _ _ x3 (hr3.below HB (Nat.le_refl _)) (by omega)).mono ?_
  rintro e v19 ⟨Ao15, no15, co15, Fo15, rfl, hoo15, hFo15, hbv19⟩
  have hno15 : no15 ≤ 1048576 := by have h1 := hoo15.len; have h2 := HXL3.out; omega
  have hrgo15 := Lib.hid hFo15; clear hFo15
  clear qo1_0 qo1_1 qo1_2 qo8_0 qo8_1 qo8_2 hlo1 hlo8
  (try replace hbv19 := und1 hbv19)
  (try replace hbv19 := undN hbv19)
  replace hoo2 := ownN_below hoo2 hbv19 (Nat.le_refl _)
  replace hoo3 := ownN_below hoo3 hbv19 (Nat.le_refl _)
  replace hoo4 := hoo4.below hbv19
  replace hoo5 := hoo5.below hbv19
  replace hoo6 := hoo6.below hbv19
  replace hoo7 := ownN_below hoo7 hbv19 (Nat.le_refl _)
  replace hoo9 := ownN_below hoo9 hbv19 (Nat.le_refl _)
  replace hoo10 := hoo10.below hbv19
  replace hoo11 := hoo11.below hbv19
  replace hoo12 := hoo12.below hbv19
  replace hoo13 := ownN_below hoo13 hbv19 (Nat.le_refl _)
  replace hoo14 := ownN_below hoo14 hbv19 (Nat.le_refl _)
  replace hxo1 := blk_bel hxo1 hbv19
  replace hxo8 := blk_bel hxo8 hbv19
  replace HB := HB.trans (hbv19.mono HB.size)
  have hszv19 := hbv19.size
  have qo1_0 := blk_cell hxo1 0 rfl
  have qo1_1 := blk_cell hxo1 1 rfl
  have qo1_2 := blk_cell hxo1 2 rfl
  have hlo1 := blk_lt hxo1
  have qo8_0 := blk_cell hxo8 0 rfl
  have qo8_1 := blk_cell hxo8 1 rfl
  have qo8_2 := blk_cell hxo8 2 rfl
  have hlo8 := blk_lt hxo8
  replace hrgo15 := Lib.hid (rg_lo hrgo15.out (lo := v18.heap.size + 0) (hi := v19.heap.size) (by first | exact Nat.le_refl _ | exact le_al1 | (simp; done) | (simp; omega)) (Nat.le_refl _))
  go_wp2_with fail
  refine (eqInt64SS_same _ _ _ _ x3 hoo10.rdl (by omega) _ _ _ hoo15.rdl).mono ?_
  rintro e v20 ⟨rfl, hbv20⟩
  clear qo1_0 qo1_1 qo1_2 qo8_0 qo8_1 qo8_2 hlo1 hlo8
  (try replace hbv20 := und1 hbv20)
  (try replace hbv20 := undN hbv20)
  replace hoo2 := ownN_below hoo2 hbv20 (Nat.le_refl _)
  replace hoo3 := ownN_below hoo3 hbv20 (Nat.le_refl _)
  replace hoo4 := hoo4.below hbv20
  replace hoo5 := hoo5.below hbv20
  replace hoo6 := hoo6.below hbv20
  replace hoo7 := ownN_below hoo7 hbv20 (Nat.le_refl _)
  replace hoo9 := ownN_below hoo9 hbv20 (Nat.le_refl _)
  replace hoo10 := hoo10.below hbv20
  replace hoo11 := hoo11.below hbv20
  replace hoo12 := hoo12.below hbv20
  replace hoo13 := ownN_below hoo13 hbv20 (Nat.le_refl _)
  replace hoo14 := ownN_below hoo14 hbv20 (Nat.le_refl _)
  replace hoo15 := hoo15.below hbv20
  replace hxo1 := blk_bel hxo1 hbv20
  replace hxo8 := blk_bel hxo8 hbv20
  replace HB := HB.trans (hbv20.mono HB.size)
  have hszv20 := hbv20.size
  have qo1_0 := blk_cell hxo1 0 rfl
  have qo1_1 := blk_cell hxo1 1 rfl
  have qo1_2 := blk_cell hxo1 2 rfl
  have hlo1 := blk_lt hxo1
  have qo8_0 := blk_cell hxo8 0 rfl
  have qo8_1 := blk_cell hxo8 1 rfl
  have qo8_2 := blk_cell hxo8 2 rfl
  have hlo8 := blk_lt hxo8
  go_wp2_with fail
  refine (toInt64SS_any _ _ _ _ x4 (hr4.below HB (Nat.le_refl _)) (by omega)).mono ?_
  rintro e v21 ⟨Ao16, no16, co16, Fo16, rfl, hoo16, hFo16, hbv21⟩
  have hno16 : no16 ≤ 1048576 := by have h1 := hoo16.len; have h2 := HXL4.out; omega
  have hrgo16 := Lib.hid hFo16; clear hFo16
  clear qo1_0 qo1_1 qo1_2 qo8_0 qo8_1 qo8_2 hlo1 hlo8
  (try replace hbv21 := und1 hbv21)
  (try replace hbv21 := undN hbv21)
  replace hoo2 := ownN_below hoo2 hbv21 (Nat.le_refl _)
  replace hoo3 := ownN_below hoo3 hbv21 (Nat.le_refl _)
  replace hoo4 := hoo4.below hbv21
  replace hoo5 := hoo5.below hbv21
  replace hoo6 := hoo6.below hbv21
  replace hoo7 := ownN_below hoo7 hbv21 (Nat.le_refl _)
  replace hoo9 := ownN_below hoo9 hbv21 (Nat.le_refl _)
  replace hoo10 := hoo10.below hbv21
  replace hoo11 := hoo11.below hbv21
  replace hoo12 := hoo12.below hbv21
  replace hoo13 := ownN_below hoo13 hbv21 (Nat.le_refl _)
  replace hoo14 := ownN_below hoo14 hbv21 (Nat.le_refl _)
  replace hoo15 := hoo15.below hbv21
  replace hxo1 := blk_bel hxo1 hbv21
  replace hxo8 := blk_bel hxo8 hbv21
  replace HB := HB.trans (hbv21.mono HB.size)
  have hszv21 := hbv21.size
  have qo1_0 := blk_cell hxo1 0 rfl
  have qo1_1 := blk_cell hxo1 1 rfl
  have qo1_2 := blk_cell hxo1 2 rfl
  have hlo1 := blk_lt hxo1
  have qo8_0 := blk_cell hxo8 0 rfl
  have qo8_1 := blk_cell hxo8 1 rfl
  have qo8_2 := blk_cell hxo8 2 rfl
  have hlo8 := blk_lt hxo8
  replace hrgo16 := Lib.hid (rg_lo hrgo16.out (lo := v20.heap.size + 0) (hi := v21.heap.size) (by first | exact Nat.le_refl _ | exact le_al1 | (simp; done) | (simp; omega)) (Nat.le_refl _))
  go_wp2_with fail
  refine (eqInt64SS_same _ _ _ _ x4 hoo11.rdl (by omega) _ _ _ hoo16.rdl).mono ?_
  rintro e v22 ⟨rfl, hbv22⟩
  clear qo1_0 qo1_1 qo1_2 qo8_0 qo8_1 qo8_2 hlo1 hlo8
  (try replace hbv22 := und1 hbv22)
  (try replace hbv22 := undN hbv22)
  replace hoo2 := ownN_below hoo2 hbv22 (Nat.le_refl _)
  replace hoo3 := ownN_below hoo3 hbv22 (Nat.le_refl _)
  replace hoo4 := hoo4.below hbv22
  replace hoo5 := hoo5.below hbv22
  replace hoo6 := hoo6.below hbv22
  replace hoo7 := ownN_below hoo7 hbv22 (Nat.le_refl _)
  replace hoo9 := ownN_below hoo9 hbv22 (Nat.le_refl _)
  replace hoo10 := hoo10.below hbv22
  replace hoo11 := hoo11.below hbv22
  replace hoo12 := hoo12.below hbv22
  replace hoo13 := ownN_below hoo13 hbv22 (Nat.le_refl _)
  replace hoo14 := ownN_below hoo14 hbv22 (Nat.le_refl _)
  replace hoo15 := hoo15.below hbv22
  replace hoo16 := hoo16.below hbv22
  replace hxo1 := blk_bel hxo1 hbv22
  replace hxo8 := blk_bel hxo8 hbv22
  replace HB := HB.trans (hbv22.mono HB.size)
  have hszv22 := hbv22.size
  have qo1_0 := blk_cell hxo1 0 rfl
  have qo1_1 := blk_cell hxo1 1 rfl
  have qo1_2 := blk_cell hxo1 2 rfl
  have hlo1 := blk_lt hxo1
  have qo8_0 := blk_cell hxo8 0 rfl
  have qo8_1 := blk_cell hxo8 1 rfl
  have qo8_2 := blk_cell hxo8 2 rfl
  have hlo8 := blk_lt hxo8
  go_wp2_with fail
  refine (markMachine_any _ _ _ _ _ _ _ _ hoo7 (by omega)  (1) (by omega) (by omega)).mono ?_
  rintro e v23 ⟨rfl, hmo7, hCv23⟩
  clear qo1_0 qo1_1 qo1_2 qo8_0 qo8_1 qo8_2 hlo1 hlo8
  replace hoo2 := own_ch hoo2 hCv23 (fun k h1 h2 => (by have := hrgo2.out k h1; have := hrgo7.out k h2; omega))
  replace hoo3 := own_ch hoo3 hCv23 (fun k h1 h2 => (by have := hrgo3.out k h1; have := hrgo7.out k h2; omega))
  replace hoo4 := hoo4.ch hCv23 (fun k h1 h2 => (by have := hrgo4.out k h1; have := hrgo7.out k h2; omega))
  replace hoo5 := hoo5.ch hCv23 (fun k h1 h2 => (by have := hrgo5.out k h1; have := hrgo7.out k h2; omega))
  replace hoo6 := hoo6.ch hCv23 (fun k h1 h2 => (by have := hrgo6.out k h1; have := hrgo7.out k h2; omega))
  replace hoo9 := own_ch hoo9 hCv23 (fun k h1 h2 => (by have := hrgo9.out k h1; have := hrgo7.out k h2; omega))
  replace hoo10 := hoo10.ch hCv23 (fun k h1 h2 => (by have := hrgo10.out k h1; have := hrgo7.out k h2; omega))
  replace hoo11 := hoo11.ch hCv23 (fun k h1 h2 => (by have := hrgo11.out k h1; have := hrgo7.out k h2; omega))
  replace hoo12 := hoo12.ch hCv23 (fun k h1 h2 => (by have := hrgo12.out k h1; have := hrgo7.out k h2; omega))
  replace hoo13 := own_ch hoo13 hCv23 (fun k h1 h2 => (by have := hrgo13.out k h1; have := hrgo7.out k h2; omega))
  replace hoo14 := own_ch hoo14 hCv23 (fun k h1 h2 => (by have := hrgo14.out k h1; have := hrgo7.out k h2; omega))
  replace hoo15 := hoo15.ch hCv23 (fun k h1 h2 => (by have := hrgo15.out k h1; have := hrgo7.out k h2; omega))
  replace hoo16 := hoo16.ch hCv23 (fun k h1 h2 => (by have := hrgo16.out k h1; have := hrgo7.out k h2; omega))
  replace hxo1 := blk_ch hxo1 hCv23 (fun h => by have := hrgo7.out _ h; omega)
  replace hxo8 := blk_ch hxo8 hCv23 (fun h => by have := hrgo7.out _ h; omega)
  replace HB := below_ch HB hCv23 (fun k h => by have := hrgo7.out k h; omega) HB.size
  replace hoo7 := hmo7
  have hszv23 := hCv23.size
  have qo1_0 := blk_cell hxo1 0 rfl
  have qo1_1 := blk_cell hxo1 1 rfl
  have qo1_2 := blk_cell hxo1 2 rfl
  have hlo1 := blk_lt hxo1
  have qo8_0 := blk_cell hxo8 0 rfl
  have qo8_1 := blk_cell hxo8 1 rfl
  have qo8_2 := blk_cell hxo8 2 rfl
  have hlo8 := blk_lt hxo8
  go_wp2_with fail
  refine (markInt64S_any _ _ _ _ _ _ hoo9 (by omega)  (1 + (no7 : Int) * 3) (by omega) (by omega)).mono ?_
  rintro e v24 ⟨rfl, hmo9, hCv24⟩
  clear qo1_0 qo1_1 qo1_2 qo8_0 qo8_1 qo8_2 hlo1 hlo8
  replace hCv24 := ch_row hCv24
  replace hoo2 := own_ch hoo2 hCv24 (fun k h1 h2 => (by have := hrgo2.out k h1; have := hrgo9.out k h2; omega))
  replace hoo3 := own_ch hoo3 hCv24 (fun k h1 h2 => (by have := hrgo3.out k h1; have := hrgo9.out k h2; omega))
  replace hoo4 := hoo4.ch hCv24 (fun k h1 h2 => (by have := hrgo4.out k h1; have := hrgo9.out k h2; omega))
  replace hoo5 := hoo5.ch hCv24 (fun k h1 h2 => (by have := hrgo5.out k h1; have := hrgo9.out k h2; omega))
  replace hoo6 := hoo6.ch hCv24 (fun k h1 h2 => (by have := hrgo6.out k h1; have := hrgo9.out k h2; omega))
  replace hoo7 := own_ch hoo7 hCv24 (fun k h1 h2 => (by have := hrgo7.out k h1; have := hrgo9.out k h2; omega))
  replace hoo10 := hoo10.ch hCv24 (fun k h1 h2 => (by have := hrgo10.out k h1; have := hrgo9.out k h2; omega))
  replace hoo11 := hoo11.ch hCv24 (fun k h1 h2 => (by have := hrgo11.out k h1; have := hrgo9.out k h2; omega))
  replace hoo12 := hoo12.ch hCv24 (fun k h1 h2 => (by have := hrgo12.out k h1; have := hrgo9.out k h2; omega))
  replace hoo13 := own_ch hoo13 hCv24 (fun k h1 h2 => (by have := hrgo13.out k h1; have := hrgo9.out k h2; omega))
  replace hoo14 := own_ch hoo14 hCv24 (fun k h1 h2 => (by have := hrgo14.out k h1; have := hrgo9.out k h2; omega))
  replace hoo15 := hoo15.ch hCv24 (fun k h1 h2 => (by have := hrgo15.out k h1; have := hrgo9.out k h2; omega))
  replace hoo16 := hoo16.ch hCv24 (fun k h1 h2 => (by have := hrgo16.out k h1; have := hrgo9.out k h2; omega))
  replace hxo1 := blk_ch hxo1 hCv24 (fun h => by have := hrgo9.out _ h; omega)
  replace hxo8 := blk_ch hxo8 hCv24 (fun h => by have := hrgo9.out _ h; omega)
  replace HB := below_ch HB hCv24 (fun k h => by have := hrgo9.out k h; omega) HB.size
  replace hoo9 := hmo9
  have hszv24 := hCv24.size
  have qo1_0 := blk_cell hxo1 0 rfl
  have qo1_1 := blk_cell hxo1 1 rfl
  have qo1_2 := blk_cell hxo1 2 rfl
  have hlo1 := blk_lt hxo1
  have qo8_0 := blk_cell hxo8 0 rfl
  have qo8_1 := blk_cell hxo8 1 rfl
  have qo8_2 := blk_cell hxo8 2 rfl
  have hlo8 := blk_lt hxo8
  go_wp2_with fail
  have hTv25o10 : tot x3 ≤ 1048576 := by have := HTX3.out; omega
  refine (markInt64SS_any _ _ _ _ _ x3 hoo10 (by omega) (by omega)  (1 + (no7 : Int) * 3 + (no9 : Int)) (by omega) (by omega)).mono ?_
  rintro e v25 ⟨rfl, hmo10, hCv25⟩
  clear qo1_0 qo1_1 qo1_2 qo8_0 qo8_1 qo8_2 hlo1 hlo8
  replace hoo2 := own_ch hoo2 hCv25 (fun k h1 h2 => (by have := hrgo2.out k h1; have := hrgo10.out k h2; omega))
  replace hoo3 := own_ch hoo3 hCv25 (fun k h1 h2 => (by have := hrgo3.out k h1; have := hrgo10.out k h2; omega))
  replace hoo4 := hoo4.ch hCv25 (fun k h1 h2 => (by have := hrgo4.out k h1; have := hrgo10.out k h2; omega))
  replace hoo5 := hoo5.ch hCv25 (fun k h1 h2 => (by have := hrgo5.out k h1; have := hrgo10.out k h2; omega))
  replace hoo6 := hoo6.ch hCv25 (fun k h1 h2 => (by have := hrgo6.out k h1; have := hrgo10.out k h2; omega))
  replace hoo7 := own_ch hoo7 hCv25 (fun k h1 h2 => (by have := hrgo7.out k h1; have := hrgo10.out k h2; omega))
  replace hoo9 := own_ch hoo9 hCv25 (fun k h1 h2 => (by have := hrgo9.out k h1; have := hrgo10.out k h2; omega))
  replace hoo11 := hoo11.ch hCv25 (fun k h1 h2 => (by have := hrgo11.out k h1; have := hrgo10.out k h2; omega))
  replace hoo12 := hoo12.ch hCv25 (fun k h1 h2 => (by have := hrgo12.out k h1; have := hrgo10.out k h2; omega))
  replace hoo13 := own_ch hoo13 hCv25 (fun k h1 h2 => (by have := hrgo13.out k h1; have := hrgo10.out k h2; omega))
  replace hoo14 := own_ch hoo14 hCv25 (fun k h1 h2 => (by have := hrgo14.out k h1; have := hrgo10.out k h2; omega))
  replace hoo15 := hoo15.ch hCv25 (fun k h1 h2 => (by have := hrgo15.out k h1; have := hrgo10.out k h2; omega))
  replace hoo16 := hoo16.ch hCv25 (fun k h1 h2 => (by have := hrgo16.out k h1; have := hrgo10.out k h2; omega))
  replace hxo1 := blk_ch hxo1 hCv25 (fun h => by have := hrgo10.out _ h; omega)
  replace hxo8 := blk_ch hxo8 hCv25 (fun h => by have := hrgo10.out _ h; omega)
  replace HB := below_ch HB hCv25 (fun k h => by have := hrgo10.out k h; omega) HB.size
  replace hoo10 := hmo10
  have hszv25 := hCv25.size
  have qo1_0 := blk_cell hxo1 0 rfl
  have qo1_1 := blk_cell hxo1 1 rfl
  have qo1_2 := blk_cell hxo1 2 rfl
  have hlo1 := blk_lt hxo1
  have qo8_0 := blk_cell hxo8 0 rfl
  have qo8_1 := blk_cell hxo8 1 rfl
  have qo8_2 := blk_cell hxo8 2 rfl
  have hlo8 := blk_lt hxo8
  go_wp2_with fail
  have hTv26o11 : tot x4 ≤ 1048576 := by have := HTX4.out; omega
  refine (markInt64SS_any _ _ _ _ _ x4 hoo11 (by omega) (by omega)  (1 + (no7 : Int) * 3 + (no9 : Int) + (tot x3 : Int)) (by omega) (by omega)).mono ?_
  rintro e v26 ⟨rfl, hmo11, hCv26⟩
  clear qo1_0 qo1_1 qo1_2 qo8_0 qo8_1 qo8_2 hlo1 hlo8
  replace hoo2 := own_ch hoo2 hCv26 (fun k h1 h2 => (by have := hrgo2.out k h1; have := hrgo11.out k h2; omega))
  replace hoo3 := own_ch hoo3 hCv26 (fun k h1 h2 => (by have := hrgo3.out k h1; have := hrgo11.out k h2; omega))
  replace hoo4 := hoo4.ch hCv26 (fun k h1 h2 => (by have := hrgo4.out k h1; have := hrgo11.out k h2; omega))
  replace hoo5 := hoo5.ch hCv26 (fun k h1 h2 => (by have := hrgo5.out k h1; have := hrgo11.out k h2; omega))
  replace hoo6 := hoo6.ch hCv26 (fun k h1 h2 => (by have := hrgo6.out k h1; have := hrgo11.out k h2; omega))
  replace hoo7 := own_ch hoo7 hCv26 (fun k h1 h2 => (by have := hrgo7.out k h1; have := hrgo11.out k h2; omega))
  replace hoo9 := own_ch hoo9 hCv26 (fun k h1 h2 => (by have := hrgo9.out k h1; have := hrgo11.out k h2; omega))
  replace hoo10 := hoo10.ch hCv26 (fun k h1 h2 => (by have := hrgo10.out k h1; have := hrgo11.out k h2; omega))
  replace hoo12 := hoo12.ch hCv26 (fun k h1 h2 => (by have := hrgo12.out k h1; have := hrgo11.out k h2; omega))
  replace hoo13 := own_ch hoo13 hCv26 (fun k h1 h2 => (by have := hrgo13.out k h1; have := hrgo11.out k h2; omega))
  replace hoo14 := own_ch hoo14 hCv26 (fun k h1 h2 => (by have := hrgo14.out k h1; have := hrgo11.out k h2; omega))
  replace hoo15 := hoo15.ch hCv26 (fun k h1 h2 => (by have := hrgo15.out k h1; have := hrgo11.out k h2; omega))
  replace hoo16 := hoo16.ch hCv26 (fun k h1 h2 => (by have := hrgo16.out k h1; have := hrgo11.out k h2; omega))
  replace hxo1 := blk_ch hxo1 hCv26 (fun h => by have := hrgo11.out _ h; omega)
  replace hxo8 := blk_ch hxo8 hCv26 (fun h => by have := hrgo11.out _ h; omega)
  replace HB := below_ch HB hCv26 (fun k h => by have := hrgo11.out k h; omega) HB.size
  replace hoo11 := hmo11
  have hszv26 := hCv26.size
  have qo1_0 := blk_cell hxo1 0 rfl
  have qo1_1 := blk_cell hxo1 1 rfl
  have qo1_2 := blk_cell hxo1 2 rfl
  have hlo1 := blk_lt hxo1
  have qo8_0 := blk_cell hxo8 0 rfl
  have qo8_1 := blk_cell hxo8 1 rfl
  have qo8_2 := blk_cell hxo8 2 rfl
  have hlo8 := blk_lt hxo8
  go_wp2_with fail
  refine (eqInt64SS_same _ _ _ _ r1 hoo12.rdl (by omega) _ _ _ hoo6.rdl).mono ?_
  rintro e v27 ⟨rfl, hbv27⟩
  clear qo1_0 qo1_1 qo1_2 qo8_0 qo8_1 qo8_2 hlo1 hlo8
  (try replace hbv27 := und1 hbv27)
  (try replace hbv27 := undN hbv27)
  replace hoo2 := ownN_below hoo2 hbv27 (Nat.le_refl _)
  replace hoo3 := ownN_below hoo3 hbv27 (Nat.le_refl _)
  replace hoo4 := hoo4.below hbv27
  replace hoo5 := hoo5.below hbv27
  replace hoo6 := hoo6.below hbv27
  replace hoo7 := ownN_below hoo7 hbv27 (Nat.le_refl _)
  replace hoo9 := ownN_below hoo9 hbv27 (Nat.le_refl _)
  replace hoo10 := hoo10.below hbv27
  replace hoo11 := hoo11.below hbv27
  replace hoo12 := hoo12.below hbv27
  replace hoo13 := ownN_below hoo13 hbv27 (Nat.le_refl _)
  replace hoo14 := ownN_below hoo14 hbv27 (Nat.le_refl _)
  replace hoo15 := hoo15.below hbv27
  replace hoo16 := hoo16.below hbv27
  replace hxo1 := blk_bel hxo1 hbv27
  replace hxo8 := blk_bel hxo8 hbv27
  replace HB := HB.trans (hbv27.mono HB.size)
  have hszv27 := hbv27.size
  have qo1_0 := blk_cell hxo1 0 rfl
  have qo1_1 := blk_cell hxo1 1 rfl
  have qo1_2 := blk_cell hxo1 2 rfl
  have hlo1 := blk_lt hxo1
  have qo8_0 := blk_cell hxo8 0 rfl
  have qo8_1 := blk_cell hxo8 1 rfl
  have qo8_2 := blk_cell hxo8 2 rfl
  have hlo8 := blk_lt hxo8
  go_wp2_with fail
  have hTv28o12 : tot r1 ≤ 1048576 := by have := HRLR1.out.1; omega
  refine (markInt64SS_any _ _ _ _ _ r1 hoo12 (by omega) (by omega)  (1) (by omega) (by omega)).mono ?_
  rintro e v28 ⟨rfl, hmo12, hCv28⟩
  clear qo1_0 qo1_1 qo1_2 qo8_0 qo8_1 qo8_2 hlo1 hlo8
  replace hoo2 := own_ch hoo2 hCv28 (fun k h1 h2 => (by have := hrgo2.out k h1; have := hrgo12.out k h2; omega))
  replace hoo3 := own_ch hoo3 hCv28 (fun k h1 h2 => (by have := hrgo3.out k h1; have := hrgo12.out k h2; omega))
  replace hoo4 := hoo4.ch hCv28 (fun k h1 h2 => (by have := hrgo4.out k h1; have := hrgo12.out k h2; omega))
  replace hoo5 := hoo5.ch hCv28 (fun k h1 h2 => (by have := hrgo5.out k h1; have := hrgo12.out k h2; omega))
  replace hoo6 := hoo6.ch hCv28 (fun k h1 h2 => (by have := hrgo6.out k h1; have := hrgo12.out k h2; omega))
  replace hoo7 := own_ch hoo7 hCv28 (fun k h1 h2 => (by have := hrgo7.out k h1; have := hrgo12.out k h2; omega))
  replace hoo9 := own_ch hoo9 hCv28 (fun k h1 h2 => (by have := hrgo9.out k h1; have := hrgo12.out k h2; omega))
  replace hoo10 := hoo10.ch hCv28 (fun k h1 h2 => (by have := hrgo10.out k h1; have := hrgo12.out k h2; omega))
  replace hoo11 := hoo11.ch hCv28 (fun k h1 h2 => (by have := hrgo11.out k h1; have := hrgo12.out k h2; omega))
  replace hoo13 := own_ch hoo13 hCv28 (fun k h1 h2 => (by have := hrgo13.out k h1; have := hrgo12.out k h2; omega))
  replace hoo14 := own_ch hoo14 hCv28 (fun k h1 h2 => (by have := hrgo14.out k h1; have := hrgo12.out k h2; omega))
  replace hoo15 := hoo15.ch hCv28 (fun k h1 h2 => (by have := hrgo15.out k h1; have := hrgo12.out k h2; omega))
  replace hoo16 := hoo16.ch hCv28 (fun k h1 h2 => (by have := hrgo16.out k h1; have := hrgo12.out k h2; omega))
  replace hxo1 := blk_ch hxo1 hCv28 (fun h => by have := hrgo12.out _ h; omega)
  replace hxo8 := blk_ch hxo8 hCv28 (fun h => by have := hrgo12.out _ h; omega)
  replace HB := below_ch HB hCv28 (fun k h => by have := hrgo12.out k h; omega) HB.size
  replace hoo12 := hmo12
  have hszv28 := hCv28.size
  have qo1_0 := blk_cell hxo1 0 rfl
  have qo1_1 := blk_cell hxo1 1 rfl
  have qo1_2 := blk_cell hxo1 2 rfl
  have hlo1 := blk_lt hxo1
  have qo8_0 := blk_cell hxo8 0 rfl
  have qo8_1 := blk_cell hxo8 1 rfl
  have qo8_2 := blk_cell hxo8 2 rfl
  have hlo8 := blk_lt hxo8
  go_wp2_with fail
  have hTv29o12 : tot r1 ≤ 1048576 := by have := HRLR1.out.1; omega
  refine (heldInt64SS_any _ _ _ _ r1 (1) hoo12.rdl (by omega) (by omega) (by omega) (by omega)).mono ?_
  rintro e v29 ⟨rfl, hbv29⟩
  clear qo1_0 qo1_1 qo1_2 qo8_0 qo8_1 qo8_2 hlo1 hlo8
  (try replace hbv29 := und1 hbv29)
  (try replace hbv29 := undN hbv29)
  replace hoo2 := ownN_below hoo2 hbv29 (Nat.le_refl _)
  replace hoo3 := ownN_below hoo3 hbv29 (Nat.le_refl _)
  replace hoo4 := hoo4.below hbv29
  replace hoo5 := hoo5.below hbv29
  replace hoo6 := hoo6.below hbv29
  replace hoo7 := ownN_below hoo7 hbv29 (Nat.le_refl _)
  replace hoo9 := ownN_below hoo9 hbv29 (Nat.le_refl _)
  replace hoo10 := hoo10.below hbv29
  replace hoo11 := hoo11.below hbv29
  replace hoo12 := hoo12.below hbv29
  replace hoo13 := ownN_below hoo13 hbv29 (Nat.le_refl _)
  replace hoo14 := ownN_below hoo14 hbv29 (Nat.le_refl _)
  replace hoo15 := hoo15.below hbv29
  replace hoo16 := hoo16.below hbv29
  replace hxo1 := blk_bel hxo1 hbv29
  replace hxo8 := blk_bel hxo8 hbv29
  replace HB := HB.trans (hbv29.mono HB.size)
  have hszv29 := hbv29.size
  have qo1_0 := blk_cell hxo1 0 rfl
  have qo1_1 := blk_cell hxo1 1 rfl
  have qo1_2 := blk_cell hxo1 2 rfl
  have hlo1 := blk_lt hxo1
  have qo8_0 := blk_cell hxo8 0 rfl
  have qo8_1 := blk_cell hxo8 1 rfl
  have qo8_2 := blk_cell hxo8 2 rfl
  have hlo8 := blk_lt hxo8
  go_wp2_with fail
  refine (toMachine_any _ x0_0 x0_1 _ _ _ (flatR rs) (hr0_2.below HB (Nat.le_refl _)) (by omega)).mono ?_
  rintro e v30 ⟨Ao17, no17, co17, rfl, hoo17, hbv30⟩
  have hno17 : no17 ≤ 1048576 := by have h1 := hoo17.1; simp only [List.length_map] at h1; have h2 := HXL0_2.out; omega
  have hrgo17 := Lib.hid (rg_row hoo17)
  clear qo1_0 qo1_1 qo1_2 qo8_0 qo8_1 qo8_2 hlo1 hlo8
  (try replace hbv30 := und1 hbv30)
  (try replace hbv30 := undN hbv30)
  replace hoo2 := ownN_below hoo2 hbv30 (Nat.le_refl _)
  replace hoo3 := ownN_below hoo3 hbv30 (Nat.le_refl _)
  replace hoo4 := hoo4.below hbv30
  replace hoo5 := hoo5.below hbv30
  replace hoo6 := hoo6.below hbv30
  replace hoo7 := ownN_below hoo7 hbv30 (Nat.le_refl _)
  replace hoo9 := ownN_below hoo9 hbv30 (Nat.le_refl _)
  replace hoo10 := hoo10.below hbv30
  replace hoo11 := hoo11.below hbv30
  replace hoo12 := hoo12.below hbv30
  replace hoo13 := ownN_below hoo13 hbv30 (Nat.le_refl _)
  replace hoo14 := ownN_below hoo14 hbv30 (Nat.le_refl _)
  replace hoo15 := hoo15.below hbv30
  replace hoo16 := hoo16.below hbv30
  replace hxo1 := blk_bel hxo1 hbv30
  replace hxo8 := blk_bel hxo8 hbv30
  replace HB := HB.trans (hbv30.mono HB.size)
  have hszv30 := hbv30.size
  have qo1_0 := blk_cell hxo1 0 rfl
  have qo1_1 := blk_cell hxo1 1 rfl
  have qo1_2 := blk_cell hxo1 2 rfl
  have hlo1 := blk_lt hxo1
  have qo8_0 := blk_cell hxo8 0 rfl
  have qo8_1 := blk_cell hxo8 1 rfl
  have qo8_2 := blk_cell hxo8 2 rfl
  have hlo8 := blk_lt hxo8
  replace hrgo17 := Lib.hid (rg_lo hrgo17.out (lo := v29.heap.size + 0) (hi := v30.heap.size) (by first | exact Nat.le_refl _ | exact le_al1 | (simp; done) | (simp; omega)) (Nat.le_refl _))
  go_wp2_with fail
  refine (toInt64S_any _ _ _ _ x2 (hr2.below HB (Nat.le_refl _)) (by omega)).mono ?_
  rintro e v31 ⟨Ao18, no18, co18, rfl, hoo18, hbv31⟩
  have hno18 : no18 ≤ 1048576 := by have h1 := hoo18.1; simp only [List.length_map] at h1; have h2 := HXL2.out; omega
  have hrgo18 := Lib.hid (rg_row hoo18)
  clear qo1_0 qo1_1 qo1_2 qo8_0 qo8_1 qo8_2 hlo1 hlo8
  (try replace hbv31 := und1 hbv31)
  (try replace hbv31 := undN hbv31)
  replace hoo2 := ownN_below hoo2 hbv31 (Nat.le_refl _)
  replace hoo3 := ownN_below hoo3 hbv31 (Nat.le_refl _)
  replace hoo4 := hoo4.below hbv31
  replace hoo5 := hoo5.below hbv31
  replace hoo6 := hoo6.below hbv31
  replace hoo7 := ownN_below hoo7 hbv31 (Nat.le_refl _)
  replace hoo9 := ownN_below hoo9 hbv31 (Nat.le_refl _)
  replace hoo10 := hoo10.below hbv31
  replace hoo11 := hoo11.below hbv31
  replace hoo12 := hoo12.below hbv31
  replace hoo13 := ownN_below hoo13 hbv31 (Nat.le_refl _)
  replace hoo14 := ownN_below hoo14 hbv31 (Nat.le_refl _)
  replace hoo15 := hoo15.below hbv31
  replace hoo16 := hoo16.below hbv31
  replace hoo17 := ownN_below hoo17 hbv31 (Nat.le_refl _)
  replace hxo1 := blk_bel hxo1 hbv31
  replace hxo8 := blk_bel hxo8 hbv31
  replace HB := HB.trans (hbv31.mono HB.size)
  have hszv31 := hbv31.size
  have qo1_0 := blk_cell hxo1 0 rfl
  have qo1_1 := blk_cell hxo1 1 rfl
  have qo1_2 := blk_cell hxo1 2 rfl
  have hlo1 := blk_lt hxo1
  have qo8_0 := blk_cell hxo8 0 rfl
  have qo8_1 := blk_cell hxo8 1 rfl
  have qo8_2 := blk_cell hxo8 2 rfl
  have hlo8 := blk_lt hxo8
  replace hrgo18 := Lib.hid (rg_lo hrgo18.out (lo := v30.heap.size + 0) (hi := v31.heap.size) (by first | exact Nat.le_refl _ | exact le_al1 | (simp; done) | (simp; omega)) (Nat.le_refl _))
  go_wp2_with fail
  refine (toInt64SS_any _ _ _ _ x3 (hr3.below HB (Nat.le_refl _)) (by omega)).mono ?_
  rintro e v32 ⟨Ao19, no19, co19, Fo19, rfl, hoo19, hFo19, hbv32⟩
  have hno19 : no19 ≤ 1048576 := by have h1 := hoo19.len; have h2 := HXL3.out; omega
  have hrgo19 := Lib.hid hFo19; clear hFo19
  clear qo1_0 qo1_1 qo1_2 qo8_0 qo8_1 qo8_2 hlo1 hlo8
  (try replace hbv32 := und1 hbv32)
  (try replace hbv32 := undN hbv32)
  replace hoo2 := ownN_below hoo2 hbv32 (Nat.le_refl _)
  replace hoo3 := ownN_below hoo3 hbv32 (Nat.le_refl _)
  replace hoo4 := hoo4.below hbv32
  replace hoo5 := hoo5.below hbv32
  replace hoo6 := hoo6.below hbv32
  replace hoo7 := ownN_below hoo7 hbv32 (Nat.le_refl _)
  replace hoo9 := ownN_below hoo9 hbv32 (Nat.le_refl _)
  replace hoo10 := hoo10.below hbv32
  replace hoo11 := hoo11.below hbv32
  replace hoo12 := hoo12.below hbv32
  replace hoo13 := ownN_below hoo13 hbv32 (Nat.le_refl _)
  replace hoo14 := ownN_below hoo14 hbv32 (Nat.le_refl _)
  replace hoo15 := hoo15.below hbv32
  replace hoo16 := hoo16.below hbv32
  replace hoo17 := ownN_below hoo17 hbv32 (Nat.le_refl _)
  replace hoo18 := ownN_below hoo18 hbv32 (Nat.le_refl _)
  replace hxo1 := blk_bel hxo1 hbv32
  replace hxo8 := blk_bel hxo8 hbv32
  replace HB := HB.trans (hbv32.mono HB.size)
  have hszv32 := hbv32.size
  have qo1_0 := blk_cell hxo1 0 rfl
  have qo1_1 := blk_cell hxo1 1 rfl
  have qo1_2 := blk_cell hxo1 2 rfl
  have hlo1 := blk_lt hxo1
  have qo8_0 := blk_cell hxo8 0 rfl
  have qo8_1 := blk_cell hxo8 1 rfl
  have qo8_2 := blk_cell hxo8 2 rfl
  have hlo8 := blk_lt hxo8
  replace hrgo19 := Lib.hid (rg_lo hrgo19.out (lo := v31.heap.size + 0) (hi := v32.heap.size) (by first | exact Nat.le_refl _ | exact le_al1 | (simp; done) | (simp; omega)) (Nat.le_refl _))
  go_wp2_with fail
  refine (toInt64SS_any _ _ _ _ x4 (hr4.below HB (Nat.le_refl _)) (by omega)).mono ?_
  rintro e v33 ⟨Ao20, no20, co20, Fo20, rfl, hoo20, hFo20, hbv33⟩
  have hno20 : no20 ≤ 1048576 := by have h1 := hoo20.len; have h2 := HXL4.out; omega
  have hrgo20 := Lib.hid hFo20; clear hFo20
  clear qo1_0 qo1_1 qo1_2 qo8_0 qo8_1 qo8_2 hlo1 hlo8
  (try replace hbv33 := und1 hbv33)
  (try replace hbv33 := undN hbv33)
  replace hoo2 := ownN_below hoo2 hbv33 (Nat.le_refl _)
  replace hoo3 := ownN_below hoo3 hbv33 (Nat.le_refl _)
  replace hoo4 := hoo4.below hbv33
  replace hoo5 := hoo5.below hbv33
  replace hoo6 := hoo6.below hbv33
  replace hoo7 := ownN_below hoo7 hbv33 (Nat.le_refl _)
  replace hoo9 := ownN_below hoo9 hbv33 (Nat.le_refl _)
  replace hoo10 := hoo10.below hbv33
  replace hoo11 := hoo11.below hbv33
  replace hoo12 := hoo12.below hbv33
  replace hoo13 := ownN_below hoo13 hbv33 (Nat.le_refl _)
  replace hoo14 := ownN_below hoo14 hbv33 (Nat.le_refl _)
  replace hoo15 := hoo15.below hbv33
  replace hoo16 := hoo16.below hbv33
  replace hoo17 := ownN_below hoo17 hbv33 (Nat.le_refl _)
  replace hoo18 := ownN_below hoo18 hbv33 (Nat.le_refl _)
  replace hoo19 := hoo19.below hbv33
  replace hxo1 := blk_bel hxo1 hbv33
  replace hxo8 := blk_bel hxo8 hbv33
  replace HB := HB.trans (hbv33.mono HB.size)
  have hszv33 := hbv33.size
  have qo1_0 := blk_cell hxo1 0 rfl
  have qo1_1 := blk_cell hxo1 1 rfl
  have qo1_2 := blk_cell hxo1 2 rfl
  have hlo1 := blk_lt hxo1
  have qo8_0 := blk_cell hxo8 0 rfl
  have qo8_1 := blk_cell hxo8 1 rfl
  have qo8_2 := blk_cell hxo8 2 rfl
  have hlo8 := blk_lt hxo8
  replace hrgo20 := Lib.hid (rg_lo hrgo20.out (lo := v32.heap.size + 0) (hi := v33.heap.size) (by first | exact Nat.le_refl _ | exact le_al1 | (simp; done) | (simp; omega)) (Nat.le_refl _))
  go_wp2_with fail
  refine (HI.out _ _ _ _ (ownN_rd hoo17) (by omega) (ownN_cap hoo17) _ _ _ (own_rd hoo18) (by omega) (ownN_cap hoo18) _ _ _ hoo19.rdl (by omega) hoo19.cap _ _ _ hoo20.rdl (by omega) hoo20.cap).mono ?_
  rintro e v34 ⟨Ao21, no21, co21, Fo21, rfl, hoo21, hFo21, hbv34⟩
  have hno21 : no21 ≤ 1000000 := by have h1 := hoo21.len; have h2 := HRLR1.out; omega
  have hrgo21 := Lib.hid hFo21; clear hFo21
  clear qo1_0 qo1_1 qo1_2 qo8_0 qo8_1 qo8_2 hlo1 hlo8
  (try replace hbv34 := und1 hbv34)
  (try replace hbv34 := undN hbv34)
  replace hoo2 := ownN_below hoo2 hbv34 (Nat.le_refl _)
  replace hoo3 := ownN_below hoo3 hbv34 (Nat.le_refl _)
  replace hoo4 := hoo4.below hbv34
  replace hoo5 := hoo5.below hbv34
  replace hoo6 := hoo6.below hbv34
  replace hoo7 := ownN_below hoo7 hbv34 (Nat.le_refl _)
  replace hoo9 := ownN_below hoo9 hbv34 (Nat.le_refl _)
  replace hoo10 := hoo10.below hbv34
  replace hoo11 := hoo11.below hbv34
  replace hoo12 := hoo12.below hbv34
  replace hoo13 := ownN_below hoo13 hbv34 (Nat.le_refl _)
  replace hoo14 := ownN_below hoo14 hbv34 (Nat.le_refl _)
  replace hoo15 := hoo15.below hbv34
  replace hoo16 := hoo16.below hbv34
  replace hoo17 := ownN_below hoo17 hbv34 (Nat.le_refl _)
  replace hoo18 := ownN_below hoo18 hbv34 (Nat.le_refl _)
  replace hoo19 := hoo19.below hbv34
  replace hoo20 := hoo20.below hbv34
  replace hxo1 := blk_bel hxo1 hbv34
  replace hxo8 := blk_bel hxo8 hbv34
  replace HB := HB.trans (hbv34.mono HB.size)
  have hszv34 := hbv34.size
  have qo1_0 := blk_cell hxo1 0 rfl
  have qo1_1 := blk_cell hxo1 1 rfl
  have qo1_2 := blk_cell hxo1 2 rfl
  have hlo1 := blk_lt hxo1
  have qo8_0 := blk_cell hxo8 0 rfl
  have qo8_1 := blk_cell hxo8 1 rfl
  have qo8_2 := blk_cell hxo8 2 rfl
  have hlo8 := blk_lt hxo8
  replace hrgo21 := Lib.hid (rg_lo hrgo21.out (lo := v33.heap.size + 0) (hi := v34.heap.size) (by first | exact Nat.le_refl _ | exact le_al1 | (simp; done) | (simp; omega)) (Nat.le_refl _))
  go_wp2_with fail
  refine (eqInt64SS_same _ _ _ _ r1 hoo21.rdl (by omega) _ _ _ hoo6.rdl).mono ?_
  rintro e v35 ⟨rfl, hbv35⟩
  clear qo1_0 qo1_1 qo1_2 qo8_0 qo8_1 qo8_2 hlo1 hlo8
  (try replace hbv35 := und1 hbv35)
  (try replace hbv35 := undN hbv35)
  replace hoo2 := ownN_below hoo2 hbv35 (Nat.le_refl _)
  replace hoo3 := ownN_below hoo3 hbv35 (Nat.le_refl _)
  replace hoo4 := hoo4.below hbv35
  replace hoo5 := hoo5.below hbv35
  replace hoo6 := hoo6.below hbv35
  replace hoo7 := ownN_below hoo7 hbv35 (Nat.le_refl _)
  replace hoo9 := ownN_below hoo9 hbv35 (Nat.le_refl _)
  replace hoo10 := hoo10.below hbv35
  replace hoo11 := hoo11.below hbv35
  replace hoo12 := hoo12.below hbv35
  replace hoo13 := ownN_below hoo13 hbv35 (Nat.le_refl _)
  replace hoo14 := ownN_below hoo14 hbv35 (Nat.le_refl _)
  replace hoo15 := hoo15.below hbv35
  replace hoo16 := hoo16.below hbv35
  replace hoo17 := ownN_below hoo17 hbv35 (Nat.le_refl _)
  replace hoo18 := ownN_below hoo18 hbv35 (Nat.le_refl _)
  replace hoo19 := hoo19.below hbv35
  replace hoo20 := hoo20.below hbv35
  replace hoo21 := hoo21.below hbv35
  replace hxo1 := blk_bel hxo1 hbv35
  replace hxo8 := blk_bel hxo8 hbv35
  replace HB := HB.trans (hbv35.mono HB.size)
  have hszv35 := hbv35.size
  have qo1_0 := blk_cell hxo1 0 rfl
  have qo1_1 := blk_cell hxo1 1 rfl
  have qo1_2 := blk_cell hxo1 2 rfl
  have hlo1 := blk_lt hxo1
  have qo8_0 := blk_cell hxo8 0 rfl
  have qo8_1 := blk_cell hxo8 1 rfl
  have qo8_2 := blk_cell hxo8 2 rfl
  have hlo8 := blk_lt hxo8
  go_wp2_with fail
  have hTv36o12 : tot r1 ≤ 1048576 := by have := HRLR1.out.1; omega
  refine (heldInt64SS_any _ _ _ _ r1 (1) hoo12.rdl (by omega) (by omega) (by omega) (by omega)).mono ?_
  rintro e v36 ⟨rfl, hbv36⟩
  clear qo1_0 qo1_1 qo1_2 qo8_0 qo8_1 qo8_2 hlo1 hlo8
  (try replace hbv36 := und1 hbv36)
  (try replace hbv36 := undN hbv36)
  replace hoo2 := ownN_below hoo2 hbv36 (Nat.le_refl _)
  replace hoo3 := ownN_below hoo3 hbv36 (Nat.le_refl _)
  replace hoo4 := hoo4.below hbv36
  replace hoo5 := hoo5.below hbv36
  replace hoo6 := hoo6.below hbv36
  replace hoo7 := ownN_below hoo7 hbv36 (Nat.le_refl _)
  replace hoo9 := ownN_below hoo9 hbv36 (Nat.le_refl _)
  replace hoo10 := hoo10.below hbv36
  replace hoo11 := hoo11.below hbv36
  replace hoo12 := hoo12.below hbv36
  replace hoo13 := ownN_below hoo13 hbv36 (Nat.le_refl _)
  replace hoo14 := ownN_below hoo14 hbv36 (Nat.le_refl _)
  replace hoo15 := hoo15.below hbv36
  replace hoo16 := hoo16.below hbv36
  replace hoo17 := ownN_below hoo17 hbv36 (Nat.le_refl _)
  replace hoo18 := ownN_below hoo18 hbv36 (Nat.le_refl _)
  replace hoo19 := hoo19.below hbv36
  replace hoo20 := hoo20.below hbv36
  replace hoo21 := hoo21.below hbv36
  replace hxo1 := blk_bel hxo1 hbv36
  replace hxo8 := blk_bel hxo8 hbv36
  replace HB := HB.trans (hbv36.mono HB.size)
  have hszv36 := hbv36.size
  have qo1_0 := blk_cell hxo1 0 rfl
  have qo1_1 := blk_cell hxo1 1 rfl
  have qo1_2 := blk_cell hxo1 2 rfl
  have hlo1 := blk_lt hxo1
  have qo8_0 := blk_cell hxo8 0 rfl
  have qo8_1 := blk_cell hxo8 1 rfl
  have qo8_2 := blk_cell hxo8 2 rfl
  have hlo8 := blk_lt hxo8
  go_wp2_with fail
  go_ret
  first | exact ⟨rfl, HB⟩ | exact ⟨rfl, below_drewN HB⟩
end Go.Proofs.Ytemllhkgjdifiaa
