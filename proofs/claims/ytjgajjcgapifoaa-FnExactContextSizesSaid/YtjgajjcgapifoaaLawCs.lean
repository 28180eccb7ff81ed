/- The law on ContextSizes. Written by genlaw5.py. -/
import Derived.Test.YtjgajjcgapifoaaPrfP
import Derived.Test.YtjgajjcgapifoaaLawProof
namespace Go.Proofs.Ytjgajjcgapifoaa
open Go.RowKit
set_option linter.unusedVariables false
set_option linter.unusedSimpArgs false
set_option maxHeartbeats 16000000 in
set_option maxRecDepth 100000 in
theorem lawContextSizes (w : World) (x0_0 : Int) (A0_1 : Option Addr) (n0_1 c0_1 : Nat) (x0_1 : List Int) (hr0_1 : Rd w A0_1 n0_1 (ints x0_1)) (hnn0_1 : n0_1 ≤ 9223372036854775807) (A0_2 : Option Addr) (n0_2 c0_2 : Nat) (x0_2 : List (List Int)) (hw0_2 : RdW w A0_2 n0_2 x0_2) (hnn0_2 : n0_2 ≤ 9223372036854775807) :
    Calls Try.prog 5 #[.agg #[.int .i64 x0_0, .slice A0_1 n0_1 c0_1, .slice A0_2 n0_2 c0_2]] w fun e w' => e = .returned (.bool true) ∧ Below w.heap.size w w' := by
  have hS : ∀ (w : World) (A0_1 : Option Addr) (n0_1 c0_1 : Nat) (h0_1 : Rd w A0_1 n0_1 (ints x0_1)) (hn0_1 : n0_1 ≤ 1000000000) (hcp0_1 : n0_1 ≤ c0_1) (A0_2 : Option Addr) (n0_2 c0_2 : Nat) (h0_2 : RdL w A0_2 n0_2 x0_2) (hn0_2 : n0_2 ≤ 1000000000) (hcp0_2 : n0_2 ≤ c0_2), Calls Try.prog 29 #[.agg #[.int .i64 x0_0, .slice A0_1 n0_1 c0_1, .slice A0_2 n0_2 c0_2]] w (fun e w' => e = .returned (.tuple #[.int .i64 ((csSz x0_0 x0_1 x0_2).1), .int .i64 ((csSz x0_0 x0_1 x0_2).2.1), .int .i64 ((csSz x0_0 x0_1 x0_2).2.2.1), .int .i64 ((csSz x0_0 x0_1 x0_2).2.2.2)]) ∧ Below w.heap.size w w') := fun w A0_1 n0_1 c0_1 h0_1 hn0_1 hcp0_1 A0_2 n0_2 c0_2 h0_2 hn0_2 hcp0_2 => specContextSizes_any w x0_0 A0_1 n0_1 c0_1 x0_1 h0_1 hn0_1 hcp0_1 A0_2 n0_2 c0_2 x0_2 h0_2 hn0_2
  have hI : ∀ (w : World) (A0_1 : Option Addr) (n0_1 c0_1 : Nat) (h0_1 : Rd w A0_1 n0_1 (ints x0_1)) (hn0_1 : n0_1 ≤ 1000000000) (hcp0_1 : n0_1 ≤ c0_1) (A0_2 : Option Addr) (n0_2 c0_2 : Nat) (h0_2 : RdL w A0_2 n0_2 x0_2) (hn0_2 : n0_2 ≤ 1000000000) (hcp0_2 : n0_2 ≤ c0_2), Calls Try.prog 31 #[.agg #[.int .i64 x0_0, .slice A0_1 n0_1 c0_1, .slice A0_2 n0_2 c0_2]] w (fun e w' => e = .returned (.tuple #[.int .i64 ((csSz x0_0 x0_1 x0_2).1), .int .i64 ((csSz x0_0 x0_1 x0_2).2.1), .int .i64 ((csSz x0_0 x0_1 x0_2).2.2.1), .int .i64 ((csSz x0_0 x0_1 x0_2).2.2.2)]) ∧ Below w.heap.size w w') := fun w A0_1 n0_1 c0_1 h0_1 hn0_1 hcp0_1 A0_2 n0_2 c0_2 h0_2 hn0_2 hcp0_2 => implContextSizes_any w x0_0 A0_1 n0_1 c0_1 x0_1 h0_1 hn0_1 hcp0_1 A0_2 n0_2 c0_2 x0_2 h0_2 hn0_2 hcp0_2
  have HS := Lib.hid hS; have HI := Lib.hid hI
  clear hS hI
  generalize (csSz x0_0 x0_1 x0_2).1 = r0 at HS HI 
  generalize (csSz x0_0 x0_1 x0_2).2.1 = r1 at HS HI 
  generalize (csSz x0_0 x0_1 x0_2).2.2.1 = r2 at HS HI 
  generalize (csSz x0_0 x0_1 x0_2).2.2.2 = r3 at HS HI 
  have HXL0_1 : Hid ((x0_1).length = n0_1 * 1) := Lib.hid (by have := hr0_1.1; simp at this; omega)
  have HXL0_2 : Hid ((x0_2).length = n0_2) := Lib.hid hw0_2.len
  have HB := Below.refl w.heap.size w
  go_enter Try.func5, Try.ntmps5
  go_wp2_with fail
  refine (szProof_post _ x0_0 _ _ _ hnn0_1 _ _ _ x0_2 (by have h := hw0_2.below HB (Nat.le_refl _); first | exact h | exact h.below (below_new _ _) (Nat.le_refl _) | exact (h.below (below_new _ _) (Nat.le_refl _)).below (below_new _ _) (Nat.le_refl _) | exact ((h.below (below_new _ _) (Nat.le_refl _)).below (below_new _ _) (Nat.le_refl _)).below (below_new _ _) (Nat.le_refl _)) hnn0_2 _ (by omega) (by omega)).mono ?_
  rintro e v1 ⟨lfv1, rfl, hqv1, hpv1, hbv1⟩
  (try replace hbv1 := und1 hbv1)
  (try replace hbv1 := undN hbv1)
  obtain ⟨hbv1b, hxo1, hso1⟩ := box_step hbv1
  (try simp only [World.size_alloc] at hxo1 hso1)
  replace HB := HB.trans (hbv1b.mono HB.size)
  have hszv1 := hbv1b.size
  have qo1_0 := blk_cell hxo1 0 rfl
  have qo1_1 := blk_cell hxo1 1 rfl
  have qo1_2 := blk_cell hxo1 2 rfl
  have hlo1 := blk_lt hxo1
  by_cases hzv1 : lfv1 < 0
  · clear hqv1 hpv1
    go_wp2_with fail
    go_ret
    exact ⟨rfl, HB⟩
  replace hqv1 := hqv1 (by omega)
  have hbig0_1 : n0_1 ≤ 1048576 := by omega
  have hbig0_2 : n0_2 ≤ 1048576 := by omega
  have HTX0_2 : Hid (tot x0_2 ≤ 1048576) := Lib.hid (by omega)
  have hr0_2 := hw0_2.rdl (by have := HTX0_2.out; omega)
  have HQv1 := Lib.hid hqv1; clear hqv1
  go_wp2_with fail
  refine (toProof_any _ x0_0 _ _ _ x0_1 (hr0_1.below HB (Nat.le_refl _)) (by omega) _ _ _ x0_2 (hr0_2.below HB (Nat.le_refl _)) (by omega)).mono ?_
  rintro e v2 ⟨Ao2, no2, co2, Ao3, no3, co3, Fo3, rfl, hoo2, hoo3, hFo3, hdo2o3, hbv2⟩
  have hno2 : no2 ≤ 1048576 := by have h1 := hoo2.1; simp only [List.length_map] at h1; have h2 := HXL0_1.out; omega
  have hno3 : no3 ≤ 1048576 := by have h1 := hoo3.len; have h2 := HXL0_2.out; omega
  have hrgo2 := Lib.hid (rg_row hoo2)
  have hrgo3 := Lib.hid hFo3; clear hFo3
  have HDo2o3 := Lib.hid hdo2o3; clear hdo2o3
  clear qo1_0 qo1_1 qo1_2 hlo1
  (try replace hbv2 := und1 hbv2)
  (try replace hbv2 := undN hbv2)
  replace hxo1 := blk_bel hxo1 hbv2
  replace HB := HB.trans (hbv2.mono HB.size)
  have hszv2 := hbv2.size
  have qo1_0 := blk_cell hxo1 0 rfl
  have qo1_1 := blk_cell hxo1 1 rfl
  have qo1_2 := blk_cell hxo1 2 rfl
  have hlo1 := blk_lt hxo1
  replace hrgo2 := Lib.hid (rg_lo hrgo2.out (lo := v1.heap.size + 0) (hi := v2.heap.size) (by first | exact Nat.le_refl _ | exact le_al1 | (simp; done) | (simp; omega)) (Nat.le_refl _))
  replace hrgo3 := Lib.hid (rg_lo hrgo3.out (lo := v1.heap.size + 0) (hi := v2.heap.size) (by first | exact Nat.le_refl _ | exact le_al1 | (simp; done) | (simp; omega)) (Nat.le_refl _))
  go_wp2_with fail
  refine (HS.out _ _ _ _ (own_rd hoo2) (by omega) (ownN_cap hoo2) _ _ _ hoo3.rdl (by omega) hoo3.cap).mono ?_
  rintro e v3 ⟨rfl, hbv3⟩
  clear qo1_0 qo1_1 qo1_2 hlo1
  (try replace hbv3 := und1 hbv3)
  (try replace hbv3 := undN hbv3)
  replace hoo2 := ownN_below hoo2 hbv3 (Nat.le_refl _)
  replace hoo3 := hoo3.below hbv3
  replace hxo1 := blk_bel hxo1 hbv3
  replace HB := HB.trans (hbv3.mono HB.size)
  have hszv3 := hbv3.size
  have qo1_0 := blk_cell hxo1 0 rfl
  have qo1_1 := blk_cell hxo1 1 rfl
  have qo1_2 := blk_cell hxo1 2 rfl
  have hlo1 := blk_lt hxo1
  go_wp2_with fail
  refine (toProof_any _ x0_0 _ _ _ x0_1 (hr0_1.below HB (Nat.le_refl _)) (by omega) _ _ _ x0_2 (hr0_2.below HB (Nat.le_refl _)) (by omega)).mono ?_
  rintro e v4 ⟨Ao4, no4, co4, Ao5, no5, co5, Fo5, rfl, hoo4, hoo5, hFo5, hdo4o5, hbv4⟩
  have hno4 : no4 ≤ 1048576 := by have h1 := hoo4.1; simp only [List.length_map] at h1; have h2 := HXL0_1.out; omega
  have hno5 : no5 ≤ 1048576 := by have h1 := hoo5.len; have h2 := HXL0_2.out; omega
  have hrgo4 := Lib.hid (rg_row hoo4)
  have hrgo5 := Lib.hid hFo5; clear hFo5
  have HDo4o5 := Lib.hid hdo4o5; clear hdo4o5
  clear qo1_0 qo1_1 qo1_2 hlo1
  (try replace hbv4 := und1 hbv4)
  (try replace hbv4 := undN hbv4)
  replace hoo2 := ownN_below hoo2 hbv4 (Nat.le_refl _)
  replace hoo3 := hoo3.below hbv4
  replace hxo1 := blk_bel hxo1 hbv4
  replace HB := HB.trans (hbv4.mono HB.size)
  have hszv4 := hbv4.size
  have qo1_0 := blk_cell hxo1 0 rfl
  have qo1_1 := blk_cell hxo1 1 rfl
  have qo1_2 := blk_cell hxo1 2 rfl
  have hlo1 := blk_lt hxo1
  replace hrgo4 := Lib.hid (rg_lo hrgo4.out (lo := v3.heap.size + 0) (hi := v4.heap.size) (by first | exact Nat.le_refl _ | exact le_al1 | (simp; done) | (simp; omega)) (Nat.le_refl _))
  replace hrgo5 := Lib.hid (rg_lo hrgo5.out (lo := v3.heap.size + 0) (hi := v4.heap.size) (by first | exact Nat.le_refl _ | exact le_al1 | (simp; done) | (simp; omega)) (Nat.le_refl _))
  go_wp2_with fail
  refine (HI.out _ _ _ _ ((own_rd hoo4).below (below_new _ _) (Nat.le_refl _)) (by omega) (ownN_cap hoo4) _ _ _ (hoo5.rdl.below (below_new _ _) (Nat.le_refl _)) (by omega) hoo5.cap).mono ?_
  rintro e v5 ⟨rfl, hbv5⟩
  clear qo1_0 qo1_1 qo1_2 hlo1
  (try replace hbv5 := und1 hbv5)
  (try replace hbv5 := undN hbv5)
  obtain ⟨hbv5b, hxo6, hso6⟩ := box_step hbv5
  (try simp only [World.size_alloc] at hxo6 hso6)
  replace hoo2 := ownN_below hoo2 hbv5b (Nat.le_refl _)
  replace hoo3 := hoo3.below hbv5b
  replace hoo4 := ownN_below hoo4 hbv5b (Nat.le_refl _)
  replace hoo5 := hoo5.below hbv5b
  replace hxo1 := blk_bel hxo1 hbv5b
  replace HB := HB.trans (hbv5b.mono HB.size)
  have hszv5 := hbv5b.size
  have qo1_0 := blk_cell hxo1 0 rfl
  have qo1_1 := blk_cell hxo1 1 rfl
  have qo1_2 := blk_cell hxo1 2 rfl
  have hlo1 := blk_lt hxo1
  have qo6_0 := blk_cell hxo6 0 rfl
  have qo6_1 := blk_cell hxo6 1 rfl
  have qo6_2 := blk_cell hxo6 2 rfl
  have hlo6 := blk_lt hxo6
  go_wp2_with fail
  go_region_held3 (fun w' => w'.cell? ⟨v4.heap.size, 0, none⟩ = some (.int .i64 x0_0) ∧ w'.cell? ⟨v4.heap.size, 1, none⟩ = some (.slice Ao4 no4 co4) ∧ w'.cell? ⟨v4.heap.size, 2, none⟩ = some (.slice Ao5 no5 co5) ∧ w'.cell? ⟨w.heap.size, 0, none⟩ = some (.int .i64 x0_0) ∧ w'.cell? ⟨w.heap.size, 1, none⟩ = some (.slice A0_1 n0_1 c0_1) ∧ w'.cell? ⟨w.heap.size, 2, none⟩ = some (.slice A0_2 n0_2 c0_2)) (first | exact ⟨qo6_0, qo6_1, qo6_2, qo1_0, qo1_1, qo1_2⟩ | go_keep) (first
    | (go_at_call 30
       refine (toProof_any _ x0_0 _ _ _ x0_1 (by have h := (hr0_1.below HB (Nat.le_refl _)); first | exact h | exact h.below (below_new _ _) (Nat.le_refl _) | exact h.below (below_drew1 (below_new _ _)) (Nat.le_refl _)) (by omega) _ _ _ x0_2 (by have h := (hr0_2.below HB (Nat.le_refl _)); first | exact h | exact h.below (below_new _ _) (Nat.le_refl _) | exact h.below (below_drew1 (below_new _ _)) (Nat.le_refl _)) (by omega)).mono ?_
       rintro e v6 ⟨Ao7, no7, co7, Ao8, no8, co8, Fo8, rfl, hoo7, hoo8, hFo8, hdo7o8, hbv6⟩
       have hno7 : no7 ≤ 1048576 := by have h1 := hoo7.1; simp only [List.length_map] at h1; have h2 := HXL0_1.out; omega
       have hno8 : no8 ≤ 1048576 := by have h1 := hoo8.len; have h2 := HXL0_2.out; omega
       have hrgo7 := Lib.hid (rg_row hoo7)
       have hrgo8 := Lib.hid hFo8; clear hFo8
       have HDo7o8 := Lib.hid hdo7o8; clear hdo7o8
       clear qo1_0 qo1_1 qo1_2 qo6_0 qo6_1 qo6_2 hlo1 hlo6
       (try replace hbv6 := und1 hbv6)
       (try replace hbv6 := undN hbv6)
       replace hoo2 := ownN_below hoo2 hbv6 (Nat.le_refl _)
       replace hoo3 := hoo3.below hbv6
       replace hoo4 := ownN_below hoo4 hbv6 (Nat.le_refl _)
       replace hoo5 := hoo5.below hbv6
       replace hxo1 := blk_bel hxo1 hbv6
       replace hxo6 := blk_bel hxo6 hbv6
       replace HB := HB.trans (hbv6.mono HB.size)
       have hszv6 := hbv6.size
       have qo1_0 := blk_cell hxo1 0 rfl
       have qo1_1 := blk_cell hxo1 1 rfl
       have qo1_2 := blk_cell hxo1 2 rfl
       have hlo1 := blk_lt hxo1
       have qo6_0 := blk_cell hxo6 0 rfl
       have qo6_1 := blk_cell hxo6 1 rfl
       have qo6_2 := blk_cell hxo6 2 rfl
       have hlo6 := blk_lt hxo6
       replace hrgo7 := Lib.hid (rg_lo hrgo7.out (lo := v5.heap.size + 0) (hi := v6.heap.size) (by first | exact Nat.le_refl _ | exact le_al1 | (simp; done) | (simp; omega)) (Nat.le_refl _))
       replace hrgo8 := Lib.hid (rg_lo hrgo8.out (lo := v5.heap.size + 0) (hi := v6.heap.size) (by first | exact Nat.le_refl _ | exact le_al1 | (simp; done) | (simp; omega)) (Nat.le_refl _))
       )
    | (go_at_call 32
       refine (eqProof_same _ _ _ _ _ x0_1 (by have h := (own_rd hoo4); first | exact h | exact h.below (below_new _ _) (Nat.le_refl _) | exact h.below (below_drew1 (below_new _ _)) (Nat.le_refl _)) (by omega) _ _ _ (by have h := (own_rd hoo7); first | exact h | exact h.below (below_new _ _) (Nat.le_refl _) | exact h.below (below_drew1 (below_new _ _)) (Nat.le_refl _)) _ _ _ x0_2 (by have h := hoo5.rdl; first | exact h | exact h.below (below_new _ _) (Nat.le_refl _) | exact h.below (below_drew1 (below_new _ _)) (Nat.le_refl _)) (by omega) _ _ _ (by have h := hoo8.rdl; first | exact h | exact h.below (below_new _ _) (Nat.le_refl _) | exact h.below (below_drew1 (below_new _ _)) (Nat.le_refl _))).mono ?_
       rintro e v7 ⟨rfl, hbv7⟩
       clear qo1_0 qo1_1 qo1_2 qo6_0 qo6_1 qo6_2 hlo1 hlo6
       (try replace hbv7 := und1 hbv7)
       (try replace hbv7 := undN hbv7)
       replace hoo2 := ownN_below hoo2 hbv7 (Nat.le_refl _)
       replace hoo3 := hoo3.below hbv7
       replace hoo4 := ownN_below hoo4 hbv7 (Nat.le_refl _)
       replace hoo5 := hoo5.below hbv7
       replace hoo7 := ownN_below hoo7 hbv7 (Nat.le_refl _)
       replace hoo8 := hoo8.below hbv7
       replace hxo1 := blk_bel hxo1 hbv7
       replace hxo6 := blk_bel hxo6 hbv7
       replace HB := HB.trans (hbv7.mono HB.size)
       have hszv7 := hbv7.size
       have qo1_0 := blk_cell hxo1 0 rfl
       have qo1_1 := blk_cell hxo1 1 rfl
       have qo1_2 := blk_cell hxo1 2 rfl
       have hlo1 := blk_lt hxo1
       have qo6_0 := blk_cell hxo6 0 rfl
       have qo6_1 := blk_cell hxo6 1 rfl
       have qo6_2 := blk_cell hxo6 2 rfl
       have hlo6 := blk_lt hxo6
       )
    )
  go_wp2_with fail
  go_ret
  first | exact ⟨rfl, HB⟩ | exact ⟨rfl, below_drewN HB⟩
end Go.Proofs.Ytjgajjcgapifoaa
