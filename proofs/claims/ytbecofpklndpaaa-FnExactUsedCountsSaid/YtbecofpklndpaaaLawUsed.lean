/- The law on UsedCounts. Written by genlaw5.py. -/
import Derived.Test.YtbecofpklndpaaaMchP
import Derived.Test.YtbecofpklndpaaaLawMachine
namespace Go.Proofs.Ytbecofpklndpaaa
open Go.RowKit
set_option linter.unusedVariables false
set_option linter.unusedSimpArgs false
set_option maxHeartbeats 16000000 in
set_option maxRecDepth 100000 in
theorem lawUsedCounts (w : World) (x0_0 : Int) (x0_1 : Int) (A0_2 : Option Addr) (n0_2 c0_2 : Nat) (x0_2 : List Int) (hr0_2 : Rd w A0_2 (n0_2 * 3) (ints x0_2)) (hnn0_2 : n0_2 ≤ 9223372036854775807) :
    Calls Try.prog 6 #[.agg #[.int .i64 x0_0, .int .i64 x0_1, .slice A0_2 n0_2 c0_2]] w fun e w' => e = .returned (.bool true) ∧ Below w.heap.size w w' := by
  obtain ⟨rs, rfl, hps⟩ := unflatR n0_2 x0_2 (by simpa using hr0_2.1)
  have HPS := Lib.hid hps; clear hps
  have hS : ∀ (w : World) (A0_2 : Option Addr) (n0_2 c0_2 : Nat) (h0_2 : Rd w A0_2 (n0_2 * 3) (ints (flatR rs))) (hn0_2 : n0_2 ≤ 1099511627776) (hcp0_2 : n0_2 ≤ c0_2), Calls Try.prog 31 #[.agg #[.int .i64 x0_0, .int .i64 x0_1, .slice A0_2 n0_2 c0_2]] w (fun e w' => e = .returned (.tuple #[.int .i64 ((usedNum x0_0 x0_1 rs).1), .int .i64 ((usedNum x0_0 x0_1 rs).2.1), .int .i64 ((usedNum x0_0 x0_1 rs).2.2)]) ∧ Below w.heap.size w w') := fun w A0_2 n0_2 c0_2 h0_2 hn0_2 hcp0_2 => specUsedCounts_any w x0_0 x0_1 A0_2 n0_2 c0_2 rs h0_2 hn0_2
  have hI : ∀ (w : World) (A0_2 : Option Addr) (n0_2 c0_2 : Nat) (h0_2 : Rd w A0_2 (n0_2 * 3) (ints (flatR rs))) (hn0_2 : n0_2 ≤ 1099511627776) (hcp0_2 : n0_2 ≤ c0_2), Calls Try.prog 33 #[.agg #[.int .i64 x0_0, .int .i64 x0_1, .slice A0_2 n0_2 c0_2]] w (fun e w' => e = .returned (.tuple #[.int .i64 ((usedNum x0_0 x0_1 rs).1), .int .i64 ((usedNum x0_0 x0_1 rs).2.1), .int .i64 ((usedNum x0_0 x0_1 rs).2.2)]) ∧ Below w.heap.size w w') := fun w A0_2 n0_2 c0_2 h0_2 hn0_2 hcp0_2 => implUsedCounts_any w x0_0 x0_1 A0_2 n0_2 c0_2 rs h0_2 hn0_2
  have HS := Lib.hid hS; have HI := Lib.hid hI
  clear hS hI
  generalize (usedNum x0_0 x0_1 rs).1 = r0 at HS HI 
  generalize (usedNum x0_0 x0_1 rs).2.1 = r1 at HS HI 
  generalize (usedNum x0_0 x0_1 rs).2.2 = r2 at HS HI 
  have HXL0_2 : Hid (((flatR rs)).length = n0_2 * 3) := Lib.hid (by have := hr0_2.1; simp at this; omega)
  have HB := Below.refl w.heap.size w
  go_enter Try.func6, Try.ntmps6
  go_wp2_with fail
  refine (szMachine_post _ x0_0 x0_1 _ _ _ hnn0_2 _ (by omega) (by omega)).mono ?_
  rintro e v1 ⟨lfv1, rfl, hqv1, hpv1, hbv1⟩
  (try replace hbv1 := und1 hbv1)
  (try replace hbv1 := undN hbv1)
  obtain ⟨hbv1b, hxo1, hso1⟩ := box_step hbv1
  (try simp only [World.size_alloc] at hxo1 hso1)
  replace HB := HB.trans (hbv1b.mono HB.size)
  have hszv1 := hbv1b.size
  have qo1_0 := blk_cell hxo1 0 rfl
  have qo1_1 := blk_cell hxo1 1 rfl
  have qo1_2 := blk_cell hxo1 2 rfl
  have hlo1 := blk_lt hxo1
  by_cases hzv1 : lfv1 < 0
  · clear hqv1 hpv1
    go_wp2_with fail
    go_ret
    exact ⟨rfl, HB⟩
  replace hqv1 := hqv1 (by omega)
  have hbig0_2 : n0_2 ≤ 1048576 := by omega
  have HQv1 := Lib.hid hqv1; clear hqv1
  go_wp2_with fail
  refine (toMachine_any _ x0_0 x0_1 _ _ _ (flatR rs) (hr0_2.below HB (Nat.le_refl _)) (by omega)).mono ?_
  rintro e v2 ⟨Ao2, no2, co2, rfl, hoo2, hbv2⟩
  have hno2 : no2 ≤ 1048576 := by have h1 := hoo2.1; simp only [List.length_map] at h1; have h2 := HXL0_2.out; omega
  have hrgo2 := Lib.hid (rg_row hoo2)
  clear qo1_0 qo1_1 qo1_2 hlo1
  (try replace hbv2 := und1 hbv2)
  (try replace hbv2 := undN hbv2)
  replace hxo1 := blk_bel hxo1 hbv2
  replace HB := HB.trans (hbv2.mono HB.size)
  have hszv2 := hbv2.size
  have qo1_0 := blk_cell hxo1 0 rfl
  have qo1_1 := blk_cell hxo1 1 rfl
  have qo1_2 := blk_cell hxo1 2 rfl
  have hlo1 := blk_lt hxo1
  replace hrgo2 := Lib.hid (rg_lo hrgo2.out (lo := v1.heap.size + 0) (hi := v2.heap.size) (by first | exact Nat.le_refl _ | exact le_al1 | (simp; done) | (simp; omega)) (Nat.le_refl _))
  go_wp2_with fail
  refine (HS.out _ _ _ _ (ownN_rd hoo2) (by omega) (ownN_cap hoo2)).mono ?_
  rintro e v3 ⟨rfl, hbv3⟩
  clear qo1_0 qo1_1 qo1_2 hlo1
  (try replace hbv3 := und1 hbv3)
  (try replace hbv3 := undN hbv3)
  replace hoo2 := ownN_below hoo2 hbv3 (Nat.le_refl _)
  replace hxo1 := blk_bel hxo1 hbv3
  replace HB := HB.trans (hbv3.mono HB.size)
  have hszv3 := hbv3.size
  have qo1_0 := blk_cell hxo1 0 rfl
  have qo1_1 := blk_cell hxo1 1 rfl
  have qo1_2 := blk_cell hxo1 2 rfl
  have hlo1 := blk_lt hxo1
  go_wp2_with fail
  refine (toMachine_any _ x0_0 x0_1 _ _ _ (flatR rs) (hr0_2.below HB (Nat.le_refl _)) (by omega)).mono ?_
  rintro e v4 ⟨Ao3, no3, co3, rfl, hoo3, hbv4⟩
  have hno3 : no3 ≤ 1048576 := by have h1 := hoo3.1; simp only [List.length_map] at h1; have h2 := HXL0_2.out; omega
  have hrgo3 := Lib.hid (rg_row hoo3)
  clear qo1_0 qo1_1 qo1_2 hlo1
  (try replace hbv4 := und1 hbv4)
  (try replace hbv4 := undN hbv4)
  replace hoo2 := ownN_below hoo2 hbv4 (Nat.le_refl _)
  replace hxo1 := blk_bel hxo1 hbv4
  replace HB := HB.trans (hbv4.mono HB.size)
  have hszv4 := hbv4.size
  have qo1_0 := blk_cell hxo1 0 rfl
  have qo1_1 := blk_cell hxo1 1 rfl
  have qo1_2 := blk_cell hxo1 2 rfl
  have hlo1 := blk_lt hxo1
  replace hrgo3 := Lib.hid (rg_lo hrgo3.out (lo := v3.heap.size + 0) (hi := v4.heap.size) (by first | exact Nat.le_refl _ | exact le_al1 | (simp; done) | (simp; omega)) (Nat.le_refl _))
  go_wp2_with fail
  refine (HI.out _ _ _ _ ((ownN_rd hoo3).below (below_new _ _) (Nat.le_refl _)) (by omega) (ownN_cap hoo3)).mono ?_
  rintro e v5 ⟨rfl, hbv5⟩
  clear qo1_0 qo1_1 qo1_2 hlo1
  (try replace hbv5 := und1 hbv5)
  (try replace hbv5 := undN hbv5)
  obtain ⟨hbv5b, hxo4, hso4⟩ := box_step hbv5
  (try simp only [World.size_alloc] at hxo4 hso4)
  replace hoo2 := ownN_below hoo2 hbv5b (Nat.le_refl _)
  replace hoo3 := ownN_below hoo3 hbv5b (Nat.le_refl _)
  replace hxo1 := blk_bel hxo1 hbv5b
  replace HB := HB.trans (hbv5b.mono HB.size)
  have hszv5 := hbv5b.size
  have qo1_0 := blk_cell hxo1 0 rfl
  have qo1_1 := blk_cell hxo1 1 rfl
  have qo1_2 := blk_cell hxo1 2 rfl
  have hlo1 := blk_lt hxo1
  have qo4_0 := blk_cell hxo4 0 rfl
  have qo4_1 := blk_cell hxo4 1 rfl
  have qo4_2 := blk_cell hxo4 2 rfl
  have hlo4 := blk_lt hxo4
  go_wp2_with fail
  go_region_held3 (fun w' => w'.cell? ⟨v4.heap.size, 0, none⟩ = some (.int .i64 x0_0) ∧ w'.cell? ⟨v4.heap.size, 1, none⟩ = some (.int .i64 x0_1) ∧ w'.cell? ⟨v4.heap.size, 2, none⟩ = some (.slice Ao3 no3 co3) ∧ w'.cell? ⟨w.heap.size, 0, none⟩ = some (.int .i64 x0_0) ∧ w'.cell? ⟨w.heap.size, 1, none⟩ = some (.int .i64 x0_1) ∧ w'.cell? ⟨w.heap.size, 2, none⟩ = some (.slice A0_2 n0_2 c0_2)) (first | exact ⟨qo4_0, qo4_1, qo4_2, qo1_0, qo1_1, qo1_2⟩ | go_keep) (first
    | (go_at_call 32
       refine (toMachine_any _ x0_0 x0_1 _ _ _ (flatR rs) (by have h := (hr0_2.below HB (Nat.le_refl _)); first | exact h | exact h.below (below_new _ _) (Nat.le_refl _) | exact h.below (below_drew1 (below_new _ _)) (Nat.le_refl _)) (by omega)).mono ?_
       rintro e v6 ⟨Ao5, no5, co5, rfl, hoo5, hbv6⟩
       have hno5 : no5 ≤ 1048576 := by have h1 := hoo5.1; simp only [List.length_map] at h1; have h2 := HXL0_2.out; omega
       have hrgo5 := Lib.hid (rg_row hoo5)
       clear qo1_0 qo1_1 qo1_2 qo4_0 qo4_1 qo4_2 hlo1 hlo4
       (try replace hbv6 := und1 hbv6)
       (try replace hbv6 := undN hbv6)
       replace hoo2 := ownN_below hoo2 hbv6 (Nat.le_refl _)
       replace hoo3 := ownN_below hoo3 hbv6 (Nat.le_refl _)
       replace hxo1 := blk_bel hxo1 hbv6
       replace hxo4 := blk_bel hxo4 hbv6
       replace HB := HB.trans (hbv6.mono HB.size)
       have hszv6 := hbv6.size
       have qo1_0 := blk_cell hxo1 0 rfl
       have qo1_1 := blk_cell hxo1 1 rfl
       have qo1_2 := blk_cell hxo1 2 rfl
       have hlo1 := blk_lt hxo1
       have qo4_0 := blk_cell hxo4 0 rfl
       have qo4_1 := blk_cell hxo4 1 rfl
       have qo4_2 := blk_cell hxo4 2 rfl
       have hlo4 := blk_lt hxo4
       replace hrgo5 := Lib.hid (rg_lo hrgo5.out (lo := v5.heap.size + 0) (hi := v6.heap.size) (by first | exact Nat.le_refl _ | exact le_al1 | (simp; done) | (simp; omega)) (Nat.le_refl _))
       )
    | (go_at_call 27
       refine (eqMachine_same _ _ _ _ _ _ (flatR rs) (by have h := (ownN_rd hoo3); first | exact h | exact h.below (below_new _ _) (Nat.le_refl _) | exact h.below (below_drew1 (below_new _ _)) (Nat.le_refl _)) (by omega) _ _ _ (by have h := (ownN_rd hoo5); first | exact h | exact h.below (below_new _ _) (Nat.le_refl _) | exact h.below (below_drew1 (below_new _ _)) (Nat.le_refl _))).mono ?_
       rintro e v7 ⟨rfl, hbv7⟩
       clear qo1_0 qo1_1 qo1_2 qo4_0 qo4_1 qo4_2 hlo1 hlo4
       (try replace hbv7 := und1 hbv7)
       (try replace hbv7 := undN hbv7)
       replace hoo2 := ownN_below hoo2 hbv7 (Nat.le_refl _)
       replace hoo3 := ownN_below hoo3 hbv7 (Nat.le_refl _)
       replace hoo5 := ownN_below hoo5 hbv7 (Nat.le_refl _)
       replace hxo1 := blk_bel hxo1 hbv7
       replace hxo4 := blk_bel hxo4 hbv7
       replace HB := HB.trans (hbv7.mono HB.size)
       have hszv7 := hbv7.size
       have qo1_0 := blk_cell hxo1 0 rfl
       have qo1_1 := blk_cell hxo1 1 rfl
       have qo1_2 := blk_cell hxo1 2 rfl
       have hlo1 := blk_lt hxo1
       have qo4_0 := blk_cell hxo4 0 rfl
       have qo4_1 := blk_cell hxo4 1 rfl
       have qo4_2 := blk_cell hxo4 2 rfl
       have hlo4 := blk_lt hxo4
       )
    )
  go_wp2_with fail
  go_ret
  first | exact ⟨rfl, HB⟩ | exact ⟨rfl, below_drewN HB⟩
end Go.Proofs.Ytbecofpklndpaaa
