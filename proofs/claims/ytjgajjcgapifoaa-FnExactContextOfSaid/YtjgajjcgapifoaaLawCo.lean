/- The law on ContextOf. Written by genlaw5.py. -/
import Derived.Test.YtjgajjcgapifoaaCfgS
import Derived.Test.YtjgajjcgapifoaaLawMachine
import Derived.Test.YtjgajjcgapifoaaLawConfig
namespace Go.Proofs.Ytjgajjcgapifoaa
open Go.RowKit
set_option linter.unusedVariables false
set_option linter.unusedSimpArgs false
set_option maxHeartbeats 16000000 in
set_option maxRecDepth 100000 in
theorem lawContextOf (w : World) (x0_0 : Int) (x0_1 : Int) (A0_2 : Option Addr) (n0_2 c0_2 : Nat) (x0_2 : List Int) (hr0_2 : Rd w A0_2 (n0_2 * 3) (ints x0_2)) (hnn0_2 : n0_2 ≤ 9223372036854775807) (x1_0 : Int) (A1_1 : Option Addr) (n1_1 c1_1 : Nat) (x1_1 : List Int) (hr1_1 : Rd w A1_1 n1_1 (ints x1_1)) (hnn1_1 : n1_1 ≤ 9223372036854775807) (A1_2 : Option Addr) (n1_2 c1_2 : Nat) (x1_2 : List Int) (hr1_2 : Rd w A1_2 n1_2 (ints x1_2)) (hnn1_2 : n1_2 ≤ 9223372036854775807) (x2 : Int) :
    Calls Try.prog 4 #[.agg #[.int .i64 x0_0, .int .i64 x0_1, .slice A0_2 n0_2 c0_2], .agg #[.int .i64 x1_0, .slice A1_1 n1_1 c1_1, .slice A1_2 n1_2 c1_2], .int .i64 x2] w fun e w' => e = .returned (.bool true) ∧ Below w.heap.size w w' := by
  obtain ⟨rs, rfl, hps⟩ := unflatR n0_2 x0_2 (by simpa using hr0_2.1)
  have HPS := Lib.hid hps; clear hps
  have hS : ∀ (w : World) (A0_2 : Option Addr) (n0_2 c0_2 : Nat) (h0_2 : Rd w A0_2 (n0_2 * 3) (ints (flatR rs))) (hn0_2 : n0_2 ≤ 1099511627776) (hcp0_2 : n0_2 ≤ c0_2) (A1_1 : Option Addr) (n1_1 c1_1 : Nat) (h1_1 : Rd w A1_1 n1_1 (ints x1_1)) (hn1_1 : n1_1 ≤ 1099511627776) (hcp1_1 : n1_1 ≤ c1_1) (A1_2 : Option Addr) (n1_2 c1_2 : Nat) (h1_2 : Rd w A1_2 n1_2 (ints x1_2)) (hn1_2 : n1_2 ≤ 1099511627776) (hcp1_2 : n1_2 ≤ c1_2), Calls Try.prog 23 #[.agg #[.int .i64 x0_0, .int .i64 x0_1, .slice A0_2 n0_2 c0_2], .agg #[.int .i64 x1_0, .slice A1_1 n1_1 c1_1, .slice A1_2 n1_2 c1_2], .int .i64 x2] w (fun e w' => ∃ (AR0 : Option Addr) (nR0 cR0 : Nat), e = .returned (.tuple #[.slice AR0 nR0 cR0, .int .i64 ((coP x0_0 x0_1 rs x1_0 x1_1 x1_2 x2).2)]) ∧ w'.ownsRow w.heap.size 2 1 (.slice AR0 nR0 cR0) nR0 (ints ((coP x0_0 x0_1 rs x1_0 x1_1 x1_2 x2).1)) ∧ Below w.heap.size w w') := fun w A0_2 n0_2 c0_2 h0_2 hn0_2 hcp0_2 A1_1 n1_1 c1_1 h1_1 hn1_1 hcp1_1 A1_2 n1_2 c1_2 h1_2 hn1_2 hcp1_2 => specContextOf_any w x0_0 x0_1 A0_2 n0_2 c0_2 rs h0_2 hn0_2 x1_0 A1_1 n1_1 c1_1 x1_1 h1_1 hn1_1 A1_2 n1_2 c1_2 x1_2 h1_2 hn1_2 x2
  have hI : ∀ (w : World) (A0_2 : Option Addr) (n0_2 c0_2 : Nat) (h0_2 : Rd w A0_2 (n0_2 * 3) (ints (flatR rs))) (hn0_2 : n0_2 ≤ 1099511627776) (hcp0_2 : n0_2 ≤ c0_2) (A1_1 : Option Addr) (n1_1 c1_1 : Nat) (h1_1 : Rd w A1_1 n1_1 (ints x1_1)) (hn1_1 : n1_1 ≤ 1099511627776) (hcp1_1 : n1_1 ≤ c1_1) (A1_2 : Option Addr) (n1_2 c1_2 : Nat) (h1_2 : Rd w A1_2 n1_2 (ints x1_2)) (hn1_2 : n1_2 ≤ 1099511627776) (hcp1_2 : n1_2 ≤ c1_2), Calls Try.prog 25 #[.agg #[.int .i64 x0_0, .int .i64 x0_1, .slice A0_2 n0_2 c0_2], .agg #[.int .i64 x1_0, .slice A1_1 n1_1 c1_1, .slice A1_2 n1_2 c1_2], .int .i64 x2] w (fun e w' => ∃ (AR0 : Option Addr) (nR0 cR0 : Nat), e = .returned (.tuple #[.slice AR0 nR0 cR0, .int .i64 ((coP x0_0 x0_1 rs x1_0 x1_1 x1_2 x2).2)]) ∧ w'.ownsRow w.heap.size 2 1 (.slice AR0 nR0 cR0) nR0 (ints ((coP x0_0 x0_1 rs x1_0 x1_1 x1_2 x2).1)) ∧ Below w.heap.size w w') := fun w A0_2 n0_2 c0_2 h0_2 hn0_2 hcp0_2 A1_1 n1_1 c1_1 h1_1 hn1_1 hcp1_1 A1_2 n1_2 c1_2 h1_2 hn1_2 hcp1_2 => implContextOf_any w x0_0 x0_1 A0_2 n0_2 c0_2 rs h0_2 hn0_2 x1_0 A1_1 n1_1 c1_1 x1_1 h1_1 hn1_1 A1_2 n1_2 c1_2 x1_2 h1_2 hn1_2 x2
  have HRLR0 : Hid (((coP x0_0 x0_1 rs x1_0 x1_1 x1_2 x2).1).length ≤ 1000000) := Lib.hid (co_len _ _ _ _ _ _ _)
  have HS := Lib.hid hS; have HI := Lib.hid hI
  clear hS hI
  generalize (coP x0_0 x0_1 rs x1_0 x1_1 x1_2 x2).1 = r0 at HS HI HRLR0
  generalize (coP x0_0 x0_1 rs x1_0 x1_1 x1_2 x2).2 = r1 at HS HI 
  have HXL0_2 : Hid (((flatR rs)).length = n0_2 * 3) := Lib.hid (by have := hr0_2.1; simp at this; omega)
  have HXL1_1 : Hid ((x1_1).length = n1_1 * 1) := Lib.hid (by have := hr1_1.1; simp at this; omega)
  have HXL1_2 : Hid ((x1_2).length = n1_2 * 1) := Lib.hid (by have := hr1_2.1; simp at this; omega)
  have HB := Below.refl w.heap.size w
  go_enter Try.func4, Try.ntmps4
  go_wp2_with fail
  refine (szMachine_post _ x0_0 x0_1 _ _ _ hnn0_2 _ (by omega) (by omega)).mono ?_
  rintro e v1 ⟨lfv1, rfl, hqv1, hpv1, hbv1⟩
  (try replace hbv1 := und1 hbv1)
  (try replace hbv1 := undN hbv1)
  obtain ⟨hbv1b, hxo2, hso2⟩ := box_step hbv1
  (try simp only [World.size_alloc] at hxo2 hso2)
  obtain ⟨hbv1bb, hxo1, hso1⟩ := box_step hbv1b
  (try simp only [World.size_alloc] at hxo1 hso1)
  replace HB := HB.trans (hbv1bb.mono HB.size)
  have hszv1 := hbv1bb.size
  have qo1_0 := blk_cell hxo1 0 rfl
  have qo1_1 := blk_cell hxo1 1 rfl
  have qo1_2 := blk_cell hxo1 2 rfl
  have hlo1 := blk_lt hxo1
  have qo2_0 := blk_cell hxo2 0 rfl
  have qo2_1 := blk_cell hxo2 1 rfl
  have qo2_2 := blk_cell hxo2 2 rfl
  have hlo2 := blk_lt hxo2
  by_cases hzv1 : lfv1 < 0
  · clear hqv1 hpv1
    go_wp2_with fail
    go_ret
    exact ⟨rfl, HB⟩
  replace hqv1 := hqv1 (by omega)
  have hbig0_2 : n0_2 ≤ 1048576 := by omega
  have HQv1 := Lib.hid hqv1; clear hqv1
  go_wp2_with fail
  refine (szConfig_post _ x1_0 _ _ _ hnn1_1 _ _ _ hnn1_2 _ (by omega) (by omega)).mono ?_
  rintro e v2 ⟨lfv2, rfl, hqv2, hpv2, hbv2⟩
  clear qo1_0 qo1_1 qo1_2 qo2_0 qo2_1 qo2_2 hlo1 hlo2
  (try replace hbv2 := und1 hbv2)
  (try replace hbv2 := undN hbv2)
  replace hxo1 := blk_bel hxo1 hbv2
  replace hxo2 := blk_bel hxo2 hbv2
  replace HB := HB.trans (hbv2.mono HB.size)
  have hszv2 := hbv2.size
  have qo1_0 := blk_cell hxo1 0 rfl
  have qo1_1 := blk_cell hxo1 1 rfl
  have qo1_2 := blk_cell hxo1 2 rfl
  have hlo1 := blk_lt hxo1
  have qo2_0 := blk_cell hxo2 0 rfl
  have qo2_1 := blk_cell hxo2 1 rfl
  have qo2_2 := blk_cell hxo2 2 rfl
  have hlo2 := blk_lt hxo2
  by_cases hzv2 : lfv2 < 0
  · clear hqv2 hpv2
    go_wp2_with fail
    go_ret
    exact ⟨rfl, HB⟩
  replace hqv2 := hqv2 (by omega)
  have hbig1_1 : n1_1 ≤ 1048576 := by omega
  have hbig1_2 : n1_2 ≤ 1048576 := by omega
  have HQv2 := Lib.hid hqv2; clear hqv2
  go_wp2_with fail
  go_region_held3 (fun w' => w'.cell? ⟨w.heap.size, 0, none⟩ = some (.int .i64 x0_0) ∧ w'.cell? ⟨w.heap.size, 1, none⟩ = some (.int .i64 x0_1) ∧ w'.cell? ⟨w.heap.size, 2, none⟩ = some (.slice A0_2 n0_2 c0_2) ∧ w'.cell? ⟨w.heap.size + 1, 0, none⟩ = some (.int .i64 x1_0) ∧ w'.cell? ⟨w.heap.size + 1, 1, none⟩ = some (.slice A1_1 n1_1 c1_1) ∧ w'.cell? ⟨w.heap.size + 1, 2, none⟩ = some (.slice A1_2 n1_2 c1_2)) (first | exact ⟨qo1_0, qo1_1, qo1_2, qo2_0, qo2_1, qo2_2⟩ | go_keep) (first
    | (go_at_call 14
       refine (toMachine_any _ x0_0 x0_1 _ _ _ (flatR rs) (by have h := (hr0_2.below HB (Nat.le_refl _)); first | exact h | exact h.below (below_new _ _) (Nat.le_refl _) | exact h.below (below_drew1 (below_new _ _)) (Nat.le_refl _)) (by omega)).mono ?_
       rintro e v3 ⟨Ao3, no3, co3, rfl, hoo3, hbv3⟩
       have hno3 : no3 ≤ 1048576 := by have h1 := hoo3.1; simp only [List.length_map] at h1; have h2 := HXL0_2.out; omega
       have hrgo3 := Lib.hid (rg_row hoo3)
       clear qo1_0 qo1_1 qo1_2 qo2_0 qo2_1 qo2_2 hlo1 hlo2
       (try replace hbv3 := und1 hbv3)
       (try replace hbv3 := undN hbv3)
       replace hxo1 := blk_bel hxo1 hbv3
       replace hxo2 := blk_bel hxo2 hbv3
       replace HB := HB.trans (hbv3.mono HB.size)
       have hszv3 := hbv3.size
       have qo1_0 := blk_cell hxo1 0 rfl
       have qo1_1 := blk_cell hxo1 1 rfl
       have qo1_2 := blk_cell hxo1 2 rfl
       have hlo1 := blk_lt hxo1
       have qo2_0 := blk_cell hxo2 0 rfl
       have qo2_1 := blk_cell hxo2 1 rfl
       have qo2_2 := blk_cell hxo2 2 rfl
       have hlo2 := blk_lt hxo2
       replace hrgo3 := Lib.hid (rg_lo hrgo3.out (lo := v2.heap.size + 0) (hi := v3.heap.size) (by first | exact Nat.le_refl _ | exact le_al1 | (simp; done) | (simp; omega)) (Nat.le_refl _))
       )
    | (go_at_call 24
       refine (toConfig_any _ x1_0 _ _ _ x1_1 (by have h := (hr1_1.below HB (Nat.le_refl _)); first | exact h | exact h.below (below_new _ _) (Nat.le_refl _) | exact h.below (below_drew1 (below_new _ _)) (Nat.le_refl _)) (by omega) _ _ _ x1_2 (by have h := (hr1_2.below HB (Nat.le_refl _)); first | exact h | exact h.below (below_new _ _) (Nat.le_refl _) | exact h.below (below_drew1 (below_new _ _)) (Nat.le_refl _)) (by omega)).mono ?_
       rintro e v4 ⟨Ao4, no4, co4, Ao5, no5, co5, rfl, hoo4, hoo5, hdo4o5, hbv4⟩
       have hno4 : no4 ≤ 1048576 := by have h1 := hoo4.1; simp only [List.length_map] at h1; have h2 := HXL1_1.out; omega
       have hno5 : no5 ≤ 1048576 := by have h1 := hoo5.1; simp only [List.length_map] at h1; have h2 := HXL1_2.out; omega
       have hrgo4 := Lib.hid (rg_row hoo4)
       have hrgo5 := Lib.hid (rg_row hoo5)
       have HDo4o5 := Lib.hid hdo4o5; clear hdo4o5
       clear qo1_0 qo1_1 qo1_2 qo2_0 qo2_1 qo2_2 hlo1 hlo2
       (try replace hbv4 := und1 hbv4)
       (try replace hbv4 := undN hbv4)
       replace hoo3 := ownN_below hoo3 hbv4 (Nat.le_refl _)
       replace hxo1 := blk_bel hxo1 hbv4
       replace hxo2 := blk_bel hxo2 hbv4
       replace HB := HB.trans (hbv4.mono HB.size)
       have hszv4 := hbv4.size
       have qo1_0 := blk_cell hxo1 0 rfl
       have qo1_1 := blk_cell hxo1 1 rfl
       have qo1_2 := blk_cell hxo1 2 rfl
       have hlo1 := blk_lt hxo1
       have qo2_0 := blk_cell hxo2 0 rfl
       have qo2_1 := blk_cell hxo2 1 rfl
       have qo2_2 := blk_cell hxo2 2 rfl
       have hlo2 := blk_lt hxo2
       replace hrgo4 := Lib.hid (rg_lo hrgo4.out (lo := v3.heap.size + 0) (hi := v4.heap.size) (by first | exact Nat.le_refl _ | exact le_al1 | (simp; done) | (simp; omega)) (Nat.le_refl _))
       replace hrgo5 := Lib.hid (rg_lo hrgo5.out (lo := v3.heap.size + 0) (hi := v4.heap.size) (by first | exact Nat.le_refl _ | exact le_al1 | (simp; done) | (simp; omega)) (Nat.le_refl _))
       )
    | (go_at_call 23
       refine (HS.out _ _ _ _ (by have h := (ownN_rd hoo3); first | exact h | exact h.below (below_new _ _) (Nat.le_refl _) | exact h.below (below_drew1 (below_new _ _)) (Nat.le_refl _)) (by omega) (ownN_cap hoo3) _ _ _ (by have h := (own_rd hoo4); first | exact h | exact h.below (below_new _ _) (Nat.le_refl _) | exact h.below (below_drew1 (below_new _ _)) (Nat.le_refl _)) (by omega) (ownN_cap hoo4) _ _ _ (by have h := (own_rd hoo5); first | exact h | exact h.below (below_new _ _) (Nat.le_refl _) | exact h.below (below_drew1 (below_new _ _)) (Nat.le_refl _)) (by omega) (ownN_cap hoo5)).mono ?_
       rintro e v5 ⟨Ao6, no6, co6, rfl, hoo6, hbv5⟩
       have hno6 : no6 ≤ 1000000 := by have h1 := hoo6.1; simp only [List.length_map] at h1; have h2 := HRLR0.out; omega
       have hrgo6 := Lib.hid (rg_row hoo6)
       clear qo1_0 qo1_1 qo1_2 qo2_0 qo2_1 qo2_2 hlo1 hlo2
       (try replace hbv5 := und1 hbv5)
       (try replace hbv5 := undN hbv5)
       replace hoo3 := ownN_below hoo3 hbv5 (Nat.le_refl _)
       replace hoo4 := ownN_below hoo4 hbv5 (Nat.le_refl _)
       replace hoo5 := ownN_below hoo5 hbv5 (Nat.le_refl _)
       replace hxo1 := blk_bel hxo1 hbv5
       replace hxo2 := blk_bel hxo2 hbv5
       replace HB := HB.trans (hbv5.mono HB.size)
       have hszv5 := hbv5.size
       have qo1_0 := blk_cell hxo1 0 rfl
       have qo1_1 := blk_cell hxo1 1 rfl
       have qo1_2 := blk_cell hxo1 2 rfl
       have hlo1 := blk_lt hxo1
       have qo2_0 := blk_cell hxo2 0 rfl
       have qo2_1 := blk_cell hxo2 1 rfl
       have qo2_2 := blk_cell hxo2 2 rfl
       have hlo2 := blk_lt hxo2
       replace hrgo6 := Lib.hid (rg_lo hrgo6.out (lo := v4.heap.size + 0) (hi := v5.heap.size) (by first | exact Nat.le_refl _ | exact le_al1 | (simp; done) | (simp; omega)) (Nat.le_refl _))
       )
    )
  go_wp2_with fail
  refine (toMachine_any _ x0_0 x0_1 _ _ _ (flatR rs) (hr0_2.below HB (Nat.le_refl _)) (by omega)).mono ?_
  rintro e v6 ⟨Ao7, no7, co7, rfl, hoo7, hbv6⟩
  have hno7 : no7 ≤ 1048576 := by have h1 := hoo7.1; simp only [List.length_map] at h1; have h2 := HXL0_2.out; omega
  have hrgo7 := Lib.hid (rg_row hoo7)
  clear qo1_0 qo1_1 qo1_2 qo2_0 qo2_1 qo2_2 hlo1 hlo2
  (try replace hbv6 := und1 hbv6)
  (try replace hbv6 := undN hbv6)
  replace hoo3 := ownN_below hoo3 hbv6 (Nat.le_refl _)
  replace hoo4 := ownN_below hoo4 hbv6 (Nat.le_refl _)
  replace hoo5 := ownN_below hoo5 hbv6 (Nat.le_refl _)
  replace hoo6 := ownN_below hoo6 hbv6 (Nat.le_refl _)
  replace hxo1 := blk_bel hxo1 hbv6
  replace hxo2 := blk_bel hxo2 hbv6
  replace HB := HB.trans (hbv6.mono HB.size)
  have hszv6 := hbv6.size
  have qo1_0 := blk_cell hxo1 0 rfl
  have qo1_1 := blk_cell hxo1 1 rfl
  have qo1_2 := blk_cell hxo1 2 rfl
  have hlo1 := blk_lt hxo1
  have qo2_0 := blk_cell hxo2 0 rfl
  have qo2_1 := blk_cell hxo2 1 rfl
  have qo2_2 := blk_cell hxo2 2 rfl
  have hlo2 := blk_lt hxo2
  replace hrgo7 := Lib.hid (rg_lo hrgo7.out (lo := v5.heap.size + 0) (hi := v6.heap.size) (by first | exact Nat.le_refl _ | exact le_al1 | (simp; done) | (simp; omega)) (Nat.le_refl _))
  go_wp2_with fail
  refine (toConfig_any _ x1_0 _ _ _ x1_1 ((hr1_1.below HB (Nat.le_refl _)).below (below_new _ _) (Nat.le_refl _)) (by omega) _ _ _ x1_2 ((hr1_2.below HB (Nat.le_refl _)).below (below_new _ _) (Nat.le_refl _)) (by omega)).mono ?_
  rintro e v7 ⟨Ao9, no9, co9, Ao10, no10, co10, rfl, hoo9, hoo10, hdo9o10, hbv7⟩
  have hno9 : no9 ≤ 1048576 := by have h1 := hoo9.1; simp only [List.length_map] at h1; have h2 := HXL1_1.out; omega
  have hno10 : no10 ≤ 1048576 := by have h1 := hoo10.1; simp only [List.length_map] at h1; have h2 := HXL1_2.out; omega
  have hrgo9 := Lib.hid (rg_row hoo9)
  have hrgo10 := Lib.hid (rg_row hoo10)
  have HDo9o10 := Lib.hid hdo9o10; clear hdo9o10
  clear qo1_0 qo1_1 qo1_2 qo2_0 qo2_1 qo2_2 hlo1 hlo2
  (try replace hbv7 := und1 hbv7)
  (try replace hbv7 := undN hbv7)
  obtain ⟨hbv7b, hxo8, hso8⟩ := box_step hbv7
  (try simp only [World.size_alloc] at hxo8 hso8)
  replace hoo3 := ownN_below hoo3 hbv7b (Nat.le_refl _)
  replace hoo4 := ownN_below hoo4 hbv7b (Nat.le_refl _)
  replace hoo5 := ownN_below hoo5 hbv7b (Nat.le_refl _)
  replace hoo6 := ownN_below hoo6 hbv7b (Nat.le_refl _)
  replace hoo7 := ownN_below hoo7 hbv7b (Nat.le_refl _)
  replace hxo1 := blk_bel hxo1 hbv7b
  replace hxo2 := blk_bel hxo2 hbv7b
  replace HB := HB.trans (hbv7b.mono HB.size)
  have hszv7 := hbv7b.size
  have qo1_0 := blk_cell hxo1 0 rfl
  have qo1_1 := blk_cell hxo1 1 rfl
  have qo1_2 := blk_cell hxo1 2 rfl
  have hlo1 := blk_lt hxo1
  have qo2_0 := blk_cell hxo2 0 rfl
  have qo2_1 := blk_cell hxo2 1 rfl
  have qo2_2 := blk_cell hxo2 2 rfl
  have hlo2 := blk_lt hxo2
  have qo8_0 := blk_cell hxo8 0 rfl
  have qo8_1 := blk_cell hxo8 1 rfl
  have qo8_2 := blk_cell hxo8 2 rfl
  have hlo8 := blk_lt hxo8
  replace hrgo9 := Lib.hid (rg_lo hrgo9.out (lo := v6.heap.size + 1) (hi := v7.heap.size) (by first | exact Nat.le_refl _ | exact le_al1 | (simp; done) | (simp; omega)) (Nat.le_refl _))
  replace hrgo10 := Lib.hid (rg_lo hrgo10.out (lo := v6.heap.size + 1) (hi := v7.heap.size) (by first | exact Nat.le_refl _ | exact le_al1 | (simp; done) | (simp; omega)) (Nat.le_refl _))
  go_wp2_with fail
  refine (HI.out _ _ _ _ ((ownN_rd hoo7).below (below_new _ _) (Nat.le_refl _)) (by omega) (ownN_cap hoo7) _ _ _ ((own_rd hoo9).below (below_new _ _) (Nat.le_refl _)) (by omega) (ownN_cap hoo9) _ _ _ ((own_rd hoo10).below (below_new _ _) (Nat.le_refl _)) (by omega) (ownN_cap hoo10)).mono ?_
  rintro e v8 ⟨Ao12, no12, co12, rfl, hoo12, hbv8⟩
  have hno12 : no12 ≤ 1000000 := by have h1 := hoo12.1; simp only [List.length_map] at h1; have h2 := HRLR0.out; omega
  have hrgo12 := Lib.hid (rg_row hoo12)
  clear qo1_0 qo1_1 qo1_2 qo2_0 qo2_1 qo2_2 qo8_0 qo8_1 qo8_2 hlo1 hlo2 hlo8
  (try replace hbv8 := und1 hbv8)
  (try replace hbv8 := undN hbv8)
  obtain ⟨hbv8b, hxo11, hso11⟩ := box_step hbv8
  (try simp only [World.size_alloc] at hxo11 hso11)
  replace hoo3 := ownN_below hoo3 hbv8b (Nat.le_refl _)
  replace hoo4 := ownN_below hoo4 hbv8b (Nat.le_refl _)
  replace hoo5 := ownN_below hoo5 hbv8b (Nat.le_refl _)
  replace hoo6 := ownN_below hoo6 hbv8b (Nat.le_refl _)
  replace hoo7 := ownN_below hoo7 hbv8b (Nat.le_refl _)
  replace hoo9 := ownN_below hoo9 hbv8b (Nat.le_refl _)
  replace hoo10 := ownN_below hoo10 hbv8b (Nat.le_refl _)
  replace hxo1 := blk_bel hxo1 hbv8b
  replace hxo2 := blk_bel hxo2 hbv8b
  replace hxo8 := blk_bel hxo8 hbv8b
  replace HB := HB.trans (hbv8b.mono HB.size)
  have hszv8 := hbv8b.size
  have qo1_0 := blk_cell hxo1 0 rfl
  have qo1_1 := blk_cell hxo1 1 rfl
  have qo1_2 := blk_cell hxo1 2 rfl
  have hlo1 := blk_lt hxo1
  have qo2_0 := blk_cell hxo2 0 rfl
  have qo2_1 := blk_cell hxo2 1 rfl
  have qo2_2 := blk_cell hxo2 2 rfl
  have hlo2 := blk_lt hxo2
  have qo8_0 := blk_cell hxo8 0 rfl
  have qo8_1 := blk_cell hxo8 1 rfl
  have qo8_2 := blk_cell hxo8 2 rfl
  have hlo8 := blk_lt hxo8
  have qo11_0 := blk_cell hxo11 0 rfl
  have qo11_1 := blk_cell hxo11 1 rfl
  have qo11_2 := blk_cell hxo11 2 rfl
  have hlo11 := blk_lt hxo11
  replace hrgo12 := Lib.hid (rg_lo hrgo12.out (lo := v7.heap.size + 1) (hi := v8.heap.size) (by first | exact Nat.le_refl _ | exact le_al1 | (simp; done) | (simp; omega)) (Nat.le_refl _))
  go_wp2_with fail
  refine (eqInt64S_same _ _ _ _ r0 (own_rd hoo12) (by omega) _ _ _ (own_rd hoo6)).mono ?_
  rintro e v9 ⟨rfl, hbv9⟩
  clear qo1_0 qo1_1 qo1_2 qo2_0 qo2_1 qo2_2 qo8_0 qo8_1 qo8_2 qo11_0 qo11_1 qo11_2 hlo1 hlo2 hlo8 hlo11
  (try replace hbv9 := und1 hbv9)
  (try replace hbv9 := undN hbv9)
  replace hoo3 := ownN_below hoo3 hbv9 (Nat.le_refl _)
  replace hoo4 := ownN_below hoo4 hbv9 (Nat.le_refl _)
  replace hoo5 := ownN_below hoo5 hbv9 (Nat.le_refl _)
  replace hoo6 := ownN_below hoo6 hbv9 (Nat.le_refl _)
  replace hoo7 := ownN_below hoo7 hbv9 (Nat.le_refl _)
  replace hoo9 := ownN_below hoo9 hbv9 (Nat.le_refl _)
  replace hoo10 := ownN_below hoo10 hbv9 (Nat.le_refl _)
  replace hoo12 := ownN_below hoo12 hbv9 (Nat.le_refl _)
  replace hxo1 := blk_bel hxo1 hbv9
  replace hxo2 := blk_bel hxo2 hbv9
  replace hxo8 := blk_bel hxo8 hbv9
  replace hxo11 := blk_bel hxo11 hbv9
  replace HB := HB.trans (hbv9.mono HB.size)
  have hszv9 := hbv9.size
  have qo1_0 := blk_cell hxo1 0 rfl
  have qo1_1 := blk_cell hxo1 1 rfl
  have qo1_2 := blk_cell hxo1 2 rfl
  have hlo1 := blk_lt hxo1
  have qo2_0 := blk_cell hxo2 0 rfl
  have qo2_1 := blk_cell hxo2 1 rfl
  have qo2_2 := blk_cell hxo2 2 rfl
  have hlo2 := blk_lt hxo2
  have qo8_0 := blk_cell hxo8 0 rfl
  have qo8_1 := blk_cell hxo8 1 rfl
  have qo8_2 := blk_cell hxo8 2 rfl
  have hlo8 := blk_lt hxo8
  have qo11_0 := blk_cell hxo11 0 rfl
  have qo11_1 := blk_cell hxo11 1 rfl
  have qo11_2 := blk_cell hxo11 2 rfl
  have hlo11 := blk_lt hxo11
  go_wp2_with fail
  go_region_held3 (fun w' => w'.cell? ⟨v6.heap.size, 0, none⟩ = some (.int .i64 x0_0) ∧ w'.cell? ⟨v6.heap.size, 1, none⟩ = some (.int .i64 x0_1) ∧ w'.cell? ⟨v6.heap.size, 2, none⟩ = some (.slice Ao7 no7 co7) ∧ w'.cell? ⟨w.heap.size, 0, none⟩ = some (.int .i64 x0_0) ∧ w'.cell? ⟨w.heap.size, 1, none⟩ = some (.int .i64 x0_1) ∧ w'.cell? ⟨w.heap.size, 2, none⟩ = some (.slice A0_2 n0_2 c0_2)) (first | exact ⟨qo8_0, qo8_1, qo8_2, qo1_0, qo1_1, qo1_2⟩ | go_keep) (first
    | (go_at_call 14
       refine (toMachine_any _ x0_0 x0_1 _ _ _ (flatR rs) (by have h := (hr0_2.below HB (Nat.le_refl _)); first | exact h | exact h.below (below_new _ _) (Nat.le_refl _) | exact h.below (below_drew1 (below_new _ _)) (Nat.le_refl _)) (by omega)).mono ?_
       rintro e v10 ⟨Ao13, no13, co13, rfl, hoo13, hbv10⟩
       have hno13 : no13 ≤ 1048576 := by have h1 := hoo13.1; simp only [List.length_map] at h1; have h2 := HXL0_2.out; omega
       have hrgo13 := Lib.hid (rg_row hoo13)
       clear qo1_0 qo1_1 qo1_2 qo2_0 qo2_1 qo2_2 qo8_0 qo8_1 qo8_2 qo11_0 qo11_1 qo11_2 hlo1 hlo2 hlo8 hlo11
       (try replace hbv10 := und1 hbv10)
       (try replace hbv10 := undN hbv10)
       replace hoo3 := ownN_below hoo3 hbv10 (Nat.le_refl _)
       replace hoo4 := ownN_below hoo4 hbv10 (Nat.le_refl _)
       replace hoo5 := ownN_below hoo5 hbv10 (Nat.le_refl _)
       replace hoo6 := ownN_below hoo6 hbv10 (Nat.le_refl _)
       replace hoo7 := ownN_below hoo7 hbv10 (Nat.le_refl _)
       replace hoo9 := ownN_below hoo9 hbv10 (Nat.le_refl _)
       replace hoo10 := ownN_below hoo10 hbv10 (Nat.le_refl _)
       replace hoo12 := ownN_below hoo12 hbv10 (Nat.le_refl _)
       replace hxo1 := blk_bel hxo1 hbv10
       replace hxo2 := blk_bel hxo2 hbv10
       replace hxo8 := blk_bel hxo8 hbv10
       replace hxo11 := blk_bel hxo11 hbv10
       replace HB := HB.trans (hbv10.mono HB.size)
       have hszv10 := hbv10.size
       have qo1_0 := blk_cell hxo1 0 rfl
       have qo1_1 := blk_cell hxo1 1 rfl
       have qo1_2 := blk_cell hxo1 2 rfl
       have hlo1 := blk_lt hxo1
       have qo2_0 := blk_cell hxo2 0 rfl
       have qo2_1 := blk_cell hxo2 1 rfl
       have qo2_2 := blk_cell hxo2 2 rfl
       have hlo2 := blk_lt hxo2
       have qo8_0 := blk_cell hxo8 0 rfl
       have qo8_1 := blk_cell hxo8 1 rfl
       have qo8_2 := blk_cell hxo8 2 rfl
       have hlo8 := blk_lt hxo8
       have qo11_0 := blk_cell hxo11 0 rfl
       have qo11_1 := blk_cell hxo11 1 rfl
       have qo11_2 := blk_cell hxo11 2 rfl
       have hlo11 := blk_lt hxo11
       replace hrgo13 := Lib.hid (rg_lo hrgo13.out (lo := v9.heap.size + 0) (hi := v10.heap.size) (by first | exact Nat.le_refl _ | exact le_al1 | (simp; done) | (simp; omega)) (Nat.le_refl _))
       )
    | (go_at_call 18
       refine (eqMachine_same _ _ _ _ _ _ (flatR rs) (by have h := (ownN_rd hoo7); first | exact h | exact h.below (below_new _ _) (Nat.le_refl _) | exact h.below (below_drew1 (below_new _ _)) (Nat.le_refl _)) (by omega) _ _ _ (by have h := (ownN_rd hoo13); first | exact h | exact h.below (below_new _ _) (Nat.le_refl _) | exact h.below (below_drew1 (below_new _ _)) (Nat.le_refl _))).mono ?_
       rintro e v11 ⟨rfl, hbv11⟩
       clear qo1_0 qo1_1 qo1_2 qo2_0 qo2_1 qo2_2 qo8_0 qo8_1 qo8_2 qo11_0 qo11_1 qo11_2 hlo1 hlo2 hlo8 hlo11
       (try replace hbv11 := und1 hbv11)
       (try replace hbv11 := undN hbv11)
       replace hoo3 := ownN_below hoo3 hbv11 (Nat.le_refl _)
       replace hoo4 := ownN_below hoo4 hbv11 (Nat.le_refl _)
       replace hoo5 := ownN_below hoo5 hbv11 (Nat.le_refl _)
       replace hoo6 := ownN_below hoo6 hbv11 (Nat.le_refl _)
       replace hoo7 := ownN_below hoo7 hbv11 (Nat.le_refl _)
       replace hoo9 := ownN_below hoo9 hbv11 (Nat.le_refl _)
       replace hoo10 := ownN_below hoo10 hbv11 (Nat.le_refl _)
       replace hoo12 := ownN_below hoo12 hbv11 (Nat.le_refl _)
       replace hoo13 := ownN_below hoo13 hbv11 (Nat.le_refl _)
       replace hxo1 := blk_bel hxo1 hbv11
       replace hxo2 := blk_bel hxo2 hbv11
       replace hxo8 := blk_bel hxo8 hbv11
       replace hxo11 := blk_bel hxo11 hbv11
       replace HB := HB.trans (hbv11.mono HB.size)
       have hszv11 := hbv11.size
       have qo1_0 := blk_cell hxo1 0 rfl
       have qo1_1 := blk_cell hxo1 1 rfl
       have qo1_2 := blk_cell hxo1 2 rfl
       have hlo1 := blk_lt hxo1
       have qo2_0 := blk_cell hxo2 0 rfl
       have qo2_1 := blk_cell hxo2 1 rfl
       have qo2_2 := blk_cell hxo2 2 rfl
       have hlo2 := blk_lt hxo2
       have qo8_0 := blk_cell hxo8 0 rfl
       have qo8_1 := blk_cell hxo8 1 rfl
       have qo8_2 := blk_cell hxo8 2 rfl
       have hlo8 := blk_lt hxo8
       have qo11_0 := blk_cell hxo11 0 rfl
       have qo11_1 := blk_cell hxo11 1 rfl
       have qo11_2 := blk_cell hxo11 2 rfl
       have hlo11 := blk_lt hxo11
       )
    )
  go_wp2_with fail
  go_region_held3 (fun w' => w'.cell? ⟨v7.heap.size, 0, none⟩ = some (.int .i64 x1_0) ∧ w'.cell? ⟨v7.heap.size, 1, none⟩ = some (.slice Ao9 no9 co9) ∧ w'.cell? ⟨v7.heap.size, 2, none⟩ = some (.slice Ao10 no10 co10) ∧ w'.cell? ⟨w.heap.size + 1, 0, none⟩ = some (.int .i64 x1_0) ∧ w'.cell? ⟨w.heap.size + 1, 1, none⟩ = some (.slice A1_1 n1_1 c1_1) ∧ w'.cell? ⟨w.heap.size + 1, 2, none⟩ = some (.slice A1_2 n1_2 c1_2)) (first | exact ⟨qo11_0, qo11_1, qo11_2, qo2_0, qo2_1, qo2_2⟩ | go_keep) (first
    | (go_at_call 24
       refine (toConfig_any _ x1_0 _ _ _ x1_1 (by have h := (hr1_1.below HB (Nat.le_refl _)); first | exact h | exact h.below (below_new _ _) (Nat.le_refl _) | exact h.below (below_drew1 (below_new _ _)) (Nat.le_refl _)) (by omega) _ _ _ x1_2 (by have h := (hr1_2.below HB (Nat.le_refl _)); first | exact h | exact h.below (below_new _ _) (Nat.le_refl _) | exact h.below (below_drew1 (below_new _ _)) (Nat.le_refl _)) (by omega)).mono ?_
       rintro e v12 ⟨Ao14, no14, co14, Ao15, no15, co15, rfl, hoo14, hoo15, hdo14o15, hbv12⟩
       have hno14 : no14 ≤ 1048576 := by have h1 := hoo14.1; simp only [List.length_map] at h1; have h2 := HXL1_1.out; omega
       have hno15 : no15 ≤ 1048576 := by have h1 := hoo15.1; simp only [List.length_map] at h1; have h2 := HXL1_2.out; omega
       have hrgo14 := Lib.hid (rg_row hoo14)
       have hrgo15 := Lib.hid (rg_row hoo15)
       have HDo14o15 := Lib.hid hdo14o15; clear hdo14o15
       clear qo1_0 qo1_1 qo1_2 qo2_0 qo2_1 qo2_2 qo8_0 qo8_1 qo8_2 qo11_0 qo11_1 qo11_2 hlo1 hlo2 hlo8 hlo11
       (try replace hbv12 := und1 hbv12)
       (try replace hbv12 := undN hbv12)
       replace hoo3 := ownN_below hoo3 hbv12 (Nat.le_refl _)
       replace hoo4 := ownN_below hoo4 hbv12 (Nat.le_refl _)
       replace hoo5 := ownN_below hoo5 hbv12 (Nat.le_refl _)
       replace hoo6 := ownN_below hoo6 hbv12 (Nat.le_refl _)
       replace hoo7 := ownN_below hoo7 hbv12 (Nat.le_refl _)
       replace hoo9 := ownN_below hoo9 hbv12 (Nat.le_refl _)
       replace hoo10 := ownN_below hoo10 hbv12 (Nat.le_refl _)
       replace hoo12 := ownN_below hoo12 hbv12 (Nat.le_refl _)
       replace hoo13 := ownN_below hoo13 hbv12 (Nat.le_refl _)
       replace hxo1 := blk_bel hxo1 hbv12
       replace hxo2 := blk_bel hxo2 hbv12
       replace hxo8 := blk_bel hxo8 hbv12
       replace hxo11 := blk_bel hxo11 hbv12
       replace HB := HB.trans (hbv12.mono HB.size)
       have hszv12 := hbv12.size
       have qo1_0 := blk_cell hxo1 0 rfl
       have qo1_1 := blk_cell hxo1 1 rfl
       have qo1_2 := blk_cell hxo1 2 rfl
       have hlo1 := blk_lt hxo1
       have qo2_0 := blk_cell hxo2 0 rfl
       have qo2_1 := blk_cell hxo2 1 rfl
       have qo2_2 := blk_cell hxo2 2 rfl
       have hlo2 := blk_lt hxo2
       have qo8_0 := blk_cell hxo8 0 rfl
       have qo8_1 := blk_cell hxo8 1 rfl
       have qo8_2 := blk_cell hxo8 2 rfl
       have hlo8 := blk_lt hxo8
       have qo11_0 := blk_cell hxo11 0 rfl
       have qo11_1 := blk_cell hxo11 1 rfl
       have qo11_2 := blk_cell hxo11 2 rfl
       have hlo11 := blk_lt hxo11
       replace hrgo14 := Lib.hid (rg_lo hrgo14.out (lo := v11.heap.size + 0) (hi := v12.heap.size) (by first | exact Nat.le_refl _ | exact le_al1 | (simp; done) | (simp; omega)) (Nat.le_refl _))
       replace hrgo15 := Lib.hid (rg_lo hrgo15.out (lo := v11.heap.size + 0) (hi := v12.heap.size) (by first | exact Nat.le_refl _ | exact le_al1 | (simp; done) | (simp; omega)) (Nat.le_refl _))
       )
    | (go_at_call 26
       refine (eqConfig_same _ _ _ _ _ x1_1 (by have h := (own_rd hoo9); first | exact h | exact h.below (below_new _ _) (Nat.le_refl _) | exact h.below (below_drew1 (below_new _ _)) (Nat.le_refl _)) (by omega) _ _ _ (by have h := (own_rd hoo14); first | exact h | exact h.below (below_new _ _) (Nat.le_refl _) | exact h.below (below_drew1 (below_new _ _)) (Nat.le_refl _)) _ _ _ x1_2 (by have h := (own_rd hoo10); first | exact h | exact h.below (below_new _ _) (Nat.le_refl _) | exact h.below (below_drew1 (below_new _ _)) (Nat.le_refl _)) (by omega) _ _ _ (by have h := (own_rd hoo15); first | exact h | exact h.below (below_new _ _) (Nat.le_refl _) | exact h.below (below_drew1 (below_new _ _)) (Nat.le_refl _))).mono ?_
       rintro e v13 ⟨rfl, hbv13⟩
       clear qo1_0 qo1_1 qo1_2 qo2_0 qo2_1 qo2_2 qo8_0 qo8_1 qo8_2 qo11_0 qo11_1 qo11_2 hlo1 hlo2 hlo8 hlo11
       (try replace hbv13 := und1 hbv13)
       (try replace hbv13 := undN hbv13)
       replace hoo3 := ownN_below hoo3 hbv13 (Nat.le_refl _)
       replace hoo4 := ownN_below hoo4 hbv13 (Nat.le_refl _)
       replace hoo5 := ownN_below hoo5 hbv13 (Nat.le_refl _)
       replace hoo6 := ownN_below hoo6 hbv13 (Nat.le_refl _)
       replace hoo7 := ownN_below hoo7 hbv13 (Nat.le_refl _)
       replace hoo9 := ownN_below hoo9 hbv13 (Nat.le_refl _)
       replace hoo10 := ownN_below hoo10 hbv13 (Nat.le_refl _)
       replace hoo12 := ownN_below hoo12 hbv13 (Nat.le_refl _)
       replace hoo13 := ownN_below hoo13 hbv13 (Nat.le_refl _)
       replace hoo14 := ownN_below hoo14 hbv13 (Nat.le_refl _)
       replace hoo15 := ownN_below hoo15 hbv13 (Nat.le_refl _)
       replace hxo1 := blk_bel hxo1 hbv13
       replace hxo2 := blk_bel hxo2 hbv13
       replace hxo8 := blk_bel hxo8 hbv13
       replace hxo11 := blk_bel hxo11 hbv13
       replace HB := HB.trans (hbv13.mono HB.size)
       have hszv13 := hbv13.size
       have qo1_0 := blk_cell hxo1 0 rfl
       have qo1_1 := blk_cell hxo1 1 rfl
       have qo1_2 := blk_cell hxo1 2 rfl
       have hlo1 := blk_lt hxo1
       have qo2_0 := blk_cell hxo2 0 rfl
       have qo2_1 := blk_cell hxo2 1 rfl
       have qo2_2 := blk_cell hxo2 2 rfl
       have hlo2 := blk_lt hxo2
       have qo8_0 := blk_cell hxo8 0 rfl
       have qo8_1 := blk_cell hxo8 1 rfl
       have qo8_2 := blk_cell hxo8 2 rfl
       have hlo8 := blk_lt hxo8
       have qo11_0 := blk_cell hxo11 0 rfl
       have qo11_1 := blk_cell hxo11 1 rfl
       have qo11_2 := blk_cell hxo11 2 rfl
       have hlo11 := blk_lt hxo11
       )
    )
  go_wp2_with fail
  refine (markMachine_any _ _ _ _ _ _ _ _ hoo7 (by omega)  (1) (by omega) (by omega)).mono ?_
  rintro e v14 ⟨rfl, hmo7, hCv14⟩
  clear qo1_0 qo1_1 qo1_2 qo2_0 qo2_1 qo2_2 qo8_0 qo8_1 qo8_2 qo11_0 qo11_1 qo11_2 hlo1 hlo2 hlo8 hlo11
  replace hoo3 := own_ch hoo3 hCv14 (fun k h1 h2 => (by have := hrgo3.out k h1; have := hrgo7.out k h2; omega))
  replace hoo4 := own_ch hoo4 hCv14 (fun k h1 h2 => (by have := hrgo4.out k h1; have := hrgo7.out k h2; omega))
  replace hoo5 := own_ch hoo5 hCv14 (fun k h1 h2 => (by have := hrgo5.out k h1; have := hrgo7.out k h2; omega))
  replace hoo6 := own_ch hoo6 hCv14 (fun k h1 h2 => (by have := hrgo6.out k h1; have := hrgo7.out k h2; omega))
  replace hoo9 := own_ch hoo9 hCv14 (fun k h1 h2 => (by have := hrgo9.out k h1; have := hrgo7.out k h2; omega))
  replace hoo10 := own_ch hoo10 hCv14 (fun k h1 h2 => (by have := hrgo10.out k h1; have := hrgo7.out k h2; omega))
  replace hoo12 := own_ch hoo12 hCv14 (fun k h1 h2 => (by have := hrgo12.out k h1; have := hrgo7.out k h2; omega))
  replace hoo13 := own_ch hoo13 hCv14 (fun k h1 h2 => (by have := hrgo13.out k h1; have := hrgo7.out k h2; omega))
  replace hoo14 := own_ch hoo14 hCv14 (fun k h1 h2 => (by have := hrgo14.out k h1; have := hrgo7.out k h2; omega))
  replace hoo15 := own_ch hoo15 hCv14 (fun k h1 h2 => (by have := hrgo15.out k h1; have := hrgo7.out k h2; omega))
  replace hxo1 := blk_ch hxo1 hCv14 (fun h => by have := hrgo7.out _ h; omega)
  replace hxo2 := blk_ch hxo2 hCv14 (fun h => by have := hrgo7.out _ h; omega)
  replace hxo8 := blk_ch hxo8 hCv14 (fun h => by have := hrgo7.out _ h; omega)
  replace hxo11 := blk_ch hxo11 hCv14 (fun h => by have := hrgo7.out _ h; omega)
  replace HB := below_ch HB hCv14 (fun k h => by have := hrgo7.out k h; omega) HB.size
  replace hoo7 := hmo7
  have hszv14 := hCv14.size
  have qo1_0 := blk_cell hxo1 0 rfl
  have qo1_1 := blk_cell hxo1 1 rfl
  have qo1_2 := blk_cell hxo1 2 rfl
  have hlo1 := blk_lt hxo1
  have qo2_0 := blk_cell hxo2 0 rfl
  have qo2_1 := blk_cell hxo2 1 rfl
  have qo2_2 := blk_cell hxo2 2 rfl
  have hlo2 := blk_lt hxo2
  have qo8_0 := blk_cell hxo8 0 rfl
  have qo8_1 := blk_cell hxo8 1 rfl
  have qo8_2 := blk_cell hxo8 2 rfl
  have hlo8 := blk_lt hxo8
  have qo11_0 := blk_cell hxo11 0 rfl
  have qo11_1 := blk_cell hxo11 1 rfl
  have qo11_2 := blk_cell hxo11 2 rfl
  have hlo11 := blk_lt hxo11
  go_wp2_with fail
  refine (markConfig_any _ _ _ _ _ _ _ hoo9 (by omega) _ _ _ _ _ hoo10 (by omega) HDo9o10.out (1 + (no7 : Int) * 3) (by omega) (by omega)).mono ?_
  rintro e v15 ⟨rfl, hmo9, hmo10, hCv15⟩
  clear qo1_0 qo1_1 qo1_2 qo2_0 qo2_1 qo2_2 qo8_0 qo8_1 qo8_2 qo11_0 qo11_1 qo11_2 hlo1 hlo2 hlo8 hlo11
  replace hoo3 := own_ch hoo3 hCv15 (fun k h1 h => h.elim (fun h2 => (by have := hrgo3.out k h1; have := hrgo9.out k h2; omega)) (fun h2 => (by have := hrgo3.out k h1; have := hrgo10.out k h2; omega)))
  replace hoo4 := own_ch hoo4 hCv15 (fun k h1 h => h.elim (fun h2 => (by have := hrgo4.out k h1; have := hrgo9.out k h2; omega)) (fun h2 => (by have := hrgo4.out k h1; have := hrgo10.out k h2; omega)))
  replace hoo5 := own_ch hoo5 hCv15 (fun k h1 h => h.elim (fun h2 => (by have := hrgo5.out k h1; have := hrgo9.out k h2; omega)) (fun h2 => (by have := hrgo5.out k h1; have := hrgo10.out k h2; omega)))
  replace hoo6 := own_ch hoo6 hCv15 (fun k h1 h => h.elim (fun h2 => (by have := hrgo6.out k h1; have := hrgo9.out k h2; omega)) (fun h2 => (by have := hrgo6.out k h1; have := hrgo10.out k h2; omega)))
  replace hoo7 := own_ch hoo7 hCv15 (fun k h1 h => h.elim (fun h2 => (by have := hrgo7.out k h1; have := hrgo9.out k h2; omega)) (fun h2 => (by have := hrgo7.out k h1; have := hrgo10.out k h2; omega)))
  replace hoo12 := own_ch hoo12 hCv15 (fun k h1 h => h.elim (fun h2 => (by have := hrgo12.out k h1; have := hrgo9.out k h2; omega)) (fun h2 => (by have := hrgo12.out k h1; have := hrgo10.out k h2; omega)))
  replace hoo13 := own_ch hoo13 hCv15 (fun k h1 h => h.elim (fun h2 => (by have := hrgo13.out k h1; have := hrgo9.out k h2; omega)) (fun h2 => (by have := hrgo13.out k h1; have := hrgo10.out k h2; omega)))
  replace hoo14 := own_ch hoo14 hCv15 (fun k h1 h => h.elim (fun h2 => (by have := hrgo14.out k h1; have := hrgo9.out k h2; omega)) (fun h2 => (by have := hrgo14.out k h1; have := hrgo10.out k h2; omega)))
  replace hoo15 := own_ch hoo15 hCv15 (fun k h1 h => h.elim (fun h2 => (by have := hrgo15.out k h1; have := hrgo9.out k h2; omega)) (fun h2 => (by have := hrgo15.out k h1; have := hrgo10.out k h2; omega)))
  replace hxo1 := blk_ch hxo1 hCv15 (fun h => h.elim (fun h => by have := hrgo9.out _ h; omega) (fun h => by have := hrgo10.out _ h; omega))
  replace hxo2 := blk_ch hxo2 hCv15 (fun h => h.elim (fun h => by have := hrgo9.out _ h; omega) (fun h => by have := hrgo10.out _ h; omega))
  replace hxo8 := blk_ch hxo8 hCv15 (fun h => h.elim (fun h => by have := hrgo9.out _ h; omega) (fun h => by have := hrgo10.out _ h; omega))
  replace hxo11 := blk_ch hxo11 hCv15 (fun h => h.elim (fun h => by have := hrgo9.out _ h; omega) (fun h => by have := hrgo10.out _ h; omega))
  replace HB := below_ch HB hCv15 (fun k h => h.elim (fun h => by have := hrgo9.out k h; omega) (fun h => by have := hrgo10.out k h; omega)) HB.size
  replace hoo9 := hmo9
  replace hoo10 := hmo10
  have hszv15 := hCv15.size
  have qo1_0 := blk_cell hxo1 0 rfl
  have qo1_1 := blk_cell hxo1 1 rfl
  have qo1_2 := blk_cell hxo1 2 rfl
  have hlo1 := blk_lt hxo1
  have qo2_0 := blk_cell hxo2 0 rfl
  have qo2_1 := blk_cell hxo2 1 rfl
  have qo2_2 := blk_cell hxo2 2 rfl
  have hlo2 := blk_lt hxo2
  have qo8_0 := blk_cell hxo8 0 rfl
  have qo8_1 := blk_cell hxo8 1 rfl
  have qo8_2 := blk_cell hxo8 2 rfl
  have hlo8 := blk_lt hxo8
  have qo11_0 := blk_cell hxo11 0 rfl
  have qo11_1 := blk_cell hxo11 1 rfl
  have qo11_2 := blk_cell hxo11 2 rfl
  have hlo11 := blk_lt hxo11
  go_wp2_with fail
  refine (eqInt64S_same _ _ _ _ r0 (own_rd hoo12) (by omega) _ _ _ (own_rd hoo6)).mono ?_
  rintro e v16 ⟨rfl, hbv16⟩
  clear qo1_0 qo1_1 qo1_2 qo2_0 qo2_1 qo2_2 qo8_0 qo8_1 qo8_2 qo11_0 qo11_1 qo11_2 hlo1 hlo2 hlo8 hlo11
  (try replace hbv16 := und1 hbv16)
  (try replace hbv16 := undN hbv16)
  replace hoo3 := ownN_below hoo3 hbv16 (Nat.le_refl _)
  replace hoo4 := ownN_below hoo4 hbv16 (Nat.le_refl _)
  replace hoo5 := ownN_below hoo5 hbv16 (Nat.le_refl _)
  replace hoo6 := ownN_below hoo6 hbv16 (Nat.le_refl _)
  replace hoo7 := ownN_below hoo7 hbv16 (Nat.le_refl _)
  replace hoo9 := ownN_below hoo9 hbv16 (Nat.le_refl _)
  replace hoo10 := ownN_below hoo10 hbv16 (Nat.le_refl _)
  replace hoo12 := ownN_below hoo12 hbv16 (Nat.le_refl _)
  replace hoo13 := ownN_below hoo13 hbv16 (Nat.le_refl _)
  replace hoo14 := ownN_below hoo14 hbv16 (Nat.le_refl _)
  replace hoo15 := ownN_below hoo15 hbv16 (Nat.le_refl _)
  replace hxo1 := blk_bel hxo1 hbv16
  replace hxo2 := blk_bel hxo2 hbv16
  replace hxo8 := blk_bel hxo8 hbv16
  replace hxo11 := blk_bel hxo11 hbv16
  replace HB := HB.trans (hbv16.mono HB.size)
  have hszv16 := hbv16.size
  have qo1_0 := blk_cell hxo1 0 rfl
  have qo1_1 := blk_cell hxo1 1 rfl
  have qo1_2 := blk_cell hxo1 2 rfl
  have hlo1 := blk_lt hxo1
  have qo2_0 := blk_cell hxo2 0 rfl
  have qo2_1 := blk_cell hxo2 1 rfl
  have qo2_2 := blk_cell hxo2 2 rfl
  have hlo2 := blk_lt hxo2
  have qo8_0 := blk_cell hxo8 0 rfl
  have qo8_1 := blk_cell hxo8 1 rfl
  have qo8_2 := blk_cell hxo8 2 rfl
  have hlo8 := blk_lt hxo8
  have qo11_0 := blk_cell hxo11 0 rfl
  have qo11_1 := blk_cell hxo11 1 rfl
  have qo11_2 := blk_cell hxo11 2 rfl
  have hlo11 := blk_lt hxo11
  go_wp2_with fail
  refine (markInt64S_any _ _ _ _ _ _ hoo12 (by omega)  (1) (by omega) (by omega)).mono ?_
  rintro e v17 ⟨rfl, hmo12, hCv17⟩
  clear qo1_0 qo1_1 qo1_2 qo2_0 qo2_1 qo2_2 qo8_0 qo8_1 qo8_2 qo11_0 qo11_1 qo11_2 hlo1 hlo2 hlo8 hlo11
  replace hCv17 := ch_row hCv17
  replace hoo3 := own_ch hoo3 hCv17 (fun k h1 h2 => (by have := hrgo3.out k h1; have := hrgo12.out k h2; omega))
  replace hoo4 := own_ch hoo4 hCv17 (fun k h1 h2 => (by have := hrgo4.out k h1; have := hrgo12.out k h2; omega))
  replace hoo5 := own_ch hoo5 hCv17 (fun k h1 h2 => (by have := hrgo5.out k h1; have := hrgo12.out k h2; omega))
  replace hoo6 := own_ch hoo6 hCv17 (fun k h1 h2 => (by have := hrgo6.out k h1; have := hrgo12.out k h2; omega))
  replace hoo7 := own_ch hoo7 hCv17 (fun k h1 h2 => (by have := hrgo7.out k h1; have := hrgo12.out k h2; omega))
  replace hoo9 := own_ch hoo9 hCv17 (fun k h1 h2 => (by have := hrgo9.out k h1; have := hrgo12.out k h2; omega))
  replace hoo10 := own_ch hoo10 hCv17 (fun k h1 h2 => (by have := hrgo10.out k h1; have := hrgo12.out k h2; omega))
  replace hoo13 := own_ch hoo13 hCv17 (fun k h1 h2 => (by have := hrgo13.out k h1; have := hrgo12.out k h2; omega))
  replace hoo14 := own_ch hoo14 hCv17 (fun k h1 h2 => (by have := hrgo14.out k h1; have := hrgo12.out k h2; omega))
  replace hoo15 := own_ch hoo15 hCv17 (fun k h1 h2 => (by have := hrgo15.out k h1; have := hrgo12.out k h2; omega))
  replace hxo1 := blk_ch hxo1 hCv17 (fun h => by have := hrgo12.out _ h; omega)
  replace hxo2 := blk_ch hxo2 hCv17 (fun h => by have := hrgo12.out _ h; omega)
  replace hxo8 := blk_ch hxo8 hCv17 (fun h => by have := hrgo12.out _ h; omega)
  replace hxo11 := blk_ch hxo11 hCv17 (fun h => by have := hrgo12.out _ h; omega)
  replace HB := below_ch HB hCv17 (fun k h => by have := hrgo12.out k h; omega) HB.size
  replace hoo12 := hmo12
  have hszv17 := hCv17.size
  have qo1_0 := blk_cell hxo1 0 rfl
  have qo1_1 := blk_cell hxo1 1 rfl
  have qo1_2 := blk_cell hxo1 2 rfl
  have hlo1 := blk_lt hxo1
  have qo2_0 := blk_cell hxo2 0 rfl
  have qo2_1 := blk_cell hxo2 1 rfl
  have qo2_2 := blk_cell hxo2 2 rfl
  have hlo2 := blk_lt hxo2
  have qo8_0 := blk_cell hxo8 0 rfl
  have qo8_1 := blk_cell hxo8 1 rfl
  have qo8_2 := blk_cell hxo8 2 rfl
  have hlo8 := blk_lt hxo8
  have qo11_0 := blk_cell hxo11 0 rfl
  have qo11_1 := blk_cell hxo11 1 rfl
  have qo11_2 := blk_cell hxo11 2 rfl
  have hlo11 := blk_lt hxo11
  go_wp2_with fail
  refine (heldInt64S_any _ _ _ _ (1) (own_rd hoo12) (by omega) (by omega) (by omega)).mono ?_
  rintro e v18 ⟨rfl, hbv18⟩
  clear qo1_0 qo1_1 qo1_2 qo2_0 qo2_1 qo2_2 qo8_0 qo8_1 qo8_2 qo11_0 qo11_1 qo11_2 hlo1 hlo2 hlo8 hlo11
  (try replace hbv18 := und1 hbv18)
  (try replace hbv18 := undN hbv18)
  replace hoo3 := ownN_below hoo3 hbv18 (Nat.le_refl _)
  replace hoo4 := ownN_below hoo4 hbv18 (Nat.le_refl _)
  replace hoo5 := ownN_below hoo5 hbv18 (Nat.le_refl _)
  replace hoo6 := ownN_below hoo6 hbv18 (Nat.le_refl _)
  replace hoo7 := ownN_below hoo7 hbv18 (Nat.le_refl _)
  replace hoo9 := ownN_below hoo9 hbv18 (Nat.le_refl _)
  replace hoo10 := ownN_below hoo10 hbv18 (Nat.le_refl _)
  replace hoo12 := ownN_below hoo12 hbv18 (Nat.le_refl _)
  replace hoo13 := ownN_below hoo13 hbv18 (Nat.le_refl _)
  replace hoo14 := ownN_below hoo14 hbv18 (Nat.le_refl _)
  replace hoo15 := ownN_below hoo15 hbv18 (Nat.le_refl _)
  replace hxo1 := blk_bel hxo1 hbv18
  replace hxo2 := blk_bel hxo2 hbv18
  replace hxo8 := blk_bel hxo8 hbv18
  replace hxo11 := blk_bel hxo11 hbv18
  replace HB := HB.trans (hbv18.mono HB.size)
  have hszv18 := hbv18.size
  have qo1_0 := blk_cell hxo1 0 rfl
  have qo1_1 := blk_cell hxo1 1 rfl
  have qo1_2 := blk_cell hxo1 2 rfl
  have hlo1 := blk_lt hxo1
  have qo2_0 := blk_cell hxo2 0 rfl
  have qo2_1 := blk_cell hxo2 1 rfl
  have qo2_2 := blk_cell hxo2 2 rfl
  have hlo2 := blk_lt hxo2
  have qo8_0 := blk_cell hxo8 0 rfl
  have qo8_1 := blk_cell hxo8 1 rfl
  have qo8_2 := blk_cell hxo8 2 rfl
  have hlo8 := blk_lt hxo8
  have qo11_0 := blk_cell hxo11 0 rfl
  have qo11_1 := blk_cell hxo11 1 rfl
  have qo11_2 := blk_cell hxo11 2 rfl
  have hlo11 := blk_lt hxo11
  go_wp2_with fail
  go_region_held3 (fun w' => w'.cell? ⟨w.heap.size, 0, none⟩ = some (.int .i64 x0_0) ∧ w'.cell? ⟨w.heap.size, 1, none⟩ = some (.int .i64 x0_1) ∧ w'.cell? ⟨w.heap.size, 2, none⟩ = some (.slice A0_2 n0_2 c0_2) ∧ w'.cell? ⟨w.heap.size + 1, 0, none⟩ = some (.int .i64 x1_0) ∧ w'.cell? ⟨w.heap.size + 1, 1, none⟩ = some (.slice A1_1 n1_1 c1_1) ∧ w'.cell? ⟨w.heap.size + 1, 2, none⟩ = some (.slice A1_2 n1_2 c1_2)) (first | exact ⟨qo1_0, qo1_1, qo1_2, qo2_0, qo2_1, qo2_2⟩ | go_keep) (first
    | (go_at_call 14
       refine (toMachine_any _ x0_0 x0_1 _ _ _ (flatR rs) (by have h := (hr0_2.below HB (Nat.le_refl _)); first | exact h | exact h.below (below_new _ _) (Nat.le_refl _) | exact h.below (below_drew1 (below_new _ _)) (Nat.le_refl _)) (by omega)).mono ?_
       rintro e v19 ⟨Ao16, no16, co16, rfl, hoo16, hbv19⟩
       have hno16 : no16 ≤ 1048576 := by have h1 := hoo16.1; simp only [List.length_map] at h1; have h2 := HXL0_2.out; omega
       have hrgo16 := Lib.hid (rg_row hoo16)
       clear qo1_0 qo1_1 qo1_2 qo2_0 qo2_1 qo2_2 qo8_0 qo8_1 qo8_2 qo11_0 qo11_1 qo11_2 hlo1 hlo2 hlo8 hlo11
       (try replace hbv19 := und1 hbv19)
       (try replace hbv19 := undN hbv19)
       replace hoo3 := ownN_below hoo3 hbv19 (Nat.le_refl _)
       replace hoo4 := ownN_below hoo4 hbv19 (Nat.le_refl _)
       replace hoo5 := ownN_below hoo5 hbv19 (Nat.le_refl _)
       replace hoo6 := ownN_below hoo6 hbv19 (Nat.le_refl _)
       replace hoo7 := ownN_below hoo7 hbv19 (Nat.le_refl _)
       replace hoo9 := ownN_below hoo9 hbv19 (Nat.le_refl _)
       replace hoo10 := ownN_below hoo10 hbv19 (Nat.le_refl _)
       replace hoo12 := ownN_below hoo12 hbv19 (Nat.le_refl _)
       replace hoo13 := ownN_below hoo13 hbv19 (Nat.le_refl _)
       replace hoo14 := ownN_below hoo14 hbv19 (Nat.le_refl _)
       replace hoo15 := ownN_below hoo15 hbv19 (Nat.le_refl _)
       replace hxo1 := blk_bel hxo1 hbv19
       replace hxo2 := blk_bel hxo2 hbv19
       replace hxo8 := blk_bel hxo8 hbv19
       replace hxo11 := blk_bel hxo11 hbv19
       replace HB := HB.trans (hbv19.mono HB.size)
       have hszv19 := hbv19.size
       have qo1_0 := blk_cell hxo1 0 rfl
       have qo1_1 := blk_cell hxo1 1 rfl
       have qo1_2 := blk_cell hxo1 2 rfl
       have hlo1 := blk_lt hxo1
       have qo2_0 := blk_cell hxo2 0 rfl
       have qo2_1 := blk_cell hxo2 1 rfl
       have qo2_2 := blk_cell hxo2 2 rfl
       have hlo2 := blk_lt hxo2
       have qo8_0 := blk_cell hxo8 0 rfl
       have qo8_1 := blk_cell hxo8 1 rfl
       have qo8_2 := blk_cell hxo8 2 rfl
       have hlo8 := blk_lt hxo8
       have qo11_0 := blk_cell hxo11 0 rfl
       have qo11_1 := blk_cell hxo11 1 rfl
       have qo11_2 := blk_cell hxo11 2 rfl
       have hlo11 := blk_lt hxo11
       replace hrgo16 := Lib.hid (rg_lo hrgo16.out (lo := v18.heap.size + 0) (hi := v19.heap.size) (by first | exact Nat.le_refl _ | exact le_al1 | (simp; done) | (simp; omega)) (Nat.le_refl _))
       )
    | (go_at_call 24
       refine (toConfig_any _ x1_0 _ _ _ x1_1 (by have h := (hr1_1.below HB (Nat.le_refl _)); first | exact h | exact h.below (below_new _ _) (Nat.le_refl _) | exact h.below (below_drew1 (below_new _ _)) (Nat.le_refl _)) (by omega) _ _ _ x1_2 (by have h := (hr1_2.below HB (Nat.le_refl _)); first | exact h | exact h.below (below_new _ _) (Nat.le_refl _) | exact h.below (below_drew1 (below_new _ _)) (Nat.le_refl _)) (by omega)).mono ?_
       rintro e v20 ⟨Ao17, no17, co17, Ao18, no18, co18, rfl, hoo17, hoo18, hdo17o18, hbv20⟩
       have hno17 : no17 ≤ 1048576 := by have h1 := hoo17.1; simp only [List.length_map] at h1; have h2 := HXL1_1.out; omega
       have hno18 : no18 ≤ 1048576 := by have h1 := hoo18.1; simp only [List.length_map] at h1; have h2 := HXL1_2.out; omega
       have hrgo17 := Lib.hid (rg_row hoo17)
       have hrgo18 := Lib.hid (rg_row hoo18)
       have HDo17o18 := Lib.hid hdo17o18; clear hdo17o18
       clear qo1_0 qo1_1 qo1_2 qo2_0 qo2_1 qo2_2 qo8_0 qo8_1 qo8_2 qo11_0 qo11_1 qo11_2 hlo1 hlo2 hlo8 hlo11
       (try replace hbv20 := und1 hbv20)
       (try replace hbv20 := undN hbv20)
       replace hoo3 := ownN_below hoo3 hbv20 (Nat.le_refl _)
       replace hoo4 := ownN_below hoo4 hbv20 (Nat.le_refl _)
       replace hoo5 := ownN_below hoo5 hbv20 (Nat.le_refl _)
       replace hoo6 := ownN_below hoo6 hbv20 (Nat.le_refl _)
       replace hoo7 := ownN_below hoo7 hbv20 (Nat.le_refl _)
       replace hoo9 := ownN_below hoo9 hbv20 (Nat.le_refl _)
       replace hoo10 := ownN_below hoo10 hbv20 (Nat.le_refl _)
       replace hoo12 := ownN_below hoo12 hbv20 (Nat.le_refl _)
       replace hoo13 := ownN_below hoo13 hbv20 (Nat.le_refl _)
       replace hoo14 := ownN_below hoo14 hbv20 (Nat.le_refl _)
       replace hoo15 := ownN_below hoo15 hbv20 (Nat.le_refl _)
       replace hoo16 := ownN_below hoo16 hbv20 (Nat.le_refl _)
       replace hxo1 := blk_bel hxo1 hbv20
       replace hxo2 := blk_bel hxo2 hbv20
       replace hxo8 := blk_bel hxo8 hbv20
       replace hxo11 := blk_bel hxo11 hbv20
       replace HB := HB.trans (hbv20.mono HB.size)
       have hszv20 := hbv20.size
       have qo1_0 := blk_cell hxo1 0 rfl
       have qo1_1 := blk_cell hxo1 1 rfl
       have qo1_2 := blk_cell hxo1 2 rfl
       have hlo1 := blk_lt hxo1
       have qo2_0 := blk_cell hxo2 0 rfl
       have qo2_1 := blk_cell hxo2 1 rfl
       have qo2_2 := blk_cell hxo2 2 rfl
       have hlo2 := blk_lt hxo2
       have qo8_0 := blk_cell hxo8 0 rfl
       have qo8_1 := blk_cell hxo8 1 rfl
       have qo8_2 := blk_cell hxo8 2 rfl
       have hlo8 := blk_lt hxo8
       have qo11_0 := blk_cell hxo11 0 rfl
       have qo11_1 := blk_cell hxo11 1 rfl
       have qo11_2 := blk_cell hxo11 2 rfl
       have hlo11 := blk_lt hxo11
       replace hrgo17 := Lib.hid (rg_lo hrgo17.out (lo := v19.heap.size + 0) (hi := v20.heap.size) (by first | exact Nat.le_refl _ | exact le_al1 | (simp; done) | (simp; omega)) (Nat.le_refl _))
       replace hrgo18 := Lib.hid (rg_lo hrgo18.out (lo := v19.heap.size + 0) (hi := v20.heap.size) (by first | exact Nat.le_refl _ | exact le_al1 | (simp; done) | (simp; omega)) (Nat.le_refl _))
       )
    | (go_at_call 25
       refine (HI.out _ _ _ _ (by have h := (ownN_rd hoo16); first | exact h | exact h.below (below_new _ _) (Nat.le_refl _) | exact h.below (below_drew1 (below_new _ _)) (Nat.le_refl _)) (by omega) (ownN_cap hoo16) _ _ _ (by have h := (own_rd hoo17); first | exact h | exact h.below (below_new _ _) (Nat.le_refl _) | exact h.below (below_drew1 (below_new _ _)) (Nat.le_refl _)) (by omega) (ownN_cap hoo17) _ _ _ (by have h := (own_rd hoo18); first | exact h | exact h.below (below_new _ _) (Nat.le_refl _) | exact h.below (below_drew1 (below_new _ _)) (Nat.le_refl _)) (by omega) (ownN_cap hoo18)).mono ?_
       rintro e v21 ⟨Ao19, no19, co19, rfl, hoo19, hbv21⟩
       have hno19 : no19 ≤ 1000000 := by have h1 := hoo19.1; simp only [List.length_map] at h1; have h2 := HRLR0.out; omega
       have hrgo19 := Lib.hid (rg_row hoo19)
       clear qo1_0 qo1_1 qo1_2 qo2_0 qo2_1 qo2_2 qo8_0 qo8_1 qo8_2 qo11_0 qo11_1 qo11_2 hlo1 hlo2 hlo8 hlo11
       (try replace hbv21 := und1 hbv21)
       (try replace hbv21 := undN hbv21)
       replace hoo3 := ownN_below hoo3 hbv21 (Nat.le_refl _)
       replace hoo4 := ownN_below hoo4 hbv21 (Nat.le_refl _)
       replace hoo5 := ownN_below hoo5 hbv21 (Nat.le_refl _)
       replace hoo6 := ownN_below hoo6 hbv21 (Nat.le_refl _)
       replace hoo7 := ownN_below hoo7 hbv21 (Nat.le_refl _)
       replace hoo9 := ownN_below hoo9 hbv21 (Nat.le_refl _)
       replace hoo10 := ownN_below hoo10 hbv21 (Nat.le_refl _)
       replace hoo12 := ownN_below hoo12 hbv21 (Nat.le_refl _)
       replace hoo13 := ownN_below hoo13 hbv21 (Nat.le_refl _)
       replace hoo14 := ownN_below hoo14 hbv21 (Nat.le_refl _)
       replace hoo15 := ownN_below hoo15 hbv21 (Nat.le_refl _)
       replace hoo16 := ownN_below hoo16 hbv21 (Nat.le_refl _)
       replace hoo17 := ownN_below hoo17 hbv21 (Nat.le_refl _)
       replace hoo18 := ownN_below hoo18 hbv21 (Nat.le_refl _)
       replace hxo1 := blk_bel hxo1 hbv21
       replace hxo2 := blk_bel hxo2 hbv21
       replace hxo8 := blk_bel hxo8 hbv21
       replace hxo11 := blk_bel hxo11 hbv21
       replace HB := HB.trans (hbv21.mono HB.size)
       have hszv21 := hbv21.size
       have qo1_0 := blk_cell hxo1 0 rfl
       have qo1_1 := blk_cell hxo1 1 rfl
       have qo1_2 := blk_cell hxo1 2 rfl
       have hlo1 := blk_lt hxo1
       have qo2_0 := blk_cell hxo2 0 rfl
       have qo2_1 := blk_cell hxo2 1 rfl
       have qo2_2 := blk_cell hxo2 2 rfl
       have hlo2 := blk_lt hxo2
       have qo8_0 := blk_cell hxo8 0 rfl
       have qo8_1 := blk_cell hxo8 1 rfl
       have qo8_2 := blk_cell hxo8 2 rfl
       have hlo8 := blk_lt hxo8
       have qo11_0 := blk_cell hxo11 0 rfl
       have qo11_1 := blk_cell hxo11 1 rfl
       have qo11_2 := blk_cell hxo11 2 rfl
       have hlo11 := blk_lt hxo11
       replace hrgo19 := Lib.hid (rg_lo hrgo19.out (lo := v20.heap.size + 0) (hi := v21.heap.size) (by first | exact Nat.le_refl _ | exact le_al1 | (simp; done) | (simp; omega)) (Nat.le_refl _))
       )
    )
  go_wp2_with fail
  refine (eqInt64S_same _ _ _ _ r0 (own_rd hoo19) (by omega) _ _ _ (own_rd hoo6)).mono ?_
  rintro e v22 ⟨rfl, hbv22⟩
  clear qo1_0 qo1_1 qo1_2 qo2_0 qo2_1 qo2_2 qo8_0 qo8_1 qo8_2 qo11_0 qo11_1 qo11_2 hlo1 hlo2 hlo8 hlo11
  (try replace hbv22 := und1 hbv22)
  (try replace hbv22 := undN hbv22)
  replace hoo3 := ownN_below hoo3 hbv22 (Nat.le_refl _)
  replace hoo4 := ownN_below hoo4 hbv22 (Nat.le_refl _)
  replace hoo5 := ownN_below hoo5 hbv22 (Nat.le_refl _)
  replace hoo6 := ownN_below hoo6 hbv22 (Nat.le_refl _)
  replace hoo7 := ownN_below hoo7 hbv22 (Nat.le_refl _)
  replace hoo9 := ownN_below hoo9 hbv22 (Nat.le_refl _)
  replace hoo10 := ownN_below hoo10 hbv22 (Nat.le_refl _)
  replace hoo12 := ownN_below hoo12 hbv22 (Nat.le_refl _)
  replace hoo13 := ownN_below hoo13 hbv22 (Nat.le_refl _)
  replace hoo14 := ownN_below hoo14 hbv22 (Nat.le_refl _)
  replace hoo15 := ownN_below hoo15 hbv22 (Nat.le_refl _)
  replace hoo16 := ownN_below hoo16 hbv22 (Nat.le_refl _)
  replace hoo17 := ownN_below hoo17 hbv22 (Nat.le_refl _)
  replace hoo18 := ownN_below hoo18 hbv22 (Nat.le_refl _)
  replace hoo19 := ownN_below hoo19 hbv22 (Nat.le_refl _)
  replace hxo1 := blk_bel hxo1 hbv22
  replace hxo2 := blk_bel hxo2 hbv22
  replace hxo8 := blk_bel hxo8 hbv22
  replace hxo11 := blk_bel hxo11 hbv22
  replace HB := HB.trans (hbv22.mono HB.size)
  have hszv22 := hbv22.size
  have qo1_0 := blk_cell hxo1 0 rfl
  have qo1_1 := blk_cell hxo1 1 rfl
  have qo1_2 := blk_cell hxo1 2 rfl
  have hlo1 := blk_lt hxo1
  have qo2_0 := blk_cell hxo2 0 rfl
  have qo2_1 := blk_cell hxo2 1 rfl
  have qo2_2 := blk_cell hxo2 2 rfl
  have hlo2 := blk_lt hxo2
  have qo8_0 := blk_cell hxo8 0 rfl
  have qo8_1 := blk_cell hxo8 1 rfl
  have qo8_2 := blk_cell hxo8 2 rfl
  have hlo8 := blk_lt hxo8
  have qo11_0 := blk_cell hxo11 0 rfl
  have qo11_1 := blk_cell hxo11 1 rfl
  have qo11_2 := blk_cell hxo11 2 rfl
  have hlo11 := blk_lt hxo11
  go_wp2_with fail
  refine (heldInt64S_any _ _ _ _ (1) (own_rd hoo12) (by omega) (by omega) (by omega)).mono ?_
  rintro e v23 ⟨rfl, hbv23⟩
  clear qo1_0 qo1_1 qo1_2 qo2_0 qo2_1 qo2_2 qo8_0 qo8_1 qo8_2 qo11_0 qo11_1 qo11_2 hlo1 hlo2 hlo8 hlo11
  (try replace hbv23 := und1 hbv23)
  (try replace hbv23 := undN hbv23)
  replace hoo3 := ownN_below hoo3 hbv23 (Nat.le_refl _)
  replace hoo4 := ownN_below hoo4 hbv23 (Nat.le_refl _)
  replace hoo5 := ownN_below hoo5 hbv23 (Nat.le_refl _)
  replace hoo6 := ownN_below hoo6 hbv23 (Nat.le_refl _)
  replace hoo7 := ownN_below hoo7 hbv23 (Nat.le_refl _)
  replace hoo9 := ownN_below hoo9 hbv23 (Nat.le_refl _)
  replace hoo10 := ownN_below hoo10 hbv23 (Nat.le_refl _)
  replace hoo12 := ownN_below hoo12 hbv23 (Nat.le_refl _)
  replace hoo13 := ownN_below hoo13 hbv23 (Nat.le_refl _)
  replace hoo14 := ownN_below hoo14 hbv23 (Nat.le_refl _)
  replace hoo15 := ownN_below hoo15 hbv23 (Nat.le_refl _)
  replace hoo16 := ownN_below hoo16 hbv23 (Nat.le_refl _)
  replace hoo17 := ownN_below hoo17 hbv23 (Nat.le_refl _)
  replace hoo18 := ownN_below hoo18 hbv23 (Nat.le_refl _)
  replace hoo19 := ownN_below hoo19 hbv23 (Nat.le_refl _)
  replace hxo1 := blk_bel hxo1 hbv23
  replace hxo2 := blk_bel hxo2 hbv23
  replace hxo8 := blk_bel hxo8 hbv23
  replace hxo11 := blk_bel hxo11 hbv23
  replace HB := HB.trans (hbv23.mono HB.size)
  have hszv23 := hbv23.size
  have qo1_0 := blk_cell hxo1 0 rfl
  have qo1_1 := blk_cell hxo1 1 rfl
  have qo1_2 := blk_cell hxo1 2 rfl
  have hlo1 := blk_lt hxo1
  have qo2_0 := blk_cell hxo2 0 rfl
  have qo2_1 := blk_cell hxo2 1 rfl
  have qo2_2 := blk_cell hxo2 2 rfl
  have hlo2 := blk_lt hxo2
  have qo8_0 := blk_cell hxo8 0 rfl
  have qo8_1 := blk_cell hxo8 1 rfl
  have qo8_2 := blk_cell hxo8 2 rfl
  have hlo8 := blk_lt hxo8
  have qo11_0 := blk_cell hxo11 0 rfl
  have qo11_1 := blk_cell hxo11 1 rfl
  have qo11_2 := blk_cell hxo11 2 rfl
  have hlo11 := blk_lt hxo11
  go_wp2_with fail
  go_ret
  first | exact ⟨rfl, HB⟩ | exact ⟨rfl, below_drewN HB⟩
end Go.Proofs.Ytjgajjcgapifoaa
