/- The law on LostWindow. Written by genlaw5.py. -/
import Derived.Test.YtjgajjcgapifoaaCtxR
import Derived.Test.YtjgajjcgapifoaaLawP
import Derived.Test.YtjgajjcgapifoaaLawMachine
namespace Go.Proofs.Ytjgajjcgapifoaa
open Go.RowKit
set_option linter.unusedVariables false
set_option linter.unusedSimpArgs false
set_option maxHeartbeats 16000000 in
set_option maxRecDepth 100000 in
theorem lawLostWindow (w : World) (x0_0 : Int) (x0_1 : Int) (A0_2 : Option Addr) (n0_2 c0_2 : Nat) (x0_2 : List Int) (hr0_2 : Rd w A0_2 (n0_2 * 3) (ints x0_2)) (hnn0_2 : n0_2 ≤ 9223372036854775807) (x1 : Int) (A2 : Option Addr) (n2 c2 : Nat) (x2 : List Int) (hr2 : Rd w A2 n2 (ints x2)) (hnn2 : n2 ≤ 9223372036854775807) :
    Calls Try.prog 3 #[.agg #[.int .i64 x0_0, .int .i64 x0_1, .slice A0_2 n0_2 c0_2], .int .i64 x1, .slice A2 n2 c2] w fun e w' => e = .returned (.bool true) ∧ Below w.heap.size w w' := by
  obtain ⟨rs, rfl, hps⟩ := unflatR n0_2 x0_2 (by simpa using hr0_2.1)
  have HPS := Lib.hid hps; clear hps
  have hS : ∀ (w : World) (A0_2 : Option Addr) (n0_2 c0_2 : Nat) (h0_2 : Rd w A0_2 (n0_2 * 3) (ints (flatR rs))) (hn0_2 : n0_2 ≤ 1099511627776) (hcp0_2 : n0_2 ≤ c0_2) (A2 : Option Addr) (n2 c2 : Nat) (h2 : Rd w A2 n2 (ints x2)) (hn2 : n2 ≤ 1099511627776) (hcp2 : n2 ≤ c2), Calls Try.prog 13 #[.agg #[.int .i64 x0_0, .int .i64 x0_1, .slice A0_2 n0_2 c0_2], .int .i64 x1, .slice A2 n2 c2] w (fun e w' => ∃ (AR1 : Option Addr) (nR1 cR1 : Nat), e = .returned (.tuple #[.int .i64 ((lwP x0_0 x0_1 rs x1 x2).1), .slice AR1 nR1 cR1, .int .i64 ((lwP x0_0 x0_1 rs x1 x2).2.2)]) ∧ w'.ownsRow w.heap.size 2 1 (.slice AR1 nR1 cR1) nR1 (ints ((lwP x0_0 x0_1 rs x1 x2).2.1)) ∧ Below w.heap.size w w') := fun w A0_2 n0_2 c0_2 h0_2 hn0_2 hcp0_2 A2 n2 c2 h2 hn2 hcp2 => specLostWindow_any w x0_0 x0_1 A0_2 n0_2 c0_2 rs h0_2 hn0_2 x1 A2 n2 c2 x2 h2 hn2 hcp2
  have hI : ∀ (w : World) (A0_2 : Option Addr) (n0_2 c0_2 : Nat) (h0_2 : Rd w A0_2 (n0_2 * 3) (ints (flatR rs))) (hn0_2 : n0_2 ≤ 1099511627776) (hcp0_2 : n0_2 ≤ c0_2) (A2 : Option Addr) (n2 c2 : Nat) (h2 : Rd w A2 n2 (ints x2)) (hn2 : n2 ≤ 1099511627776) (hcp2 : n2 ≤ c2), Calls Try.prog 16 #[.agg #[.int .i64 x0_0, .int .i64 x0_1, .slice A0_2 n0_2 c0_2], .int .i64 x1, .slice A2 n2 c2] w (fun e w' => ∃ (AR1 : Option Addr) (nR1 cR1 : Nat), e = .returned (.tuple #[.int .i64 ((lwP x0_0 x0_1 rs x1 x2).1), .slice AR1 nR1 cR1, .int .i64 ((lwP x0_0 x0_1 rs x1 x2).2.2)]) ∧ w'.ownsRow w.heap.size 2 1 (.slice AR1 nR1 cR1) nR1 (ints ((lwP x0_0 x0_1 rs x1 x2).2.1)) ∧ Below w.heap.size w w') := fun w A0_2 n0_2 c0_2 h0_2 hn0_2 hcp0_2 A2 n2 c2 h2 hn2 hcp2 => implLostWindow_any w x0_0 x0_1 A0_2 n0_2 c0_2 rs h0_2 hn0_2 x1 A2 n2 c2 x2 h2 hn2 hcp2
  have HRLR1 : Hid (((lwP x0_0 x0_1 rs x1 x2).2.1).length ≤ 1000000) := Lib.hid (lw_len _ _ _ _ _)
  have HS := Lib.hid hS; have HI := Lib.hid hI
  clear hS hI
  generalize (lwP x0_0 x0_1 rs x1 x2).1 = r0 at HS HI 
  generalize (lwP x0_0 x0_1 rs x1 x2).2.1 = r1 at HS HI HRLR1
  generalize (lwP x0_0 x0_1 rs x1 x2).2.2 = r2 at HS HI 
  have HXL0_2 : Hid (((flatR rs)).length = n0_2 * 3) := Lib.hid (by have := hr0_2.1; simp at this; omega)
  have HXL2 : Hid ((x2).length = n2 * 1) := Lib.hid (by have := hr2.1; simp at this; omega)
  have HB := Below.refl w.heap.size w
  go_enter Try.func3, Try.ntmps3
  by_cases hbig2 : 1048576 < n2
  · have hbi2 : (1048576 : Int) < (n2 : Int) := by omega
    go_wp2_with fail
    go_ret
    exact ⟨rfl, by first | exact HB | exact below_new _ _ | exact (below_new _ _).trans ((below_new _ _).mono (by simp))⟩
  have hbi2 : ¬ (1048576 : Int) < (n2 : Int) := by omega
  replace hbig2 : n2 ≤ 1048576 := by omega
  go_wp2_with fail
  refine (szMachine_post _ x0_0 x0_1 _ _ _ hnn0_2 _ (by omega) (by omega)).mono ?_
  rintro e v1 ⟨lfv1, rfl, hqv1, hpv1, hbv1⟩
  (try replace hbv1 := und1 hbv1)
  (try replace hbv1 := undN hbv1)
  obtain ⟨hbv1b, hxo1, hso1⟩ := box_step hbv1
  (try simp only [World.size_alloc] at hxo1 hso1)
  replace HB := HB.trans (hbv1b.mono HB.size)
  have hszv1 := hbv1b.size
  have qo1_0 := blk_cell hxo1 0 rfl
  have qo1_1 := blk_cell hxo1 1 rfl
  have qo1_2 := blk_cell hxo1 2 rfl
  have hlo1 := blk_lt hxo1
  by_cases hzv1 : lfv1 < 0
  · clear hqv1 hpv1
    go_wp2_with fail
    go_ret
    exact ⟨rfl, HB⟩
  replace hqv1 := hqv1 (by omega)
  have hbig0_2 : n0_2 ≤ 1048576 := by omega
  have HQv1 := Lib.hid hqv1; clear hqv1
  go_wp2_with fail
  refine (toMachine_any _ x0_0 x0_1 _ _ _ (flatR rs) (hr0_2.below HB (Nat.le_refl _)) (by omega)).mono ?_
  rintro e v2 ⟨Ao2, no2, co2, rfl, hoo2, hbv2⟩
  have hno2 : no2 ≤ 1048576 := by have h1 := hoo2.1; simp only [List.length_map] at h1; have h2 := HXL0_2.out; omega
  have hrgo2 := Lib.hid (rg_row hoo2)
  clear qo1_0 qo1_1 qo1_2 hlo1
  (try replace hbv2 := und1 hbv2)
  (try replace hbv2 := undN hbv2)
  replace hxo1 := blk_bel hxo1 hbv2
  replace HB := HB.trans (hbv2.mono HB.size)
  have hszv2 := hbv2.size
  have qo1_0 := blk_cell hxo1 0 rfl
  have qo1_1 := blk_cell hxo1 1 rfl
  have qo1_2 := blk_cell hxo1 2 rfl
  have hlo1 := blk_lt hxo1
  replace hrgo2 := Lib.hid (rg_lo hrgo2.out (lo := v1.heap.size + 0) (hi := v2.heap.size) (by first | exact Nat.le_refl _ | exact le_al1 | (simp; done) | (simp; omega)) (Nat.le_refl _))
  go_wp2_with fail
  refine (toInt64S_any _ _ _ _ x2 (hr2.below HB (Nat.le_refl _)) (by omega)).mono ?_
  rintro e v3 ⟨Ao3, no3, co3, rfl, hoo3, hbv3⟩
  have hno3 : no3 ≤ 1048576 := by have h1 := hoo3.1; simp only [List.length_map] at h1; have h2 := HXL2.out; omega
  have hrgo3 := Lib.hid (rg_row hoo3)
  clear qo1_0 qo1_1 qo1_2 hlo1
  (try replace hbv3 := und1 hbv3)
  (try replace hbv3 := undN hbv3)
  replace hoo2 := ownN_below hoo2 hbv3 (Nat.le_refl _)
  replace hxo1 := blk_bel hxo1 hbv3
  replace HB := HB.trans (hbv3.mono HB.size)
  have hszv3 := hbv3.size
  have qo1_0 := blk_cell hxo1 0 rfl
  have qo1_1 := blk_cell hxo1 1 rfl
  have qo1_2 := blk_cell hxo1 2 rfl
  have hlo1 := blk_lt hxo1
  replace hrgo3 := Lib.hid (rg_lo hrgo3.out (lo := v2.heap.size + 0) (hi := v3.heap.size) (by first | exact Nat.le_refl _ | exact le_al1 | (simp; done) | (simp; omega)) (Nat.le_refl _))
  go_wp2_with fail
  refine (HS.out _ _ _ _ (ownN_rd hoo2) (by omega) (ownN_cap hoo2) _ _ _ (own_rd hoo3) (by omega) (ownN_cap hoo3)).mono ?_
  rintro e v4 ⟨Ao4, no4, co4, rfl, hoo4, hbv4⟩
  have hno4 : no4 ≤ 1000000 := by have h1 := hoo4.1; simp only [List.length_map] at h1; have h2 := HRLR1.out; omega
  have hrgo4 := Lib.hid (rg_row hoo4)
  clear qo1_0 qo1_1 qo1_2 hlo1
  (try replace hbv4 := und1 hbv4)
  (try replace hbv4 := undN hbv4)
  replace hoo2 := ownN_below hoo2 hbv4 (Nat.le_refl _)
  replace hoo3 := ownN_below hoo3 hbv4 (Nat.le_refl _)
  replace hxo1 := blk_bel hxo1 hbv4
  replace HB := HB.trans (hbv4.mono HB.size)
  have hszv4 := hbv4.size
  have qo1_0 := blk_cell hxo1 0 rfl
  have qo1_1 := blk_cell hxo1 1 rfl
  have qo1_2 := blk_cell hxo1 2 rfl
  have hlo1 := blk_lt hxo1
  replace hrgo4 := Lib.hid (rg_lo hrgo4.out (lo := v3.heap.size + 0) (hi := v4.heap.size) (by first | exact Nat.le_refl _ | exact le_al1 | (simp; done) | (simp; omega)) (Nat.le_refl _))
  go_wp2_with fail
  refine (toMachine_any _ x0_0 x0_1 _ _ _ (flatR rs) (hr0_2.below HB (Nat.le_refl _)) (by omega)).mono ?_
  rintro e v5 ⟨Ao5, no5, co5, rfl, hoo5, hbv5⟩
  have hno5 : no5 ≤ 1048576 := by have h1 := hoo5.1; simp only [List.length_map] at h1; have h2 := HXL0_2.out; omega
  have hrgo5 := Lib.hid (rg_row hoo5)
  clear qo1_0 qo1_1 qo1_2 hlo1
  (try replace hbv5 := und1 hbv5)
  (try replace hbv5 := undN hbv5)
  replace hoo2 := ownN_below hoo2 hbv5 (Nat.le_refl _)
  replace hoo3 := ownN_below hoo3 hbv5 (Nat.le_refl _)
  replace hoo4 := ownN_below hoo4 hbv5 (Nat.le_refl _)
  replace hxo1 := blk_bel hxo1 hbv5
  replace HB := HB.trans (hbv5.mono HB.size)
  have hszv5 := hbv5.size
  have qo1_0 := blk_cell hxo1 0 rfl
  have qo1_1 := blk_cell hxo1 1 rfl
  have qo1_2 := blk_cell hxo1 2 rfl
  have hlo1 := blk_lt hxo1
  replace hrgo5 := Lib.hid (rg_lo hrgo5.out (lo := v4.heap.size + 0) (hi := v5.heap.size) (by first | exact Nat.le_refl _ | exact le_al1 | (simp; done) | (simp; omega)) (Nat.le_refl _))
  go_wp2_with fail
  refine (toInt64S_any _ _ _ _ x2 ((hr2.below HB (Nat.le_refl _)).below (below_new _ _) (Nat.le_refl _)) (by omega)).mono ?_
  rintro e v6 ⟨Ao7, no7, co7, rfl, hoo7, hbv6⟩
  have hno7 : no7 ≤ 1048576 := by have h1 := hoo7.1; simp only [List.length_map] at h1; have h2 := HXL2.out; omega
  have hrgo7 := Lib.hid (rg_row hoo7)
  clear qo1_0 qo1_1 qo1_2 hlo1
  (try replace hbv6 := und1 hbv6)
  (try replace hbv6 := undN hbv6)
  obtain ⟨hbv6b, hxo6, hso6⟩ := box_step hbv6
  (try simp only [World.size_alloc] at hxo6 hso6)
  replace hoo2 := ownN_below hoo2 hbv6b (Nat.le_refl _)
  replace hoo3 := ownN_below hoo3 hbv6b (Nat.le_refl _)
  replace hoo4 := ownN_below hoo4 hbv6b (Nat.le_refl _)
  replace hoo5 := ownN_below hoo5 hbv6b (Nat.le_refl _)
  replace hxo1 := blk_bel hxo1 hbv6b
  replace HB := HB.trans (hbv6b.mono HB.size)
  have hszv6 := hbv6b.size
  have qo1_0 := blk_cell hxo1 0 rfl
  have qo1_1 := blk_cell hxo1 1 rfl
  have qo1_2 := blk_cell hxo1 2 rfl
  have hlo1 := blk_lt hxo1
  have qo6_0 := blk_cell hxo6 0 rfl
  have qo6_1 := blk_cell hxo6 1 rfl
  have qo6_2 := blk_cell hxo6 2 rfl
  have hlo6 := blk_lt hxo6
  replace hrgo7 := Lib.hid (rg_lo hrgo7.out (lo := v5.heap.size + 1) (hi := v6.heap.size) (by first | exact Nat.le_refl _ | exact le_al1 | (simp; done) | (simp; omega)) (Nat.le_refl _))
  go_wp2_with fail
  refine (HI.out _ _ _ _ (ownN_rd hoo5) (by omega) (ownN_cap hoo5) _ _ _ (own_rd hoo7) (by omega) (ownN_cap hoo7)).mono ?_
  rintro e v7 ⟨Ao8, no8, co8, rfl, hoo8, hbv7⟩
  have hno8 : no8 ≤ 1000000 := by have h1 := hoo8.1; simp only [List.length_map] at h1; have h2 := HRLR1.out; omega
  have hrgo8 := Lib.hid (rg_row hoo8)
  clear qo1_0 qo1_1 qo1_2 qo6_0 qo6_1 qo6_2 hlo1 hlo6
  (try replace hbv7 := und1 hbv7)
  (try replace hbv7 := undN hbv7)
  replace hoo2 := ownN_below hoo2 hbv7 (Nat.le_refl _)
  replace hoo3 := ownN_below hoo3 hbv7 (Nat.le_refl _)
  replace hoo4 := ownN_below hoo4 hbv7 (Nat.le_refl _)
  replace hoo5 := ownN_below hoo5 hbv7 (Nat.le_refl _)
  replace hoo7 := ownN_below hoo7 hbv7 (Nat.le_refl _)
  replace hxo1 := blk_bel hxo1 hbv7
  replace hxo6 := blk_bel hxo6 hbv7
  replace HB := HB.trans (hbv7.mono HB.size)
  have hszv7 := hbv7.size
  have qo1_0 := blk_cell hxo1 0 rfl
  have qo1_1 := blk_cell hxo1 1 rfl
  have qo1_2 := blk_cell hxo1 2 rfl
  have hlo1 := blk_lt hxo1
  have qo6_0 := blk_cell hxo6 0 rfl
  have qo6_1 := blk_cell hxo6 1 rfl
  have qo6_2 := blk_cell hxo6 2 rfl
  have hlo6 := blk_lt hxo6
  replace hrgo8 := Lib.hid (rg_lo hrgo8.out (lo := v6.heap.size + 0) (hi := v7.heap.size) (by first | exact Nat.le_refl _ | exact le_al1 | (simp; done) | (simp; omega)) (Nat.le_refl _))
  go_wp2_with fail
  refine (eqInt64S_same _ _ _ _ r1 (own_rd hoo8) (by omega) _ _ _ (own_rd hoo4)).mono ?_
  rintro e v8 ⟨rfl, hbv8⟩
  clear qo1_0 qo1_1 qo1_2 qo6_0 qo6_1 qo6_2 hlo1 hlo6
  (try replace hbv8 := und1 hbv8)
  (try replace hbv8 := undN hbv8)
  replace hoo2 := ownN_below hoo2 hbv8 (Nat.le_refl _)
  replace hoo3 := ownN_below hoo3 hbv8 (Nat.le_refl _)
  replace hoo4 := ownN_below hoo4 hbv8 (Nat.le_refl _)
  replace hoo5 := ownN_below hoo5 hbv8 (Nat.le_refl _)
  replace hoo7 := ownN_below hoo7 hbv8 (Nat.le_refl _)
  replace hoo8 := ownN_below hoo8 hbv8 (Nat.le_refl _)
  replace hxo1 := blk_bel hxo1 hbv8
  replace hxo6 := blk_bel hxo6 hbv8
  replace HB := HB.trans (hbv8.mono HB.size)
  have hszv8 := hbv8.size
  have qo1_0 := blk_cell hxo1 0 rfl
  have qo1_1 := blk_cell hxo1 1 rfl
  have qo1_2 := blk_cell hxo1 2 rfl
  have hlo1 := blk_lt hxo1
  have qo6_0 := blk_cell hxo6 0 rfl
  have qo6_1 := blk_cell hxo6 1 rfl
  have qo6_2 := blk_cell hxo6 2 rfl
  have hlo6 := blk_lt hxo6
  go_wp2_with fail
  go_region_held3 (fun w' => w'.cell? ⟨v5.heap.size, 0, none⟩ = some (.int .i64 x0_0) ∧ w'.cell? ⟨v5.heap.size, 1, none⟩ = some (.int .i64 x0_1) ∧ w'.cell? ⟨v5.heap.size, 2, none⟩ = some (.slice Ao5 no5 co5) ∧ w'.cell? ⟨w.heap.size, 0, none⟩ = some (.int .i64 x0_0) ∧ w'.cell? ⟨w.heap.size, 1, none⟩ = some (.int .i64 x0_1) ∧ w'.cell? ⟨w.heap.size, 2, none⟩ = some (.slice A0_2 n0_2 c0_2)) (first | exact ⟨qo6_0, qo6_1, qo6_2, qo1_0, qo1_1, qo1_2⟩ | go_keep) (first
    | (go_at_call 14
       refine (toMachine_any _ x0_0 x0_1 _ _ _ (flatR rs) (by have h := (hr0_2.below HB (Nat.le_refl _)); first | exact h | exact h.below (below_new _ _) (Nat.le_refl _) | exact h.below (below_drew1 (below_new _ _)) (Nat.le_refl _)) (by omega)).mono ?_
       rintro e v9 ⟨Ao9, no9, co9, rfl, hoo9, hbv9⟩
       have hno9 : no9 ≤ 1048576 := by have h1 := hoo9.1; simp only [List.length_map] at h1; have h2 := HXL0_2.out; omega
       have hrgo9 := Lib.hid (rg_row hoo9)
       clear qo1_0 qo1_1 qo1_2 qo6_0 qo6_1 qo6_2 hlo1 hlo6
       (try replace hbv9 := und1 hbv9)
       (try replace hbv9 := undN hbv9)
       replace hoo2 := ownN_below hoo2 hbv9 (Nat.le_refl _)
       replace hoo3 := ownN_below hoo3 hbv9 (Nat.le_refl _)
       replace hoo4 := ownN_below hoo4 hbv9 (Nat.le_refl _)
       replace hoo5 := ownN_below hoo5 hbv9 (Nat.le_refl _)
       replace hoo7 := ownN_below hoo7 hbv9 (Nat.le_refl _)
       replace hoo8 := ownN_below hoo8 hbv9 (Nat.le_refl _)
       replace hxo1 := blk_bel hxo1 hbv9
       replace hxo6 := blk_bel hxo6 hbv9
       replace HB := HB.trans (hbv9.mono HB.size)
       have hszv9 := hbv9.size
       have qo1_0 := blk_cell hxo1 0 rfl
       have qo1_1 := blk_cell hxo1 1 rfl
       have qo1_2 := blk_cell hxo1 2 rfl
       have hlo1 := blk_lt hxo1
       have qo6_0 := blk_cell hxo6 0 rfl
       have qo6_1 := blk_cell hxo6 1 rfl
       have qo6_2 := blk_cell hxo6 2 rfl
       have hlo6 := blk_lt hxo6
       replace hrgo9 := Lib.hid (rg_lo hrgo9.out (lo := v8.heap.size + 0) (hi := v9.heap.size) (by first | exact Nat.le_refl _ | exact le_al1 | (simp; done) | (simp; omega)) (Nat.le_refl _))
       )
    | (go_at_call 18
       refine (eqMachine_same _ _ _ _ _ _ (flatR rs) (by have h := (ownN_rd hoo5); first | exact h | exact h.below (below_new _ _) (Nat.le_refl _) | exact h.below (below_drew1 (below_new _ _)) (Nat.le_refl _)) (by omega) _ _ _ (by have h := (ownN_rd hoo9); first | exact h | exact h.below (below_new _ _) (Nat.le_refl _) | exact h.below (below_drew1 (below_new _ _)) (Nat.le_refl _))).mono ?_
       rintro e v10 ⟨rfl, hbv10⟩
       clear qo1_0 qo1_1 qo1_2 qo6_0 qo6_1 qo6_2 hlo1 hlo6
       (try replace hbv10 := und1 hbv10)
       (try replace hbv10 := undN hbv10)
       replace hoo2 := ownN_below hoo2 hbv10 (Nat.le_refl _)
       replace hoo3 := ownN_below hoo3 hbv10 (Nat.le_refl _)
       replace hoo4 := ownN_below hoo4 hbv10 (Nat.le_refl _)
       replace hoo5 := ownN_below hoo5 hbv10 (Nat.le_refl _)
       replace hoo7 := ownN_below hoo7 hbv10 (Nat.le_refl _)
       replace hoo8 := ownN_below hoo8 hbv10 (Nat.le_refl _)
       replace hoo9 := ownN_below hoo9 hbv10 (Nat.le_refl _)
       replace hxo1 := blk_bel hxo1 hbv10
       replace hxo6 := blk_bel hxo6 hbv10
       replace HB := HB.trans (hbv10.mono HB.size)
       have hszv10 := hbv10.size
       have qo1_0 := blk_cell hxo1 0 rfl
       have qo1_1 := blk_cell hxo1 1 rfl
       have qo1_2 := blk_cell hxo1 2 rfl
       have hlo1 := blk_lt hxo1
       have qo6_0 := blk_cell hxo6 0 rfl
       have qo6_1 := blk_cell hxo6 1 rfl
       have qo6_2 := blk_cell hxo6 2 rfl
       have hlo6 := blk_lt hxo6
       )
    )
  go_wp2_with fail
  refine (toInt64S_any _ _ _ _ x2 (hr2.below HB (Nat.le_refl _)) (by omega)).mono ?_
  rintro e v11 ⟨Ao10, no10, co10, rfl, hoo10, hbv11⟩
  have hno10 : no10 ≤ 1048576 := by have h1 := hoo10.1; simp only [List.length_map] at h1; have h2 := HXL2.out; omega
  have hrgo10 := Lib.hid (rg_row hoo10)
  clear qo1_0 qo1_1 qo1_2 qo6_0 qo6_1 qo6_2 hlo1 hlo6
  (try replace hbv11 := und1 hbv11)
  (try replace hbv11 := undN hbv11)
  replace hoo2 := ownN_below hoo2 hbv11 (Nat.le_refl _)
  replace hoo3 := ownN_below hoo3 hbv11 (Nat.le_refl _)
  replace hoo4 := ownN_below hoo4 hbv11 (Nat.le_refl _)
  replace hoo5 := ownN_below hoo5 hbv11 (Nat.le_refl _)
  replace hoo7 := ownN_below hoo7 hbv11 (Nat.le_refl _)
  replace hoo8 := ownN_below hoo8 hbv11 (Nat.le_refl _)
  replace hoo9 := ownN_below hoo9 hbv11 (Nat.le_refl _)
  replace hxo1 := blk_bel hxo1 hbv11
  replace hxo6 := blk_bel hxo6 hbv11
  replace HB := HB.trans (hbv11.mono HB.size)
  have hszv11 := hbv11.size
  have qo1_0 := blk_cell hxo1 0 rfl
  have qo1_1 := blk_cell hxo1 1 rfl
  have qo1_2 := blk_cell hxo1 2 rfl
  have hlo1 := blk_lt hxo1
  have qo6_0 := blk_cell hxo6 0 rfl
  have qo6_1 := blk_cell hxo6 1 rfl
  have qo6_2 := blk_cell hxo6 2 rfl
  have hlo6 := blk_lt hxo6
  replace hrgo10 := Lib.hid (rg_lo hrgo10.out (lo := v10.heap.size + 0) (hi := v11.heap.size) (by first | exact Nat.le_refl _ | exact le_al1 | (simp; done) | (simp; omega)) (Nat.le_refl _))
  go_wp2_with fail
  refine (eqInt64S_same _ _ _ _ x2 (own_rd hoo7) (by omega) _ _ _ (own_rd hoo10)).mono ?_
  rintro e v12 ⟨rfl, hbv12⟩
  clear qo1_0 qo1_1 qo1_2 qo6_0 qo6_1 qo6_2 hlo1 hlo6
  (try replace hbv12 := und1 hbv12)
  (try replace hbv12 := undN hbv12)
  replace hoo2 := ownN_below hoo2 hbv12 (Nat.le_refl _)
  replace hoo3 := ownN_below hoo3 hbv12 (Nat.le_refl _)
  replace hoo4 := ownN_below hoo4 hbv12 (Nat.le_refl _)
  replace hoo5 := ownN_below hoo5 hbv12 (Nat.le_refl _)
  replace hoo7 := ownN_below hoo7 hbv12 (Nat.le_refl _)
  replace hoo8 := ownN_below hoo8 hbv12 (Nat.le_refl _)
  replace hoo9 := ownN_below hoo9 hbv12 (Nat.le_refl _)
  replace hoo10 := ownN_below hoo10 hbv12 (Nat.le_refl _)
  replace hxo1 := blk_bel hxo1 hbv12
  replace hxo6 := blk_bel hxo6 hbv12
  replace HB := HB.trans (hbv12.mono HB.size)
  have hszv12 := hbv12.size
  have qo1_0 := blk_cell hxo1 0 rfl
  have qo1_1 := blk_cell hxo1 1 rfl
  have qo1_2 := blk_cell hxo1 2 rfl
  have hlo1 := blk_lt hxo1
  have qo6_0 := blk_cell hxo6 0 rfl
  have qo6_1 := blk_cell hxo6 1 rfl
  have qo6_2 := blk_cell hxo6 2 rfl
  have hlo6 := blk_lt hxo6
  go_wp2_with fail
  refine (markMachine_any _ _ _ _ _ _ _ _ hoo5 (by omega)  (1) (by omega) (by omega)).mono ?_
  rintro e v13 ⟨rfl, hmo5, hCv13⟩
  clear qo1_0 qo1_1 qo1_2 qo6_0 qo6_1 qo6_2 hlo1 hlo6
  replace hoo2 := own_ch hoo2 hCv13 (fun k h1 h2 => (by have := hrgo2.out k h1; have := hrgo5.out k h2; omega))
  replace hoo3 := own_ch hoo3 hCv13 (fun k h1 h2 => (by have := hrgo3.out k h1; have := hrgo5.out k h2; omega))
  replace hoo4 := own_ch hoo4 hCv13 (fun k h1 h2 => (by have := hrgo4.out k h1; have := hrgo5.out k h2; omega))
  replace hoo7 := own_ch hoo7 hCv13 (fun k h1 h2 => (by have := hrgo7.out k h1; have := hrgo5.out k h2; omega))
  replace hoo8 := own_ch hoo8 hCv13 (fun k h1 h2 => (by have := hrgo8.out k h1; have := hrgo5.out k h2; omega))
  replace hoo9 := own_ch hoo9 hCv13 (fun k h1 h2 => (by have := hrgo9.out k h1; have := hrgo5.out k h2; omega))
  replace hoo10 := own_ch hoo10 hCv13 (fun k h1 h2 => (by have := hrgo10.out k h1; have := hrgo5.out k h2; omega))
  replace hxo1 := blk_ch hxo1 hCv13 (fun h => by have := hrgo5.out _ h; omega)
  replace hxo6 := blk_ch hxo6 hCv13 (fun h => by have := hrgo5.out _ h; omega)
  replace HB := below_ch HB hCv13 (fun k h => by have := hrgo5.out k h; omega) HB.size
  replace hoo5 := hmo5
  have hszv13 := hCv13.size
  have qo1_0 := blk_cell hxo1 0 rfl
  have qo1_1 := blk_cell hxo1 1 rfl
  have qo1_2 := blk_cell hxo1 2 rfl
  have hlo1 := blk_lt hxo1
  have qo6_0 := blk_cell hxo6 0 rfl
  have qo6_1 := blk_cell hxo6 1 rfl
  have qo6_2 := blk_cell hxo6 2 rfl
  have hlo6 := blk_lt hxo6
  go_wp2_with fail
  refine (markInt64S_any _ _ _ _ _ _ hoo7 (by omega)  (1 + (no5 : Int) * 3) (by omega) (by omega)).mono ?_
  rintro e v14 ⟨rfl, hmo7, hCv14⟩
  clear qo1_0 qo1_1 qo1_2 qo6_0 qo6_1 qo6_2 hlo1 hlo6
  replace hCv14 := ch_row hCv14
  replace hoo2 := own_ch hoo2 hCv14 (fun k h1 h2 => (by have := hrgo2.out k h1; have := hrgo7.out k h2; omega))
  replace hoo3 := own_ch hoo3 hCv14 (fun k h1 h2 => (by have := hrgo3.out k h1; have := hrgo7.out k h2; omega))
  replace hoo4 := own_ch hoo4 hCv14 (fun k h1 h2 => (by have := hrgo4.out k h1; have := hrgo7.out k h2; omega))
  replace hoo5 := own_ch hoo5 hCv14 (fun k h1 h2 => (by have := hrgo5.out k h1; have := hrgo7.out k h2; omega))
  replace hoo8 := own_ch hoo8 hCv14 (fun k h1 h2 => (by have := hrgo8.out k h1; have := hrgo7.out k h2; omega))
  replace hoo9 := own_ch hoo9 hCv14 (fun k h1 h2 => (by have := hrgo9.out k h1; have := hrgo7.out k h2; omega))
  replace hoo10 := own_ch hoo10 hCv14 (fun k h1 h2 => (by have := hrgo10.out k h1; have := hrgo7.out k h2; omega))
  replace hxo1 := blk_ch hxo1 hCv14 (fun h => by have := hrgo7.out _ h; omega)
  replace hxo6 := blk_ch hxo6 hCv14 (fun h => by have := hrgo7.out _ h; omega)
  replace HB := below_ch HB hCv14 (fun k h => by have := hrgo7.out k h; omega) HB.size
  replace hoo7 := hmo7
  have hszv14 := hCv14.size
  have qo1_0 := blk_cell hxo1 0 rfl
  have qo1_1 := blk_cell hxo1 1 rfl
  have qo1_2 := blk_cell hxo1 2 rfl
  have hlo1 := blk_lt hxo1
  have qo6_0 := blk_cell hxo6 0 rfl
  have qo6_1 := blk_cell hxo6 1 rfl
  have qo6_2 := blk_cell hxo6 2 rfl
  have hlo6 := blk_lt hxo6
  go_wp2_with fail
  refine (eqInt64S_same _ _ _ _ r1 (own_rd hoo8) (by omega) _ _ _ (own_rd hoo4)).mono ?_
  rintro e v15 ⟨rfl, hbv15⟩
  clear qo1_0 qo1_1 qo1_2 qo6_0 qo6_1 qo6_2 hlo1 hlo6
  (try replace hbv15 := und1 hbv15)
  (try replace hbv15 := undN hbv15)
  replace hoo2 := ownN_below hoo2 hbv15 (Nat.le_refl _)
  replace hoo3 := ownN_below hoo3 hbv15 (Nat.le_refl _)
  replace hoo4 := ownN_below hoo4 hbv15 (Nat.le_refl _)
  replace hoo5 := ownN_below hoo5 hbv15 (Nat.le_refl _)
  replace hoo7 := ownN_below hoo7 hbv15 (Nat.le_refl _)
  replace hoo8 := ownN_below hoo8 hbv15 (Nat.le_refl _)
  replace hoo9 := ownN_below hoo9 hbv15 (Nat.le_refl _)
  replace hoo10 := ownN_below hoo10 hbv15 (Nat.le_refl _)
  replace hxo1 := blk_bel hxo1 hbv15
  replace hxo6 := blk_bel hxo6 hbv15
  replace HB := HB.trans (hbv15.mono HB.size)
  have hszv15 := hbv15.size
  have qo1_0 := blk_cell hxo1 0 rfl
  have qo1_1 := blk_cell hxo1 1 rfl
  have qo1_2 := blk_cell hxo1 2 rfl
  have hlo1 := blk_lt hxo1
  have qo6_0 := blk_cell hxo6 0 rfl
  have qo6_1 := blk_cell hxo6 1 rfl
  have qo6_2 := blk_cell hxo6 2 rfl
  have hlo6 := blk_lt hxo6
  go_wp2_with fail
  refine (markInt64S_any _ _ _ _ _ _ hoo8 (by omega)  (1) (by omega) (by omega)).mono ?_
  rintro e v16 ⟨rfl, hmo8, hCv16⟩
  clear qo1_0 qo1_1 qo1_2 qo6_0 qo6_1 qo6_2 hlo1 hlo6
  replace hCv16 := ch_row hCv16
  replace hoo2 := own_ch hoo2 hCv16 (fun k h1 h2 => (by have := hrgo2.out k h1; have := hrgo8.out k h2; omega))
  replace hoo3 := own_ch hoo3 hCv16 (fun k h1 h2 => (by have := hrgo3.out k h1; have := hrgo8.out k h2; omega))
  replace hoo4 := own_ch hoo4 hCv16 (fun k h1 h2 => (by have := hrgo4.out k h1; have := hrgo8.out k h2; omega))
  replace hoo5 := own_ch hoo5 hCv16 (fun k h1 h2 => (by have := hrgo5.out k h1; have := hrgo8.out k h2; omega))
  replace hoo7 := own_ch hoo7 hCv16 (fun k h1 h2 => (by have := hrgo7.out k h1; have := hrgo8.out k h2; omega))
  replace hoo9 := own_ch hoo9 hCv16 (fun k h1 h2 => (by have := hrgo9.out k h1; have := hrgo8.out k h2; omega))
  replace hoo10 := own_ch hoo10 hCv16 (fun k h1 h2 => (by have := hrgo10.out k h1; have := hrgo8.out k h2; omega))
  replace hxo1 := blk_ch hxo1 hCv16 (fun h => by have := hrgo8.out _ h; omega)
  replace hxo6 := blk_ch hxo6 hCv16 (fun h => by have := hrgo8.out _ h; omega)
  replace HB := below_ch HB hCv16 (fun k h => by have := hrgo8.out k h; omega) HB.size
  replace hoo8 := hmo8
  have hszv16 := hCv16.size
  have qo1_0 := blk_cell hxo1 0 rfl
  have qo1_1 := blk_cell hxo1 1 rfl
  have qo1_2 := blk_cell hxo1 2 rfl
  have hlo1 := blk_lt hxo1
  have qo6_0 := blk_cell hxo6 0 rfl
  have qo6_1 := blk_cell hxo6 1 rfl
  have qo6_2 := blk_cell hxo6 2 rfl
  have hlo6 := blk_lt hxo6
  go_wp2_with fail
  refine (heldInt64S_any _ _ _ _ (1) (own_rd hoo8) (by omega) (by omega) (by omega)).mono ?_
  rintro e v17 ⟨rfl, hbv17⟩
  clear qo1_0 qo1_1 qo1_2 qo6_0 qo6_1 qo6_2 hlo1 hlo6
  (try replace hbv17 := und1 hbv17)
  (try replace hbv17 := undN hbv17)
  replace hoo2 := ownN_below hoo2 hbv17 (Nat.le_refl _)
  replace hoo3 := ownN_below hoo3 hbv17 (Nat.le_refl _)
  replace hoo4 := ownN_below hoo4 hbv17 (Nat.le_refl _)
  replace hoo5 := ownN_below hoo5 hbv17 (Nat.le_refl _)
  replace hoo7 := ownN_below hoo7 hbv17 (Nat.le_refl _)
  replace hoo8 := ownN_below hoo8 hbv17 (Nat.le_refl _)
  replace hoo9 := ownN_below hoo9 hbv17 (Nat.le_refl _)
  replace hoo10 := ownN_below hoo10 hbv17 (Nat.le_refl _)
  replace hxo1 := blk_bel hxo1 hbv17
  replace hxo6 := blk_bel hxo6 hbv17
  replace HB := HB.trans (hbv17.mono HB.size)
  have hszv17 := hbv17.size
  have qo1_0 := blk_cell hxo1 0 rfl
  have qo1_1 := blk_cell hxo1 1 rfl
  have qo1_2 := blk_cell hxo1 2 rfl
  have hlo1 := blk_lt hxo1
  have qo6_0 := blk_cell hxo6 0 rfl
  have qo6_1 := blk_cell hxo6 1 rfl
  have qo6_2 := blk_cell hxo6 2 rfl
  have hlo6 := blk_lt hxo6
  go_wp2_with fail
  refine (toMachine_any _ x0_0 x0_1 _ _ _ (flatR rs) (hr0_2.below HB (Nat.le_refl _)) (by omega)).mono ?_
  rintro e v18 ⟨Ao11, no11, co11, rfl, hoo11, hbv18⟩
  have hno11 : no11 ≤ 1048576 := by have h1 := hoo11.1; simp only [List.length_map] at h1; have h2 := HXL0_2.out; omega
  have hrgo11 := Lib.hid (rg_row hoo11)
  clear qo1_0 qo1_1 qo1_2 qo6_0 qo6_1 qo6_2 hlo1 hlo6
  (try replace hbv18 := und1 hbv18)
  (try replace hbv18 := undN hbv18)
  replace hoo2 := ownN_below hoo2 hbv18 (Nat.le_refl _)
  replace hoo3 := ownN_below hoo3 hbv18 (Nat.le_refl _)
  replace hoo4 := ownN_below hoo4 hbv18 (Nat.le_refl _)
  replace hoo5 := ownN_below hoo5 hbv18 (Nat.le_refl _)
  replace hoo7 := ownN_below hoo7 hbv18 (Nat.le_refl _)
  replace hoo8 := ownN_below hoo8 hbv18 (Nat.le_refl _)
  replace hoo9 := ownN_below hoo9 hbv18 (Nat.le_refl _)
  replace hoo10 := ownN_below hoo10 hbv18 (Nat.le_refl _)
  replace hxo1 := blk_bel hxo1 hbv18
  replace hxo6 := blk_bel hxo6 hbv18
  replace HB := HB.trans (hbv18.mono HB.size)
  have hszv18 := hbv18.size
  have qo1_0 := blk_cell hxo1 0 rfl
  have qo1_1 := blk_cell hxo1 1 rfl
  have qo1_2 := blk_cell hxo1 2 rfl
  have hlo1 := blk_lt hxo1
  have qo6_0 := blk_cell hxo6 0 rfl
  have qo6_1 := blk_cell hxo6 1 rfl
  have qo6_2 := blk_cell hxo6 2 rfl
  have hlo6 := blk_lt hxo6
  replace hrgo11 := Lib.hid (rg_lo hrgo11.out (lo := v17.heap.size + 0) (hi := v18.heap.size) (by first | exact Nat.le_refl _ | exact le_al1 | (simp; done) | (simp; omega)) (Nat.le_refl _))
  go_wp2_with fail
  refine (toInt64S_any _ _ _ _ x2 (hr2.below HB (Nat.le_refl _)) (by omega)).mono ?_
  rintro e v19 ⟨Ao12, no12, co12, rfl, hoo12, hbv19⟩
  have hno12 : no12 ≤ 1048576 := by have h1 := hoo12.1; simp only [List.length_map] at h1; have h2 := HXL2.out; omega
  have hrgo12 := Lib.hid (rg_row hoo12)
  clear qo1_0 qo1_1 qo1_2 qo6_0 qo6_1 qo6_2 hlo1 hlo6
  (try replace hbv19 := und1 hbv19)
  (try replace hbv19 := undN hbv19)
  replace hoo2 := ownN_below hoo2 hbv19 (Nat.le_refl _)
  replace hoo3 := ownN_below hoo3 hbv19 (Nat.le_refl _)
  replace hoo4 := ownN_below hoo4 hbv19 (Nat.le_refl _)
  replace hoo5 := ownN_below hoo5 hbv19 (Nat.le_refl _)
  replace hoo7 := ownN_below hoo7 hbv19 (Nat.le_refl _)
  replace hoo8 := ownN_below hoo8 hbv19 (Nat.le_refl _)
  replace hoo9 := ownN_below hoo9 hbv19 (Nat.le_refl _)
  replace hoo10 := ownN_below hoo10 hbv19 (Nat.le_refl _)
  replace hoo11 := ownN_below hoo11 hbv19 (Nat.le_refl _)
  replace hxo1 := blk_bel hxo1 hbv19
  replace hxo6 := blk_bel hxo6 hbv19
  replace HB := HB.trans (hbv19.mono HB.size)
  have hszv19 := hbv19.size
  have qo1_0 := blk_cell hxo1 0 rfl
  have qo1_1 := blk_cell hxo1 1 rfl
  have qo1_2 := blk_cell hxo1 2 rfl
  have hlo1 := blk_lt hxo1
  have qo6_0 := blk_cell hxo6 0 rfl
  have qo6_1 := blk_cell hxo6 1 rfl
  have qo6_2 := blk_cell hxo6 2 rfl
  have hlo6 := blk_lt hxo6
  replace hrgo12 := Lib.hid (rg_lo hrgo12.out (lo := v18.heap.size + 0) (hi := v19.heap.size) (by first | exact Nat.le_refl _ | exact le_al1 | (simp; done) | (simp; omega)) (Nat.le_refl _))
  go_wp2_with fail
  refine (HI.out _ _ _ _ (ownN_rd hoo11) (by omega) (ownN_cap hoo11) _ _ _ (own_rd hoo12) (by omega) (ownN_cap hoo12)).mono ?_
  rintro e v20 ⟨Ao13, no13, co13, rfl, hoo13, hbv20⟩
  have hno13 : no13 ≤ 1000000 := by have h1 := hoo13.1; simp only [List.length_map] at h1; have h2 := HRLR1.out; omega
  have hrgo13 := Lib.hid (rg_row hoo13)
  clear qo1_0 qo1_1 qo1_2 qo6_0 qo6_1 qo6_2 hlo1 hlo6
  (try replace hbv20 := und1 hbv20)
  (try replace hbv20 := undN hbv20)
  replace hoo2 := ownN_below hoo2 hbv20 (Nat.le_refl _)
  replace hoo3 := ownN_below hoo3 hbv20 (Nat.le_refl _)
  replace hoo4 := ownN_below hoo4 hbv20 (Nat.le_refl _)
  replace hoo5 := ownN_below hoo5 hbv20 (Nat.le_refl _)
  replace hoo7 := ownN_below hoo7 hbv20 (Nat.le_refl _)
  replace hoo8 := ownN_below hoo8 hbv20 (Nat.le_refl _)
  replace hoo9 := ownN_below hoo9 hbv20 (Nat.le_refl _)
  replace hoo10 := ownN_below hoo10 hbv20 (Nat.le_refl _)
  replace hoo11 := ownN_below hoo11 hbv20 (Nat.le_refl _)
  replace hoo12 := ownN_below hoo12 hbv20 (Nat.le_refl _)
  replace hxo1 := blk_bel hxo1 hbv20
  replace hxo6 := blk_bel hxo6 hbv20
  replace HB := HB.trans (hbv20.mono HB.size)
  have hszv20 := hbv20.size
  have qo1_0 := blk_cell hxo1 0 rfl
  have qo1_1 := blk_cell hxo1 1 rfl
  have qo1_2 := blk_cell hxo1 2 rfl
  have hlo1 := blk_lt hxo1
  have qo6_0 := blk_cell hxo6 0 rfl
  have qo6_1 := blk_cell hxo6 1 rfl
  have qo6_2 := blk_cell hxo6 2 rfl
  have hlo6 := blk_lt hxo6
  replace hrgo13 := Lib.hid (rg_lo hrgo13.out (lo := v19.heap.size + 0) (hi := v20.heap.size) (by first | exact Nat.le_refl _ | exact le_al1 | (simp; done) | (simp; omega)) (Nat.le_refl _))
  go_wp2_with fail
  refine (eqInt64S_same _ _ _ _ r1 (own_rd hoo13) (by omega) _ _ _ (own_rd hoo4)).mono ?_
  rintro e v21 ⟨rfl, hbv21⟩
  clear qo1_0 qo1_1 qo1_2 qo6_0 qo6_1 qo6_2 hlo1 hlo6
  (try replace hbv21 := und1 hbv21)
  (try replace hbv21 := undN hbv21)
  replace hoo2 := ownN_below hoo2 hbv21 (Nat.le_refl _)
  replace hoo3 := ownN_below hoo3 hbv21 (Nat.le_refl _)
  replace hoo4 := ownN_below hoo4 hbv21 (Nat.le_refl _)
  replace hoo5 := ownN_below hoo5 hbv21 (Nat.le_refl _)
  replace hoo7 := ownN_below hoo7 hbv21 (Nat.le_refl _)
  replace hoo8 := ownN_below hoo8 hbv21 (Nat.le_refl _)
  replace hoo9 := ownN_below hoo9 hbv21 (Nat.le_refl _)
  replace hoo10 := ownN_below hoo10 hbv21 (Nat.le_refl _)
  replace hoo11 := ownN_below hoo11 hbv21 (Nat.le_refl _)
  replace hoo12 := ownN_below hoo12 hbv21 (Nat.le_refl _)
  replace hoo13 := ownN_below hoo13 hbv21 (Nat.le_refl _)
  replace hxo1 := blk_bel hxo1 hbv21
  replace hxo6 := blk_bel hxo6 hbv21
  replace HB := HB.trans (hbv21.mono HB.size)
  have hszv21 := hbv21.size
  have qo1_0 := blk_cell hxo1 0 rfl
  have qo1_1 := blk_cell hxo1 1 rfl
  have qo1_2 := blk_cell hxo1 2 rfl
  have hlo1 := blk_lt hxo1
  have qo6_0 := blk_cell hxo6 0 rfl
  have qo6_1 := blk_cell hxo6 1 rfl
  have qo6_2 := blk_cell hxo6 2 rfl
  have hlo6 := blk_lt hxo6
  go_wp2_with fail
  refine (heldInt64S_any _ _ _ _ (1) (own_rd hoo8) (by omega) (by omega) (by omega)).mono ?_
  rintro e v22 ⟨rfl, hbv22⟩
  clear qo1_0 qo1_1 qo1_2 qo6_0 qo6_1 qo6_2 hlo1 hlo6
  (try replace hbv22 := und1 hbv22)
  (try replace hbv22 := undN hbv22)
  replace hoo2 := ownN_below hoo2 hbv22 (Nat.le_refl _)
  replace hoo3 := ownN_below hoo3 hbv22 (Nat.le_refl _)
  replace hoo4 := ownN_below hoo4 hbv22 (Nat.le_refl _)
  replace hoo5 := ownN_below hoo5 hbv22 (Nat.le_refl _)
  replace hoo7 := ownN_below hoo7 hbv22 (Nat.le_refl _)
  replace hoo8 := ownN_below hoo8 hbv22 (Nat.le_refl _)
  replace hoo9 := ownN_below hoo9 hbv22 (Nat.le_refl _)
  replace hoo10 := ownN_below hoo10 hbv22 (Nat.le_refl _)
  replace hoo11 := ownN_below hoo11 hbv22 (Nat.le_refl _)
  replace hoo12 := ownN_below hoo12 hbv22 (Nat.le_refl _)
  replace hoo13 := ownN_below hoo13 hbv22 (Nat.le_refl _)
  replace hxo1 := blk_bel hxo1 hbv22
  replace hxo6 := blk_bel hxo6 hbv22
  replace HB := HB.trans (hbv22.mono HB.size)
  have hszv22 := hbv22.size
  have qo1_0 := blk_cell hxo1 0 rfl
  have qo1_1 := blk_cell hxo1 1 rfl
  have qo1_2 := blk_cell hxo1 2 rfl
  have hlo1 := blk_lt hxo1
  have qo6_0 := blk_cell hxo6 0 rfl
  have qo6_1 := blk_cell hxo6 1 rfl
  have qo6_2 := blk_cell hxo6 2 rfl
  have hlo6 := blk_lt hxo6
  go_wp2_with fail
  go_ret
  first | exact ⟨rfl, HB⟩ | exact ⟨rfl, below_drewN HB⟩
end Go.Proofs.Ytjgajjcgapifoaa
