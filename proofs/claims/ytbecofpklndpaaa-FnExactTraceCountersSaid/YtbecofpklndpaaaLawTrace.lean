/- The law on TraceCounters. Written by genlaw5.py. -/
import Derived.Test.YtbecofpklndpaaaCntY
namespace Go.Proofs.Ytbecofpklndpaaa
open Go.RowKit
set_option linter.unusedVariables false
set_option linter.unusedSimpArgs false
set_option maxHeartbeats 16000000 in
set_option maxRecDepth 100000 in
theorem lawTraceCounters (w : World) (A0 : Option Addr) (n0 c0 : Nat) (x0 : List Int) (hr0 : Rd w A0 (n0 * 4) (ints x0)) (hnn0 : n0 ≤ 9223372036854775807) (x1_0 : Int) (x1_1 : Int) (x1_2 : Int) (x2 : Int) :
    Calls Try.prog 11 #[.slice A0 n0 c0, .agg #[.int .i64 x1_0, .int .i64 x1_1, .int .i64 x1_2], .int .i64 x2] w fun e w' => e = .returned (.bool true) ∧ Below w.heap.size w w' := by
  obtain ⟨ps, rfl, hps⟩ := unflatI n0 x0 (by simpa using hr0.1)
  have HPS := Lib.hid hps; clear hps
  have hS : ∀ (w : World) (A0 : Option Addr) (n0 c0 : Nat) (h0 : Rd w A0 (n0 * 4) (ints (flatI ps))) (hn0 : n0 ≤ 1099511627776) (hcp0 : n0 ≤ c0), Calls Try.prog 62 #[.slice A0 n0 c0, .agg #[.int .i64 x1_0, .int .i64 x1_1, .int .i64 x1_2], .int .i64 x2] w (fun e w' => ∃ (AR0 : Option Addr) (nR0 cR0 : Nat), e = .returned (.tuple #[.slice AR0 nR0 cR0, .int .i64 ((traceNum ps ⟨x1_0, x1_1, x1_2⟩ x2).2)]) ∧ w'.ownsRow w.heap.size 57 3 (.slice AR0 nR0 cR0) nR0 (ints ((traceNum ps ⟨x1_0, x1_1, x1_2⟩ x2).1)) ∧ Below w.heap.size w w') := fun w A0 n0 c0 h0 hn0 hcp0 => specTraceCounters_any w A0 n0 c0 ps h0 hn0 ⟨x1_0, x1_1, x1_2⟩ x2
  have hI : ∀ (w : World) (A0 : Option Addr) (n0 c0 : Nat) (h0 : Rd w A0 (n0 * 4) (ints (flatI ps))) (hn0 : n0 ≤ 1099511627776) (hcp0 : n0 ≤ c0), Calls Try.prog 63 #[.slice A0 n0 c0, .agg #[.int .i64 x1_0, .int .i64 x1_1, .int .i64 x1_2], .int .i64 x2] w (fun e w' => ∃ (AR0 : Option Addr) (nR0 cR0 : Nat), e = .returned (.tuple #[.slice AR0 nR0 cR0, .int .i64 ((traceNum ps ⟨x1_0, x1_1, x1_2⟩ x2).2)]) ∧ w'.ownsRow w.heap.size 57 3 (.slice AR0 nR0 cR0) nR0 (ints ((traceNum ps ⟨x1_0, x1_1, x1_2⟩ x2).1)) ∧ Below w.heap.size w w') := fun w A0 n0 c0 h0 hn0 hcp0 => implTraceCounters_any w A0 n0 c0 ps h0 hn0 ⟨x1_0, x1_1, x1_2⟩ x2
  have HRLR0 : Hid (((traceNum ps ⟨x1_0, x1_1, x1_2⟩ x2).1).length ≤ 1000000) := Lib.hid (traceNum_len _ _ _)
  have HS := Lib.hid hS; have HI := Lib.hid hI
  clear hS hI
  generalize (traceNum ps ⟨x1_0, x1_1, x1_2⟩ x2).1 = r0 at HS HI HRLR0
  generalize (traceNum ps ⟨x1_0, x1_1, x1_2⟩ x2).2 = r1 at HS HI 
  have HXL0 : Hid (((flatI ps)).length = n0 * 4) := Lib.hid (by have := hr0.1; simp at this; omega)
  have HB := Below.refl w.heap.size w
  go_enter Try.func11, Try.ntmps11
  go_wp2_with fail
  refine (szInstrS_post _ _ _ _ hnn0 _ (by omega) (by omega)).mono ?_
  rintro e v1 ⟨lfv1, rfl, hqv1, hpv1, hbv1⟩
  (try replace hbv1 := und1 hbv1)
  (try replace hbv1 := undN hbv1)
  obtain ⟨hbv1b, hxo1, hso1⟩ := box_step hbv1
  (try simp only [World.size_alloc] at hxo1 hso1)
  replace HB := HB.trans (hbv1b.mono HB.size)
  have hszv1 := hbv1b.size
  have qo1_0 := blk_cell hxo1 0 rfl
  have qo1_1 := blk_cell hxo1 1 rfl
  have qo1_2 := blk_cell hxo1 2 rfl
  have hlo1 := blk_lt hxo1
  by_cases hzv1 : lfv1 < 0
  · clear hqv1 hpv1
    go_wp2_with fail
    go_ret
    exact ⟨rfl, HB⟩
  replace hqv1 := hqv1 (by omega)
  have hbig0 : n0 ≤ 1048576 := by omega
  have HQv1 := Lib.hid hqv1; clear hqv1
  go_wp2_with fail
  go_region_held3 (fun w' => w'.cell? ⟨w.heap.size, 0, none⟩ = some (.int .i64 x1_0) ∧ w'.cell? ⟨w.heap.size, 1, none⟩ = some (.int .i64 x1_1) ∧ w'.cell? ⟨w.heap.size, 2, none⟩ = some (.int .i64 x1_2)) (first | exact ⟨qo1_0, qo1_1, qo1_2⟩ | go_keep) (first
    | (go_at_call 36
       refine (toInstrS_any _ _ _ _ (flatI ps) (by have h := (hr0.below HB (Nat.le_refl _)); first | exact h | exact h.below (below_new _ _) (Nat.le_refl _) | exact h.below (below_drew1 (below_new _ _)) (Nat.le_refl _)) (by omega)).mono ?_
       rintro e v2 ⟨Ao2, no2, co2, rfl, hoo2, hbv2⟩
       have hno2 : no2 ≤ 1048576 := by have h1 := hoo2.1; simp only [List.length_map] at h1; have h2 := HXL0.out; omega
       have hrgo2 := Lib.hid (rg_row hoo2)
       clear qo1_0 qo1_1 qo1_2 hlo1
       (try replace hbv2 := und1 hbv2)
       (try replace hbv2 := undN hbv2)
       replace hxo1 := blk_bel hxo1 hbv2
       replace HB := HB.trans (hbv2.mono HB.size)
       have hszv2 := hbv2.size
       have qo1_0 := blk_cell hxo1 0 rfl
       have qo1_1 := blk_cell hxo1 1 rfl
       have qo1_2 := blk_cell hxo1 2 rfl
       have hlo1 := blk_lt hxo1
       replace hrgo2 := Lib.hid (rg_lo hrgo2.out (lo := v1.heap.size + 0) (hi := v2.heap.size) (by first | exact Nat.le_refl _ | exact le_al1 | (simp; done) | (simp; omega)) (Nat.le_refl _))
       )
    | (go_at_call 37
       refine (toCounters_any _ x1_0 x1_1 x1_2).mono ?_
       rintro e v3 ⟨rfl, hbv3⟩
       clear qo1_0 qo1_1 qo1_2 hlo1
       (try replace hbv3 := und1 hbv3)
       (try replace hbv3 := undN hbv3)
       replace hoo2 := ownN_below hoo2 hbv3 (Nat.le_refl _)
       replace hxo1 := blk_bel hxo1 hbv3
       replace HB := HB.trans (hbv3.mono HB.size)
       have hszv3 := hbv3.size
       have qo1_0 := blk_cell hxo1 0 rfl
       have qo1_1 := blk_cell hxo1 1 rfl
       have qo1_2 := blk_cell hxo1 2 rfl
       have hlo1 := blk_lt hxo1
       )
    | (go_at_call 62
       refine (HS.out _ _ _ _ (by have h := (ownN_rd hoo2); first | exact h | exact h.below (below_new _ _) (Nat.le_refl _) | exact h.below (below_drew1 (below_new _ _)) (Nat.le_refl _)) (by omega) (ownN_cap hoo2)).mono ?_
       rintro e v4 ⟨Ao3, no3, co3, rfl, hoo3, hbv4⟩
       have hno3 : no3 ≤ 1000000 := by have h1 := hoo3.1; simp only [List.length_map] at h1; have h2 := HRLR0.out; omega
       have hrgo3 := Lib.hid (rg_row hoo3)
       clear qo1_0 qo1_1 qo1_2 hlo1
       (try replace hbv4 := und1 hbv4)
       (try replace hbv4 := undN hbv4)
       replace hoo2 := ownN_below hoo2 hbv4 (Nat.le_refl _)
       replace hxo1 := blk_bel hxo1 hbv4
       replace HB := HB.trans (hbv4.mono HB.size)
       have hszv4 := hbv4.size
       have qo1_0 := blk_cell hxo1 0 rfl
       have qo1_1 := blk_cell hxo1 1 rfl
       have qo1_2 := blk_cell hxo1 2 rfl
       have hlo1 := blk_lt hxo1
       replace hrgo3 := Lib.hid (rg_lo hrgo3.out (lo := v3.heap.size + 0) (hi := v4.heap.size) (by first | exact Nat.le_refl _ | exact le_al1 | (simp; done) | (simp; omega)) (Nat.le_refl _))
       )
    )
  go_wp2_with fail
  refine (toInstrS_any _ _ _ _ (flatI ps) (hr0.below HB (Nat.le_refl _)) (by omega)).mono ?_
  rintro e v5 ⟨Ao4, no4, co4, rfl, hoo4, hbv5⟩
  have hno4 : no4 ≤ 1048576 := by have h1 := hoo4.1; simp only [List.length_map] at h1; have h2 := HXL0.out; omega
  have hrgo4 := Lib.hid (rg_row hoo4)
  clear qo1_0 qo1_1 qo1_2 hlo1
  (try replace hbv5 := und1 hbv5)
  (try replace hbv5 := undN hbv5)
  replace hoo2 := ownN_below hoo2 hbv5 (Nat.le_refl _)
  replace hoo3 := ownN_below hoo3 hbv5 (Nat.le_refl _)
  replace hxo1 := blk_bel hxo1 hbv5
  replace HB := HB.trans (hbv5.mono HB.size)
  have hszv5 := hbv5.size
  have qo1_0 := blk_cell hxo1 0 rfl
  have qo1_1 := blk_cell hxo1 1 rfl
  have qo1_2 := blk_cell hxo1 2 rfl
  have hlo1 := blk_lt hxo1
  replace hrgo4 := Lib.hid (rg_lo hrgo4.out (lo := v4.heap.size + 0) (hi := v5.heap.size) (by first | exact Nat.le_refl _ | exact le_al1 | (simp; done) | (simp; omega)) (Nat.le_refl _))
  go_wp2_with fail
  refine (toCounters_any _ x1_0 x1_1 x1_2).mono ?_
  rintro e v6 ⟨rfl, hbv6⟩
  clear qo1_0 qo1_1 qo1_2 hlo1
  (try replace hbv6 := und1 hbv6)
  (try replace hbv6 := undN hbv6)
  replace hoo2 := ownN_below hoo2 hbv6 (Nat.le_refl _)
  replace hoo3 := ownN_below hoo3 hbv6 (Nat.le_refl _)
  replace hoo4 := ownN_below hoo4 hbv6 (Nat.le_refl _)
  replace hxo1 := blk_bel hxo1 hbv6
  replace HB := HB.trans (hbv6.mono HB.size)
  have hszv6 := hbv6.size
  have qo1_0 := blk_cell hxo1 0 rfl
  have qo1_1 := blk_cell hxo1 1 rfl
  have qo1_2 := blk_cell hxo1 2 rfl
  have hlo1 := blk_lt hxo1
  go_wp2_with fail
  refine (HI.out _ _ _ _ (ownN_rd hoo4) (by omega) (ownN_cap hoo4)).mono ?_
  rintro e v7 ⟨Ao5, no5, co5, rfl, hoo5, hbv7⟩
  have hno5 : no5 ≤ 1000000 := by have h1 := hoo5.1; simp only [List.length_map] at h1; have h2 := HRLR0.out; omega
  have hrgo5 := Lib.hid (rg_row hoo5)
  clear qo1_0 qo1_1 qo1_2 hlo1
  (try replace hbv7 := und1 hbv7)
  (try replace hbv7 := undN hbv7)
  replace hoo2 := ownN_below hoo2 hbv7 (Nat.le_refl _)
  replace hoo3 := ownN_below hoo3 hbv7 (Nat.le_refl _)
  replace hoo4 := ownN_below hoo4 hbv7 (Nat.le_refl _)
  replace hxo1 := blk_bel hxo1 hbv7
  replace HB := HB.trans (hbv7.mono HB.size)
  have hszv7 := hbv7.size
  have qo1_0 := blk_cell hxo1 0 rfl
  have qo1_1 := blk_cell hxo1 1 rfl
  have qo1_2 := blk_cell hxo1 2 rfl
  have hlo1 := blk_lt hxo1
  replace hrgo5 := Lib.hid (rg_lo hrgo5.out (lo := v6.heap.size + 0) (hi := v7.heap.size) (by first | exact Nat.le_refl _ | exact le_al1 | (simp; done) | (simp; omega)) (Nat.le_refl _))
  go_wp2_with fail
  refine (eqCountersS_same _ _ _ _ r0 (ownN_rd hoo5) (by omega) _ _ _ (ownN_rd hoo3)).mono ?_
  rintro e v8 ⟨rfl, hbv8⟩
  clear qo1_0 qo1_1 qo1_2 hlo1
  (try replace hbv8 := und1 hbv8)
  (try replace hbv8 := undN hbv8)
  replace hoo2 := ownN_below hoo2 hbv8 (Nat.le_refl _)
  replace hoo3 := ownN_below hoo3 hbv8 (Nat.le_refl _)
  replace hoo4 := ownN_below hoo4 hbv8 (Nat.le_refl _)
  replace hoo5 := ownN_below hoo5 hbv8 (Nat.le_refl _)
  replace hxo1 := blk_bel hxo1 hbv8
  replace HB := HB.trans (hbv8.mono HB.size)
  have hszv8 := hbv8.size
  have qo1_0 := blk_cell hxo1 0 rfl
  have qo1_1 := blk_cell hxo1 1 rfl
  have qo1_2 := blk_cell hxo1 2 rfl
  have hlo1 := blk_lt hxo1
  go_wp2_with fail
  refine (toInstrS_any _ _ _ _ (flatI ps) (hr0.below HB (Nat.le_refl _)) (by omega)).mono ?_
  rintro e v9 ⟨Ao6, no6, co6, rfl, hoo6, hbv9⟩
  have hno6 : no6 ≤ 1048576 := by have h1 := hoo6.1; simp only [List.length_map] at h1; have h2 := HXL0.out; omega
  have hrgo6 := Lib.hid (rg_row hoo6)
  clear qo1_0 qo1_1 qo1_2 hlo1
  (try replace hbv9 := und1 hbv9)
  (try replace hbv9 := undN hbv9)
  replace hoo2 := ownN_below hoo2 hbv9 (Nat.le_refl _)
  replace hoo3 := ownN_below hoo3 hbv9 (Nat.le_refl _)
  replace hoo4 := ownN_below hoo4 hbv9 (Nat.le_refl _)
  replace hoo5 := ownN_below hoo5 hbv9 (Nat.le_refl _)
  replace hxo1 := blk_bel hxo1 hbv9
  replace HB := HB.trans (hbv9.mono HB.size)
  have hszv9 := hbv9.size
  have qo1_0 := blk_cell hxo1 0 rfl
  have qo1_1 := blk_cell hxo1 1 rfl
  have qo1_2 := blk_cell hxo1 2 rfl
  have hlo1 := blk_lt hxo1
  replace hrgo6 := Lib.hid (rg_lo hrgo6.out (lo := v8.heap.size + 0) (hi := v9.heap.size) (by first | exact Nat.le_refl _ | exact le_al1 | (simp; done) | (simp; omega)) (Nat.le_refl _))
  go_wp2_with fail
  refine (eqInstrS_same _ _ _ _ (flatI ps) (ownN_rd hoo4) (by omega) _ _ _ (ownN_rd hoo6)).mono ?_
  rintro e v10 ⟨rfl, hbv10⟩
  clear qo1_0 qo1_1 qo1_2 hlo1
  (try replace hbv10 := und1 hbv10)
  (try replace hbv10 := undN hbv10)
  replace hoo2 := ownN_below hoo2 hbv10 (Nat.le_refl _)
  replace hoo3 := ownN_below hoo3 hbv10 (Nat.le_refl _)
  replace hoo4 := ownN_below hoo4 hbv10 (Nat.le_refl _)
  replace hoo5 := ownN_below hoo5 hbv10 (Nat.le_refl _)
  replace hoo6 := ownN_below hoo6 hbv10 (Nat.le_refl _)
  replace hxo1 := blk_bel hxo1 hbv10
  replace HB := HB.trans (hbv10.mono HB.size)
  have hszv10 := hbv10.size
  have qo1_0 := blk_cell hxo1 0 rfl
  have qo1_1 := blk_cell hxo1 1 rfl
  have qo1_2 := blk_cell hxo1 2 rfl
  have hlo1 := blk_lt hxo1
  go_wp2_with fail
  refine (markInstrS_any _ _ _ _ _ _ hoo4 (by omega)  (1) (by omega) (by omega)).mono ?_
  rintro e v11 ⟨rfl, hmo4, hCv11⟩
  clear qo1_0 qo1_1 qo1_2 hlo1
  replace hCv11 := ch_row hCv11
  replace hoo2 := own_ch hoo2 hCv11 (fun k h1 h2 => (by have := hrgo2.out k h1; have := hrgo4.out k h2; omega))
  replace hoo3 := own_ch hoo3 hCv11 (fun k h1 h2 => (by have := hrgo3.out k h1; have := hrgo4.out k h2; omega))
  replace hoo5 := own_ch hoo5 hCv11 (fun k h1 h2 => (by have := hrgo5.out k h1; have := hrgo4.out k h2; omega))
  replace hoo6 := own_ch hoo6 hCv11 (fun k h1 h2 => (by have := hrgo6.out k h1; have := hrgo4.out k h2; omega))
  replace hxo1 := blk_ch hxo1 hCv11 (fun h => by have := hrgo4.out _ h; omega)
  replace HB := below_ch HB hCv11 (fun k h => by have := hrgo4.out k h; omega) HB.size
  replace hoo4 := hmo4
  have hszv11 := hCv11.size
  have qo1_0 := blk_cell hxo1 0 rfl
  have qo1_1 := blk_cell hxo1 1 rfl
  have qo1_2 := blk_cell hxo1 2 rfl
  have hlo1 := blk_lt hxo1
  go_wp2_with fail
  refine (eqCountersS_same _ _ _ _ r0 (ownN_rd hoo5) (by omega) _ _ _ (ownN_rd hoo3)).mono ?_
  rintro e v12 ⟨rfl, hbv12⟩
  clear qo1_0 qo1_1 qo1_2 hlo1
  (try replace hbv12 := und1 hbv12)
  (try replace hbv12 := undN hbv12)
  replace hoo2 := ownN_below hoo2 hbv12 (Nat.le_refl _)
  replace hoo3 := ownN_below hoo3 hbv12 (Nat.le_refl _)
  replace hoo4 := ownN_below hoo4 hbv12 (Nat.le_refl _)
  replace hoo5 := ownN_below hoo5 hbv12 (Nat.le_refl _)
  replace hoo6 := ownN_below hoo6 hbv12 (Nat.le_refl _)
  replace hxo1 := blk_bel hxo1 hbv12
  replace HB := HB.trans (hbv12.mono HB.size)
  have hszv12 := hbv12.size
  have qo1_0 := blk_cell hxo1 0 rfl
  have qo1_1 := blk_cell hxo1 1 rfl
  have qo1_2 := blk_cell hxo1 2 rfl
  have hlo1 := blk_lt hxo1
  go_wp2_with fail
  refine (markCountersS_any _ _ _ _ _ _ hoo5 (by omega)  (1) (by omega) (by omega)).mono ?_
  rintro e v13 ⟨rfl, hmo5, hCv13⟩
  clear qo1_0 qo1_1 qo1_2 hlo1
  replace hCv13 := ch_row hCv13
  replace hoo2 := own_ch hoo2 hCv13 (fun k h1 h2 => (by have := hrgo2.out k h1; have := hrgo5.out k h2; omega))
  replace hoo3 := own_ch hoo3 hCv13 (fun k h1 h2 => (by have := hrgo3.out k h1; have := hrgo5.out k h2; omega))
  replace hoo4 := own_ch hoo4 hCv13 (fun k h1 h2 => (by have := hrgo4.out k h1; have := hrgo5.out k h2; omega))
  replace hoo6 := own_ch hoo6 hCv13 (fun k h1 h2 => (by have := hrgo6.out k h1; have := hrgo5.out k h2; omega))
  replace hxo1 := blk_ch hxo1 hCv13 (fun h => by have := hrgo5.out _ h; omega)
  replace HB := below_ch HB hCv13 (fun k h => by have := hrgo5.out k h; omega) HB.size
  replace hoo5 := hmo5
  have hszv13 := hCv13.size
  have qo1_0 := blk_cell hxo1 0 rfl
  have qo1_1 := blk_cell hxo1 1 rfl
  have qo1_2 := blk_cell hxo1 2 rfl
  have hlo1 := blk_lt hxo1
  go_wp2_with fail
  refine (heldCountersS_any _ _ _ _ (1) (ownN_rd hoo5) (by omega) (by omega) (by omega)).mono ?_
  rintro e v14 ⟨rfl, hbv14⟩
  clear qo1_0 qo1_1 qo1_2 hlo1
  (try replace hbv14 := und1 hbv14)
  (try replace hbv14 := undN hbv14)
  replace hoo2 := ownN_below hoo2 hbv14 (Nat.le_refl _)
  replace hoo3 := ownN_below hoo3 hbv14 (Nat.le_refl _)
  replace hoo4 := ownN_below hoo4 hbv14 (Nat.le_refl _)
  replace hoo5 := ownN_below hoo5 hbv14 (Nat.le_refl _)
  replace hoo6 := ownN_below hoo6 hbv14 (Nat.le_refl _)
  replace hxo1 := blk_bel hxo1 hbv14
  replace HB := HB.trans (hbv14.mono HB.size)
  have hszv14 := hbv14.size
  have qo1_0 := blk_cell hxo1 0 rfl
  have qo1_1 := blk_cell hxo1 1 rfl
  have qo1_2 := blk_cell hxo1 2 rfl
  have hlo1 := blk_lt hxo1
  go_wp2_with fail
  go_region_held3 (fun w' => w'.cell? ⟨w.heap.size, 0, none⟩ = some (.int .i64 x1_0) ∧ w'.cell? ⟨w.heap.size, 1, none⟩ = some (.int .i64 x1_1) ∧ w'.cell? ⟨w.heap.size, 2, none⟩ = some (.int .i64 x1_2)) (first | exact ⟨qo1_0, qo1_1, qo1_2⟩ | go_keep) (first
    | (go_at_call 36
       refine (toInstrS_any _ _ _ _ (flatI ps) (by have h := (hr0.below HB (Nat.le_refl _)); first | exact h | exact h.below (below_new _ _) (Nat.le_refl _) | exact h.below (below_drew1 (below_new _ _)) (Nat.le_refl _)) (by omega)).mono ?_
       rintro e v15 ⟨Ao7, no7, co7, rfl, hoo7, hbv15⟩
       have hno7 : no7 ≤ 1048576 := by have h1 := hoo7.1; simp only [List.length_map] at h1; have h2 := HXL0.out; omega
       have hrgo7 := Lib.hid (rg_row hoo7)
       clear qo1_0 qo1_1 qo1_2 hlo1
       (try replace hbv15 := und1 hbv15)
       (try replace hbv15 := undN hbv15)
       replace hoo2 := ownN_below hoo2 hbv15 (Nat.le_refl _)
       replace hoo3 := ownN_below hoo3 hbv15 (Nat.le_refl _)
       replace hoo4 := ownN_below hoo4 hbv15 (Nat.le_refl _)
       replace hoo5 := ownN_below hoo5 hbv15 (Nat.le_refl _)
       replace hoo6 := ownN_below hoo6 hbv15 (Nat.le_refl _)
       replace hxo1 := blk_bel hxo1 hbv15
       replace HB := HB.trans (hbv15.mono HB.size)
       have hszv15 := hbv15.size
       have qo1_0 := blk_cell hxo1 0 rfl
       have qo1_1 := blk_cell hxo1 1 rfl
       have qo1_2 := blk_cell hxo1 2 rfl
       have hlo1 := blk_lt hxo1
       replace hrgo7 := Lib.hid (rg_lo hrgo7.out (lo := v14.heap.size + 0) (hi := v15.heap.size) (by first | exact Nat.le_refl _ | exact le_al1 | (simp; done) | (simp; omega)) (Nat.le_refl _))
       )
    | (go_at_call 37
       refine (toCounters_any _ x1_0 x1_1 x1_2).mono ?_
       rintro e v16 ⟨rfl, hbv16⟩
       clear qo1_0 qo1_1 qo1_2 hlo1
       (try replace hbv16 := und1 hbv16)
       (try replace hbv16 := undN hbv16)
       replace hoo2 := ownN_below hoo2 hbv16 (Nat.le_refl _)
       replace hoo3 := ownN_below hoo3 hbv16 (Nat.le_refl _)
       replace hoo4 := ownN_below hoo4 hbv16 (Nat.le_refl _)
       replace hoo5 := ownN_below hoo5 hbv16 (Nat.le_refl _)
       replace hoo6 := ownN_below hoo6 hbv16 (Nat.le_refl _)
       replace hoo7 := ownN_below hoo7 hbv16 (Nat.le_refl _)
       replace hxo1 := blk_bel hxo1 hbv16
       replace HB := HB.trans (hbv16.mono HB.size)
       have hszv16 := hbv16.size
       have qo1_0 := blk_cell hxo1 0 rfl
       have qo1_1 := blk_cell hxo1 1 rfl
       have qo1_2 := blk_cell hxo1 2 rfl
       have hlo1 := blk_lt hxo1
       )
    | (go_at_call 63
       refine (HI.out _ _ _ _ (by have h := (ownN_rd hoo7); first | exact h | exact h.below (below_new _ _) (Nat.le_refl _) | exact h.below (below_drew1 (below_new _ _)) (Nat.le_refl _)) (by omega) (ownN_cap hoo7)).mono ?_
       rintro e v17 ⟨Ao8, no8, co8, rfl, hoo8, hbv17⟩
       have hno8 : no8 ≤ 1000000 := by have h1 := hoo8.1; simp only [List.length_map] at h1; have h2 := HRLR0.out; omega
       have hrgo8 := Lib.hid (rg_row hoo8)
       clear qo1_0 qo1_1 qo1_2 hlo1
       (try replace hbv17 := und1 hbv17)
       (try replace hbv17 := undN hbv17)
       replace hoo2 := ownN_below hoo2 hbv17 (Nat.le_refl _)
       replace hoo3 := ownN_below hoo3 hbv17 (Nat.le_refl _)
       replace hoo4 := ownN_below hoo4 hbv17 (Nat.le_refl _)
       replace hoo5 := ownN_below hoo5 hbv17 (Nat.le_refl _)
       replace hoo6 := ownN_below hoo6 hbv17 (Nat.le_refl _)
       replace hoo7 := ownN_below hoo7 hbv17 (Nat.le_refl _)
       replace hxo1 := blk_bel hxo1 hbv17
       replace HB := HB.trans (hbv17.mono HB.size)
       have hszv17 := hbv17.size
       have qo1_0 := blk_cell hxo1 0 rfl
       have qo1_1 := blk_cell hxo1 1 rfl
       have qo1_2 := blk_cell hxo1 2 rfl
       have hlo1 := blk_lt hxo1
       replace hrgo8 := Lib.hid (rg_lo hrgo8.out (lo := v16.heap.size + 0) (hi := v17.heap.size) (by first | exact Nat.le_refl _ | exact le_al1 | (simp; done) | (simp; omega)) (Nat.le_refl _))
       )
    )
  go_wp2_with fail
  refine (eqCountersS_same _ _ _ _ r0 (ownN_rd hoo8) (by omega) _ _ _ (ownN_rd hoo3)).mono ?_
  rintro e v18 ⟨rfl, hbv18⟩
  clear qo1_0 qo1_1 qo1_2 hlo1
  (try replace hbv18 := und1 hbv18)
  (try replace hbv18 := undN hbv18)
  replace hoo2 := ownN_below hoo2 hbv18 (Nat.le_refl _)
  replace hoo3 := ownN_below hoo3 hbv18 (Nat.le_refl _)
  replace hoo4 := ownN_below hoo4 hbv18 (Nat.le_refl _)
  replace hoo5 := ownN_below hoo5 hbv18 (Nat.le_refl _)
  replace hoo6 := ownN_below hoo6 hbv18 (Nat.le_refl _)
  replace hoo7 := ownN_below hoo7 hbv18 (Nat.le_refl _)
  replace hoo8 := ownN_below hoo8 hbv18 (Nat.le_refl _)
  replace hxo1 := blk_bel hxo1 hbv18
  replace HB := HB.trans (hbv18.mono HB.size)
  have hszv18 := hbv18.size
  have qo1_0 := blk_cell hxo1 0 rfl
  have qo1_1 := blk_cell hxo1 1 rfl
  have qo1_2 := blk_cell hxo1 2 rfl
  have hlo1 := blk_lt hxo1
  go_wp2_with fail
  refine (heldCountersS_any _ _ _ _ (1) (ownN_rd hoo5) (by omega) (by omega) (by omega)).mono ?_
  rintro e v19 ⟨rfl, hbv19⟩
  clear qo1_0 qo1_1 qo1_2 hlo1
  (try replace hbv19 := und1 hbv19)
  (try replace hbv19 := undN hbv19)
  replace hoo2 := ownN_below hoo2 hbv19 (Nat.le_refl _)
  replace hoo3 := ownN_below hoo3 hbv19 (Nat.le_refl _)
  replace hoo4 := ownN_below hoo4 hbv19 (Nat.le_refl _)
  replace hoo5 := ownN_below hoo5 hbv19 (Nat.le_refl _)
  replace hoo6 := ownN_below hoo6 hbv19 (Nat.le_refl _)
  replace hoo7 := ownN_below hoo7 hbv19 (Nat.le_refl _)
  replace hoo8 := ownN_below hoo8 hbv19 (Nat.le_refl _)
  replace hxo1 := blk_bel hxo1 hbv19
  replace HB := HB.trans (hbv19.mono HB.size)
  have hszv19 := hbv19.size
  have qo1_0 := blk_cell hxo1 0 rfl
  have qo1_1 := blk_cell hxo1 1 rfl
  have qo1_2 := blk_cell hxo1 2 rfl
  have hlo1 := blk_lt hxo1
  go_wp2_with fail
  go_ret
  first | exact ⟨rfl, HB⟩ | exact ⟨rfl, below_drewN HB⟩
end Go.Proofs.Ytbecofpklndpaaa
