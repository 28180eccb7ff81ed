/- The law on EmptyMachine. Written by genlaw5.py. -/
import Derived.Test.YtbecofpklndpaaaEmp2
import Derived.Test.YtbecofpklndpaaaLawMachine
namespace Go.Proofs.Ytbecofpklndpaaa
open Go.RowKit
set_option linter.unusedVariables false
set_option linter.unusedSimpArgs false
set_option maxHeartbeats 16000000 in
set_option maxRecDepth 100000 in
theorem lawEmptyMachine (w : World) (x0 : Int) (x1 : Int) :
    Calls Try.prog 5 #[.int .i64 x0, .int .i64 x1] w fun e w' => e = .returned (.bool true) ∧ Below w.heap.size w w' := by
  have hS : ∀ (w : World), Calls Try.prog 25 #[.int .i64 x0, .int .i64 x1] w (fun e w' => ∃ (AR2 : Option Addr) (nR2 cR2 : Nat), e = .returned (.tuple #[.agg #[.int .i64 (emS x0 x1), .int .i64 (emA x0 x1), .slice AR2 nR2 cR2], .int .i64 (emC x0 x1)]) ∧ w'.ownsRow w.heap.size 214 3 (.slice AR2 nR2 cR2) nR2 (ints (emR x0 x1)) ∧ Below w.heap.size w w') := fun w => specEmptyMachine_any w x0 x1
  have hI : ∀ (w : World), Calls Try.prog 26 #[.int .i64 x0, .int .i64 x1] w (fun e w' => ∃ (AR2 : Option Addr) (nR2 cR2 : Nat), e = .returned (.tuple #[.agg #[.int .i64 (emS x0 x1), .int .i64 (emA x0 x1), .slice AR2 nR2 cR2], .int .i64 (emC x0 x1)]) ∧ w'.ownsRow w.heap.size 214 3 (.slice AR2 nR2 cR2) nR2 (ints (emR x0 x1)) ∧ Below w.heap.size w w') := fun w => implEmptyMachine_any w x0 x1
  have HRLR2 : Hid ((emR x0 x1).length ≤ 1000000) := Lib.hid (emR_len _ _)
  have HS := Lib.hid hS; have HI := Lib.hid hI
  clear hS hI
  generalize emS x0 x1 = r0 at HS HI 
  generalize emA x0 x1 = r1 at HS HI 
  generalize emR x0 x1 = r2 at HS HI HRLR2
  generalize emC x0 x1 = r3 at HS HI 
  have HB := Below.refl w.heap.size w
  go_enter Try.func5, Try.ntmps5
  go_wp2_with fail
  refine (HS.out _).mono ?_
  rintro e v1 ⟨Ao1, no1, co1, rfl, hoo1, hbv1⟩
  have hno1 : no1 ≤ 1000000 := by have h1 := hoo1.1; simp only [List.length_map] at h1; have h2 := HRLR2.out; omega
  have hrgo1 := Lib.hid (rg_row hoo1)
  (try replace hbv1 := und1 hbv1)
  (try replace hbv1 := undN hbv1)
  replace HB := HB.trans (hbv1.mono HB.size)
  have hszv1 := hbv1.size
  replace hrgo1 := Lib.hid (rg_lo hrgo1.out (lo := w.heap.size + 0) (hi := v1.heap.size) (by first | exact Nat.le_refl _ | exact le_al1 | (simp; done) | (simp; omega)) (Nat.le_refl _))
  go_wp2_with fail
  refine (HI.out _).mono ?_
  rintro e v2 ⟨Ao3, no3, co3, rfl, hoo3, hbv2⟩
  have hno3 : no3 ≤ 1000000 := by have h1 := hoo3.1; simp only [List.length_map] at h1; have h2 := HRLR2.out; omega
  have hrgo3 := Lib.hid (rg_row hoo3)
  (try replace hbv2 := und1 hbv2)
  (try replace hbv2 := undN hbv2)
  obtain ⟨hbv2b, hxo2, hso2⟩ := box_step hbv2
  (try simp only [World.size_alloc] at hxo2 hso2)
  replace hoo1 := ownN_below hoo1 hbv2b (Nat.le_refl _)
  replace HB := HB.trans (hbv2b.mono HB.size)
  have hszv2 := hbv2b.size
  have qo2_0 := blk_cell hxo2 0 rfl
  have qo2_1 := blk_cell hxo2 1 rfl
  have qo2_2 := blk_cell hxo2 2 rfl
  have hlo2 := blk_lt hxo2
  replace hrgo3 := Lib.hid (rg_lo hrgo3.out (lo := v1.heap.size + 1) (hi := v2.heap.size) (by first | exact Nat.le_refl _ | exact le_al1 | (simp; done) | (simp; omega)) (Nat.le_refl _))
  go_wp2_with fail
  refine (eqMachine_same _ _ _ _ _ _ r2 ((ownN_rd hoo3).below (below_new _ _) (Nat.le_refl _)) (by omega) _ _ _ ((ownN_rd hoo1).below (below_new _ _) (Nat.le_refl _))).mono ?_
  rintro e v3 ⟨rfl, hbv3⟩
  clear qo2_0 qo2_1 qo2_2 hlo2
  (try replace hbv3 := und1 hbv3)
  (try replace hbv3 := undN hbv3)
  obtain ⟨hbv3b, hxo4, hso4⟩ := box_step hbv3
  (try simp only [World.size_alloc] at hxo4 hso4)
  replace hoo1 := ownN_below hoo1 hbv3b (Nat.le_refl _)
  replace hoo3 := ownN_below hoo3 hbv3b (Nat.le_refl _)
  replace hxo2 := blk_bel hxo2 hbv3b
  replace HB := HB.trans (hbv3b.mono HB.size)
  have hszv3 := hbv3b.size
  have qo2_0 := blk_cell hxo2 0 rfl
  have qo2_1 := blk_cell hxo2 1 rfl
  have qo2_2 := blk_cell hxo2 2 rfl
  have hlo2 := blk_lt hxo2
  have qo4_0 := blk_cell hxo4 0 rfl
  have qo4_1 := blk_cell hxo4 1 rfl
  have qo4_2 := blk_cell hxo4 2 rfl
  have hlo4 := blk_lt hxo4
  go_wp2_with fail
  refine (markMachine_any _ _ _ _ _ _ _ _ hoo3 (by omega)  (1) (by omega) (by omega)).mono ?_
  rintro e v4 ⟨rfl, hmo3, hCv4⟩
  clear qo2_0 qo2_1 qo2_2 qo4_0 qo4_1 qo4_2 hlo2 hlo4
  replace hoo1 := own_ch hoo1 hCv4 (fun k h1 h2 => (by have := hrgo1.out k h1; have := hrgo3.out k h2; omega))
  replace hxo2 := blk_ch hxo2 hCv4 (fun h => by have := hrgo3.out _ h; omega)
  replace hxo4 := blk_ch hxo4 hCv4 (fun h => by have := hrgo3.out _ h; omega)
  replace HB := below_ch HB hCv4 (fun k h => by have := hrgo3.out k h; omega) HB.size
  replace hoo3 := hmo3
  have hszv4 := hCv4.size
  have qo2_0 := blk_cell hxo2 0 rfl
  have qo2_1 := blk_cell hxo2 1 rfl
  have qo2_2 := blk_cell hxo2 2 rfl
  have hlo2 := blk_lt hxo2
  have qo4_0 := blk_cell hxo4 0 rfl
  have qo4_1 := blk_cell hxo4 1 rfl
  have qo4_2 := blk_cell hxo4 2 rfl
  have hlo4 := blk_lt hxo4
  go_wp2_with fail
  refine (heldMachine_any _ _ _ _ _ _ (1) (ownN_rd hoo3) (by omega) (by omega) (by omega)).mono ?_
  rintro e v5 ⟨rfl, hbv5⟩
  clear qo2_0 qo2_1 qo2_2 qo4_0 qo4_1 qo4_2 hlo2 hlo4
  (try replace hbv5 := und1 hbv5)
  (try replace hbv5 := undN hbv5)
  replace hoo1 := ownN_below hoo1 hbv5 (Nat.le_refl _)
  replace hoo3 := ownN_below hoo3 hbv5 (Nat.le_refl _)
  replace hxo2 := blk_bel hxo2 hbv5
  replace hxo4 := blk_bel hxo4 hbv5
  replace HB := HB.trans (hbv5.mono HB.size)
  have hszv5 := hbv5.size
  have qo2_0 := blk_cell hxo2 0 rfl
  have qo2_1 := blk_cell hxo2 1 rfl
  have qo2_2 := blk_cell hxo2 2 rfl
  have hlo2 := blk_lt hxo2
  have qo4_0 := blk_cell hxo4 0 rfl
  have qo4_1 := blk_cell hxo4 1 rfl
  have qo4_2 := blk_cell hxo4 2 rfl
  have hlo4 := blk_lt hxo4
  go_wp2_with fail
  refine (HI.out _).mono ?_
  rintro e v6 ⟨Ao5, no5, co5, rfl, hoo5, hbv6⟩
  have hno5 : no5 ≤ 1000000 := by have h1 := hoo5.1; simp only [List.length_map] at h1; have h2 := HRLR2.out; omega
  have hrgo5 := Lib.hid (rg_row hoo5)
  clear qo2_0 qo2_1 qo2_2 qo4_0 qo4_1 qo4_2 hlo2 hlo4
  (try replace hbv6 := und1 hbv6)
  (try replace hbv6 := undN hbv6)
  replace hoo1 := ownN_below hoo1 hbv6 (Nat.le_refl _)
  replace hoo3 := ownN_below hoo3 hbv6 (Nat.le_refl _)
  replace hxo2 := blk_bel hxo2 hbv6
  replace hxo4 := blk_bel hxo4 hbv6
  replace HB := HB.trans (hbv6.mono HB.size)
  have hszv6 := hbv6.size
  have qo2_0 := blk_cell hxo2 0 rfl
  have qo2_1 := blk_cell hxo2 1 rfl
  have qo2_2 := blk_cell hxo2 2 rfl
  have hlo2 := blk_lt hxo2
  have qo4_0 := blk_cell hxo4 0 rfl
  have qo4_1 := blk_cell hxo4 1 rfl
  have qo4_2 := blk_cell hxo4 2 rfl
  have hlo4 := blk_lt hxo4
  replace hrgo5 := Lib.hid (rg_lo hrgo5.out (lo := v5.heap.size + 0) (hi := v6.heap.size) (by first | exact Nat.le_refl _ | exact le_al1 | (simp; done) | (simp; omega)) (Nat.le_refl _))
  go_wp2_with fail
  refine (eqMachine_same _ _ _ _ _ _ r2 ((ownN_rd hoo5).below (below_new _ _) (Nat.le_refl _)) (by omega) _ _ _ ((ownN_rd hoo1).below (below_new _ _) (Nat.le_refl _))).mono ?_
  rintro e v7 ⟨rfl, hbv7⟩
  clear qo2_0 qo2_1 qo2_2 qo4_0 qo4_1 qo4_2 hlo2 hlo4
  (try replace hbv7 := und1 hbv7)
  (try replace hbv7 := undN hbv7)
  obtain ⟨hbv7b, hxo6, hso6⟩ := box_step hbv7
  (try simp only [World.size_alloc] at hxo6 hso6)
  replace hoo1 := ownN_below hoo1 hbv7b (Nat.le_refl _)
  replace hoo3 := ownN_below hoo3 hbv7b (Nat.le_refl _)
  replace hoo5 := ownN_below hoo5 hbv7b (Nat.le_refl _)
  replace hxo2 := blk_bel hxo2 hbv7b
  replace hxo4 := blk_bel hxo4 hbv7b
  replace HB := HB.trans (hbv7b.mono HB.size)
  have hszv7 := hbv7b.size
  have qo2_0 := blk_cell hxo2 0 rfl
  have qo2_1 := blk_cell hxo2 1 rfl
  have qo2_2 := blk_cell hxo2 2 rfl
  have hlo2 := blk_lt hxo2
  have qo4_0 := blk_cell hxo4 0 rfl
  have qo4_1 := blk_cell hxo4 1 rfl
  have qo4_2 := blk_cell hxo4 2 rfl
  have hlo4 := blk_lt hxo4
  have qo6_0 := blk_cell hxo6 0 rfl
  have qo6_1 := blk_cell hxo6 1 rfl
  have qo6_2 := blk_cell hxo6 2 rfl
  have hlo6 := blk_lt hxo6
  go_wp2_with fail
  refine (heldMachine_any _ _ _ _ _ _ (1) (ownN_rd hoo3) (by omega) (by omega) (by omega)).mono ?_
  rintro e v8 ⟨rfl, hbv8⟩
  clear qo2_0 qo2_1 qo2_2 qo4_0 qo4_1 qo4_2 qo6_0 qo6_1 qo6_2 hlo2 hlo4 hlo6
  (try replace hbv8 := und1 hbv8)
  (try replace hbv8 := undN hbv8)
  replace hoo1 := ownN_below hoo1 hbv8 (Nat.le_refl _)
  replace hoo3 := ownN_below hoo3 hbv8 (Nat.le_refl _)
  replace hoo5 := ownN_below hoo5 hbv8 (Nat.le_refl _)
  replace hxo2 := blk_bel hxo2 hbv8
  replace hxo4 := blk_bel hxo4 hbv8
  replace hxo6 := blk_bel hxo6 hbv8
  replace HB := HB.trans (hbv8.mono HB.size)
  have hszv8 := hbv8.size
  have qo2_0 := blk_cell hxo2 0 rfl
  have qo2_1 := blk_cell hxo2 1 rfl
  have qo2_2 := blk_cell hxo2 2 rfl
  have hlo2 := blk_lt hxo2
  have qo4_0 := blk_cell hxo4 0 rfl
  have qo4_1 := blk_cell hxo4 1 rfl
  have qo4_2 := blk_cell hxo4 2 rfl
  have hlo4 := blk_lt hxo4
  have qo6_0 := blk_cell hxo6 0 rfl
  have qo6_1 := blk_cell hxo6 1 rfl
  have qo6_2 := blk_cell hxo6 2 rfl
  have hlo6 := blk_lt hxo6
  go_wp2_with fail
  go_ret
  first | exact ⟨rfl, HB⟩ | exact ⟨rfl, below_drewN HB⟩
end Go.Proofs.Ytbecofpklndpaaa
