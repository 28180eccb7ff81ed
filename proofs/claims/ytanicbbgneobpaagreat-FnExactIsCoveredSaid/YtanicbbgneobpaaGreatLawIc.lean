/- The law on IsCovered. Written by genlaw5.py. -/
import Derived.Test.YtanicbbgneobpaaGreatIc
import Derived.Test.YtanicbbgneobpaaGreatIj
import Derived.Test.YtanicbbgneobpaaGreatGC
import Derived.Test.YtanicbbgneobpaaGreatGD
namespace Go.Proofs.YtanicbbgneobpaaGreat
open Go.RowKit
set_option linter.unusedVariables false
set_option linter.unusedSimpArgs false
set_option maxHeartbeats 16000000 in
set_option maxRecDepth 100000 in
theorem lawIsCovered (w : World) (x0_0 : Int) (x0_1 : Int) (A0_2 : Option Addr) (n0_2 c0_2 : Nat) (x0_2 : List Int) (hr0_2 : Rd w A0_2 (n0_2 * 3) (ints x0_2)) (hnn0_2 : n0_2 ≤ 9223372036854775807) (x1_0 : Int) (A1_1 : Option Addr) (n1_1 c1_1 : Nat) (x1_1 : List Int) (hr1_1 : Rd w A1_1 n1_1 (ints x1_1)) (hnn1_1 : n1_1 ≤ 9223372036854775807) (A1_2 : Option Addr) (n1_2 c1_2 : Nat) (x1_2 : List (List Int)) (hw1_2 : RdW w A1_2 n1_2 x1_2) (hnn1_2 : n1_2 ≤ 9223372036854775807) (x2_0 : Int) (A2_1 : Option Addr) (n2_1 c2_1 : Nat) (x2_1 : List Int) (hr2_1 : Rd w A2_1 n2_1 (ints x2_1)) (hnn2_1 : n2_1 ≤ 9223372036854775807) (A2_2 : Option Addr) (n2_2 c2_2 : Nat) (x2_2 : List Int) (hr2_2 : Rd w A2_2 n2_2 (ints x2_2)) (hnn2_2 : n2_2 ≤ 9223372036854775807) :
    Calls Tryz.prog 3 #[.agg #[.int .i64 x0_0, .int .i64 x0_1, .slice A0_2 n0_2 c0_2], .agg #[.int .i64 x1_0, .slice A1_1 n1_1 c1_1, .slice A1_2 n1_2 c1_2], .agg #[.int .i64 x2_0, .slice A2_1 n2_1 c2_1, .slice A2_2 n2_2 c2_2]] w fun e w' => e = .returned (.bool true) ∧ Below w.heap.size w w' := by
  obtain ⟨rs, rfl, hps⟩ := unflatR n0_2 x0_2 (by simpa using hr0_2.1)
  have HPS := Lib.hid hps; clear hps
  have hS : ∀ (w : World) (A0_2 : Option Addr) (n0_2 c0_2 : Nat) (h0_2 : Rd w A0_2 (n0_2 * 3) (ints (flatR rs))) (hn0_2 : n0_2 ≤ 1000000000) (hcp0_2 : n0_2 ≤ c0_2) (A1_1 : Option Addr) (n1_1 c1_1 : Nat) (h1_1 : Rd w A1_1 n1_1 (ints x1_1)) (hn1_1 : n1_1 ≤ 1000000000) (hcp1_1 : n1_1 ≤ c1_1) (A1_2 : Option Addr) (n1_2 c1_2 : Nat) (h1_2 : RdL w A1_2 n1_2 x1_2) (hn1_2 : n1_2 ≤ 1000000000) (hcp1_2 : n1_2 ≤ c1_2) (A2_1 : Option Addr) (n2_1 c2_1 : Nat) (h2_1 : Rd w A2_1 n2_1 (ints x2_1)) (hn2_1 : n2_1 ≤ 1000000000) (hcp2_1 : n2_1 ≤ c2_1) (A2_2 : Option Addr) (n2_2 c2_2 : Nat) (h2_2 : Rd w A2_2 n2_2 (ints x2_2)) (hn2_2 : n2_2 ≤ 1000000000) (hcp2_2 : n2_2 ≤ c2_2), Calls Tryz.prog 9 #[.agg #[.int .i64 x0_0, .int .i64 x0_1, .slice A0_2 n0_2 c0_2], .agg #[.int .i64 x1_0, .slice A1_1 n1_1 c1_1, .slice A1_2 n1_2 c1_2], .agg #[.int .i64 x2_0, .slice A2_1 n2_1 c2_1, .slice A2_2 n2_2 c2_2]] w (fun e w' => e = .returned (.bool ((icB x0_0 x0_1 rs x1_0 x1_1 x1_2 x2_0 x2_1 x2_2))) ∧ Below w.heap.size w w') := fun w A0_2 n0_2 c0_2 h0_2 hn0_2 hcp0_2 A1_1 n1_1 c1_1 h1_1 hn1_1 hcp1_1 A1_2 n1_2 c1_2 h1_2 hn1_2 hcp1_2 A2_1 n2_1 c2_1 h2_1 hn2_1 hcp2_1 A2_2 n2_2 c2_2 h2_2 hn2_2 hcp2_2 => specIsCovered_any w x0_0 x0_1 A0_2 n0_2 c0_2 rs h0_2 (by omega) x1_0 A1_1 n1_1 c1_1 x1_1 h1_1 hn1_1 hcp1_1 A1_2 n1_2 c1_2 x1_2 h1_2 hn1_2  x2_0 A2_1 n2_1 c2_1 x2_1 h2_1 hn2_1 A2_2 n2_2 c2_2 x2_2 h2_2 hn2_2 
  have hI : ∀ (w : World) (A0_2 : Option Addr) (n0_2 c0_2 : Nat) (h0_2 : Rd w A0_2 (n0_2 * 3) (ints (flatR rs))) (hn0_2 : n0_2 ≤ 1000000000) (hcp0_2 : n0_2 ≤ c0_2) (A1_1 : Option Addr) (n1_1 c1_1 : Nat) (h1_1 : Rd w A1_1 n1_1 (ints x1_1)) (hn1_1 : n1_1 ≤ 1000000000) (hcp1_1 : n1_1 ≤ c1_1) (A1_2 : Option Addr) (n1_2 c1_2 : Nat) (h1_2 : RdL w A1_2 n1_2 x1_2) (hn1_2 : n1_2 ≤ 1000000000) (hcp1_2 : n1_2 ≤ c1_2) (A2_1 : Option Addr) (n2_1 c2_1 : Nat) (h2_1 : Rd w A2_1 n2_1 (ints x2_1)) (hn2_1 : n2_1 ≤ 1000000000) (hcp2_1 : n2_1 ≤ c2_1) (A2_2 : Option Addr) (n2_2 c2_2 : Nat) (h2_2 : Rd w A2_2 n2_2 (ints x2_2)) (hn2_2 : n2_2 ≤ 1000000000) (hcp2_2 : n2_2 ≤ c2_2), Calls Tryz.prog 13 #[.agg #[.int .i64 x0_0, .int .i64 x0_1, .slice A0_2 n0_2 c0_2], .agg #[.int .i64 x1_0, .slice A1_1 n1_1 c1_1, .slice A1_2 n1_2 c1_2], .agg #[.int .i64 x2_0, .slice A2_1 n2_1 c2_1, .slice A2_2 n2_2 c2_2]] w (fun e w' => e = .returned (.bool ((icB x0_0 x0_1 rs x1_0 x1_1 x1_2 x2_0 x2_1 x2_2))) ∧ Below w.heap.size w w') := fun w A0_2 n0_2 c0_2 h0_2 hn0_2 hcp0_2 A1_1 n1_1 c1_1 h1_1 hn1_1 hcp1_1 A1_2 n1_2 c1_2 h1_2 hn1_2 hcp1_2 A2_1 n2_1 c2_1 h2_1 hn2_1 hcp2_1 A2_2 n2_2 c2_2 h2_2 hn2_2 hcp2_2 => implIsCovered_any w x0_0 x0_1 A0_2 n0_2 c0_2 rs h0_2 (by omega) x1_0 A1_1 n1_1 c1_1 x1_1 h1_1 hn1_1 hcp1_1 A1_2 n1_2 c1_2 x1_2 h1_2 hn1_2 hcp1_2 x2_0 A2_1 n2_1 c2_1 x2_1 h2_1 hn2_1 A2_2 n2_2 c2_2 x2_2 h2_2 hn2_2 hcp2_2
  have HS := Lib.hid hS; have HI := Lib.hid hI
  clear hS hI
  generalize (icB x0_0 x0_1 rs x1_0 x1_1 x1_2 x2_0 x2_1 x2_2) = r0 at HS HI 
  have HXL0_2 : Hid (((flatR rs)).length = n0_2 * 3) := Lib.hid (by have := hr0_2.1; simp at this; omega)
  have HXL1_1 : Hid ((x1_1).length = n1_1 * 1) := Lib.hid (by have := hr1_1.1; simp at this; omega)
  have HXL1_2 : Hid ((x1_2).length = n1_2) := Lib.hid hw1_2.len
  have HXL2_1 : Hid ((x2_1).length = n2_1 * 1) := Lib.hid (by have := hr2_1.1; simp at this; omega)
  have HXL2_2 : Hid ((x2_2).length = n2_2 * 1) := Lib.hid (by have := hr2_2.1; simp at this; omega)
  have HB := Below.refl w.heap.size w
  go_enter Tryz.func3, Tryz.ntmps3
  go_wp2_with fail
  refine (szMachine_post _ x0_0 x0_1 _ _ _ hnn0_2 _ (by omega) (by omega)).mono ?_
  rintro e v1 ⟨lfv1, rfl, hqv1, hpv1, hbv1⟩
  (try replace hbv1 := und1 hbv1)
  (try replace hbv1 := undN hbv1)
  obtain ⟨hbv1b, hxo3, hso3⟩ := box_step hbv1
  (try simp only [World.size_alloc] at hxo3 hso3)
  obtain ⟨hbv1bb, hxo2, hso2⟩ := box_step hbv1b
  (try simp only [World.size_alloc] at hxo2 hso2)
  obtain ⟨hbv1bbb, hxo1, hso1⟩ := box_step hbv1bb
  (try simp only [World.size_alloc] at hxo1 hso1)
  replace HB := HB.trans (hbv1bbb.mono HB.size)
  have hszv1 := hbv1bbb.size
  have qo1_0 := blk_cell hxo1 0 rfl
  have qo1_1 := blk_cell hxo1 1 rfl
  have qo1_2 := blk_cell hxo1 2 rfl
  have hlo1 := blk_lt hxo1
  have qo2_0 := blk_cell hxo2 0 rfl
  have qo2_1 := blk_cell hxo2 1 rfl
  have qo2_2 := blk_cell hxo2 2 rfl
  have hlo2 := blk_lt hxo2
  have qo3_0 := blk_cell hxo3 0 rfl
  have qo3_1 := blk_cell hxo3 1 rfl
  have qo3_2 := blk_cell hxo3 2 rfl
  have hlo3 := blk_lt hxo3
  by_cases hzv1 : lfv1 < 0
  · clear hqv1 hpv1
    go_wp2_with fail
    go_ret
    exact ⟨rfl, HB⟩
  replace hqv1 := hqv1 (by omega)
  have hbig0_2 : n0_2 ≤ 1048576 := by omega
  have HQv1 := Lib.hid hqv1; clear hqv1
  go_wp2_with fail
  refine (szProof_post _ x1_0 _ _ _ hnn1_1 _ _ _ x1_2 (by have h := hw1_2.below HB (Nat.le_refl _); first | exact h | exact h.below (below_new _ _) (Nat.le_refl _) | exact (h.below (below_new _ _) (Nat.le_refl _)).below (below_new _ _) (Nat.le_refl _) | exact ((h.below (below_new _ _) (Nat.le_refl _)).below (below_new _ _) (Nat.le_refl _)).below (below_new _ _) (Nat.le_refl _)) hnn1_2 _ (by omega) (by omega)).mono ?_
  rintro e v2 ⟨lfv2, rfl, hqv2, hpv2, hbv2⟩
  clear qo1_0 qo1_1 qo1_2 qo2_0 qo2_1 qo2_2 qo3_0 qo3_1 qo3_2 hlo1 hlo2 hlo3
  (try replace hbv2 := und1 hbv2)
  (try replace hbv2 := undN hbv2)
  replace hxo1 := blk_bel hxo1 hbv2
  replace hxo2 := blk_bel hxo2 hbv2
  replace hxo3 := blk_bel hxo3 hbv2
  replace HB := HB.trans (hbv2.mono HB.size)
  have hszv2 := hbv2.size
  have qo1_0 := blk_cell hxo1 0 rfl
  have qo1_1 := blk_cell hxo1 1 rfl
  have qo1_2 := blk_cell hxo1 2 rfl
  have hlo1 := blk_lt hxo1
  have qo2_0 := blk_cell hxo2 0 rfl
  have qo2_1 := blk_cell hxo2 1 rfl
  have qo2_2 := blk_cell hxo2 2 rfl
  have hlo2 := blk_lt hxo2
  have qo3_0 := blk_cell hxo3 0 rfl
  have qo3_1 := blk_cell hxo3 1 rfl
  have qo3_2 := blk_cell hxo3 2 rfl
  have hlo3 := blk_lt hxo3
  by_cases hzv2 : lfv2 < 0
  · clear hqv2 hpv2
    go_wp2_with fail
    go_ret
    exact ⟨rfl, HB⟩
  replace hqv2 := hqv2 (by omega)
  have hbig1_1 : n1_1 ≤ 1048576 := by omega
  have hbig1_2 : n1_2 ≤ 1048576 := by omega
  have HTX1_2 : Hid (tot x1_2 ≤ 1048576) := Lib.hid (by omega)
  have hr1_2 := hw1_2.rdl (by have := HTX1_2.out; omega)
  have HQv2 := Lib.hid hqv2; clear hqv2
  go_wp2_with fail
  refine (szConfig_post _ x2_0 _ _ _ hnn2_1 _ _ _ hnn2_2 _ (by omega) (by omega)).mono ?_
  rintro e v3 ⟨lfv3, rfl, hqv3, hpv3, hbv3⟩
  clear qo1_0 qo1_1 qo1_2 qo2_0 qo2_1 qo2_2 qo3_0 qo3_1 qo3_2 hlo1 hlo2 hlo3
  (try replace hbv3 := und1 hbv3)
  (try replace hbv3 := undN hbv3)
  replace hxo1 := blk_bel hxo1 hbv3
  replace hxo2 := blk_bel hxo2 hbv3
  replace hxo3 := blk_bel hxo3 hbv3
  replace HB := HB.trans (hbv3.mono HB.size)
  have hszv3 := hbv3.size
  have qo1_0 := blk_cell hxo1 0 rfl
  have qo1_1 := blk_cell hxo1 1 rfl
  have qo1_2 := blk_cell hxo1 2 rfl
  have hlo1 := blk_lt hxo1
  have qo2_0 := blk_cell hxo2 0 rfl
  have qo2_1 := blk_cell hxo2 1 rfl
  have qo2_2 := blk_cell hxo2 2 rfl
  have hlo2 := blk_lt hxo2
  have qo3_0 := blk_cell hxo3 0 rfl
  have qo3_1 := blk_cell hxo3 1 rfl
  have qo3_2 := blk_cell hxo3 2 rfl
  have hlo3 := blk_lt hxo3
  by_cases hzv3 : lfv3 < 0
  · clear hqv3 hpv3
    go_wp2_with fail
    go_ret
    exact ⟨rfl, HB⟩
  replace hqv3 := hqv3 (by omega)
  have hbig2_1 : n2_1 ≤ 1048576 := by omega
  have hbig2_2 : n2_2 ≤ 1048576 := by omega
  have HQv3 := Lib.hid hqv3; clear hqv3
  go_wp2_with fail
  go_region_held3 (fun w' => w'.cell? ⟨w.heap.size, 0, none⟩ = some (.int .i64 x0_0) ∧ w'.cell? ⟨w.heap.size, 1, none⟩ = some (.int .i64 x0_1) ∧ w'.cell? ⟨w.heap.size, 2, none⟩ = some (.slice A0_2 n0_2 c0_2) ∧ w'.cell? ⟨w.heap.size + 1, 0, none⟩ = some (.int .i64 x1_0) ∧ w'.cell? ⟨w.heap.size + 1, 1, none⟩ = some (.slice A1_1 n1_1 c1_1) ∧ w'.cell? ⟨w.heap.size + 1, 2, none⟩ = some (.slice A1_2 n1_2 c1_2) ∧ w'.cell? ⟨w.heap.size + 2, 0, none⟩ = some (.int .i64 x2_0) ∧ w'.cell? ⟨w.heap.size + 2, 1, none⟩ = some (.slice A2_1 n2_1 c2_1) ∧ w'.cell? ⟨w.heap.size + 2, 2, none⟩ = some (.slice A2_2 n2_2 c2_2)) (first | exact ⟨qo1_0, qo1_1, qo1_2, qo2_0, qo2_1, qo2_2, qo3_0, qo3_1, qo3_2⟩ | go_keep) (first
    | (go_at_call 10
       refine (toMachine_any _ x0_0 x0_1 _ _ _ (flatR rs) (by have h := (hr0_2.below HB (Nat.le_refl _)); first | exact h | exact h.below (below_new _ _) (Nat.le_refl _) | exact h.below (below_drew1 (below_new _ _)) (Nat.le_refl _)) (by omega)).mono ?_
       rintro e v4 ⟨Ao4, no4, co4, rfl, hoo4, hbv4⟩
       have hno4 : no4 ≤ 1048576 := by have h1 := hoo4.1; simp only [List.length_map] at h1; have h2 := HXL0_2.out; omega
       have hrgo4 := Lib.hid (rg_row hoo4)
       clear qo1_0 qo1_1 qo1_2 qo2_0 qo2_1 qo2_2 qo3_0 qo3_1 qo3_2 hlo1 hlo2 hlo3
       (try replace hbv4 := und1 hbv4)
       (try replace hbv4 := undN hbv4)
       replace hxo1 := blk_bel hxo1 hbv4
       replace hxo2 := blk_bel hxo2 hbv4
       replace hxo3 := blk_bel hxo3 hbv4
       replace HB := HB.trans (hbv4.mono HB.size)
       have hszv4 := hbv4.size
       have qo1_0 := blk_cell hxo1 0 rfl
       have qo1_1 := blk_cell hxo1 1 rfl
       have qo1_2 := blk_cell hxo1 2 rfl
       have hlo1 := blk_lt hxo1
       have qo2_0 := blk_cell hxo2 0 rfl
       have qo2_1 := blk_cell hxo2 1 rfl
       have qo2_2 := blk_cell hxo2 2 rfl
       have hlo2 := blk_lt hxo2
       have qo3_0 := blk_cell hxo3 0 rfl
       have qo3_1 := blk_cell hxo3 1 rfl
       have qo3_2 := blk_cell hxo3 2 rfl
       have hlo3 := blk_lt hxo3
       replace hrgo4 := Lib.hid (rg_lo hrgo4.out (lo := v3.heap.size + 0) (hi := v4.heap.size) (by first | exact Nat.le_refl _ | exact le_al1 | (simp; done) | (simp; omega)) (Nat.le_refl _))
       )
    | (go_at_call 11
       refine (toProof_any _ x1_0 _ _ _ x1_1 (by have h := (hr1_1.below HB (Nat.le_refl _)); first | exact h | exact h.below (below_new _ _) (Nat.le_refl _) | exact h.below (below_drew1 (below_new _ _)) (Nat.le_refl _)) (by omega) _ _ _ x1_2 (by have h := (hr1_2.below HB (Nat.le_refl _)); first | exact h | exact h.below (below_new _ _) (Nat.le_refl _) | exact h.below (below_drew1 (below_new _ _)) (Nat.le_refl _)) (by omega)).mono ?_
       rintro e v5 ⟨Ao5, no5, co5, Ao6, no6, co6, Fo6, rfl, hoo5, hoo6, hFo6, hdo5o6, hbv5⟩
       have hno5 : no5 ≤ 1048576 := by have h1 := hoo5.1; simp only [List.length_map] at h1; have h2 := HXL1_1.out; omega
       have hno6 : no6 ≤ 1048576 := by have h1 := hoo6.len; have h2 := HXL1_2.out; omega
       have hrgo5 := Lib.hid (rg_row hoo5)
       have hrgo6 := Lib.hid hFo6; clear hFo6
       have HDo5o6 := Lib.hid hdo5o6; clear hdo5o6
       clear qo1_0 qo1_1 qo1_2 qo2_0 qo2_1 qo2_2 qo3_0 qo3_1 qo3_2 hlo1 hlo2 hlo3
       (try replace hbv5 := und1 hbv5)
       (try replace hbv5 := undN hbv5)
       replace hoo4 := ownN_below hoo4 hbv5 (Nat.le_refl _)
       replace hxo1 := blk_bel hxo1 hbv5
       replace hxo2 := blk_bel hxo2 hbv5
       replace hxo3 := blk_bel hxo3 hbv5
       replace HB := HB.trans (hbv5.mono HB.size)
       have hszv5 := hbv5.size
       have qo1_0 := blk_cell hxo1 0 rfl
       have qo1_1 := blk_cell hxo1 1 rfl
       have qo1_2 := blk_cell hxo1 2 rfl
       have hlo1 := blk_lt hxo1
       have qo2_0 := blk_cell hxo2 0 rfl
       have qo2_1 := blk_cell hxo2 1 rfl
       have qo2_2 := blk_cell hxo2 2 rfl
       have hlo2 := blk_lt hxo2
       have qo3_0 := blk_cell hxo3 0 rfl
       have qo3_1 := blk_cell hxo3 1 rfl
       have qo3_2 := blk_cell hxo3 2 rfl
       have hlo3 := blk_lt hxo3
       replace hrgo5 := Lib.hid (rg_lo hrgo5.out (lo := v4.heap.size + 0) (hi := v5.heap.size) (by first | exact Nat.le_refl _ | exact le_al1 | (simp; done) | (simp; omega)) (Nat.le_refl _))
       replace hrgo6 := Lib.hid (rg_lo hrgo6.out (lo := v4.heap.size + 0) (hi := v5.heap.size) (by first | exact Nat.le_refl _ | exact le_al1 | (simp; done) | (simp; omega)) (Nat.le_refl _))
       )
    | (go_at_call 12
       refine (toConfig_any _ x2_0 _ _ _ x2_1 (by have h := (hr2_1.below HB (Nat.le_refl _)); first | exact h | exact h.below (below_new _ _) (Nat.le_refl _) | exact h.below (below_drew1 (below_new _ _)) (Nat.le_refl _)) (by omega) _ _ _ x2_2 (by have h := (hr2_2.below HB (Nat.le_refl _)); first | exact h | exact h.below (below_new _ _) (Nat.le_refl _) | exact h.below (below_drew1 (below_new _ _)) (Nat.le_refl _)) (by omega)).mono ?_
       rintro e v6 ⟨Ao7, no7, co7, Ao8, no8, co8, rfl, hoo7, hoo8, hdo7o8, hbv6⟩
       have hno7 : no7 ≤ 1048576 := by have h1 := hoo7.1; simp only [List.length_map] at h1; have h2 := HXL2_1.out; omega
       have hno8 : no8 ≤ 1048576 := by have h1 := hoo8.1; simp only [List.length_map] at h1; have h2 := HXL2_2.out; omega
       have hrgo7 := Lib.hid (rg_row hoo7)
       have hrgo8 := Lib.hid (rg_row hoo8)
       have HDo7o8 := Lib.hid hdo7o8; clear hdo7o8
       clear qo1_0 qo1_1 qo1_2 qo2_0 qo2_1 qo2_2 qo3_0 qo3_1 qo3_2 hlo1 hlo2 hlo3
       (try replace hbv6 := und1 hbv6)
       (try replace hbv6 := undN hbv6)
       replace hoo4 := ownN_below hoo4 hbv6 (Nat.le_refl _)
       replace hoo5 := ownN_below hoo5 hbv6 (Nat.le_refl _)
       replace hoo6 := hoo6.below hbv6
       replace hxo1 := blk_bel hxo1 hbv6
       replace hxo2 := blk_bel hxo2 hbv6
       replace hxo3 := blk_bel hxo3 hbv6
       replace HB := HB.trans (hbv6.mono HB.size)
       have hszv6 := hbv6.size
       have qo1_0 := blk_cell hxo1 0 rfl
       have qo1_1 := blk_cell hxo1 1 rfl
       have qo1_2 := blk_cell hxo1 2 rfl
       have hlo1 := blk_lt hxo1
       have qo2_0 := blk_cell hxo2 0 rfl
       have qo2_1 := blk_cell hxo2 1 rfl
       have qo2_2 := blk_cell hxo2 2 rfl
       have hlo2 := blk_lt hxo2
       have qo3_0 := blk_cell hxo3 0 rfl
       have qo3_1 := blk_cell hxo3 1 rfl
       have qo3_2 := blk_cell hxo3 2 rfl
       have hlo3 := blk_lt hxo3
       replace hrgo7 := Lib.hid (rg_lo hrgo7.out (lo := v5.heap.size + 0) (hi := v6.heap.size) (by first | exact Nat.le_refl _ | exact le_al1 | (simp; done) | (simp; omega)) (Nat.le_refl _))
       replace hrgo8 := Lib.hid (rg_lo hrgo8.out (lo := v5.heap.size + 0) (hi := v6.heap.size) (by first | exact Nat.le_refl _ | exact le_al1 | (simp; done) | (simp; omega)) (Nat.le_refl _))
       )
    | (go_at_call 9
       refine (HS.out _ _ _ _ (by have h := (ownN_rd hoo4); first | exact h | exact h.below (below_new _ _) (Nat.le_refl _) | exact h.below (below_drew1 (below_new _ _)) (Nat.le_refl _)) (by omega) (ownN_cap hoo4) _ _ _ (by have h := (own_rd hoo5); first | exact h | exact h.below (below_new _ _) (Nat.le_refl _) | exact h.below (below_drew1 (below_new _ _)) (Nat.le_refl _)) (by omega) (ownN_cap hoo5) _ _ _ (by have h := hoo6.rdl; first | exact h | exact h.below (below_new _ _) (Nat.le_refl _) | exact h.below (below_drew1 (below_new _ _)) (Nat.le_refl _)) (by omega) hoo6.cap _ _ _ (by have h := (own_rd hoo7); first | exact h | exact h.below (below_new _ _) (Nat.le_refl _) | exact h.below (below_drew1 (below_new _ _)) (Nat.le_refl _)) (by omega) (ownN_cap hoo7) _ _ _ (by have h := (own_rd hoo8); first | exact h | exact h.below (below_new _ _) (Nat.le_refl _) | exact h.below (below_drew1 (below_new _ _)) (Nat.le_refl _)) (by omega) (ownN_cap hoo8)).mono ?_
       rintro e v7 ⟨rfl, hbv7⟩
       clear qo1_0 qo1_1 qo1_2 qo2_0 qo2_1 qo2_2 qo3_0 qo3_1 qo3_2 hlo1 hlo2 hlo3
       (try replace hbv7 := und1 hbv7)
       (try replace hbv7 := undN hbv7)
       replace hoo4 := ownN_below hoo4 hbv7 (Nat.le_refl _)
       replace hoo5 := ownN_below hoo5 hbv7 (Nat.le_refl _)
       replace hoo6 := hoo6.below hbv7
       replace hoo7 := ownN_below hoo7 hbv7 (Nat.le_refl _)
       replace hoo8 := ownN_below hoo8 hbv7 (Nat.le_refl _)
       replace hxo1 := blk_bel hxo1 hbv7
       replace hxo2 := blk_bel hxo2 hbv7
       replace hxo3 := blk_bel hxo3 hbv7
       replace HB := HB.trans (hbv7.mono HB.size)
       have hszv7 := hbv7.size
       have qo1_0 := blk_cell hxo1 0 rfl
       have qo1_1 := blk_cell hxo1 1 rfl
       have qo1_2 := blk_cell hxo1 2 rfl
       have hlo1 := blk_lt hxo1
       have qo2_0 := blk_cell hxo2 0 rfl
       have qo2_1 := blk_cell hxo2 1 rfl
       have qo2_2 := blk_cell hxo2 2 rfl
       have hlo2 := blk_lt hxo2
       have qo3_0 := blk_cell hxo3 0 rfl
       have qo3_1 := blk_cell hxo3 1 rfl
       have qo3_2 := blk_cell hxo3 2 rfl
       have hlo3 := blk_lt hxo3
       )
    )
  go_wp2_with fail
  refine (toMachine_any _ x0_0 x0_1 _ _ _ (flatR rs) (hr0_2.below HB (Nat.le_refl _)) (by omega)).mono ?_
  rintro e v8 ⟨Ao9, no9, co9, rfl, hoo9, hbv8⟩
  have hno9 : no9 ≤ 1048576 := by have h1 := hoo9.1; simp only [List.length_map] at h1; have h2 := HXL0_2.out; omega
  have hrgo9 := Lib.hid (rg_row hoo9)
  clear qo1_0 qo1_1 qo1_2 qo2_0 qo2_1 qo2_2 qo3_0 qo3_1 qo3_2 hlo1 hlo2 hlo3
  (try replace hbv8 := und1 hbv8)
  (try replace hbv8 := undN hbv8)
  replace hoo4 := ownN_below hoo4 hbv8 (Nat.le_refl _)
  replace hoo5 := ownN_below hoo5 hbv8 (Nat.le_refl _)
  replace hoo6 := hoo6.below hbv8
  replace hoo7 := ownN_below hoo7 hbv8 (Nat.le_refl _)
  replace hoo8 := ownN_below hoo8 hbv8 (Nat.le_refl _)
  replace hxo1 := blk_bel hxo1 hbv8
  replace hxo2 := blk_bel hxo2 hbv8
  replace hxo3 := blk_bel hxo3 hbv8
  replace HB := HB.trans (hbv8.mono HB.size)
  have hszv8 := hbv8.size
  have qo1_0 := blk_cell hxo1 0 rfl
  have qo1_1 := blk_cell hxo1 1 rfl
  have qo1_2 := blk_cell hxo1 2 rfl
  have hlo1 := blk_lt hxo1
  have qo2_0 := blk_cell hxo2 0 rfl
  have qo2_1 := blk_cell hxo2 1 rfl
  have qo2_2 := blk_cell hxo2 2 rfl
  have hlo2 := blk_lt hxo2
  have qo3_0 := blk_cell hxo3 0 rfl
  have qo3_1 := blk_cell hxo3 1 rfl
  have qo3_2 := blk_cell hxo3 2 rfl
  have hlo3 := blk_lt hxo3
  replace hrgo9 := Lib.hid (rg_lo hrgo9.out (lo := v7.heap.size + 0) (hi := v8.heap.size) (by first | exact Nat.le_refl _ | exact le_al1 | (simp; done) | (simp; omega)) (Nat.le_refl _))
  go_wp2_with fail
  refine (toProof_any _ x1_0 _ _ _ x1_1 ((hr1_1.below HB (Nat.le_refl _)).below (below_new _ _) (Nat.le_refl _)) (by omega) _ _ _ x1_2 ((hr1_2.below HB (Nat.le_refl _)).below (below_new _ _) (Nat.le_refl _)) (by omega)).mono ?_
  rintro e v9 ⟨Ao11, no11, co11, Ao12, no12, co12, Fo12, rfl, hoo11, hoo12, hFo12, hdo11o12, hbv9⟩
  have hno11 : no11 ≤ 1048576 := by have h1 := hoo11.1; simp only [List.length_map] at h1; have h2 := HXL1_1.out; omega
  have hno12 : no12 ≤ 1048576 := by have h1 := hoo12.len; have h2 := HXL1_2.out; omega
  have hrgo11 := Lib.hid (rg_row hoo11)
  have hrgo12 := Lib.hid hFo12; clear hFo12
  have HDo11o12 := Lib.hid hdo11o12; clear hdo11o12
  clear qo1_0 qo1_1 qo1_2 qo2_0 qo2_1 qo2_2 qo3_0 qo3_1 qo3_2 hlo1 hlo2 hlo3
  (try replace hbv9 := und1 hbv9)
  (try replace hbv9 := undN hbv9)
  obtain ⟨hbv9b, hxo10, hso10⟩ := box_step hbv9
  (try simp only [World.size_alloc] at hxo10 hso10)
  replace hoo4 := ownN_below hoo4 hbv9b (Nat.le_refl _)
  replace hoo5 := ownN_below hoo5 hbv9b (Nat.le_refl _)
  replace hoo6 := hoo6.below hbv9b
  replace hoo7 := ownN_below hoo7 hbv9b (Nat.le_refl _)
  replace hoo8 := ownN_below hoo8 hbv9b (Nat.le_refl _)
  replace hoo9 := ownN_below hoo9 hbv9b (Nat.le_refl _)
  replace hxo1 := blk_bel hxo1 hbv9b
  replace hxo2 := blk_bel hxo2 hbv9b
  replace hxo3 := blk_bel hxo3 hbv9b
  replace HB := HB.trans (hbv9b.mono HB.size)
  have hszv9 := hbv9b.size
  have qo1_0 := blk_cell hxo1 0 rfl
  have qo1_1 := blk_cell hxo1 1 rfl
  have qo1_2 := blk_cell hxo1 2 rfl
  have hlo1 := blk_lt hxo1
  have qo2_0 := blk_cell hxo2 0 rfl
  have qo2_1 := blk_cell hxo2 1 rfl
  have qo2_2 := blk_cell hxo2 2 rfl
  have hlo2 := blk_lt hxo2
  have qo3_0 := blk_cell hxo3 0 rfl
  have qo3_1 := blk_cell hxo3 1 rfl
  have qo3_2 := blk_cell hxo3 2 rfl
  have hlo3 := blk_lt hxo3
  have qo10_0 := blk_cell hxo10 0 rfl
  have qo10_1 := blk_cell hxo10 1 rfl
  have qo10_2 := blk_cell hxo10 2 rfl
  have hlo10 := blk_lt hxo10
  replace hrgo11 := Lib.hid (rg_lo hrgo11.out (lo := v8.heap.size + 1) (hi := v9.heap.size) (by first | exact Nat.le_refl _ | exact le_al1 | (simp; done) | (simp; omega)) (Nat.le_refl _))
  replace hrgo12 := Lib.hid (rg_lo hrgo12.out (lo := v8.heap.size + 1) (hi := v9.heap.size) (by first | exact Nat.le_refl _ | exact le_al1 | (simp; done) | (simp; omega)) (Nat.le_refl _))
  go_wp2_with fail
  refine (toConfig_any _ x2_0 _ _ _ x2_1 ((hr2_1.below HB (Nat.le_refl _)).below (below_new _ _) (Nat.le_refl _)) (by omega) _ _ _ x2_2 ((hr2_2.below HB (Nat.le_refl _)).below (below_new _ _) (Nat.le_refl _)) (by omega)).mono ?_
  rintro e v10 ⟨Ao14, no14, co14, Ao15, no15, co15, rfl, hoo14, hoo15, hdo14o15, hbv10⟩
  have hno14 : no14 ≤ 1048576 := by have h1 := hoo14.1; simp only [List.length_map] at h1; have h2 := HXL2_1.out; omega
  have hno15 : no15 ≤ 1048576 := by have h1 := hoo15.1; simp only [List.length_map] at h1; have h2 := HXL2_2.out; omega
  have hrgo14 := Lib.hid (rg_row hoo14)
  have hrgo15 := Lib.hid (rg_row hoo15)
  have HDo14o15 := Lib.hid hdo14o15; clear hdo14o15
  clear qo1_0 qo1_1 qo1_2 qo2_0 qo2_1 qo2_2 qo3_0 qo3_1 qo3_2 qo10_0 qo10_1 qo10_2 hlo1 hlo2 hlo3 hlo10
  (try replace hbv10 := und1 hbv10)
  (try replace hbv10 := undN hbv10)
  obtain ⟨hbv10b, hxo13, hso13⟩ := box_step hbv10
  (try simp only [World.size_alloc] at hxo13 hso13)
  replace hoo4 := ownN_below hoo4 hbv10b (Nat.le_refl _)
  replace hoo5 := ownN_below hoo5 hbv10b (Nat.le_refl _)
  replace hoo6 := hoo6.below hbv10b
  replace hoo7 := ownN_below hoo7 hbv10b (Nat.le_refl _)
  replace hoo8 := ownN_below hoo8 hbv10b (Nat.le_refl _)
  replace hoo9 := ownN_below hoo9 hbv10b (Nat.le_refl _)
  replace hoo11 := ownN_below hoo11 hbv10b (Nat.le_refl _)
  replace hoo12 := hoo12.below hbv10b
  replace hxo1 := blk_bel hxo1 hbv10b
  replace hxo2 := blk_bel hxo2 hbv10b
  replace hxo3 := blk_bel hxo3 hbv10b
  replace hxo10 := blk_bel hxo10 hbv10b
  replace HB := HB.trans (hbv10b.mono HB.size)
  have hszv10 := hbv10b.size
  have qo1_0 := blk_cell hxo1 0 rfl
  have qo1_1 := blk_cell hxo1 1 rfl
  have qo1_2 := blk_cell hxo1 2 rfl
  have hlo1 := blk_lt hxo1
  have qo2_0 := blk_cell hxo2 0 rfl
  have qo2_1 := blk_cell hxo2 1 rfl
  have qo2_2 := blk_cell hxo2 2 rfl
  have hlo2 := blk_lt hxo2
  have qo3_0 := blk_cell hxo3 0 rfl
  have qo3_1 := blk_cell hxo3 1 rfl
  have qo3_2 := blk_cell hxo3 2 rfl
  have hlo3 := blk_lt hxo3
  have qo10_0 := blk_cell hxo10 0 rfl
  have qo10_1 := blk_cell hxo10 1 rfl
  have qo10_2 := blk_cell hxo10 2 rfl
  have hlo10 := blk_lt hxo10
  have qo13_0 := blk_cell hxo13 0 rfl
  have qo13_1 := blk_cell hxo13 1 rfl
  have qo13_2 := blk_cell hxo13 2 rfl
  have hlo13 := blk_lt hxo13
  replace hrgo14 := Lib.hid (rg_lo hrgo14.out (lo := v9.heap.size + 1) (hi := v10.heap.size) (by first | exact Nat.le_refl _ | exact le_al1 | (simp; done) | (simp; omega)) (Nat.le_refl _))
  replace hrgo15 := Lib.hid (rg_lo hrgo15.out (lo := v9.heap.size + 1) (hi := v10.heap.size) (by first | exact Nat.le_refl _ | exact le_al1 | (simp; done) | (simp; omega)) (Nat.le_refl _))
  go_wp2_with fail
  refine (HI.out _ _ _ _ ((ownN_rd hoo9).below (below_new _ _) (Nat.le_refl _)) (by omega) (ownN_cap hoo9) _ _ _ ((own_rd hoo11).below (below_new _ _) (Nat.le_refl _)) (by omega) (ownN_cap hoo11) _ _ _ (hoo12.rdl.below (below_new _ _) (Nat.le_refl _)) (by omega) hoo12.cap _ _ _ ((own_rd hoo14).below (below_new _ _) (Nat.le_refl _)) (by omega) (ownN_cap hoo14) _ _ _ ((own_rd hoo15).below (below_new _ _) (Nat.le_refl _)) (by omega) (ownN_cap hoo15)).mono ?_
  rintro e v11 ⟨rfl, hbv11⟩
  clear qo1_0 qo1_1 qo1_2 qo2_0 qo2_1 qo2_2 qo3_0 qo3_1 qo3_2 qo10_0 qo10_1 qo10_2 qo13_0 qo13_1 qo13_2 hlo1 hlo2 hlo3 hlo10 hlo13
  (try replace hbv11 := und1 hbv11)
  (try replace hbv11 := undN hbv11)
  obtain ⟨hbv11b, hxo16, hso16⟩ := box_step hbv11
  (try simp only [World.size_alloc] at hxo16 hso16)
  replace hoo4 := ownN_below hoo4 hbv11b (Nat.le_refl _)
  replace hoo5 := ownN_below hoo5 hbv11b (Nat.le_refl _)
  replace hoo6 := hoo6.below hbv11b
  replace hoo7 := ownN_below hoo7 hbv11b (Nat.le_refl _)
  replace hoo8 := ownN_below hoo8 hbv11b (Nat.le_refl _)
  replace hoo9 := ownN_below hoo9 hbv11b (Nat.le_refl _)
  replace hoo11 := ownN_below hoo11 hbv11b (Nat.le_refl _)
  replace hoo12 := hoo12.below hbv11b
  replace hoo14 := ownN_below hoo14 hbv11b (Nat.le_refl _)
  replace hoo15 := ownN_below hoo15 hbv11b (Nat.le_refl _)
  replace hxo1 := blk_bel hxo1 hbv11b
  replace hxo2 := blk_bel hxo2 hbv11b
  replace hxo3 := blk_bel hxo3 hbv11b
  replace hxo10 := blk_bel hxo10 hbv11b
  replace hxo13 := blk_bel hxo13 hbv11b
  replace HB := HB.trans (hbv11b.mono HB.size)
  have hszv11 := hbv11b.size
  have qo1_0 := blk_cell hxo1 0 rfl
  have qo1_1 := blk_cell hxo1 1 rfl
  have qo1_2 := blk_cell hxo1 2 rfl
  have hlo1 := blk_lt hxo1
  have qo2_0 := blk_cell hxo2 0 rfl
  have qo2_1 := blk_cell hxo2 1 rfl
  have qo2_2 := blk_cell hxo2 2 rfl
  have hlo2 := blk_lt hxo2
  have qo3_0 := blk_cell hxo3 0 rfl
  have qo3_1 := blk_cell hxo3 1 rfl
  have qo3_2 := blk_cell hxo3 2 rfl
  have hlo3 := blk_lt hxo3
  have qo10_0 := blk_cell hxo10 0 rfl
  have qo10_1 := blk_cell hxo10 1 rfl
  have qo10_2 := blk_cell hxo10 2 rfl
  have hlo10 := blk_lt hxo10
  have qo13_0 := blk_cell hxo13 0 rfl
  have qo13_1 := blk_cell hxo13 1 rfl
  have qo13_2 := blk_cell hxo13 2 rfl
  have hlo13 := blk_lt hxo13
  have qo16_0 := blk_cell hxo16 0 rfl
  have qo16_1 := blk_cell hxo16 1 rfl
  have qo16_2 := blk_cell hxo16 2 rfl
  have hlo16 := blk_lt hxo16
  go_wp2_with fail
  go_region_held3 (fun w' => w'.cell? ⟨v8.heap.size, 0, none⟩ = some (.int .i64 x0_0) ∧ w'.cell? ⟨v8.heap.size, 1, none⟩ = some (.int .i64 x0_1) ∧ w'.cell? ⟨v8.heap.size, 2, none⟩ = some (.slice Ao9 no9 co9) ∧ w'.cell? ⟨w.heap.size, 0, none⟩ = some (.int .i64 x0_0) ∧ w'.cell? ⟨w.heap.size, 1, none⟩ = some (.int .i64 x0_1) ∧ w'.cell? ⟨w.heap.size, 2, none⟩ = some (.slice A0_2 n0_2 c0_2)) (first | exact ⟨qo10_0, qo10_1, qo10_2, qo1_0, qo1_1, qo1_2⟩ | go_keep) (first
    | (go_at_call 10
       refine (toMachine_any _ x0_0 x0_1 _ _ _ (flatR rs) (by have h := (hr0_2.below HB (Nat.le_refl _)); first | exact h | exact h.below (below_new _ _) (Nat.le_refl _) | exact h.below (below_drew1 (below_new _ _)) (Nat.le_refl _)) (by omega)).mono ?_
       rintro e v12 ⟨Ao17, no17, co17, rfl, hoo17, hbv12⟩
       have hno17 : no17 ≤ 1048576 := by have h1 := hoo17.1; simp only [List.length_map] at h1; have h2 := HXL0_2.out; omega
       have hrgo17 := Lib.hid (rg_row hoo17)
       clear qo1_0 qo1_1 qo1_2 qo2_0 qo2_1 qo2_2 qo3_0 qo3_1 qo3_2 qo10_0 qo10_1 qo10_2 qo13_0 qo13_1 qo13_2 qo16_0 qo16_1 qo16_2 hlo1 hlo2 hlo3 hlo10 hlo13 hlo16
       (try replace hbv12 := und1 hbv12)
       (try replace hbv12 := undN hbv12)
       replace hoo4 := ownN_below hoo4 hbv12 (Nat.le_refl _)
       replace hoo5 := ownN_below hoo5 hbv12 (Nat.le_refl _)
       replace hoo6 := hoo6.below hbv12
       replace hoo7 := ownN_below hoo7 hbv12 (Nat.le_refl _)
       replace hoo8 := ownN_below hoo8 hbv12 (Nat.le_refl _)
       replace hoo9 := ownN_below hoo9 hbv12 (Nat.le_refl _)
       replace hoo11 := ownN_below hoo11 hbv12 (Nat.le_refl _)
       replace hoo12 := hoo12.below hbv12
       replace hoo14 := ownN_below hoo14 hbv12 (Nat.le_refl _)
       replace hoo15 := ownN_below hoo15 hbv12 (Nat.le_refl _)
       replace hxo1 := blk_bel hxo1 hbv12
       replace hxo2 := blk_bel hxo2 hbv12
       replace hxo3 := blk_bel hxo3 hbv12
       replace hxo10 := blk_bel hxo10 hbv12
       replace hxo13 := blk_bel hxo13 hbv12
       replace hxo16 := blk_bel hxo16 hbv12
       replace HB := HB.trans (hbv12.mono HB.size)
       have hszv12 := hbv12.size
       have qo1_0 := blk_cell hxo1 0 rfl
       have qo1_1 := blk_cell hxo1 1 rfl
       have qo1_2 := blk_cell hxo1 2 rfl
       have hlo1 := blk_lt hxo1
       have qo2_0 := blk_cell hxo2 0 rfl
       have qo2_1 := blk_cell hxo2 1 rfl
       have qo2_2 := blk_cell hxo2 2 rfl
       have hlo2 := blk_lt hxo2
       have qo3_0 := blk_cell hxo3 0 rfl
       have qo3_1 := blk_cell hxo3 1 rfl
       have qo3_2 := blk_cell hxo3 2 rfl
       have hlo3 := blk_lt hxo3
       have qo10_0 := blk_cell hxo10 0 rfl
       have qo10_1 := blk_cell hxo10 1 rfl
       have qo10_2 := blk_cell hxo10 2 rfl
       have hlo10 := blk_lt hxo10
       have qo13_0 := blk_cell hxo13 0 rfl
       have qo13_1 := blk_cell hxo13 1 rfl
       have qo13_2 := blk_cell hxo13 2 rfl
       have hlo13 := blk_lt hxo13
       have qo16_0 := blk_cell hxo16 0 rfl
       have qo16_1 := blk_cell hxo16 1 rfl
       have qo16_2 := blk_cell hxo16 2 rfl
       have hlo16 := blk_lt hxo16
       replace hrgo17 := Lib.hid (rg_lo hrgo17.out (lo := v11.heap.size + 0) (hi := v12.heap.size) (by first | exact Nat.le_refl _ | exact le_al1 | (simp; done) | (simp; omega)) (Nat.le_refl _))
       )
    | (go_at_call 14
       refine (eqMachine_same _ _ _ _ _ _ (flatR rs) (by have h := (ownN_rd hoo9); first | exact h | exact h.below (below_new _ _) (Nat.le_refl _) | exact h.below (below_drew1 (below_new _ _)) (Nat.le_refl _)) (by omega) _ _ _ (by have h := (ownN_rd hoo17); first | exact h | exact h.below (below_new _ _) (Nat.le_refl _) | exact h.below (below_drew1 (below_new _ _)) (Nat.le_refl _))).mono ?_
       rintro e v13 ⟨rfl, hbv13⟩
       clear qo1_0 qo1_1 qo1_2 qo2_0 qo2_1 qo2_2 qo3_0 qo3_1 qo3_2 qo10_0 qo10_1 qo10_2 qo13_0 qo13_1 qo13_2 qo16_0 qo16_1 qo16_2 hlo1 hlo2 hlo3 hlo10 hlo13 hlo16
       (try replace hbv13 := und1 hbv13)
       (try replace hbv13 := undN hbv13)
       replace hoo4 := ownN_below hoo4 hbv13 (Nat.le_refl _)
       replace hoo5 := ownN_below hoo5 hbv13 (Nat.le_refl _)
       replace hoo6 := hoo6.below hbv13
       replace hoo7 := ownN_below hoo7 hbv13 (Nat.le_refl _)
       replace hoo8 := ownN_below hoo8 hbv13 (Nat.le_refl _)
       replace hoo9 := ownN_below hoo9 hbv13 (Nat.le_refl _)
       replace hoo11 := ownN_below hoo11 hbv13 (Nat.le_refl _)
       replace hoo12 := hoo12.below hbv13
       replace hoo14 := ownN_below hoo14 hbv13 (Nat.le_refl _)
       replace hoo15 := ownN_below hoo15 hbv13 (Nat.le_refl _)
       replace hoo17 := ownN_below hoo17 hbv13 (Nat.le_refl _)
       replace hxo1 := blk_bel hxo1 hbv13
       replace hxo2 := blk_bel hxo2 hbv13
       replace hxo3 := blk_bel hxo3 hbv13
       replace hxo10 := blk_bel hxo10 hbv13
       replace hxo13 := blk_bel hxo13 hbv13
       replace hxo16 := blk_bel hxo16 hbv13
       replace HB := HB.trans (hbv13.mono HB.size)
       have hszv13 := hbv13.size
       have qo1_0 := blk_cell hxo1 0 rfl
       have qo1_1 := blk_cell hxo1 1 rfl
       have qo1_2 := blk_cell hxo1 2 rfl
       have hlo1 := blk_lt hxo1
       have qo2_0 := blk_cell hxo2 0 rfl
       have qo2_1 := blk_cell hxo2 1 rfl
       have qo2_2 := blk_cell hxo2 2 rfl
       have hlo2 := blk_lt hxo2
       have qo3_0 := blk_cell hxo3 0 rfl
       have qo3_1 := blk_cell hxo3 1 rfl
       have qo3_2 := blk_cell hxo3 2 rfl
       have hlo3 := blk_lt hxo3
       have qo10_0 := blk_cell hxo10 0 rfl
       have qo10_1 := blk_cell hxo10 1 rfl
       have qo10_2 := blk_cell hxo10 2 rfl
       have hlo10 := blk_lt hxo10
       have qo13_0 := blk_cell hxo13 0 rfl
       have qo13_1 := blk_cell hxo13 1 rfl
       have qo13_2 := blk_cell hxo13 2 rfl
       have hlo13 := blk_lt hxo13
       have qo16_0 := blk_cell hxo16 0 rfl
       have qo16_1 := blk_cell hxo16 1 rfl
       have qo16_2 := blk_cell hxo16 2 rfl
       have hlo16 := blk_lt hxo16
       )
    )
  go_wp2_with fail
  go_region_held3 (fun w' => w'.cell? ⟨v9.heap.size, 0, none⟩ = some (.int .i64 x1_0) ∧ w'.cell? ⟨v9.heap.size, 1, none⟩ = some (.slice Ao11 no11 co11) ∧ w'.cell? ⟨v9.heap.size, 2, none⟩ = some (.slice Ao12 no12 co12) ∧ w'.cell? ⟨w.heap.size + 1, 0, none⟩ = some (.int .i64 x1_0) ∧ w'.cell? ⟨w.heap.size + 1, 1, none⟩ = some (.slice A1_1 n1_1 c1_1) ∧ w'.cell? ⟨w.heap.size + 1, 2, none⟩ = some (.slice A1_2 n1_2 c1_2)) (first | exact ⟨qo13_0, qo13_1, qo13_2, qo2_0, qo2_1, qo2_2⟩ | go_keep) (first
    | (go_at_call 11
       refine (toProof_any _ x1_0 _ _ _ x1_1 (by have h := (hr1_1.below HB (Nat.le_refl _)); first | exact h | exact h.below (below_new _ _) (Nat.le_refl _) | exact h.below (below_drew1 (below_new _ _)) (Nat.le_refl _)) (by omega) _ _ _ x1_2 (by have h := (hr1_2.below HB (Nat.le_refl _)); first | exact h | exact h.below (below_new _ _) (Nat.le_refl _) | exact h.below (below_drew1 (below_new _ _)) (Nat.le_refl _)) (by omega)).mono ?_
       rintro e v14 ⟨Ao18, no18, co18, Ao19, no19, co19, Fo19, rfl, hoo18, hoo19, hFo19, hdo18o19, hbv14⟩
       have hno18 : no18 ≤ 1048576 := by have h1 := hoo18.1; simp only [List.length_map] at h1; have h2 := HXL1_1.out; omega
       have hno19 : no19 ≤ 1048576 := by have h1 := hoo19.len; have h2 := HXL1_2.out; omega
       have hrgo18 := Lib.hid (rg_row hoo18)
       have hrgo19 := Lib.hid hFo19; clear hFo19
       have HDo18o19 := Lib.hid hdo18o19; clear hdo18o19
       clear qo1_0 qo1_1 qo1_2 qo2_0 qo2_1 qo2_2 qo3_0 qo3_1 qo3_2 qo10_0 qo10_1 qo10_2 qo13_0 qo13_1 qo13_2 qo16_0 qo16_1 qo16_2 hlo1 hlo2 hlo3 hlo10 hlo13 hlo16
       (try replace hbv14 := und1 hbv14)
       (try replace hbv14 := undN hbv14)
       replace hoo4 := ownN_below hoo4 hbv14 (Nat.le_refl _)
       replace hoo5 := ownN_below hoo5 hbv14 (Nat.le_refl _)
       replace hoo6 := hoo6.below hbv14
       replace hoo7 := ownN_below hoo7 hbv14 (Nat.le_refl _)
       replace hoo8 := ownN_below hoo8 hbv14 (Nat.le_refl _)
       replace hoo9 := ownN_below hoo9 hbv14 (Nat.le_refl _)
       replace hoo11 := ownN_below hoo11 hbv14 (Nat.le_refl _)
       replace hoo12 := hoo12.below hbv14
       replace hoo14 := ownN_below hoo14 hbv14 (Nat.le_refl _)
       replace hoo15 := ownN_below hoo15 hbv14 (Nat.le_refl _)
       replace hoo17 := ownN_below hoo17 hbv14 (Nat.le_refl _)
       replace hxo1 := blk_bel hxo1 hbv14
       replace hxo2 := blk_bel hxo2 hbv14
       replace hxo3 := blk_bel hxo3 hbv14
       replace hxo10 := blk_bel hxo10 hbv14
       replace hxo13 := blk_bel hxo13 hbv14
       replace hxo16 := blk_bel hxo16 hbv14
       replace HB := HB.trans (hbv14.mono HB.size)
       have hszv14 := hbv14.size
       have qo1_0 := blk_cell hxo1 0 rfl
       have qo1_1 := blk_cell hxo1 1 rfl
       have qo1_2 := blk_cell hxo1 2 rfl
       have hlo1 := blk_lt hxo1
       have qo2_0 := blk_cell hxo2 0 rfl
       have qo2_1 := blk_cell hxo2 1 rfl
       have qo2_2 := blk_cell hxo2 2 rfl
       have hlo2 := blk_lt hxo2
       have qo3_0 := blk_cell hxo3 0 rfl
       have qo3_1 := blk_cell hxo3 1 rfl
       have qo3_2 := blk_cell hxo3 2 rfl
       have hlo3 := blk_lt hxo3
       have qo10_0 := blk_cell hxo10 0 rfl
       have qo10_1 := blk_cell hxo10 1 rfl
       have qo10_2 := blk_cell hxo10 2 rfl
       have hlo10 := blk_lt hxo10
       have qo13_0 := blk_cell hxo13 0 rfl
       have qo13_1 := blk_cell hxo13 1 rfl
       have qo13_2 := blk_cell hxo13 2 rfl
       have hlo13 := blk_lt hxo13
       have qo16_0 := blk_cell hxo16 0 rfl
       have qo16_1 := blk_cell hxo16 1 rfl
       have qo16_2 := blk_cell hxo16 2 rfl
       have hlo16 := blk_lt hxo16
       replace hrgo18 := Lib.hid (rg_lo hrgo18.out (lo := v13.heap.size + 0) (hi := v14.heap.size) (by first | exact Nat.le_refl _ | exact le_al1 | (simp; done) | (simp; omega)) (Nat.le_refl _))
       replace hrgo19 := Lib.hid (rg_lo hrgo19.out (lo := v13.heap.size + 0) (hi := v14.heap.size) (by first | exact Nat.le_refl _ | exact le_al1 | (simp; done) | (simp; omega)) (Nat.le_refl _))
       )
    | (go_at_call 15
       refine (eqProof_same _ _ _ _ _ x1_1 (by have h := (own_rd hoo11); first | exact h | exact h.below (below_new _ _) (Nat.le_refl _) | exact h.below (below_drew1 (below_new _ _)) (Nat.le_refl _)) (by omega) _ _ _ (by have h := (own_rd hoo18); first | exact h | exact h.below (below_new _ _) (Nat.le_refl _) | exact h.below (below_drew1 (below_new _ _)) (Nat.le_refl _)) _ _ _ x1_2 (by have h := hoo12.rdl; first | exact h | exact h.below (below_new _ _) (Nat.le_refl _) | exact h.below (below_drew1 (below_new _ _)) (Nat.le_refl _)) (by omega) _ _ _ (by have h := hoo19.rdl; first | exact h | exact h.below (below_new _ _) (Nat.le_refl _) | exact h.below (below_drew1 (below_new _ _)) (Nat.le_refl _))).mono ?_
       rintro e v15 ⟨rfl, hbv15⟩
       clear qo1_0 qo1_1 qo1_2 qo2_0 qo2_1 qo2_2 qo3_0 qo3_1 qo3_2 qo10_0 qo10_1 qo10_2 qo13_0 qo13_1 qo13_2 qo16_0 qo16_1 qo16_2 hlo1 hlo2 hlo3 hlo10 hlo13 hlo16
       (try replace hbv15 := und1 hbv15)
       (try replace hbv15 := undN hbv15)
       replace hoo4 := ownN_below hoo4 hbv15 (Nat.le_refl _)
       replace hoo5 := ownN_below hoo5 hbv15 (Nat.le_refl _)
       replace hoo6 := hoo6.below hbv15
       replace hoo7 := ownN_below hoo7 hbv15 (Nat.le_refl _)
       replace hoo8 := ownN_below hoo8 hbv15 (Nat.le_refl _)
       replace hoo9 := ownN_below hoo9 hbv15 (Nat.le_refl _)
       replace hoo11 := ownN_below hoo11 hbv15 (Nat.le_refl _)
       replace hoo12 := hoo12.below hbv15
       replace hoo14 := ownN_below hoo14 hbv15 (Nat.le_refl _)
       replace hoo15 := ownN_below hoo15 hbv15 (Nat.le_refl _)
       replace hoo17 := ownN_below hoo17 hbv15 (Nat.le_refl _)
       replace hoo18 := ownN_below hoo18 hbv15 (Nat.le_refl _)
       replace hoo19 := hoo19.below hbv15
       replace hxo1 := blk_bel hxo1 hbv15
       replace hxo2 := blk_bel hxo2 hbv15
       replace hxo3 := blk_bel hxo3 hbv15
       replace hxo10 := blk_bel hxo10 hbv15
       replace hxo13 := blk_bel hxo13 hbv15
       replace hxo16 := blk_bel hxo16 hbv15
       replace HB := HB.trans (hbv15.mono HB.size)
       have hszv15 := hbv15.size
       have qo1_0 := blk_cell hxo1 0 rfl
       have qo1_1 := blk_cell hxo1 1 rfl
       have qo1_2 := blk_cell hxo1 2 rfl
       have hlo1 := blk_lt hxo1
       have qo2_0 := blk_cell hxo2 0 rfl
       have qo2_1 := blk_cell hxo2 1 rfl
       have qo2_2 := blk_cell hxo2 2 rfl
       have hlo2 := blk_lt hxo2
       have qo3_0 := blk_cell hxo3 0 rfl
       have qo3_1 := blk_cell hxo3 1 rfl
       have qo3_2 := blk_cell hxo3 2 rfl
       have hlo3 := blk_lt hxo3
       have qo10_0 := blk_cell hxo10 0 rfl
       have qo10_1 := blk_cell hxo10 1 rfl
       have qo10_2 := blk_cell hxo10 2 rfl
       have hlo10 := blk_lt hxo10
       have qo13_0 := blk_cell hxo13 0 rfl
       have qo13_1 := blk_cell hxo13 1 rfl
       have qo13_2 := blk_cell hxo13 2 rfl
       have hlo13 := blk_lt hxo13
       have qo16_0 := blk_cell hxo16 0 rfl
       have qo16_1 := blk_cell hxo16 1 rfl
       have qo16_2 := blk_cell hxo16 2 rfl
       have hlo16 := blk_lt hxo16
       )
    )
  go_wp2_with fail
  go_region_held3 (fun w' => w'.cell? ⟨v10.heap.size, 0, none⟩ = some (.int .i64 x2_0) ∧ w'.cell? ⟨v10.heap.size, 1, none⟩ = some (.slice Ao14 no14 co14) ∧ w'.cell? ⟨v10.heap.size, 2, none⟩ = some (.slice Ao15 no15 co15) ∧ w'.cell? ⟨w.heap.size + 2, 0, none⟩ = some (.int .i64 x2_0) ∧ w'.cell? ⟨w.heap.size + 2, 1, none⟩ = some (.slice A2_1 n2_1 c2_1) ∧ w'.cell? ⟨w.heap.size + 2, 2, none⟩ = some (.slice A2_2 n2_2 c2_2)) (first | exact ⟨qo16_0, qo16_1, qo16_2, qo3_0, qo3_1, qo3_2⟩ | go_keep) (first
    | (go_at_call 12
       refine (toConfig_any _ x2_0 _ _ _ x2_1 (by have h := (hr2_1.below HB (Nat.le_refl _)); first | exact h | exact h.below (below_new _ _) (Nat.le_refl _) | exact h.below (below_drew1 (below_new _ _)) (Nat.le_refl _)) (by omega) _ _ _ x2_2 (by have h := (hr2_2.below HB (Nat.le_refl _)); first | exact h | exact h.below (below_new _ _) (Nat.le_refl _) | exact h.below (below_drew1 (below_new _ _)) (Nat.le_refl _)) (by omega)).mono ?_
       rintro e v16 ⟨Ao20, no20, co20, Ao21, no21, co21, rfl, hoo20, hoo21, hdo20o21, hbv16⟩
       have hno20 : no20 ≤ 1048576 := by have h1 := hoo20.1; simp only [List.length_map] at h1; have h2 := HXL2_1.out; omega
       have hno21 : no21 ≤ 1048576 := by have h1 := hoo21.1; simp only [List.length_map] at h1; have h2 := HXL2_2.out; omega
       have hrgo20 := Lib.hid (rg_row hoo20)
       have hrgo21 := Lib.hid (rg_row hoo21)
       have HDo20o21 := Lib.hid hdo20o21; clear hdo20o21
       clear qo1_0 qo1_1 qo1_2 qo2_0 qo2_1 qo2_2 qo3_0 qo3_1 qo3_2 qo10_0 qo10_1 qo10_2 qo13_0 qo13_1 qo13_2 qo16_0 qo16_1 qo16_2 hlo1 hlo2 hlo3 hlo10 hlo13 hlo16
       (try replace hbv16 := und1 hbv16)
       (try replace hbv16 := undN hbv16)
       replace hoo4 := ownN_below hoo4 hbv16 (Nat.le_refl _)
       replace hoo5 := ownN_below hoo5 hbv16 (Nat.le_refl _)
       replace hoo6 := hoo6.below hbv16
       replace hoo7 := ownN_below hoo7 hbv16 (Nat.le_refl _)
       replace hoo8 := ownN_below hoo8 hbv16 (Nat.le_refl _)
       replace hoo9 := ownN_below hoo9 hbv16 (Nat.le_refl _)
       replace hoo11 := ownN_below hoo11 hbv16 (Nat.le_refl _)
       replace hoo12 := hoo12.below hbv16
       replace hoo14 := ownN_below hoo14 hbv16 (Nat.le_refl _)
       replace hoo15 := ownN_below hoo15 hbv16 (Nat.le_refl _)
       replace hoo17 := ownN_below hoo17 hbv16 (Nat.le_refl _)
       replace hoo18 := ownN_below hoo18 hbv16 (Nat.le_refl _)
       replace hoo19 := hoo19.below hbv16
       replace hxo1 := blk_bel hxo1 hbv16
       replace hxo2 := blk_bel hxo2 hbv16
       replace hxo3 := blk_bel hxo3 hbv16
       replace hxo10 := blk_bel hxo10 hbv16
       replace hxo13 := blk_bel hxo13 hbv16
       replace hxo16 := blk_bel hxo16 hbv16
       replace HB := HB.trans (hbv16.mono HB.size)
       have hszv16 := hbv16.size
       have qo1_0 := blk_cell hxo1 0 rfl
       have qo1_1 := blk_cell hxo1 1 rfl
       have qo1_2 := blk_cell hxo1 2 rfl
       have hlo1 := blk_lt hxo1
       have qo2_0 := blk_cell hxo2 0 rfl
       have qo2_1 := blk_cell hxo2 1 rfl
       have qo2_2 := blk_cell hxo2 2 rfl
       have hlo2 := blk_lt hxo2
       have qo3_0 := blk_cell hxo3 0 rfl
       have qo3_1 := blk_cell hxo3 1 rfl
       have qo3_2 := blk_cell hxo3 2 rfl
       have hlo3 := blk_lt hxo3
       have qo10_0 := blk_cell hxo10 0 rfl
       have qo10_1 := blk_cell hxo10 1 rfl
       have qo10_2 := blk_cell hxo10 2 rfl
       have hlo10 := blk_lt hxo10
       have qo13_0 := blk_cell hxo13 0 rfl
       have qo13_1 := blk_cell hxo13 1 rfl
       have qo13_2 := blk_cell hxo13 2 rfl
       have hlo13 := blk_lt hxo13
       have qo16_0 := blk_cell hxo16 0 rfl
       have qo16_1 := blk_cell hxo16 1 rfl
       have qo16_2 := blk_cell hxo16 2 rfl
       have hlo16 := blk_lt hxo16
       replace hrgo20 := Lib.hid (rg_lo hrgo20.out (lo := v15.heap.size + 0) (hi := v16.heap.size) (by first | exact Nat.le_refl _ | exact le_al1 | (simp; done) | (simp; omega)) (Nat.le_refl _))
       replace hrgo21 := Lib.hid (rg_lo hrgo21.out (lo := v15.heap.size + 0) (hi := v16.heap.size) (by first | exact Nat.le_refl _ | exact le_al1 | (simp; done) | (simp; omega)) (Nat.le_refl _))
       )
    | (go_at_call 16
       refine (eqConfig_same _ _ _ _ _ x2_1 (by have h := (own_rd hoo14); first | exact h | exact h.below (below_new _ _) (Nat.le_refl _) | exact h.below (below_drew1 (below_new _ _)) (Nat.le_refl _)) (by omega) _ _ _ (by have h := (own_rd hoo20); first | exact h | exact h.below (below_new _ _) (Nat.le_refl _) | exact h.below (below_drew1 (below_new _ _)) (Nat.le_refl _)) _ _ _ x2_2 (by have h := (own_rd hoo15); first | exact h | exact h.below (below_new _ _) (Nat.le_refl _) | exact h.below (below_drew1 (below_new _ _)) (Nat.le_refl _)) (by omega) _ _ _ (by have h := (own_rd hoo21); first | exact h | exact h.below (below_new _ _) (Nat.le_refl _) | exact h.below (below_drew1 (below_new _ _)) (Nat.le_refl _))).mono ?_
       rintro e v17 ⟨rfl, hbv17⟩
       clear qo1_0 qo1_1 qo1_2 qo2_0 qo2_1 qo2_2 qo3_0 qo3_1 qo3_2 qo10_0 qo10_1 qo10_2 qo13_0 qo13_1 qo13_2 qo16_0 qo16_1 qo16_2 hlo1 hlo2 hlo3 hlo10 hlo13 hlo16
       (try replace hbv17 := und1 hbv17)
       (try replace hbv17 := undN hbv17)
       replace hoo4 := ownN_below hoo4 hbv17 (Nat.le_refl _)
       replace hoo5 := ownN_below hoo5 hbv17 (Nat.le_refl _)
       replace hoo6 := hoo6.below hbv17
       replace hoo7 := ownN_below hoo7 hbv17 (Nat.le_refl _)
       replace hoo8 := ownN_below hoo8 hbv17 (Nat.le_refl _)
       replace hoo9 := ownN_below hoo9 hbv17 (Nat.le_refl _)
       replace hoo11 := ownN_below hoo11 hbv17 (Nat.le_refl _)
       replace hoo12 := hoo12.below hbv17
       replace hoo14 := ownN_below hoo14 hbv17 (Nat.le_refl _)
       replace hoo15 := ownN_below hoo15 hbv17 (Nat.le_refl _)
       replace hoo17 := ownN_below hoo17 hbv17 (Nat.le_refl _)
       replace hoo18 := ownN_below hoo18 hbv17 (Nat.le_refl _)
       replace hoo19 := hoo19.below hbv17
       replace hoo20 := ownN_below hoo20 hbv17 (Nat.le_refl _)
       replace hoo21 := ownN_below hoo21 hbv17 (Nat.le_refl _)
       replace hxo1 := blk_bel hxo1 hbv17
       replace hxo2 := blk_bel hxo2 hbv17
       replace hxo3 := blk_bel hxo3 hbv17
       replace hxo10 := blk_bel hxo10 hbv17
       replace hxo13 := blk_bel hxo13 hbv17
       replace hxo16 := blk_bel hxo16 hbv17
       replace HB := HB.trans (hbv17.mono HB.size)
       have hszv17 := hbv17.size
       have qo1_0 := blk_cell hxo1 0 rfl
       have qo1_1 := blk_cell hxo1 1 rfl
       have qo1_2 := blk_cell hxo1 2 rfl
       have hlo1 := blk_lt hxo1
       have qo2_0 := blk_cell hxo2 0 rfl
       have qo2_1 := blk_cell hxo2 1 rfl
       have qo2_2 := blk_cell hxo2 2 rfl
       have hlo2 := blk_lt hxo2
       have qo3_0 := blk_cell hxo3 0 rfl
       have qo3_1 := blk_cell hxo3 1 rfl
       have qo3_2 := blk_cell hxo3 2 rfl
       have hlo3 := blk_lt hxo3
       have qo10_0 := blk_cell hxo10 0 rfl
       have qo10_1 := blk_cell hxo10 1 rfl
       have qo10_2 := blk_cell hxo10 2 rfl
       have hlo10 := blk_lt hxo10
       have qo13_0 := blk_cell hxo13 0 rfl
       have qo13_1 := blk_cell hxo13 1 rfl
       have qo13_2 := blk_cell hxo13 2 rfl
       have hlo13 := blk_lt hxo13
       have qo16_0 := blk_cell hxo16 0 rfl
       have qo16_1 := blk_cell hxo16 1 rfl
       have qo16_2 := blk_cell hxo16 2 rfl
       have hlo16 := blk_lt hxo16
       )
    )
  go_wp2_with fail
  go_ret
  first | exact ⟨rfl, HB⟩ | exact ⟨rfl, below_drewN HB⟩
end Go.Proofs.YtanicbbgneobpaaGreat
