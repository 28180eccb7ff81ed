/- The law on CheckContexts. Written by genlaw5.py. -/
import Derived.Test.YtemllhkgjdifiaaCkK
import Derived.Test.YtemllhkgjdifiaaCkV
import Derived.Test.YtemllhkgjdifiaaGC
import Derived.Test.YtemllhkgjdifiaaGD
namespace Go.Proofs.Ytemllhkgjdifiaa
open Go.RowKit
set_option linter.unusedVariables false
set_option linter.unusedSimpArgs false
theorem implCheckContexts_chk (w : World) (s t : Int) (A : Option Addr) (n c : Nat) (rs : List Rul) (hr : Rd w A (n * 3) (ints (flatR rs))) (hn : n ≤ 1099511627776) (k : Int) (A1 : Option Addr) (n1 c1 : Nat) (ns : List Int) (hr1 : Rd w A1 n1 (ints ns)) (hn1 : n1 ≤ 1000000000) (hc1 : n1 ≤ c1) (A2 : Option Addr) (n2 c2 : Nat) (ws : List (List Int)) (hr2 : RdL w A2 n2 ws) (hn2 : n2 ≤ 1000000000) (hc2 : n2 ≤ c2) :
    Calls Try.prog 26 #[mchV s t A n c, prfV k A1 n1 c1 A2 n2 c2] w (RetV w (.bool (chkA s t rs k ns ws))) := by
  rw [← chk_same]
  exact implCheckContexts_any w s t A n c rs hr hn k A1 n1 c1 ns hr1 hn1 hc1 A2 n2 c2 ws hr2 hn2 hc2
set_option maxHeartbeats 16000000 in
set_option maxRecDepth 100000 in
theorem lawCheckContexts (w : World) (x0_0 : Int) (x0_1 : Int) (A0_2 : Option Addr) (n0_2 c0_2 : Nat) (x0_2 : List Int) (hr0_2 : Rd w A0_2 (n0_2 * 3) (ints x0_2)) (hnn0_2 : n0_2 ≤ 9223372036854775807) (x1_0 : Int) (A1_1 : Option Addr) (n1_1 c1_1 : Nat) (x1_1 : List Int) (hr1_1 : Rd w A1_1 n1_1 (ints x1_1)) (hnn1_1 : n1_1 ≤ 9223372036854775807) (A1_2 : Option Addr) (n1_2 c1_2 : Nat) (x1_2 : List (List Int)) (hw1_2 : RdW w A1_2 n1_2 x1_2) (hnn1_2 : n1_2 ≤ 9223372036854775807) :
    Calls Try.prog 4 #[.agg #[.int .i64 x0_0, .int .i64 x0_1, .slice A0_2 n0_2 c0_2], .agg #[.int .i64 x1_0, .slice A1_1 n1_1 c1_1, .slice A1_2 n1_2 c1_2]] w fun e w' => e = .returned (.bool true) ∧ Below w.heap.size w w' := by
  obtain ⟨rs, rfl, hps⟩ := unflatR n0_2 x0_2 (by simpa using hr0_2.1)
  have HPS := Lib.hid hps; clear hps
  have hS : ∀ (w : World) (A0_2 : Option Addr) (n0_2 c0_2 : Nat) (h0_2 : Rd w A0_2 (n0_2 * 3) (ints (flatR rs))) (hn0_2 : n0_2 ≤ 1000000000) (hcp0_2 : n0_2 ≤ c0_2) (A1_1 : Option Addr) (n1_1 c1_1 : Nat) (h1_1 : Rd w A1_1 n1_1 (ints x1_1)) (hn1_1 : n1_1 ≤ 1000000000) (hcp1_1 : n1_1 ≤ c1_1) (A1_2 : Option Addr) (n1_2 c1_2 : Nat) (h1_2 : RdL w A1_2 n1_2 x1_2) (hn1_2 : n1_2 ≤ 1000000000) (hcp1_2 : n1_2 ≤ c1_2), Calls Try.prog 24 #[.agg #[.int .i64 x0_0, .int .i64 x0_1, .slice A0_2 n0_2 c0_2], .agg #[.int .i64 x1_0, .slice A1_1 n1_1 c1_1, .slice A1_2 n1_2 c1_2]] w (fun e w' => e = .returned (.bool ((chkA x0_0 x0_1 rs x1_0 x1_1 x1_2))) ∧ Below w.heap.size w w') := fun w A0_2 n0_2 c0_2 h0_2 hn0_2 hcp0_2 A1_1 n1_1 c1_1 h1_1 hn1_1 hcp1_1 A1_2 n1_2 c1_2 h1_2 hn1_2 hcp1_2 => specCheckContexts_any w x0_0 x0_1 A0_2 n0_2 c0_2 rs h0_2 (by omega) x1_0 A1_1 n1_1 c1_1 x1_1 h1_1 hn1_1 hcp1_1 A1_2 n1_2 c1_2 x1_2 h1_2 hn1_2
  have hI : ∀ (w : World) (A0_2 : Option Addr) (n0_2 c0_2 : Nat) (h0_2 : Rd w A0_2 (n0_2 * 3) (ints (flatR rs))) (hn0_2 : n0_2 ≤ 1000000000) (hcp0_2 : n0_2 ≤ c0_2) (A1_1 : Option Addr) (n1_1 c1_1 : Nat) (h1_1 : Rd w A1_1 n1_1 (ints x1_1)) (hn1_1 : n1_1 ≤ 1000000000) (hcp1_1 : n1_1 ≤ c1_1) (A1_2 : Option Addr) (n1_2 c1_2 : Nat) (h1_2 : RdL w A1_2 n1_2 x1_2) (hn1_2 : n1_2 ≤ 1000000000) (hcp1_2 : n1_2 ≤ c1_2), Calls Try.prog 26 #[.agg #[.int .i64 x0_0, .int .i64 x0_1, .slice A0_2 n0_2 c0_2], .agg #[.int .i64 x1_0, .slice A1_1 n1_1 c1_1, .slice A1_2 n1_2 c1_2]] w (fun e w' => e = .returned (.bool ((chkA x0_0 x0_1 rs x1_0 x1_1 x1_2))) ∧ Below w.heap.size w w') := fun w A0_2 n0_2 c0_2 h0_2 hn0_2 hcp0_2 A1_1 n1_1 c1_1 h1_1 hn1_1 hcp1_1 A1_2 n1_2 c1_2 h1_2 hn1_2 hcp1_2 => implCheckContexts_chk w x0_0 x0_1 A0_2 n0_2 c0_2 rs h0_2 (by omega) x1_0 A1_1 n1_1 c1_1 x1_1 h1_1 hn1_1 hcp1_1 A1_2 n1_2 c1_2 x1_2 h1_2 hn1_2 hcp1_2
  have HS := Lib.hid hS; have HI := Lib.hid hI
  clear hS hI
  generalize (chkA x0_0 x0_1 rs x1_0 x1_1 x1_2) = r0 at HS HI 
  have HXL0_2 : Hid (((flatR rs)).length = n0_2 * 3) := Lib.hid (by have := hr0_2.1; simp at this; omega)
  have HXL1_1 : Hid ((x1_1).length = n1_1 * 1) := Lib.hid (by have := hr1_1.1; simp at this; omega)
  have HXL1_2 : Hid ((x1_2).length = n1_2) := Lib.hid hw1_2.len
  have HB := Below.refl w.heap.size w
  go_enter Try.func4, Try.ntmps4
  go_wp2_with fail
  refine (szMachine_post _ x0_0 x0_1 _ _ _ hnn0_2 _ (by omega) (by omega)).mono ?_
  rintro e v1 ⟨lfv1, rfl, hqv1, hpv1, hbv1⟩
  (try replace hbv1 := und1 hbv1)
  (try replace hbv1 := undN hbv1)
  obtain ⟨hbv1b, hxo2, hso2⟩ := box_step hbv1
  (try simp only [World.size_alloc] at hxo2 hso2)
  obtain ⟨hbv1bb, hxo1, hso1⟩ := box_step hbv1b
  (try simp only [World.size_alloc] at hxo1 hso1)
  replace HB := HB.trans (hbv1bb.mono HB.size)
  have hszv1 := hbv1bb.size
  have qo1_0 := blk_cell hxo1 0 rfl
  have qo1_1 := blk_cell hxo1 1 rfl
  have qo1_2 := blk_cell hxo1 2 rfl
  have hlo1 := blk_lt hxo1
  have qo2_0 := blk_cell hxo2 0 rfl
  have qo2_1 := blk_cell hxo2 1 rfl
  have qo2_2 := blk_cell hxo2 2 rfl
  have hlo2 := blk_lt hxo2
  by_cases hzv1 : lfv1 < 0
  · clear hqv1 hpv1
    go_wp2_with fail
    go_ret
    exact ⟨rfl, HB⟩
  replace hqv1 := hqv1 (by omega)
  have hbig0_2 : n0_2 ≤ 1048576 := by omega
  have HQv1 := Lib.hid hqv1; clear hqv1
  go_wp2_with fail
  refine (szProof_post _ x1_0 _ _ _ hnn1_1 _ _ _ x1_2 (by have h := hw1_2.below HB (Nat.le_refl _); first | exact h | exact h.below (below_new _ _) (Nat.le_refl _) | exact (h.below (below_new _ _) (Nat.le_refl _)).below (below_new _ _) (Nat.le_refl _) | exact ((h.below (below_new _ _) (Nat.le_refl _)).below (below_new _ _) (Nat.le_refl _)).below (below_new _ _) (Nat.le_refl _)) hnn1_2 _ (by omega) (by omega)).mono ?_
  rintro e v2 ⟨lfv2, rfl, hqv2, hpv2, hbv2⟩
  clear qo1_0 qo1_1 qo1_2 qo2_0 qo2_1 qo2_2 hlo1 hlo2
  (try replace hbv2 := und1 hbv2)
  (try replace hbv2 := undN hbv2)
  replace hxo1 := blk_bel hxo1 hbv2
  replace hxo2 := blk_bel hxo2 hbv2
  replace HB := HB.trans (hbv2.mono HB.size)
  have hszv2 := hbv2.size
  have qo1_0 := blk_cell hxo1 0 rfl
  have qo1_1 := blk_cell hxo1 1 rfl
  have qo1_2 := blk_cell hxo1 2 rfl
  have hlo1 := blk_lt hxo1
  have qo2_0 := blk_cell hxo2 0 rfl
  have qo2_1 := blk_cell hxo2 1 rfl
  have qo2_2 := blk_cell hxo2 2 rfl
  have hlo2 := blk_lt hxo2
  by_cases hzv2 : lfv2 < 0
  · clear hqv2 hpv2
    go_wp2_with fail
    go_ret
    exact ⟨rfl, HB⟩
  replace hqv2 := hqv2 (by omega)
  have hbig1_1 : n1_1 ≤ 1048576 := by omega
  have hbig1_2 : n1_2 ≤ 1048576 := by omega
  have HTX1_2 : Hid (tot x1_2 ≤ 1048576) := Lib.hid (by omega)
  have hr1_2 := hw1_2.rdl (by have := HTX1_2.out; omega)
  have HQv2 := Lib.hid hqv2; clear hqv2
  go_wp2_with fail
  go_region_held3 (fun w' => w'.cell? ⟨w.heap.size, 0, none⟩ = some (.int .i64 x0_0) ∧ w'.cell? ⟨w.heap.size, 1, none⟩ = some (.int .i64 x0_1) ∧ w'.cell? ⟨w.heap.size, 2, none⟩ = some (.slice A0_2 n0_2 c0_2) ∧ w'.cell? ⟨w.heap.size + 1, 0, none⟩ = some (.int .i64 x1_0) ∧ w'.cell? ⟨w.heap.size + 1, 1, none⟩ = some (.slice A1_1 n1_1 c1_1) ∧ w'.cell? ⟨w.heap.size + 1, 2, none⟩ = some (.slice A1_2 n1_2 c1_2)) (first | exact ⟨qo1_0, qo1_1, qo1_2, qo2_0, qo2_1, qo2_2⟩ | go_keep) (first
    | (go_at_call 12
       refine (toMachine_any _ x0_0 x0_1 _ _ _ (flatR rs) (by have h := (hr0_2.below HB (Nat.le_refl _)); first | exact h | exact h.below (below_new _ _) (Nat.le_refl _) | exact h.below (below_drew1 (below_new _ _)) (Nat.le_refl _)) (by omega)).mono ?_
       rintro e v3 ⟨Ao3, no3, co3, rfl, hoo3, hbv3⟩
       have hno3 : no3 ≤ 1048576 := by have h1 := hoo3.1; simp only [List.length_map] at h1; have h2 := HXL0_2.out; omega
       have hrgo3 := Lib.hid (rg_row hoo3)
       clear qo1_0 qo1_1 qo1_2 qo2_0 qo2_1 qo2_2 hlo1 hlo2
       (try replace hbv3 := und1 hbv3)
       (try replace hbv3 := undN hbv3)
       replace hxo1 := blk_bel hxo1 hbv3
       replace hxo2 := blk_bel hxo2 hbv3
       replace HB := HB.trans (hbv3.mono HB.size)
       have hszv3 := hbv3.size
       have qo1_0 := blk_cell hxo1 0 rfl
       have qo1_1 := blk_cell hxo1 1 rfl
       have qo1_2 := blk_cell hxo1 2 rfl
       have hlo1 := blk_lt hxo1
       have qo2_0 := blk_cell hxo2 0 rfl
       have qo2_1 := blk_cell hxo2 1 rfl
       have qo2_2 := blk_cell hxo2 2 rfl
       have hlo2 := blk_lt hxo2
       replace hrgo3 := Lib.hid (rg_lo hrgo3.out (lo := v2.heap.size + 0) (hi := v3.heap.size) (by first | exact Nat.le_refl _ | exact le_al1 | (simp; done) | (simp; omega)) (Nat.le_refl _))
       )
    | (go_at_call 25
       refine (toProof_any _ x1_0 _ _ _ x1_1 (by have h := (hr1_1.below HB (Nat.le_refl _)); first | exact h | exact h.below (below_new _ _) (Nat.le_refl _) | exact h.below (below_drew1 (below_new _ _)) (Nat.le_refl _)) (by omega) _ _ _ x1_2 (by have h := (hr1_2.below HB (Nat.le_refl _)); first | exact h | exact h.below (below_new _ _) (Nat.le_refl _) | exact h.below (below_drew1 (below_new _ _)) (Nat.le_refl _)) (by omega)).mono ?_
       rintro e v4 ⟨Ao4, no4, co4, Ao5, no5, co5, Fo5, rfl, hoo4, hoo5, hFo5, hdo4o5, hbv4⟩
       have hno4 : no4 ≤ 1048576 := by have h1 := hoo4.1; simp only [List.length_map] at h1; have h2 := HXL1_1.out; omega
       have hno5 : no5 ≤ 1048576 := by have h1 := hoo5.len; have h2 := HXL1_2.out; omega
       have hrgo4 := Lib.hid (rg_row hoo4)
       have hrgo5 := Lib.hid hFo5; clear hFo5
       have HDo4o5 := Lib.hid hdo4o5; clear hdo4o5
       clear qo1_0 qo1_1 qo1_2 qo2_0 qo2_1 qo2_2 hlo1 hlo2
       (try replace hbv4 := und1 hbv4)
       (try replace hbv4 := undN hbv4)
       replace hoo3 := ownN_below hoo3 hbv4 (Nat.le_refl _)
       replace hxo1 := blk_bel hxo1 hbv4
       replace hxo2 := blk_bel hxo2 hbv4
       replace HB := HB.trans (hbv4.mono HB.size)
       have hszv4 := hbv4.size
       have qo1_0 := blk_cell hxo1 0 rfl
       have qo1_1 := blk_cell hxo1 1 rfl
       have qo1_2 := blk_cell hxo1 2 rfl
       have hlo1 := blk_lt hxo1
       have qo2_0 := blk_cell hxo2 0 rfl
       have qo2_1 := blk_cell hxo2 1 rfl
       have qo2_2 := blk_cell hxo2 2 rfl
       have hlo2 := blk_lt hxo2
       replace hrgo4 := Lib.hid (rg_lo hrgo4.out (lo := v3.heap.size + 0) (hi := v4.heap.size) (by first | exact Nat.le_refl _ | exact le_al1 | (simp; done) | (simp; omega)) (Nat.le_refl _))
       replace hrgo5 := Lib.hid (rg_lo hrgo5.out (lo := v3.heap.size + 0) (hi := v4.heap.size) (by first | exact Nat.le_refl _ | exact le_al1 | (simp; done) | (simp; omega)) (Nat.le_refl _))
       )
    | (go_at_call 24
       refine (HS.out _ _ _ _ (by have h := (ownN_rd hoo3); first | exact h | exact h.below (below_new _ _) (Nat.le_refl _) | exact h.below (below_drew1 (below_new _ _)) (Nat.le_refl _)) (by omega) (ownN_cap hoo3) _ _ _ (by have h := (own_rd hoo4); first | exact h | exact h.below (below_new _ _) (Nat.le_refl _) | exact h.below (below_drew1 (below_new _ _)) (Nat.le_refl _)) (by omega) (ownN_cap hoo4) _ _ _ (by have h := hoo5.rdl; first | exact h | exact h.below (below_new _ _) (Nat.le_refl _) | exact h.below (below_drew1 (below_new _ _)) (Nat.le_refl _)) (by omega) hoo5.cap).mono ?_
       rintro e v5 ⟨rfl, hbv5⟩
       clear qo1_0 qo1_1 qo1_2 qo2_0 qo2_1 qo2_2 hlo1 hlo2
       (try replace hbv5 := und1 hbv5)
       (try replace hbv5 := undN hbv5)
       replace hoo3 := ownN_below hoo3 hbv5 (Nat.le_refl _)
       replace hoo4 := ownN_below hoo4 hbv5 (Nat.le_refl _)
       replace hoo5 := hoo5.below hbv5
       replace hxo1 := blk_bel hxo1 hbv5
       replace hxo2 := blk_bel hxo2 hbv5
       replace HB := HB.trans (hbv5.mono HB.size)
       have hszv5 := hbv5.size
       have qo1_0 := blk_cell hxo1 0 rfl
       have qo1_1 := blk_cell hxo1 1 rfl
       have qo1_2 := blk_cell hxo1 2 rfl
       have hlo1 := blk_lt hxo1
       have qo2_0 := blk_cell hxo2 0 rfl
       have qo2_1 := blk_cell hxo2 1 rfl
       have qo2_2 := blk_cell hxo2 2 rfl
       have hlo2 := blk_lt hxo2
       )
    )
  go_wp2_with fail
  refine (toMachine_any _ x0_0 x0_1 _ _ _ (flatR rs) (hr0_2.below HB (Nat.le_refl _)) (by omega)).mono ?_
  rintro e v6 ⟨Ao6, no6, co6, rfl, hoo6, hbv6⟩
  have hno6 : no6 ≤ 1048576 := by have h1 := hoo6.1; simp only [List.length_map] at h1; have h2 := HXL0_2.out; omega
  have hrgo6 := Lib.hid (rg_row hoo6)
  clear qo1_0 qo1_1 qo1_2 qo2_0 qo2_1 qo2_2 hlo1 hlo2
  (try replace hbv6 := und1 hbv6)
  (try replace hbv6 := undN hbv6)
  replace hoo3 := ownN_below hoo3 hbv6 (Nat.le_refl _)
  replace hoo4 := ownN_below hoo4 hbv6 (Nat.le_refl _)
  replace hoo5 := hoo5.below hbv6
  replace hxo1 := blk_bel hxo1 hbv6
  replace hxo2 := blk_bel hxo2 hbv6
  replace HB := HB.trans (hbv6.mono HB.size)
  have hszv6 := hbv6.size
  have qo1_0 := blk_cell hxo1 0 rfl
  have qo1_1 := blk_cell hxo1 1 rfl
  have qo1_2 := blk_cell hxo1 2 rfl
  have hlo1 := blk_lt hxo1
  have qo2_0 := blk_cell hxo2 0 rfl
  have qo2_1 := blk_cell hxo2 1 rfl
  have qo2_2 := blk_cell hxo2 2 rfl
  have hlo2 := blk_lt hxo2
  replace hrgo6 := Lib.hid (rg_lo hrgo6.out (lo := v5.heap.size + 0) (hi := v6.heap.size) (by first | exact Nat.le_refl _ | exact le_al1 | (simp; done) | (simp; omega)) (Nat.le_refl _))
  go_wp2_with fail
  refine (toProof_any _ x1_0 _ _ _ x1_1 ((hr1_1.below HB (Nat.le_refl _)).below (below_new _ _) (Nat.le_refl _)) (by omega) _ _ _ x1_2 ((hr1_2.below HB (Nat.le_refl _)).below (below_new _ _) (Nat.le_refl _)) (by omega)).mono ?_
  rintro e v7 ⟨Ao8, no8, co8, Ao9, no9, co9, Fo9, rfl, hoo8, hoo9, hFo9, hdo8o9, hbv7⟩
  have hno8 : no8 ≤ 1048576 := by have h1 := hoo8.1; simp only [List.length_map] at h1; have h2 := HXL1_1.out; omega
  have hno9 : no9 ≤ 1048576 := by have h1 := hoo9.len; have h2 := HXL1_2.out; omega
  have hrgo8 := Lib.hid (rg_row hoo8)
  have hrgo9 := Lib.hid hFo9; clear hFo9
  have HDo8o9 := Lib.hid hdo8o9; clear hdo8o9
  clear qo1_0 qo1_1 qo1_2 qo2_0 qo2_1 qo2_2 hlo1 hlo2
  (try replace hbv7 := und1 hbv7)
  (try replace hbv7 := undN hbv7)
  obtain ⟨hbv7b, hxo7, hso7⟩ := box_step hbv7
  (try simp only [World.size_alloc] at hxo7 hso7)
  replace hoo3 := ownN_below hoo3 hbv7b (Nat.le_refl _)
  replace hoo4 := ownN_below hoo4 hbv7b (Nat.le_refl _)
  replace hoo5 := hoo5.below hbv7b
  replace hoo6 := ownN_below hoo6 hbv7b (Nat.le_refl _)
  replace hxo1 := blk_bel hxo1 hbv7b
  replace hxo2 := blk_bel hxo2 hbv7b
  replace HB := HB.trans (hbv7b.mono HB.size)
  have hszv7 := hbv7b.size
  have qo1_0 := blk_cell hxo1 0 rfl
  have qo1_1 := blk_cell hxo1 1 rfl
  have qo1_2 := blk_cell hxo1 2 rfl
  have hlo1 := blk_lt hxo1
  have qo2_0 := blk_cell hxo2 0 rfl
  have qo2_1 := blk_cell hxo2 1 rfl
  have qo2_2 := blk_cell hxo2 2 rfl
  have hlo2 := blk_lt hxo2
  have qo7_0 := blk_cell hxo7 0 rfl
  have qo7_1 := blk_cell hxo7 1 rfl
  have qo7_2 := blk_cell hxo7 2 rfl
  have hlo7 := blk_lt hxo7
  replace hrgo8 := Lib.hid (rg_lo hrgo8.out (lo := v6.heap.size + 1) (hi := v7.heap.size) (by first | exact Nat.le_refl _ | exact le_al1 | (simp; done) | (simp; omega)) (Nat.le_refl _))
  replace hrgo9 := Lib.hid (rg_lo hrgo9.out (lo := v6.heap.size + 1) (hi := v7.heap.size) (by first | exact Nat.le_refl _ | exact le_al1 | (simp; done) | (simp; omega)) (Nat.le_refl _))
  go_wp2_with fail
  refine (HI.out _ _ _ _ ((ownN_rd hoo6).below (below_new _ _) (Nat.le_refl _)) (by omega) (ownN_cap hoo6) _ _ _ ((own_rd hoo8).below (below_new _ _) (Nat.le_refl _)) (by omega) (ownN_cap hoo8) _ _ _ (hoo9.rdl.below (below_new _ _) (Nat.le_refl _)) (by omega) hoo9.cap).mono ?_
  rintro e v8 ⟨rfl, hbv8⟩
  clear qo1_0 qo1_1 qo1_2 qo2_0 qo2_1 qo2_2 qo7_0 qo7_1 qo7_2 hlo1 hlo2 hlo7
  (try replace hbv8 := und1 hbv8)
  (try replace hbv8 := undN hbv8)
  obtain ⟨hbv8b, hxo10, hso10⟩ := box_step hbv8
  (try simp only [World.size_alloc] at hxo10 hso10)
  replace hoo3 := ownN_below hoo3 hbv8b (Nat.le_refl _)
  replace hoo4 := ownN_below hoo4 hbv8b (Nat.le_refl _)
  replace hoo5 := hoo5.below hbv8b
  replace hoo6 := ownN_below hoo6 hbv8b (Nat.le_refl _)
  replace hoo8 := ownN_below hoo8 hbv8b (Nat.le_refl _)
  replace hoo9 := hoo9.below hbv8b
  replace hxo1 := blk_bel hxo1 hbv8b
  replace hxo2 := blk_bel hxo2 hbv8b
  replace hxo7 := blk_bel hxo7 hbv8b
  replace HB := HB.trans (hbv8b.mono HB.size)
  have hszv8 := hbv8b.size
  have qo1_0 := blk_cell hxo1 0 rfl
  have qo1_1 := blk_cell hxo1 1 rfl
  have qo1_2 := blk_cell hxo1 2 rfl
  have hlo1 := blk_lt hxo1
  have qo2_0 := blk_cell hxo2 0 rfl
  have qo2_1 := blk_cell hxo2 1 rfl
  have qo2_2 := blk_cell hxo2 2 rfl
  have hlo2 := blk_lt hxo2
  have qo7_0 := blk_cell hxo7 0 rfl
  have qo7_1 := blk_cell hxo7 1 rfl
  have qo7_2 := blk_cell hxo7 2 rfl
  have hlo7 := blk_lt hxo7
  have qo10_0 := blk_cell hxo10 0 rfl
  have qo10_1 := blk_cell hxo10 1 rfl
  have qo10_2 := blk_cell hxo10 2 rfl
  have hlo10 := blk_lt hxo10
  go_wp2_with fail
  go_region_held3 (fun w' => w'.cell? ⟨v6.heap.size, 0, none⟩ = some (.int .i64 x0_0) ∧ w'.cell? ⟨v6.heap.size, 1, none⟩ = some (.int .i64 x0_1) ∧ w'.cell? ⟨v6.heap.size, 2, none⟩ = some (.slice Ao6 no6 co6) ∧ w'.cell? ⟨w.heap.size, 0, none⟩ = some (.int .i64 x0_0) ∧ w'.cell? ⟨w.heap.size, 1, none⟩ = some (.int .i64 x0_1) ∧ w'.cell? ⟨w.heap.size, 2, none⟩ = some (.slice A0_2 n0_2 c0_2)) (first | exact ⟨qo7_0, qo7_1, qo7_2, qo1_0, qo1_1, qo1_2⟩ | go_keep) (first
    | (go_at_call 12
       refine (toMachine_any _ x0_0 x0_1 _ _ _ (flatR rs) (by have h := (hr0_2.below HB (Nat.le_refl _)); first | exact h | exact h.below (below_new _ _) (Nat.le_refl _) | exact h.below (below_drew1 (below_new _ _)) (Nat.le_refl _)) (by omega)).mono ?_
       rintro e v9 ⟨Ao11, no11, co11, rfl, hoo11, hbv9⟩
       have hno11 : no11 ≤ 1048576 := by have h1 := hoo11.1; simp only [List.length_map] at h1; have h2 := HXL0_2.out; omega
       have hrgo11 := Lib.hid (rg_row hoo11)
       clear qo1_0 qo1_1 qo1_2 qo2_0 qo2_1 qo2_2 qo7_0 qo7_1 qo7_2 qo10_0 qo10_1 qo10_2 hlo1 hlo2 hlo7 hlo10
       (try replace hbv9 := und1 hbv9)
       (try replace hbv9 := undN hbv9)
       replace hoo3 := ownN_below hoo3 hbv9 (Nat.le_refl _)
       replace hoo4 := ownN_below hoo4 hbv9 (Nat.le_refl _)
       replace hoo5 := hoo5.below hbv9
       replace hoo6 := ownN_below hoo6 hbv9 (Nat.le_refl _)
       replace hoo8 := ownN_below hoo8 hbv9 (Nat.le_refl _)
       replace hoo9 := hoo9.below hbv9
       replace hxo1 := blk_bel hxo1 hbv9
       replace hxo2 := blk_bel hxo2 hbv9
       replace hxo7 := blk_bel hxo7 hbv9
       replace hxo10 := blk_bel hxo10 hbv9
       replace HB := HB.trans (hbv9.mono HB.size)
       have hszv9 := hbv9.size
       have qo1_0 := blk_cell hxo1 0 rfl
       have qo1_1 := blk_cell hxo1 1 rfl
       have qo1_2 := blk_cell hxo1 2 rfl
       have hlo1 := blk_lt hxo1
       have qo2_0 := blk_cell hxo2 0 rfl
       have qo2_1 := blk_cell hxo2 1 rfl
       have qo2_2 := blk_cell hxo2 2 rfl
       have hlo2 := blk_lt hxo2
       have qo7_0 := blk_cell hxo7 0 rfl
       have qo7_1 := blk_cell hxo7 1 rfl
       have qo7_2 := blk_cell hxo7 2 rfl
       have hlo7 := blk_lt hxo7
       have qo10_0 := blk_cell hxo10 0 rfl
       have qo10_1 := blk_cell hxo10 1 rfl
       have qo10_2 := blk_cell hxo10 2 rfl
       have hlo10 := blk_lt hxo10
       replace hrgo11 := Lib.hid (rg_lo hrgo11.out (lo := v8.heap.size + 0) (hi := v9.heap.size) (by first | exact Nat.le_refl _ | exact le_al1 | (simp; done) | (simp; omega)) (Nat.le_refl _))
       )
    | (go_at_call 17
       refine (eqMachine_same _ _ _ _ _ _ (flatR rs) (by have h := (ownN_rd hoo6); first | exact h | exact h.below (below_new _ _) (Nat.le_refl _) | exact h.below (below_drew1 (below_new _ _)) (Nat.le_refl _)) (by omega) _ _ _ (by have h := (ownN_rd hoo11); first | exact h | exact h.below (below_new _ _) (Nat.le_refl _) | exact h.below (below_drew1 (below_new _ _)) (Nat.le_refl _))).mono ?_
       rintro e v10 ⟨rfl, hbv10⟩
       clear qo1_0 qo1_1 qo1_2 qo2_0 qo2_1 qo2_2 qo7_0 qo7_1 qo7_2 qo10_0 qo10_1 qo10_2 hlo1 hlo2 hlo7 hlo10
       (try replace hbv10 := und1 hbv10)
       (try replace hbv10 := undN hbv10)
       replace hoo3 := ownN_below hoo3 hbv10 (Nat.le_refl _)
       replace hoo4 := ownN_below hoo4 hbv10 (Nat.le_refl _)
       replace hoo5 := hoo5.below hbv10
       replace hoo6 := ownN_below hoo6 hbv10 (Nat.le_refl _)
       replace hoo8 := ownN_below hoo8 hbv10 (Nat.le_refl _)
       replace hoo9 := hoo9.below hbv10
       replace hoo11 := ownN_below hoo11 hbv10 (Nat.le_refl _)
       replace hxo1 := blk_bel hxo1 hbv10
       replace hxo2 := blk_bel hxo2 hbv10
       replace hxo7 := blk_bel hxo7 hbv10
       replace hxo10 := blk_bel hxo10 hbv10
       replace HB := HB.trans (hbv10.mono HB.size)
       have hszv10 := hbv10.size
       have qo1_0 := blk_cell hxo1 0 rfl
       have qo1_1 := blk_cell hxo1 1 rfl
       have qo1_2 := blk_cell hxo1 2 rfl
       have hlo1 := blk_lt hxo1
       have qo2_0 := blk_cell hxo2 0 rfl
       have qo2_1 := blk_cell hxo2 1 rfl
       have qo2_2 := blk_cell hxo2 2 rfl
       have hlo2 := blk_lt hxo2
       have qo7_0 := blk_cell hxo7 0 rfl
       have qo7_1 := blk_cell hxo7 1 rfl
       have qo7_2 := blk_cell hxo7 2 rfl
       have hlo7 := blk_lt hxo7
       have qo10_0 := blk_cell hxo10 0 rfl
       have qo10_1 := blk_cell hxo10 1 rfl
       have qo10_2 := blk_cell hxo10 2 rfl
       have hlo10 := blk_lt hxo10
       )
    )
  go_wp2_with fail
  go_region_held3 (fun w' => w'.cell? ⟨v7.heap.size, 0, none⟩ = some (.int .i64 x1_0) ∧ w'.cell? ⟨v7.heap.size, 1, none⟩ = some (.slice Ao8 no8 co8) ∧ w'.cell? ⟨v7.heap.size, 2, none⟩ = some (.slice Ao9 no9 co9) ∧ w'.cell? ⟨w.heap.size + 1, 0, none⟩ = some (.int .i64 x1_0) ∧ w'.cell? ⟨w.heap.size + 1, 1, none⟩ = some (.slice A1_1 n1_1 c1_1) ∧ w'.cell? ⟨w.heap.size + 1, 2, none⟩ = some (.slice A1_2 n1_2 c1_2)) (first | exact ⟨qo10_0, qo10_1, qo10_2, qo2_0, qo2_1, qo2_2⟩ | go_keep) (first
    | (go_at_call 25
       refine (toProof_any _ x1_0 _ _ _ x1_1 (by have h := (hr1_1.below HB (Nat.le_refl _)); first | exact h | exact h.below (below_new _ _) (Nat.le_refl _) | exact h.below (below_drew1 (below_new _ _)) (Nat.le_refl _)) (by omega) _ _ _ x1_2 (by have h := (hr1_2.below HB (Nat.le_refl _)); first | exact h | exact h.below (below_new _ _) (Nat.le_refl _) | exact h.below (below_drew1 (below_new _ _)) (Nat.le_refl _)) (by omega)).mono ?_
       rintro e v11 ⟨Ao12, no12, co12, Ao13, no13, co13, Fo13, rfl, hoo12, hoo13, hFo13, hdo12o13, hbv11⟩
       have hno12 : no12 ≤ 1048576 := by have h1 := hoo12.1; simp only [List.length_map] at h1; have h2 := HXL1_1.out; omega
       have hno13 : no13 ≤ 1048576 := by have h1 := hoo13.len; have h2 := HXL1_2.out; omega
       have hrgo12 := Lib.hid (rg_row hoo12)
       have hrgo13 := Lib.hid hFo13; clear hFo13
       have HDo12o13 := Lib.hid hdo12o13; clear hdo12o13
       clear qo1_0 qo1_1 qo1_2 qo2_0 qo2_1 qo2_2 qo7_0 qo7_1 qo7_2 qo10_0 qo10_1 qo10_2 hlo1 hlo2 hlo7 hlo10
       (try replace hbv11 := und1 hbv11)
       (try replace hbv11 := undN hbv11)
       replace hoo3 := ownN_below hoo3 hbv11 (Nat.le_refl _)
       replace hoo4 := ownN_below hoo4 hbv11 (Nat.le_refl _)
       replace hoo5 := hoo5.below hbv11
       replace hoo6 := ownN_below hoo6 hbv11 (Nat.le_refl _)
       replace hoo8 := ownN_below hoo8 hbv11 (Nat.le_refl _)
       replace hoo9 := hoo9.below hbv11
       replace hoo11 := ownN_below hoo11 hbv11 (Nat.le_refl _)
       replace hxo1 := blk_bel hxo1 hbv11
       replace hxo2 := blk_bel hxo2 hbv11
       replace hxo7 := blk_bel hxo7 hbv11
       replace hxo10 := blk_bel hxo10 hbv11
       replace HB := HB.trans (hbv11.mono HB.size)
       have hszv11 := hbv11.size
       have qo1_0 := blk_cell hxo1 0 rfl
       have qo1_1 := blk_cell hxo1 1 rfl
       have qo1_2 := blk_cell hxo1 2 rfl
       have hlo1 := blk_lt hxo1
       have qo2_0 := blk_cell hxo2 0 rfl
       have qo2_1 := blk_cell hxo2 1 rfl
       have qo2_2 := blk_cell hxo2 2 rfl
       have hlo2 := blk_lt hxo2
       have qo7_0 := blk_cell hxo7 0 rfl
       have qo7_1 := blk_cell hxo7 1 rfl
       have qo7_2 := blk_cell hxo7 2 rfl
       have hlo7 := blk_lt hxo7
       have qo10_0 := blk_cell hxo10 0 rfl
       have qo10_1 := blk_cell hxo10 1 rfl
       have qo10_2 := blk_cell hxo10 2 rfl
       have hlo10 := blk_lt hxo10
       replace hrgo12 := Lib.hid (rg_lo hrgo12.out (lo := v10.heap.size + 0) (hi := v11.heap.size) (by first | exact Nat.le_refl _ | exact le_al1 | (simp; done) | (simp; omega)) (Nat.le_refl _))
       replace hrgo13 := Lib.hid (rg_lo hrgo13.out (lo := v10.heap.size + 0) (hi := v11.heap.size) (by first | exact Nat.le_refl _ | exact le_al1 | (simp; done) | (simp; omega)) (Nat.le_refl _))
       )
    | (go_at_call 27
       refine (eqProof_same _ _ _ _ _ x1_1 (by have h := (own_rd hoo8); first | exact h | exact h.below (below_new _ _) (Nat.le_refl _) | exact h.below (below_drew1 (below_new _ _)) (Nat.le_refl _)) (by omega) _ _ _ (by have h := (own_rd hoo12); first | exact h | exact h.below (below_new _ _) (Nat.le_refl _) | exact h.below (below_drew1 (below_new _ _)) (Nat.le_refl _)) _ _ _ x1_2 (by have h := hoo9.rdl; first | exact h | exact h.below (below_new _ _) (Nat.le_refl _) | exact h.below (below_drew1 (below_new _ _)) (Nat.le_refl _)) (by omega) _ _ _ (by have h := hoo13.rdl; first | exact h | exact h.below (below_new _ _) (Nat.le_refl _) | exact h.below (below_drew1 (below_new _ _)) (Nat.le_refl _))).mono ?_
       rintro e v12 ⟨rfl, hbv12⟩
       clear qo1_0 qo1_1 qo1_2 qo2_0 qo2_1 qo2_2 qo7_0 qo7_1 qo7_2 qo10_0 qo10_1 qo10_2 hlo1 hlo2 hlo7 hlo10
       (try replace hbv12 := und1 hbv12)
       (try replace hbv12 := undN hbv12)
       replace hoo3 := ownN_below hoo3 hbv12 (Nat.le_refl _)
       replace hoo4 := ownN_below hoo4 hbv12 (Nat.le_refl _)
       replace hoo5 := hoo5.below hbv12
       replace hoo6 := ownN_below hoo6 hbv12 (Nat.le_refl _)
       replace hoo8 := ownN_below hoo8 hbv12 (Nat.le_refl _)
       replace hoo9 := hoo9.below hbv12
       replace hoo11 := ownN_below hoo11 hbv12 (Nat.le_refl _)
       replace hoo12 := ownN_below hoo12 hbv12 (Nat.le_refl _)
       replace hoo13 := hoo13.below hbv12
       replace hxo1 := blk_bel hxo1 hbv12
       replace hxo2 := blk_bel hxo2 hbv12
       replace hxo7 := blk_bel hxo7 hbv12
       replace hxo10 := blk_bel hxo10 hbv12
       replace HB := HB.trans (hbv12.mono HB.size)
       have hszv12 := hbv12.size
       have qo1_0 := blk_cell hxo1 0 rfl
       have qo1_1 := blk_cell hxo1 1 rfl
       have qo1_2 := blk_cell hxo1 2 rfl
       have hlo1 := blk_lt hxo1
       have qo2_0 := blk_cell hxo2 0 rfl
       have qo2_1 := blk_cell hxo2 1 rfl
       have qo2_2 := blk_cell hxo2 2 rfl
       have hlo2 := blk_lt hxo2
       have qo7_0 := blk_cell hxo7 0 rfl
       have qo7_1 := blk_cell hxo7 1 rfl
       have qo7_2 := blk_cell hxo7 2 rfl
       have hlo7 := blk_lt hxo7
       have qo10_0 := blk_cell hxo10 0 rfl
       have qo10_1 := blk_cell hxo10 1 rfl
       have qo10_2 := blk_cell hxo10 2 rfl
       have hlo10 := blk_lt hxo10
       )
    )
  go_wp2_with fail
  go_ret
  first | exact ⟨rfl, HB⟩ | exact ⟨rfl, below_drewN HB⟩
end Go.Proofs.Ytemllhkgjdifiaa
