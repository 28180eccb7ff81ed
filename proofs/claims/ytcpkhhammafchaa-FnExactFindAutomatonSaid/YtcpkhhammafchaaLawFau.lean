/- The law on FindAutomaton. Written by genlaw5.py. -/
import Derived.Test.YtcpkhhammafchaaFaX
import Derived.Test.YtcpkhhammafchaaGC
import Derived.Test.YtcpkhhammafchaaGD
namespace Go.Proofs.Ytcpkhhammafchaa
open Go.RowKit
set_option linter.unusedVariables false
set_option linter.unusedSimpArgs false
def BdA (r : ResA) : Prop := r.2.1.length ≤ 1000000 ∧ tot r.2.2.1 ≤ 1000000 ∧ r.2.2.1.length ≤ 1000000
theorem bdA_err (z : Int) : BdA (0, [], [], z) := by unfold BdA; simp [tot]
theorem faR_bd {s : Nat} {rs : List Rul} {b : Nat} {r : ResA} (hs : s ≤ 6) (h : FaR s rs b r) : BdA r := by
  cases h with
  | found h _ _ =>
    obtain ⟨st, i, j, h1, h3, _, _, _, _, rfl⟩ := h
    refine ⟨?_, by simp [tot], by simp⟩
    show (prN s st i j).length ≤ 1000000
    unfold prN
    have h4 : st * s ≤ 3 * 6 := Nat.mul_le_mul h3 hs
    simp only [List.length_append, List.length_cons, List.length_nil, rowA_len]
    omega
  | out => exact bdA_err _
  | none => exact bdA_err _
theorem fauP_bd (s t : Int) (rs : List Rul) (b : Int) : BdA (fauP s t rs b) := by
  unfold fauP
  by_cases h : okM s t rs = true
  · rw [if_pos h]
    split
    · by_cases hx : ∃ r, FaR s.toNat rs b.toNat r
      · obtain ⟨r, hr⟩ := hx
        rw [faP_of hr]
        exact faR_bd (by have := (okM_all h).1; omega) hr
      · unfold faP
        rw [dif_neg hx]
        exact bdA_err _
    · exact bdA_err _
  · rw [if_neg h]; exact bdA_err _
set_option maxHeartbeats 16000000 in
set_option maxRecDepth 100000 in
theorem lawFindAutomaton (w : World) (x0_0 : Int) (x0_1 : Int) (A0_2 : Option Addr) (n0_2 c0_2 : Nat) (x0_2 : List Int) (hr0_2 : Rd w A0_2 (n0_2 * 3) (ints x0_2)) (hnn0_2 : n0_2 ≤ 9223372036854775807) (x1 : Int) :
    Calls Try.prog 5 #[.agg #[.int .i64 x0_0, .int .i64 x0_1, .slice A0_2 n0_2 c0_2], .int .i64 x1] w fun e w' => e = .returned (.bool true) ∧ Below w.heap.size w w' := by
  obtain ⟨rs, rfl, hps⟩ := unflatR n0_2 x0_2 (by simpa using hr0_2.1)
  have HPS := Lib.hid hps; clear hps
  have hS : ∀ (w : World) (A0_2 : Option Addr) (n0_2 c0_2 : Nat) (h0_2 : Rd w A0_2 (n0_2 * 3) (ints (flatR rs))) (hn0_2 : n0_2 ≤ 1000000000) (hcp0_2 : n0_2 ≤ c0_2), Calls Try.prog 28 #[.agg #[.int .i64 x0_0, .int .i64 x0_1, .slice A0_2 n0_2 c0_2], .int .i64 x1] w (fun e w' => ∃ (AR1 : Option Addr) (nR1 cR1 : Nat) (AR2 : Option Addr) (nR2 cR2 : Nat) (FR2 : Nat → Prop), e = .returned (.tuple #[.agg #[.int .i64 ((fauP x0_0 x0_1 rs x1).1), .slice AR1 nR1 cR1, .slice AR2 nR2 cR2], .int .i64 ((fauP x0_0 x0_1 rs x1).2.2.2)]) ∧ w'.ownsRow w.heap.size 2 1 (.slice AR1 nR1 cR1) nR1 (ints ((fauP x0_0 x0_1 rs x1).2.1)) ∧ OwnP w' FR2 AR2 nR2 cR2 ((fauP x0_0 x0_1 rs x1).2.2.1) ∧ (∀ k, FR2 k → w.heap.size ≤ k ∧ k < w'.heap.size) ∧ (∀ k, Fo (.slice AR1 nR1 cR1) k → FR2 k → False) ∧ Below w.heap.size w w') := fun w A0_2 n0_2 c0_2 h0_2 hn0_2 hcp0_2 => specFindAutomaton_any w x0_0 x0_1 A0_2 n0_2 c0_2 rs h0_2 (by omega) x1
  have hI : ∀ (w : World) (A0_2 : Option Addr) (n0_2 c0_2 : Nat) (h0_2 : Rd w A0_2 (n0_2 * 3) (ints (flatR rs))) (hn0_2 : n0_2 ≤ 1000000000) (hcp0_2 : n0_2 ≤ c0_2), Calls Try.prog 29 #[.agg #[.int .i64 x0_0, .int .i64 x0_1, .slice A0_2 n0_2 c0_2], .int .i64 x1] w (fun e w' => ∃ (AR1 : Option Addr) (nR1 cR1 : Nat) (AR2 : Option Addr) (nR2 cR2 : Nat) (FR2 : Nat → Prop), e = .returned (.tuple #[.agg #[.int .i64 ((fauP x0_0 x0_1 rs x1).1), .slice AR1 nR1 cR1, .slice AR2 nR2 cR2], .int .i64 ((fauP x0_0 x0_1 rs x1).2.2.2)]) ∧ w'.ownsRow w.heap.size 2 1 (.slice AR1 nR1 cR1) nR1 (ints ((fauP x0_0 x0_1 rs x1).2.1)) ∧ OwnP w' FR2 AR2 nR2 cR2 ((fauP x0_0 x0_1 rs x1).2.2.1) ∧ (∀ k, FR2 k → w.heap.size ≤ k ∧ k < w'.heap.size) ∧ (∀ k, Fo (.slice AR1 nR1 cR1) k → FR2 k → False) ∧ Below w.heap.size w w') := fun w A0_2 n0_2 c0_2 h0_2 hn0_2 hcp0_2 => implFindAutomaton_any w x0_0 x0_1 A0_2 n0_2 c0_2 rs h0_2 (by omega) x1
  have HRLR1 : Hid (((fauP x0_0 x0_1 rs x1).2.1).length ≤ 1000000) := Lib.hid ((fauP_bd x0_0 x0_1 rs x1).1)
  have HRLR2 : Hid (tot ((fauP x0_0 x0_1 rs x1).2.2.1) ≤ 1000000 ∧ ((fauP x0_0 x0_1 rs x1).2.2.1).length ≤ 1000000) := Lib.hid ((fauP_bd x0_0 x0_1 rs x1).2)
  have HS := Lib.hid hS; have HI := Lib.hid hI
  clear hS hI
  generalize (fauP x0_0 x0_1 rs x1).1 = r0 at HS HI 
  generalize (fauP x0_0 x0_1 rs x1).2.1 = r1 at HS HI HRLR1
  generalize (fauP x0_0 x0_1 rs x1).2.2.1 = r2 at HS HI HRLR2
  generalize (fauP x0_0 x0_1 rs x1).2.2.2 = r3 at HS HI 
  have HXL0_2 : Hid (((flatR rs)).length = n0_2 * 3) := Lib.hid (by have := hr0_2.1; simp at this; omega)
  have HB := Below.refl w.heap.size w
  go_enter Try.func5, Try.ntmps5
  go_wp2_with fail
  refine (szMachine_post _ x0_0 x0_1 _ _ _ hnn0_2 _ (by omega) (by omega)).mono ?_
  rintro e v1 ⟨lfv1, rfl, hqv1, hpv1, hbv1⟩
  (try replace hbv1 := und1 hbv1)
  (try replace hbv1 := undN hbv1)
  obtain ⟨hbv1b, hxo1, hso1⟩ := box_step hbv1
  (try simp only [World.size_alloc] at hxo1 hso1)
  replace HB := HB.trans (hbv1b.mono HB.size)
  have hszv1 := hbv1b.size
  have qo1_0 := blk_cell hxo1 0 rfl
  have qo1_1 := blk_cell hxo1 1 rfl
  have qo1_2 := blk_cell hxo1 2 rfl
  have hlo1 := blk_lt hxo1
  by_cases hzv1 : lfv1 < 0
  · clear hqv1 hpv1
    go_wp2_with fail
    go_ret
    exact ⟨rfl, HB⟩
  replace hqv1 := hqv1 (by omega)
  have hbig0_2 : n0_2 ≤ 1048576 := by omega
  have HQv1 := Lib.hid hqv1; clear hqv1
  go_wp2_with fail
  refine (toMachine_any _ x0_0 x0_1 _ _ _ (flatR rs) (hr0_2.below HB (Nat.le_refl _)) (by omega)).mono ?_
  rintro e v2 ⟨Ao2, no2, co2, rfl, hoo2, hbv2⟩
  have hno2 : no2 ≤ 1048576 := by have h1 := hoo2.1; simp only [List.length_map] at h1; have h2 := HXL0_2.out; omega
  have hrgo2 := Lib.hid (rg_row hoo2)
  clear qo1_0 qo1_1 qo1_2 hlo1
  (try replace hbv2 := und1 hbv2)
  (try replace hbv2 := undN hbv2)
  replace hxo1 := blk_bel hxo1 hbv2
  replace HB := HB.trans (hbv2.mono HB.size)
  have hszv2 := hbv2.size
  have qo1_0 := blk_cell hxo1 0 rfl
  have qo1_1 := blk_cell hxo1 1 rfl
  have qo1_2 := blk_cell hxo1 2 rfl
  have hlo1 := blk_lt hxo1
  replace hrgo2 := Lib.hid (rg_lo hrgo2.out (lo := v1.heap.size + 0) (hi := v2.heap.size) (by first | exact Nat.le_refl _ | exact le_al1 | (simp; done) | (simp; omega)) (Nat.le_refl _))
  go_wp2_with fail
  refine (HS.out _ _ _ _ (ownN_rd hoo2) (by omega) (ownN_cap hoo2)).mono ?_
  rintro e v3 ⟨Ao3, no3, co3, Ao4, no4, co4, Fo4, rfl, hoo3, hoo4, hFo4, hdo3o4, hbv3⟩
  have hno3 : no3 ≤ 1000000 := by have h1 := hoo3.1; simp only [List.length_map] at h1; have h2 := HRLR1.out; omega
  have hno4 : no4 ≤ 1000000 := by have h1 := hoo4.len; have h2 := HRLR2.out; omega
  have hrgo3 := Lib.hid (rg_row hoo3)
  have hrgo4 := Lib.hid hFo4; clear hFo4
  have HDo3o4 := Lib.hid hdo3o4; clear hdo3o4
  clear qo1_0 qo1_1 qo1_2 hlo1
  (try replace hbv3 := und1 hbv3)
  (try replace hbv3 := undN hbv3)
  replace hoo2 := ownN_below hoo2 hbv3 (Nat.le_refl _)
  replace hxo1 := blk_bel hxo1 hbv3
  replace HB := HB.trans (hbv3.mono HB.size)
  have hszv3 := hbv3.size
  have qo1_0 := blk_cell hxo1 0 rfl
  have qo1_1 := blk_cell hxo1 1 rfl
  have qo1_2 := blk_cell hxo1 2 rfl
  have hlo1 := blk_lt hxo1
  replace hrgo3 := Lib.hid (rg_lo hrgo3.out (lo := v2.heap.size + 0) (hi := v3.heap.size) (by first | exact Nat.le_refl _ | exact le_al1 | (simp; done) | (simp; omega)) (Nat.le_refl _))
  replace hrgo4 := Lib.hid (rg_lo hrgo4.out (lo := v2.heap.size + 0) (hi := v3.heap.size) (by first | exact Nat.le_refl _ | exact le_al1 | (simp; done) | (simp; omega)) (Nat.le_refl _))
  go_wp2_with fail
  refine (toMachine_any _ x0_0 x0_1 _ _ _ (flatR rs) ((hr0_2.below HB (Nat.le_refl _)).below (below_new _ _) (Nat.le_refl _)) (by omega)).mono ?_
  rintro e v4 ⟨Ao6, no6, co6, rfl, hoo6, hbv4⟩
  have hno6 : no6 ≤ 1048576 := by have h1 := hoo6.1; simp only [List.length_map] at h1; have h2 := HXL0_2.out; omega
  have hrgo6 := Lib.hid (rg_row hoo6)
  clear qo1_0 qo1_1 qo1_2 hlo1
  (try replace hbv4 := und1 hbv4)
  (try replace hbv4 := undN hbv4)
  obtain ⟨hbv4b, hxo5, hso5⟩ := box_step hbv4
  (try simp only [World.size_alloc] at hxo5 hso5)
  replace hoo2 := ownN_below hoo2 hbv4b (Nat.le_refl _)
  replace hoo3 := ownN_below hoo3 hbv4b (Nat.le_refl _)
  replace hoo4 := hoo4.below hbv4b
  replace hxo1 := blk_bel hxo1 hbv4b
  replace HB := HB.trans (hbv4b.mono HB.size)
  have hszv4 := hbv4b.size
  have qo1_0 := blk_cell hxo1 0 rfl
  have qo1_1 := blk_cell hxo1 1 rfl
  have qo1_2 := blk_cell hxo1 2 rfl
  have hlo1 := blk_lt hxo1
  have qo5_0 := blk_cell hxo5 0 rfl
  have qo5_1 := blk_cell hxo5 1 rfl
  have qo5_2 := blk_cell hxo5 2 rfl
  have hlo5 := blk_lt hxo5
  replace hrgo6 := Lib.hid (rg_lo hrgo6.out (lo := v3.heap.size + 1) (hi := v4.heap.size) (by first | exact Nat.le_refl _ | exact le_al1 | (simp; done) | (simp; omega)) (Nat.le_refl _))
  go_wp2_with fail
  refine (HI.out _ _ _ _ ((ownN_rd hoo6).below (below_new _ _) (Nat.le_refl _)) (by omega) (ownN_cap hoo6)).mono ?_
  rintro e v5 ⟨Ao8, no8, co8, Ao9, no9, co9, Fo9, rfl, hoo8, hoo9, hFo9, hdo8o9, hbv5⟩
  have hno8 : no8 ≤ 1000000 := by have h1 := hoo8.1; simp only [List.length_map] at h1; have h2 := HRLR1.out; omega
  have hno9 : no9 ≤ 1000000 := by have h1 := hoo9.len; have h2 := HRLR2.out; omega
  have hrgo8 := Lib.hid (rg_row hoo8)
  have hrgo9 := Lib.hid hFo9; clear hFo9
  have HDo8o9 := Lib.hid hdo8o9; clear hdo8o9
  clear qo1_0 qo1_1 qo1_2 qo5_0 qo5_1 qo5_2 hlo1 hlo5
  (try replace hbv5 := und1 hbv5)
  (try replace hbv5 := undN hbv5)
  obtain ⟨hbv5b, hxo7, hso7⟩ := box_step hbv5
  (try simp only [World.size_alloc] at hxo7 hso7)
  replace hoo2 := ownN_below hoo2 hbv5b (Nat.le_refl _)
  replace hoo3 := ownN_below hoo3 hbv5b (Nat.le_refl _)
  replace hoo4 := hoo4.below hbv5b
  replace hoo6 := ownN_below hoo6 hbv5b (Nat.le_refl _)
  replace hxo1 := blk_bel hxo1 hbv5b
  replace hxo5 := blk_bel hxo5 hbv5b
  replace HB := HB.trans (hbv5b.mono HB.size)
  have hszv5 := hbv5b.size
  have qo1_0 := blk_cell hxo1 0 rfl
  have qo1_1 := blk_cell hxo1 1 rfl
  have qo1_2 := blk_cell hxo1 2 rfl
  have hlo1 := blk_lt hxo1
  have qo5_0 := blk_cell hxo5 0 rfl
  have qo5_1 := blk_cell hxo5 1 rfl
  have qo5_2 := blk_cell hxo5 2 rfl
  have hlo5 := blk_lt hxo5
  have qo7_0 := blk_cell hxo7 0 rfl
  have qo7_1 := blk_cell hxo7 1 rfl
  have qo7_2 := blk_cell hxo7 2 rfl
  have hlo7 := blk_lt hxo7
  replace hrgo8 := Lib.hid (rg_lo hrgo8.out (lo := v4.heap.size + 1) (hi := v5.heap.size) (by first | exact Nat.le_refl _ | exact le_al1 | (simp; done) | (simp; omega)) (Nat.le_refl _))
  replace hrgo9 := Lib.hid (rg_lo hrgo9.out (lo := v4.heap.size + 1) (hi := v5.heap.size) (by first | exact Nat.le_refl _ | exact le_al1 | (simp; done) | (simp; omega)) (Nat.le_refl _))
  go_wp2_with fail
  refine (eqProof_same _ _ _ _ _ r1 ((own_rd hoo8).below (below_new _ _) (Nat.le_refl _)) (by omega) _ _ _ ((own_rd hoo3).below (below_new _ _) (Nat.le_refl _)) _ _ _ r2 (hoo9.rdl.below (below_new _ _) (Nat.le_refl _)) (by omega) _ _ _ (hoo4.rdl.below (below_new _ _) (Nat.le_refl _))).mono ?_
  rintro e v6 ⟨rfl, hbv6⟩
  clear qo1_0 qo1_1 qo1_2 qo5_0 qo5_1 qo5_2 qo7_0 qo7_1 qo7_2 hlo1 hlo5 hlo7
  (try replace hbv6 := und1 hbv6)
  (try replace hbv6 := undN hbv6)
  obtain ⟨hbv6b, hxo10, hso10⟩ := box_step hbv6
  (try simp only [World.size_alloc] at hxo10 hso10)
  replace hoo2 := ownN_below hoo2 hbv6b (Nat.le_refl _)
  replace hoo3 := ownN_below hoo3 hbv6b (Nat.le_refl _)
  replace hoo4 := hoo4.below hbv6b
  replace hoo6 := ownN_below hoo6 hbv6b (Nat.le_refl _)
  replace hoo8 := ownN_below hoo8 hbv6b (Nat.le_refl _)
  replace hoo9 := hoo9.below hbv6b
  replace hxo1 := blk_bel hxo1 hbv6b
  replace hxo5 := blk_bel hxo5 hbv6b
  replace hxo7 := blk_bel hxo7 hbv6b
  replace HB := HB.trans (hbv6b.mono HB.size)
  have hszv6 := hbv6b.size
  have qo1_0 := blk_cell hxo1 0 rfl
  have qo1_1 := blk_cell hxo1 1 rfl
  have qo1_2 := blk_cell hxo1 2 rfl
  have hlo1 := blk_lt hxo1
  have qo5_0 := blk_cell hxo5 0 rfl
  have qo5_1 := blk_cell hxo5 1 rfl
  have qo5_2 := blk_cell hxo5 2 rfl
  have hlo5 := blk_lt hxo5
  have qo7_0 := blk_cell hxo7 0 rfl
  have qo7_1 := blk_cell hxo7 1 rfl
  have qo7_2 := blk_cell hxo7 2 rfl
  have hlo7 := blk_lt hxo7
  have qo10_0 := blk_cell hxo10 0 rfl
  have qo10_1 := blk_cell hxo10 1 rfl
  have qo10_2 := blk_cell hxo10 2 rfl
  have hlo10 := blk_lt hxo10
  go_wp2_with fail
  go_region_held3 (fun w' => w'.cell? ⟨v4.heap.size, 0, none⟩ = some (.int .i64 x0_0) ∧ w'.cell? ⟨v4.heap.size, 1, none⟩ = some (.int .i64 x0_1) ∧ w'.cell? ⟨v4.heap.size, 2, none⟩ = some (.slice Ao6 no6 co6) ∧ w'.cell? ⟨w.heap.size, 0, none⟩ = some (.int .i64 x0_0) ∧ w'.cell? ⟨w.heap.size, 1, none⟩ = some (.int .i64 x0_1) ∧ w'.cell? ⟨w.heap.size, 2, none⟩ = some (.slice A0_2 n0_2 c0_2)) (first | exact ⟨qo7_0, qo7_1, qo7_2, qo1_0, qo1_1, qo1_2⟩ | go_keep) (first
    | (go_at_call 18
       refine (toMachine_any _ x0_0 x0_1 _ _ _ (flatR rs) (by have h := (hr0_2.below HB (Nat.le_refl _)); first | exact h | exact h.below (below_new _ _) (Nat.le_refl _) | exact h.below (below_drew1 (below_new _ _)) (Nat.le_refl _)) (by omega)).mono ?_
       rintro e v7 ⟨Ao11, no11, co11, rfl, hoo11, hbv7⟩
       have hno11 : no11 ≤ 1048576 := by have h1 := hoo11.1; simp only [List.length_map] at h1; have h2 := HXL0_2.out; omega
       have hrgo11 := Lib.hid (rg_row hoo11)
       clear qo1_0 qo1_1 qo1_2 qo5_0 qo5_1 qo5_2 qo7_0 qo7_1 qo7_2 qo10_0 qo10_1 qo10_2 hlo1 hlo5 hlo7 hlo10
       (try replace hbv7 := und1 hbv7)
       (try replace hbv7 := undN hbv7)
       replace hoo2 := ownN_below hoo2 hbv7 (Nat.le_refl _)
       replace hoo3 := ownN_below hoo3 hbv7 (Nat.le_refl _)
       replace hoo4 := hoo4.below hbv7
       replace hoo6 := ownN_below hoo6 hbv7 (Nat.le_refl _)
       replace hoo8 := ownN_below hoo8 hbv7 (Nat.le_refl _)
       replace hoo9 := hoo9.below hbv7
       replace hxo1 := blk_bel hxo1 hbv7
       replace hxo5 := blk_bel hxo5 hbv7
       replace hxo7 := blk_bel hxo7 hbv7
       replace hxo10 := blk_bel hxo10 hbv7
       replace HB := HB.trans (hbv7.mono HB.size)
       have hszv7 := hbv7.size
       have qo1_0 := blk_cell hxo1 0 rfl
       have qo1_1 := blk_cell hxo1 1 rfl
       have qo1_2 := blk_cell hxo1 2 rfl
       have hlo1 := blk_lt hxo1
       have qo5_0 := blk_cell hxo5 0 rfl
       have qo5_1 := blk_cell hxo5 1 rfl
       have qo5_2 := blk_cell hxo5 2 rfl
       have hlo5 := blk_lt hxo5
       have qo7_0 := blk_cell hxo7 0 rfl
       have qo7_1 := blk_cell hxo7 1 rfl
       have qo7_2 := blk_cell hxo7 2 rfl
       have hlo7 := blk_lt hxo7
       have qo10_0 := blk_cell hxo10 0 rfl
       have qo10_1 := blk_cell hxo10 1 rfl
       have qo10_2 := blk_cell hxo10 2 rfl
       have hlo10 := blk_lt hxo10
       replace hrgo11 := Lib.hid (rg_lo hrgo11.out (lo := v6.heap.size + 0) (hi := v7.heap.size) (by first | exact Nat.le_refl _ | exact le_al1 | (simp; done) | (simp; omega)) (Nat.le_refl _))
       )
    | (go_at_call 22
       refine (eqMachine_same _ _ _ _ _ _ (flatR rs) (by have h := (ownN_rd hoo6); first | exact h | exact h.below (below_new _ _) (Nat.le_refl _) | exact h.below (below_drew1 (below_new _ _)) (Nat.le_refl _)) (by omega) _ _ _ (by have h := (ownN_rd hoo11); first | exact h | exact h.below (below_new _ _) (Nat.le_refl _) | exact h.below (below_drew1 (below_new _ _)) (Nat.le_refl _))).mono ?_
       rintro e v8 ⟨rfl, hbv8⟩
       clear qo1_0 qo1_1 qo1_2 qo5_0 qo5_1 qo5_2 qo7_0 qo7_1 qo7_2 qo10_0 qo10_1 qo10_2 hlo1 hlo5 hlo7 hlo10
       (try replace hbv8 := und1 hbv8)
       (try replace hbv8 := undN hbv8)
       replace hoo2 := ownN_below hoo2 hbv8 (Nat.le_refl _)
       replace hoo3 := ownN_below hoo3 hbv8 (Nat.le_refl _)
       replace hoo4 := hoo4.below hbv8
       replace hoo6 := ownN_below hoo6 hbv8 (Nat.le_refl _)
       replace hoo8 := ownN_below hoo8 hbv8 (Nat.le_refl _)
       replace hoo9 := hoo9.below hbv8
       replace hoo11 := ownN_below hoo11 hbv8 (Nat.le_refl _)
       replace hxo1 := blk_bel hxo1 hbv8
       replace hxo5 := blk_bel hxo5 hbv8
       replace hxo7 := blk_bel hxo7 hbv8
       replace hxo10 := blk_bel hxo10 hbv8
       replace HB := HB.trans (hbv8.mono HB.size)
       have hszv8 := hbv8.size
       have qo1_0 := blk_cell hxo1 0 rfl
       have qo1_1 := blk_cell hxo1 1 rfl
       have qo1_2 := blk_cell hxo1 2 rfl
       have hlo1 := blk_lt hxo1
       have qo5_0 := blk_cell hxo5 0 rfl
       have qo5_1 := blk_cell hxo5 1 rfl
       have qo5_2 := blk_cell hxo5 2 rfl
       have hlo5 := blk_lt hxo5
       have qo7_0 := blk_cell hxo7 0 rfl
       have qo7_1 := blk_cell hxo7 1 rfl
       have qo7_2 := blk_cell hxo7 2 rfl
       have hlo7 := blk_lt hxo7
       have qo10_0 := blk_cell hxo10 0 rfl
       have qo10_1 := blk_cell hxo10 1 rfl
       have qo10_2 := blk_cell hxo10 2 rfl
       have hlo10 := blk_lt hxo10
       )
    )
  go_wp2_with fail
  refine (markMachine_any _ _ _ _ _ _ _ _ hoo6 (by omega)  (1) (by omega) (by omega)).mono ?_
  rintro e v9 ⟨rfl, hmo6, hCv9⟩
  clear qo1_0 qo1_1 qo1_2 qo5_0 qo5_1 qo5_2 qo7_0 qo7_1 qo7_2 qo10_0 qo10_1 qo10_2 hlo1 hlo5 hlo7 hlo10
  replace hoo2 := own_ch hoo2 hCv9 (fun k h1 h2 => (by have := hrgo2.out k h1; have := hrgo6.out k h2; omega))
  replace hoo3 := own_ch hoo3 hCv9 (fun k h1 h2 => (by have := hrgo3.out k h1; have := hrgo6.out k h2; omega))
  replace hoo4 := hoo4.ch hCv9 (fun k h1 h2 => (by have := hrgo4.out k h1; have := hrgo6.out k h2; omega))
  replace hoo8 := own_ch hoo8 hCv9 (fun k h1 h2 => (by have := hrgo8.out k h1; have := hrgo6.out k h2; omega))
  replace hoo9 := hoo9.ch hCv9 (fun k h1 h2 => (by have := hrgo9.out k h1; have := hrgo6.out k h2; omega))
  replace hoo11 := own_ch hoo11 hCv9 (fun k h1 h2 => (by have := hrgo11.out k h1; have := hrgo6.out k h2; omega))
  replace hxo1 := blk_ch hxo1 hCv9 (fun h => by have := hrgo6.out _ h; omega)
  replace hxo5 := blk_ch hxo5 hCv9 (fun h => by have := hrgo6.out _ h; omega)
  replace hxo7 := blk_ch hxo7 hCv9 (fun h => by have := hrgo6.out _ h; omega)
  replace hxo10 := blk_ch hxo10 hCv9 (fun h => by have := hrgo6.out _ h; omega)
  replace HB := below_ch HB hCv9 (fun k h => by have := hrgo6.out k h; omega) HB.size
  replace hoo6 := hmo6
  have hszv9 := hCv9.size
  have qo1_0 := blk_cell hxo1 0 rfl
  have qo1_1 := blk_cell hxo1 1 rfl
  have qo1_2 := blk_cell hxo1 2 rfl
  have hlo1 := blk_lt hxo1
  have qo5_0 := blk_cell hxo5 0 rfl
  have qo5_1 := blk_cell hxo5 1 rfl
  have qo5_2 := blk_cell hxo5 2 rfl
  have hlo5 := blk_lt hxo5
  have qo7_0 := blk_cell hxo7 0 rfl
  have qo7_1 := blk_cell hxo7 1 rfl
  have qo7_2 := blk_cell hxo7 2 rfl
  have hlo7 := blk_lt hxo7
  have qo10_0 := blk_cell hxo10 0 rfl
  have qo10_1 := blk_cell hxo10 1 rfl
  have qo10_2 := blk_cell hxo10 2 rfl
  have hlo10 := blk_lt hxo10
  go_wp2_with fail
  refine (eqProof_same _ _ _ _ _ r1 (own_rd hoo8) (by omega) _ _ _ (own_rd hoo3) _ _ _ r2 hoo9.rdl (by omega) _ _ _ hoo4.rdl).mono ?_
  rintro e v10 ⟨rfl, hbv10⟩
  clear qo1_0 qo1_1 qo1_2 qo5_0 qo5_1 qo5_2 qo7_0 qo7_1 qo7_2 qo10_0 qo10_1 qo10_2 hlo1 hlo5 hlo7 hlo10
  (try replace hbv10 := und1 hbv10)
  (try replace hbv10 := undN hbv10)
  replace hoo2 := ownN_below hoo2 hbv10 (Nat.le_refl _)
  replace hoo3 := ownN_below hoo3 hbv10 (Nat.le_refl _)
  replace hoo4 := hoo4.below hbv10
  replace hoo6 := ownN_below hoo6 hbv10 (Nat.le_refl _)
  replace hoo8 := ownN_below hoo8 hbv10 (Nat.le_refl _)
  replace hoo9 := hoo9.below hbv10
  replace hoo11 := ownN_below hoo11 hbv10 (Nat.le_refl _)
  replace hxo1 := blk_bel hxo1 hbv10
  replace hxo5 := blk_bel hxo5 hbv10
  replace hxo7 := blk_bel hxo7 hbv10
  replace hxo10 := blk_bel hxo10 hbv10
  replace HB := HB.trans (hbv10.mono HB.size)
  have hszv10 := hbv10.size
  have qo1_0 := blk_cell hxo1 0 rfl
  have qo1_1 := blk_cell hxo1 1 rfl
  have qo1_2 := blk_cell hxo1 2 rfl
  have hlo1 := blk_lt hxo1
  have qo5_0 := blk_cell hxo5 0 rfl
  have qo5_1 := blk_cell hxo5 1 rfl
  have qo5_2 := blk_cell hxo5 2 rfl
  have hlo5 := blk_lt hxo5
  have qo7_0 := blk_cell hxo7 0 rfl
  have qo7_1 := blk_cell hxo7 1 rfl
  have qo7_2 := blk_cell hxo7 2 rfl
  have hlo7 := blk_lt hxo7
  have qo10_0 := blk_cell hxo10 0 rfl
  have qo10_1 := blk_cell hxo10 1 rfl
  have qo10_2 := blk_cell hxo10 2 rfl
  have hlo10 := blk_lt hxo10
  go_wp2_with fail
  have hTv11o9 : tot r2 ≤ 1048576 := by have := HRLR2.out.1; omega
  refine (markProof_any _ _ _ _ _ _ _ hoo8 (by omega) _ _ _ _ r2 hoo9 (by omega) (by omega) HDo8o9.out (1) (by omega) (by omega)).mono ?_
  rintro e v11 ⟨rfl, hmo8, hmo9, hCv11⟩
  clear qo1_0 qo1_1 qo1_2 qo5_0 qo5_1 qo5_2 qo7_0 qo7_1 qo7_2 qo10_0 qo10_1 qo10_2 hlo1 hlo5 hlo7 hlo10
  replace hoo2 := own_ch hoo2 hCv11 (fun k h1 h => h.elim (fun h2 => (by have := hrgo2.out k h1; have := hrgo8.out k h2; omega)) (fun h2 => (by have := hrgo2.out k h1; have := hrgo9.out k h2; omega)))
  replace hoo3 := own_ch hoo3 hCv11 (fun k h1 h => h.elim (fun h2 => (by have := hrgo3.out k h1; have := hrgo8.out k h2; omega)) (fun h2 => (by have := hrgo3.out k h1; have := hrgo9.out k h2; omega)))
  replace hoo4 := hoo4.ch hCv11 (fun k h1 h => h.elim (fun h2 => (by have := hrgo4.out k h1; have := hrgo8.out k h2; omega)) (fun h2 => (by have := hrgo4.out k h1; have := hrgo9.out k h2; omega)))
  replace hoo6 := own_ch hoo6 hCv11 (fun k h1 h => h.elim (fun h2 => (by have := hrgo6.out k h1; have := hrgo8.out k h2; omega)) (fun h2 => (by have := hrgo6.out k h1; have := hrgo9.out k h2; omega)))
  replace hoo11 := own_ch hoo11 hCv11 (fun k h1 h => h.elim (fun h2 => (by have := hrgo11.out k h1; have := hrgo8.out k h2; omega)) (fun h2 => (by have := hrgo11.out k h1; have := hrgo9.out k h2; omega)))
  replace hxo1 := blk_ch hxo1 hCv11 (fun h => h.elim (fun h => by have := hrgo8.out _ h; omega) (fun h => by have := hrgo9.out _ h; omega))
  replace hxo5 := blk_ch hxo5 hCv11 (fun h => h.elim (fun h => by have := hrgo8.out _ h; omega) (fun h => by have := hrgo9.out _ h; omega))
  replace hxo7 := blk_ch hxo7 hCv11 (fun h => h.elim (fun h => by have := hrgo8.out _ h; omega) (fun h => by have := hrgo9.out _ h; omega))
  replace hxo10 := blk_ch hxo10 hCv11 (fun h => h.elim (fun h => by have := hrgo8.out _ h; omega) (fun h => by have := hrgo9.out _ h; omega))
  replace HB := below_ch HB hCv11 (fun k h => h.elim (fun h => by have := hrgo8.out k h; omega) (fun h => by have := hrgo9.out k h; omega)) HB.size
  replace hoo8 := hmo8
  replace hoo9 := hmo9
  have hszv11 := hCv11.size
  have qo1_0 := blk_cell hxo1 0 rfl
  have qo1_1 := blk_cell hxo1 1 rfl
  have qo1_2 := blk_cell hxo1 2 rfl
  have hlo1 := blk_lt hxo1
  have qo5_0 := blk_cell hxo5 0 rfl
  have qo5_1 := blk_cell hxo5 1 rfl
  have qo5_2 := blk_cell hxo5 2 rfl
  have hlo5 := blk_lt hxo5
  have qo7_0 := blk_cell hxo7 0 rfl
  have qo7_1 := blk_cell hxo7 1 rfl
  have qo7_2 := blk_cell hxo7 2 rfl
  have hlo7 := blk_lt hxo7
  have qo10_0 := blk_cell hxo10 0 rfl
  have qo10_1 := blk_cell hxo10 1 rfl
  have qo10_2 := blk_cell hxo10 2 rfl
  have hlo10 := blk_lt hxo10
  go_wp2_with fail
  have hTv12o9 : tot r2 ≤ 1048576 := by have := HRLR2.out.1; omega
  refine (heldProof_any _ _ _ _ _ _ _ _ r2 (1) (own_rd hoo8) (by omega) hoo9.rdl (by omega) (by omega) (by omega) (by omega)).mono ?_
  rintro e v12 ⟨rfl, hbv12⟩
  clear qo1_0 qo1_1 qo1_2 qo5_0 qo5_1 qo5_2 qo7_0 qo7_1 qo7_2 qo10_0 qo10_1 qo10_2 hlo1 hlo5 hlo7 hlo10
  (try replace hbv12 := und1 hbv12)
  (try replace hbv12 := undN hbv12)
  replace hoo2 := ownN_below hoo2 hbv12 (Nat.le_refl _)
  replace hoo3 := ownN_below hoo3 hbv12 (Nat.le_refl _)
  replace hoo4 := hoo4.below hbv12
  replace hoo6 := ownN_below hoo6 hbv12 (Nat.le_refl _)
  replace hoo8 := ownN_below hoo8 hbv12 (Nat.le_refl _)
  replace hoo9 := hoo9.below hbv12
  replace hoo11 := ownN_below hoo11 hbv12 (Nat.le_refl _)
  replace hxo1 := blk_bel hxo1 hbv12
  replace hxo5 := blk_bel hxo5 hbv12
  replace hxo7 := blk_bel hxo7 hbv12
  replace hxo10 := blk_bel hxo10 hbv12
  replace HB := HB.trans (hbv12.mono HB.size)
  have hszv12 := hbv12.size
  have qo1_0 := blk_cell hxo1 0 rfl
  have qo1_1 := blk_cell hxo1 1 rfl
  have qo1_2 := blk_cell hxo1 2 rfl
  have hlo1 := blk_lt hxo1
  have qo5_0 := blk_cell hxo5 0 rfl
  have qo5_1 := blk_cell hxo5 1 rfl
  have qo5_2 := blk_cell hxo5 2 rfl
  have hlo5 := blk_lt hxo5
  have qo7_0 := blk_cell hxo7 0 rfl
  have qo7_1 := blk_cell hxo7 1 rfl
  have qo7_2 := blk_cell hxo7 2 rfl
  have hlo7 := blk_lt hxo7
  have qo10_0 := blk_cell hxo10 0 rfl
  have qo10_1 := blk_cell hxo10 1 rfl
  have qo10_2 := blk_cell hxo10 2 rfl
  have hlo10 := blk_lt hxo10
  go_wp2_with fail
  refine (toMachine_any _ x0_0 x0_1 _ _ _ (flatR rs) (hr0_2.below HB (Nat.le_refl _)) (by omega)).mono ?_
  rintro e v13 ⟨Ao12, no12, co12, rfl, hoo12, hbv13⟩
  have hno12 : no12 ≤ 1048576 := by have h1 := hoo12.1; simp only [List.length_map] at h1; have h2 := HXL0_2.out; omega
  have hrgo12 := Lib.hid (rg_row hoo12)
  clear qo1_0 qo1_1 qo1_2 qo5_0 qo5_1 qo5_2 qo7_0 qo7_1 qo7_2 qo10_0 qo10_1 qo10_2 hlo1 hlo5 hlo7 hlo10
  (try replace hbv13 := und1 hbv13)
  (try replace hbv13 := undN hbv13)
  replace hoo2 := ownN_below hoo2 hbv13 (Nat.le_refl _)
  replace hoo3 := ownN_below hoo3 hbv13 (Nat.le_refl _)
  replace hoo4 := hoo4.below hbv13
  replace hoo6 := ownN_below hoo6 hbv13 (Nat.le_refl _)
  replace hoo8 := ownN_below hoo8 hbv13 (Nat.le_refl _)
  replace hoo9 := hoo9.below hbv13
  replace hoo11 := ownN_below hoo11 hbv13 (Nat.le_refl _)
  replace hxo1 := blk_bel hxo1 hbv13
  replace hxo5 := blk_bel hxo5 hbv13
  replace hxo7 := blk_bel hxo7 hbv13
  replace hxo10 := blk_bel hxo10 hbv13
  replace HB := HB.trans (hbv13.mono HB.size)
  have hszv13 := hbv13.size
  have qo1_0 := blk_cell hxo1 0 rfl
  have qo1_1 := blk_cell hxo1 1 rfl
  have qo1_2 := blk_cell hxo1 2 rfl
  have hlo1 := blk_lt hxo1
  have qo5_0 := blk_cell hxo5 0 rfl
  have qo5_1 := blk_cell hxo5 1 rfl
  have qo5_2 := blk_cell hxo5 2 rfl
  have hlo5 := blk_lt hxo5
  have qo7_0 := blk_cell hxo7 0 rfl
  have qo7_1 := blk_cell hxo7 1 rfl
  have qo7_2 := blk_cell hxo7 2 rfl
  have hlo7 := blk_lt hxo7
  have qo10_0 := blk_cell hxo10 0 rfl
  have qo10_1 := blk_cell hxo10 1 rfl
  have qo10_2 := blk_cell hxo10 2 rfl
  have hlo10 := blk_lt hxo10
  replace hrgo12 := Lib.hid (rg_lo hrgo12.out (lo := v12.heap.size + 0) (hi := v13.heap.size) (by first | exact Nat.le_refl _ | exact le_al1 | (simp; done) | (simp; omega)) (Nat.le_refl _))
  go_wp2_with fail
  refine (HI.out _ _ _ _ (ownN_rd hoo12) (by omega) (ownN_cap hoo12)).mono ?_
  rintro e v14 ⟨Ao13, no13, co13, Ao14, no14, co14, Fo14, rfl, hoo13, hoo14, hFo14, hdo13o14, hbv14⟩
  have hno13 : no13 ≤ 1000000 := by have h1 := hoo13.1; simp only [List.length_map] at h1; have h2 := HRLR1.out; omega
  have hno14 : no14 ≤ 1000000 := by have h1 := hoo14.len; have h2 := HRLR2.out; omega
  have hrgo13 := Lib.hid (rg_row hoo13)
  have hrgo14 := Lib.hid hFo14; clear hFo14
  have HDo13o14 := Lib.hid hdo13o14; clear hdo13o14
  clear qo1_0 qo1_1 qo1_2 qo5_0 qo5_1 qo5_2 qo7_0 qo7_1 qo7_2 qo10_0 qo10_1 qo10_2 hlo1 hlo5 hlo7 hlo10
  (try replace hbv14 := und1 hbv14)
  (try replace hbv14 := undN hbv14)
  replace hoo2 := ownN_below hoo2 hbv14 (Nat.le_refl _)
  replace hoo3 := ownN_below hoo3 hbv14 (Nat.le_refl _)
  replace hoo4 := hoo4.below hbv14
  replace hoo6 := ownN_below hoo6 hbv14 (Nat.le_refl _)
  replace hoo8 := ownN_below hoo8 hbv14 (Nat.le_refl _)
  replace hoo9 := hoo9.below hbv14
  replace hoo11 := ownN_below hoo11 hbv14 (Nat.le_refl _)
  replace hoo12 := ownN_below hoo12 hbv14 (Nat.le_refl _)
  replace hxo1 := blk_bel hxo1 hbv14
  replace hxo5 := blk_bel hxo5 hbv14
  replace hxo7 := blk_bel hxo7 hbv14
  replace hxo10 := blk_bel hxo10 hbv14
  replace HB := HB.trans (hbv14.mono HB.size)
  have hszv14 := hbv14.size
  have qo1_0 := blk_cell hxo1 0 rfl
  have qo1_1 := blk_cell hxo1 1 rfl
  have qo1_2 := blk_cell hxo1 2 rfl
  have hlo1 := blk_lt hxo1
  have qo5_0 := blk_cell hxo5 0 rfl
  have qo5_1 := blk_cell hxo5 1 rfl
  have qo5_2 := blk_cell hxo5 2 rfl
  have hlo5 := blk_lt hxo5
  have qo7_0 := blk_cell hxo7 0 rfl
  have qo7_1 := blk_cell hxo7 1 rfl
  have qo7_2 := blk_cell hxo7 2 rfl
  have hlo7 := blk_lt hxo7
  have qo10_0 := blk_cell hxo10 0 rfl
  have qo10_1 := blk_cell hxo10 1 rfl
  have qo10_2 := blk_cell hxo10 2 rfl
  have hlo10 := blk_lt hxo10
  replace hrgo13 := Lib.hid (rg_lo hrgo13.out (lo := v13.heap.size + 0) (hi := v14.heap.size) (by first | exact Nat.le_refl _ | exact le_al1 | (simp; done) | (simp; omega)) (Nat.le_refl _))
  replace hrgo14 := Lib.hid (rg_lo hrgo14.out (lo := v13.heap.size + 0) (hi := v14.heap.size) (by first | exact Nat.le_refl _ | exact le_al1 | (simp; done) | (simp; omega)) (Nat.le_refl _))
  go_wp2_with fail
  refine (eqProof_same _ _ _ _ _ r1 ((own_rd hoo13).below (below_new _ _) (Nat.le_refl _)) (by omega) _ _ _ ((own_rd hoo3).below (below_new _ _) (Nat.le_refl _)) _ _ _ r2 (hoo14.rdl.below (below_new _ _) (Nat.le_refl _)) (by omega) _ _ _ (hoo4.rdl.below (below_new _ _) (Nat.le_refl _))).mono ?_
  rintro e v15 ⟨rfl, hbv15⟩
  clear qo1_0 qo1_1 qo1_2 qo5_0 qo5_1 qo5_2 qo7_0 qo7_1 qo7_2 qo10_0 qo10_1 qo10_2 hlo1 hlo5 hlo7 hlo10
  (try replace hbv15 := und1 hbv15)
  (try replace hbv15 := undN hbv15)
  obtain ⟨hbv15b, hxo15, hso15⟩ := box_step hbv15
  (try simp only [World.size_alloc] at hxo15 hso15)
  replace hoo2 := ownN_below hoo2 hbv15b (Nat.le_refl _)
  replace hoo3 := ownN_below hoo3 hbv15b (Nat.le_refl _)
  replace hoo4 := hoo4.below hbv15b
  replace hoo6 := ownN_below hoo6 hbv15b (Nat.le_refl _)
  replace hoo8 := ownN_below hoo8 hbv15b (Nat.le_refl _)
  replace hoo9 := hoo9.below hbv15b
  replace hoo11 := ownN_below hoo11 hbv15b (Nat.le_refl _)
  replace hoo12 := ownN_below hoo12 hbv15b (Nat.le_refl _)
  replace hoo13 := ownN_below hoo13 hbv15b (Nat.le_refl _)
  replace hoo14 := hoo14.below hbv15b
  replace hxo1 := blk_bel hxo1 hbv15b
  replace hxo5 := blk_bel hxo5 hbv15b
  replace hxo7 := blk_bel hxo7 hbv15b
  replace hxo10 := blk_bel hxo10 hbv15b
  replace HB := HB.trans (hbv15b.mono HB.size)
  have hszv15 := hbv15b.size
  have qo1_0 := blk_cell hxo1 0 rfl
  have qo1_1 := blk_cell hxo1 1 rfl
  have qo1_2 := blk_cell hxo1 2 rfl
  have hlo1 := blk_lt hxo1
  have qo5_0 := blk_cell hxo5 0 rfl
  have qo5_1 := blk_cell hxo5 1 rfl
  have qo5_2 := blk_cell hxo5 2 rfl
  have hlo5 := blk_lt hxo5
  have qo7_0 := blk_cell hxo7 0 rfl
  have qo7_1 := blk_cell hxo7 1 rfl
  have qo7_2 := blk_cell hxo7 2 rfl
  have hlo7 := blk_lt hxo7
  have qo10_0 := blk_cell hxo10 0 rfl
  have qo10_1 := blk_cell hxo10 1 rfl
  have qo10_2 := blk_cell hxo10 2 rfl
  have hlo10 := blk_lt hxo10
  have qo15_0 := blk_cell hxo15 0 rfl
  have qo15_1 := blk_cell hxo15 1 rfl
  have qo15_2 := blk_cell hxo15 2 rfl
  have hlo15 := blk_lt hxo15
  go_wp2_with fail
  have hTv16o9 : tot r2 ≤ 1048576 := by have := HRLR2.out.1; omega
  refine (heldProof_any _ _ _ _ _ _ _ _ r2 (1) (own_rd hoo8) (by omega) hoo9.rdl (by omega) (by omega) (by omega) (by omega)).mono ?_
  rintro e v16 ⟨rfl, hbv16⟩
  clear qo1_0 qo1_1 qo1_2 qo5_0 qo5_1 qo5_2 qo7_0 qo7_1 qo7_2 qo10_0 qo10_1 qo10_2 qo15_0 qo15_1 qo15_2 hlo1 hlo5 hlo7 hlo10 hlo15
  (try replace hbv16 := und1 hbv16)
  (try replace hbv16 := undN hbv16)
  replace hoo2 := ownN_below hoo2 hbv16 (Nat.le_refl _)
  replace hoo3 := ownN_below hoo3 hbv16 (Nat.le_refl _)
  replace hoo4 := hoo4.below hbv16
  replace hoo6 := ownN_below hoo6 hbv16 (Nat.le_refl _)
  replace hoo8 := ownN_below hoo8 hbv16 (Nat.le_refl _)
  replace hoo9 := hoo9.below hbv16
  replace hoo11 := ownN_below hoo11 hbv16 (Nat.le_refl _)
  replace hoo12 := ownN_below hoo12 hbv16 (Nat.le_refl _)
  replace hoo13 := ownN_below hoo13 hbv16 (Nat.le_refl _)
  replace hoo14 := hoo14.below hbv16
  replace hxo1 := blk_bel hxo1 hbv16
  replace hxo5 := blk_bel hxo5 hbv16
  replace hxo7 := blk_bel hxo7 hbv16
  replace hxo10 := blk_bel hxo10 hbv16
  replace hxo15 := blk_bel hxo15 hbv16
  replace HB := HB.trans (hbv16.mono HB.size)
  have hszv16 := hbv16.size
  have qo1_0 := blk_cell hxo1 0 rfl
  have qo1_1 := blk_cell hxo1 1 rfl
  have qo1_2 := blk_cell hxo1 2 rfl
  have hlo1 := blk_lt hxo1
  have qo5_0 := blk_cell hxo5 0 rfl
  have qo5_1 := blk_cell hxo5 1 rfl
  have qo5_2 := blk_cell hxo5 2 rfl
  have hlo5 := blk_lt hxo5
  have qo7_0 := blk_cell hxo7 0 rfl
  have qo7_1 := blk_cell hxo7 1 rfl
  have qo7_2 := blk_cell hxo7 2 rfl
  have hlo7 := blk_lt hxo7
  have qo10_0 := blk_cell hxo10 0 rfl
  have qo10_1 := blk_cell hxo10 1 rfl
  have qo10_2 := blk_cell hxo10 2 rfl
  have hlo10 := blk_lt hxo10
  have qo15_0 := blk_cell hxo15 0 rfl
  have qo15_1 := blk_cell hxo15 1 rfl
  have qo15_2 := blk_cell hxo15 2 rfl
  have hlo15 := blk_lt hxo15
  go_wp2_with fail
  go_ret
  first | exact ⟨rfl, HB⟩ | exact ⟨rfl, below_drewN HB⟩
end Go.Proofs.Ytcpkhhammafchaa
