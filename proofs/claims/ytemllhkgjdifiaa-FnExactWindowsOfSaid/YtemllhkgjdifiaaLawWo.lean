/- The law on WindowsOf. Written by genlaw5.py. -/
import Derived.Test.YtemllhkgjdifiaaWo
import Derived.Test.YtemllhkgjdifiaaGC
import Derived.Test.YtemllhkgjdifiaaGI
namespace Go.Proofs.Ytemllhkgjdifiaa
open Go.RowKit
set_option linter.unusedVariables false
set_option linter.unusedSimpArgs false
theorem wins_bd {s : Int} {xs : List Int} {f len : Nat} (h : xs.length ≤ 200) (hl : len ≤ 4) : tot (winsOf xs f len) ≤ 1000000 ∧ (winsOf xs f len).length ≤ 1000000 := by
  have h1 : (winsOf xs f len).length ≤ 201 := by
    have h2 := sortU_size (wl xs f len (xs.length - f))
    rw [wl_size] at h2
    unfold winsOf
    omega
  have h3 : ∀ ys ∈ winsOf xs f len, ys.length ≤ 4 := by
    intro ys hy
    unfold winsOf at hy
    rw [sortU_mem] at hy
    have := wl_len _ _ _ _ ys hy
    omega
  have h4 := tot_bd h3
  exact ⟨by omega, by omega⟩
theorem wo_b (s t : Int) (ps : List Rul) (st : Int) (ls rs : List Int) (n : Int) : (tot (woP s t ps st ls rs n).1 ≤ 1000000 ∧ (woP s t ps st ls rs n).1.length ≤ 1000000) ∧ (tot (woP s t ps st ls rs n).2.1 ≤ 1000000 ∧ (woP s t ps st ls rs n).2.1.length ≤ 1000000) := by
  unfold woP
  split
  · rename_i h
    obtain ⟨h1, h2, _⟩ := wo_cl2 h
    split
    · rename_i h3
      have h4 := inB_true.1 h3
      exact ⟨wins_bd (s := s) h1 (by omega), wins_bd (s := s) h2 (by omega)⟩
    · simp [tot]
  · simp [tot]
set_option maxHeartbeats 16000000 in
set_option maxRecDepth 100000 in
theorem lawWindowsOf (w : World) (x0_0 : Int) (x0_1 : Int) (A0_2 : Option Addr) (n0_2 c0_2 : Nat) (x0_2 : List Int) (hr0_2 : Rd w A0_2 (n0_2 * 3) (ints x0_2)) (hnn0_2 : n0_2 ≤ 9223372036854775807) (x1_0 : Int) (A1_1 : Option Addr) (n1_1 c1_1 : Nat) (x1_1 : List Int) (hr1_1 : Rd w A1_1 n1_1 (ints x1_1)) (hnn1_1 : n1_1 ≤ 9223372036854775807) (A1_2 : Option Addr) (n1_2 c1_2 : Nat) (x1_2 : List Int) (hr1_2 : Rd w A1_2 n1_2 (ints x1_2)) (hnn1_2 : n1_2 ≤ 9223372036854775807) (x2 : Int) :
    Calls Try.prog 5 #[.agg #[.int .i64 x0_0, .int .i64 x0_1, .slice A0_2 n0_2 c0_2], .agg #[.int .i64 x1_0, .slice A1_1 n1_1 c1_1, .slice A1_2 n1_2 c1_2], .int .i64 x2] w fun e w' => e = .returned (.bool true) ∧ Below w.heap.size w w' := by
  obtain ⟨rs, rfl, hps⟩ := unflatR n0_2 x0_2 (by simpa using hr0_2.1)
  have HPS := Lib.hid hps; clear hps
  have hS : ∀ (w : World) (A0_2 : Option Addr) (n0_2 c0_2 : Nat) (h0_2 : Rd w A0_2 (n0_2 * 3) (ints (flatR rs))) (hn0_2 : n0_2 ≤ 1099511627776) (hcp0_2 : n0_2 ≤ c0_2) (A1_1 : Option Addr) (n1_1 c1_1 : Nat) (h1_1 : Rd w A1_1 n1_1 (ints x1_1)) (hn1_1 : n1_1 ≤ 1099511627776) (hcp1_1 : n1_1 ≤ c1_1) (A1_2 : Option Addr) (n1_2 c1_2 : Nat) (h1_2 : Rd w A1_2 n1_2 (ints x1_2)) (hn1_2 : n1_2 ≤ 1099511627776) (hcp1_2 : n1_2 ≤ c1_2), Calls Try.prog 29 #[.agg #[.int .i64 x0_0, .int .i64 x0_1, .slice A0_2 n0_2 c0_2], .agg #[.int .i64 x1_0, .slice A1_1 n1_1 c1_1, .slice A1_2 n1_2 c1_2], .int .i64 x2] w (fun e w' => ∃ (AR0 : Option Addr) (nR0 cR0 : Nat) (FR0 : Nat → Prop) (AR1 : Option Addr) (nR1 cR1 : Nat) (FR1 : Nat → Prop), e = .returned (.tuple #[.slice AR0 nR0 cR0, .slice AR1 nR1 cR1, .int .i64 ((woP x0_0 x0_1 rs x1_0 x1_1 x1_2 x2).2.2)]) ∧ OwnP w' FR0 AR0 nR0 cR0 ((woP x0_0 x0_1 rs x1_0 x1_1 x1_2 x2).1) ∧ (∀ k, FR0 k → w.heap.size ≤ k ∧ k < w'.heap.size) ∧ OwnP w' FR1 AR1 nR1 cR1 ((woP x0_0 x0_1 rs x1_0 x1_1 x1_2 x2).2.1) ∧ (∀ k, FR1 k → w.heap.size ≤ k ∧ k < w'.heap.size) ∧ (∀ k, FR0 k → FR1 k → False) ∧ Below w.heap.size w w') := fun w A0_2 n0_2 c0_2 h0_2 hn0_2 hcp0_2 A1_1 n1_1 c1_1 h1_1 hn1_1 hcp1_1 A1_2 n1_2 c1_2 h1_2 hn1_2 hcp1_2 => specWindowsOf_any w x0_0 x0_1 A0_2 n0_2 c0_2 rs h0_2 hn0_2 x1_0 A1_1 n1_1 c1_1 x1_1 h1_1 hn1_1 A1_2 n1_2 c1_2 x1_2 h1_2 hn1_2 hcp1_2 x2
  have hI : ∀ (w : World) (A0_2 : Option Addr) (n0_2 c0_2 : Nat) (h0_2 : Rd w A0_2 (n0_2 * 3) (ints (flatR rs))) (hn0_2 : n0_2 ≤ 1099511627776) (hcp0_2 : n0_2 ≤ c0_2) (A1_1 : Option Addr) (n1_1 c1_1 : Nat) (h1_1 : Rd w A1_1 n1_1 (ints x1_1)) (hn1_1 : n1_1 ≤ 1099511627776) (hcp1_1 : n1_1 ≤ c1_1) (A1_2 : Option Addr) (n1_2 c1_2 : Nat) (h1_2 : Rd w A1_2 n1_2 (ints x1_2)) (hn1_2 : n1_2 ≤ 1099511627776) (hcp1_2 : n1_2 ≤ c1_2), Calls Try.prog 31 #[.agg #[.int .i64 x0_0, .int .i64 x0_1, .slice A0_2 n0_2 c0_2], .agg #[.int .i64 x1_0, .slice A1_1 n1_1 c1_1, .slice A1_2 n1_2 c1_2], .int .i64 x2] w (fun e w' => ∃ (AR0 : Option Addr) (nR0 cR0 : Nat) (FR0 : Nat → Prop) (AR1 : Option Addr) (nR1 cR1 : Nat) (FR1 : Nat → Prop), e = .returned (.tuple #[.slice AR0 nR0 cR0, .slice AR1 nR1 cR1, .int .i64 ((woP x0_0 x0_1 rs x1_0 x1_1 x1_2 x2).2.2)]) ∧ OwnP w' FR0 AR0 nR0 cR0 ((woP x0_0 x0_1 rs x1_0 x1_1 x1_2 x2).1) ∧ (∀ k, FR0 k → w.heap.size ≤ k ∧ k < w'.heap.size) ∧ OwnP w' FR1 AR1 nR1 cR1 ((woP x0_0 x0_1 rs x1_0 x1_1 x1_2 x2).2.1) ∧ (∀ k, FR1 k → w.heap.size ≤ k ∧ k < w'.heap.size) ∧ (∀ k, FR0 k → FR1 k → False) ∧ Below w.heap.size w w') := fun w A0_2 n0_2 c0_2 h0_2 hn0_2 hcp0_2 A1_1 n1_1 c1_1 h1_1 hn1_1 hcp1_1 A1_2 n1_2 c1_2 h1_2 hn1_2 hcp1_2 => implWindowsOf_any w x0_0 x0_1 A0_2 n0_2 c0_2 rs h0_2 hn0_2 x1_0 A1_1 n1_1 c1_1 x1_1 h1_1 hn1_1 A1_2 n1_2 c1_2 x1_2 h1_2 hn1_2 hcp1_2 x2
  have HRLR0 : Hid (tot ((woP x0_0 x0_1 rs x1_0 x1_1 x1_2 x2).1) ≤ 1000000 ∧ ((woP x0_0 x0_1 rs x1_0 x1_1 x1_2 x2).1).length ≤ 1000000) := Lib.hid ((wo_b _ _ _ _ _ _ _).1)
  have HRLR1 : Hid (tot ((woP x0_0 x0_1 rs x1_0 x1_1 x1_2 x2).2.1) ≤ 1000000 ∧ ((woP x0_0 x0_1 rs x1_0 x1_1 x1_2 x2).2.1).length ≤ 1000000) := Lib.hid ((wo_b _ _ _ _ _ _ _).2)
  have HS := Lib.hid hS; have HI := Lib.hid hI
  clear hS hI
  generalize (woP x0_0 x0_1 rs x1_0 x1_1 x1_2 x2).1 = r0 at HS HI HRLR0
  generalize (woP x0_0 x0_1 rs x1_0 x1_1 x1_2 x2).2.1 = r1 at HS HI HRLR1
  generalize (woP x0_0 x0_1 rs x1_0 x1_1 x1_2 x2).2.2 = r2 at HS HI 
  have HXL0_2 : Hid (((flatR rs)).length = n0_2 * 3) := Lib.hid (by have := hr0_2.1; simp at this; omega)
  have HXL1_1 : Hid ((x1_1).length = n1_1 * 1) := Lib.hid (by have := hr1_1.1; simp at this; omega)
  have HXL1_2 : Hid ((x1_2).length = n1_2 * 1) := Lib.hid (by have := hr1_2.1; simp at this; omega)
  have HB := Below.refl w.heap.size w
  go_enter Try.func5, Try.ntmps5
  go_wp2_with fail
  refine (szMachine_post _ x0_0 x0_1 _ _ _ hnn0_2 _ (by omega) (by omega)).mono ?_
  rintro e v1 ⟨lfv1, rfl, hqv1, hpv1, hbv1⟩
  (try replace hbv1 := und1 hbv1)
  (try replace hbv1 := undN hbv1)
  obtain ⟨hbv1b, hxo2, hso2⟩ := box_step hbv1
  (try simp only [World.size_alloc] at hxo2 hso2)
  obtain ⟨hbv1bb, hxo1, hso1⟩ := box_step hbv1b
  (try simp only [World.size_alloc] at hxo1 hso1)
  replace HB := HB.trans (hbv1bb.mono HB.size)
  have hszv1 := hbv1bb.size
  have qo1_0 := blk_cell hxo1 0 rfl
  have qo1_1 := blk_cell hxo1 1 rfl
  have qo1_2 := blk_cell hxo1 2 rfl
  have hlo1 := blk_lt hxo1
  have qo2_0 := blk_cell hxo2 0 rfl
  have qo2_1 := blk_cell hxo2 1 rfl
  have qo2_2 := blk_cell hxo2 2 rfl
  have hlo2 := blk_lt hxo2
  by_cases hzv1 : lfv1 < 0
  · clear hqv1 hpv1
    go_wp2_with fail
    go_ret
    exact ⟨rfl, HB⟩
  replace hqv1 := hqv1 (by omega)
  have hbig0_2 : n0_2 ≤ 1048576 := by omega
  have HQv1 := Lib.hid hqv1; clear hqv1
  go_wp2_with fail
  refine (szConfig_post _ x1_0 _ _ _ hnn1_1 _ _ _ hnn1_2 _ (by omega) (by omega)).mono ?_
  rintro e v2 ⟨lfv2, rfl, hqv2, hpv2, hbv2⟩
  clear qo1_0 qo1_1 qo1_2 qo2_0 qo2_1 qo2_2 hlo1 hlo2
  (try replace hbv2 := und1 hbv2)
  (try replace hbv2 := undN hbv2)
  replace hxo1 := blk_bel hxo1 hbv2
  replace hxo2 := blk_bel hxo2 hbv2
  replace HB := HB.trans (hbv2.mono HB.size)
  have hszv2 := hbv2.size
  have qo1_0 := blk_cell hxo1 0 rfl
  have qo1_1 := blk_cell hxo1 1 rfl
  have qo1_2 := blk_cell hxo1 2 rfl
  have hlo1 := blk_lt hxo1
  have qo2_0 := blk_cell hxo2 0 rfl
  have qo2_1 := blk_cell hxo2 1 rfl
  have qo2_2 := blk_cell hxo2 2 rfl
  have hlo2 := blk_lt hxo2
  by_cases hzv2 : lfv2 < 0
  · clear hqv2 hpv2
    go_wp2_with fail
    go_ret
    exact ⟨rfl, HB⟩
  replace hqv2 := hqv2 (by omega)
  have hbig1_1 : n1_1 ≤ 1048576 := by omega
  have hbig1_2 : n1_2 ≤ 1048576 := by omega
  have HQv2 := Lib.hid hqv2; clear hqv2
  go_wp2_with fail
  go_region_held3 (fun w' => w'.cell? ⟨w.heap.size, 0, none⟩ = some (.int .i64 x0_0) ∧ w'.cell? ⟨w.heap.size, 1, none⟩ = some (.int .i64 x0_1) ∧ w'.cell? ⟨w.heap.size, 2, none⟩ = some (.slice A0_2 n0_2 c0_2) ∧ w'.cell? ⟨w.heap.size + 1, 0, none⟩ = some (.int .i64 x1_0) ∧ w'.cell? ⟨w.heap.size + 1, 1, none⟩ = some (.slice A1_1 n1_1 c1_1) ∧ w'.cell? ⟨w.heap.size + 1, 2, none⟩ = some (.slice A1_2 n1_2 c1_2)) (first | exact ⟨qo1_0, qo1_1, qo1_2, qo2_0, qo2_1, qo2_2⟩ | go_keep) (first
    | (go_at_call 12
       refine (toMachine_any _ x0_0 x0_1 _ _ _ (flatR rs) (by have h := (hr0_2.below HB (Nat.le_refl _)); first | exact h | exact h.below (below_new _ _) (Nat.le_refl _) | exact h.below (below_drew1 (below_new _ _)) (Nat.le_refl _)) (by omega)).mono ?_
       rintro e v3 ⟨Ao3, no3, co3, rfl, hoo3, hbv3⟩
       have hno3 : no3 ≤ 1048576 := by have h1 := hoo3.1; simp only [List.length_map] at h1; have h2 := HXL0_2.out; omega
       have hrgo3 := Lib.hid (rg_row hoo3)
       clear qo1_0 qo1_1 qo1_2 qo2_0 qo2_1 qo2_2 hlo1 hlo2
       (try replace hbv3 := und1 hbv3)
       (try replace hbv3 := undN hbv3)
       replace hxo1 := blk_bel hxo1 hbv3
       replace hxo2 := blk_bel hxo2 hbv3
       replace HB := HB.trans (hbv3.mono HB.size)
       have hszv3 := hbv3.size
       have qo1_0 := blk_cell hxo1 0 rfl
       have qo1_1 := blk_cell hxo1 1 rfl
       have qo1_2 := blk_cell hxo1 2 rfl
       have hlo1 := blk_lt hxo1
       have qo2_0 := blk_cell hxo2 0 rfl
       have qo2_1 := blk_cell hxo2 1 rfl
       have qo2_2 := blk_cell hxo2 2 rfl
       have hlo2 := blk_lt hxo2
       replace hrgo3 := Lib.hid (rg_lo hrgo3.out (lo := v2.heap.size + 0) (hi := v3.heap.size) (by first | exact Nat.le_refl _ | exact le_al1 | (simp; done) | (simp; omega)) (Nat.le_refl _))
       )
    | (go_at_call 30
       refine (toConfig_any _ x1_0 _ _ _ x1_1 (by have h := (hr1_1.below HB (Nat.le_refl _)); first | exact h | exact h.below (below_new _ _) (Nat.le_refl _) | exact h.below (below_drew1 (below_new _ _)) (Nat.le_refl _)) (by omega) _ _ _ x1_2 (by have h := (hr1_2.below HB (Nat.le_refl _)); first | exact h | exact h.below (below_new _ _) (Nat.le_refl _) | exact h.below (below_drew1 (below_new _ _)) (Nat.le_refl _)) (by omega)).mono ?_
       rintro e v4 ⟨Ao4, no4, co4, Ao5, no5, co5, rfl, hoo4, hoo5, hdo4o5, hbv4⟩
       have hno4 : no4 ≤ 1048576 := by have h1 := hoo4.1; simp only [List.length_map] at h1; have h2 := HXL1_1.out; omega
       have hno5 : no5 ≤ 1048576 := by have h1 := hoo5.1; simp only [List.length_map] at h1; have h2 := HXL1_2.out; omega
       have hrgo4 := Lib.hid (rg_row hoo4)
       have hrgo5 := Lib.hid (rg_row hoo5)
       have HDo4o5 := Lib.hid hdo4o5; clear hdo4o5
       clear qo1_0 qo1_1 qo1_2 qo2_0 qo2_1 qo2_2 hlo1 hlo2
       (try replace hbv4 := und1 hbv4)
       (try replace hbv4 := undN hbv4)
       replace hoo3 := ownN_below hoo3 hbv4 (Nat.le_refl _)
       replace hxo1 := blk_bel hxo1 hbv4
       replace hxo2 := blk_bel hxo2 hbv4
       replace HB := HB.trans (hbv4.mono HB.size)
       have hszv4 := hbv4.size
       have qo1_0 := blk_cell hxo1 0 rfl
       have qo1_1 := blk_cell hxo1 1 rfl
       have qo1_2 := blk_cell hxo1 2 rfl
       have hlo1 := blk_lt hxo1
       have qo2_0 := blk_cell hxo2 0 rfl
       have qo2_1 := blk_cell hxo2 1 rfl
       have qo2_2 := blk_cell hxo2 2 rfl
       have hlo2 := blk_lt hxo2
       replace hrgo4 := Lib.hid (rg_lo hrgo4.out (lo := v3.heap.size + 0) (hi := v4.heap.size) (by first | exact Nat.le_refl _ | exact le_al1 | (simp; done) | (simp; omega)) (Nat.le_refl _))
       replace hrgo5 := Lib.hid (rg_lo hrgo5.out (lo := v3.heap.size + 0) (hi := v4.heap.size) (by first | exact Nat.le_refl _ | exact le_al1 | (simp; done) | (simp; omega)) (Nat.le_refl _))
       )
    | (go_at_call 29
       refine (HS.out _ _ _ _ (by have h := (ownN_rd hoo3); first | exact h | exact h.below (below_new _ _) (Nat.le_refl _) | exact h.below (below_drew1 (below_new _ _)) (Nat.le_refl _)) (by omega) (ownN_cap hoo3) _ _ _ (by have h := (own_rd hoo4); first | exact h | exact h.below (below_new _ _) (Nat.le_refl _) | exact h.below (below_drew1 (below_new _ _)) (Nat.le_refl _)) (by omega) (ownN_cap hoo4) _ _ _ (by have h := (own_rd hoo5); first | exact h | exact h.below (below_new _ _) (Nat.le_refl _) | exact h.below (below_drew1 (below_new _ _)) (Nat.le_refl _)) (by omega) (ownN_cap hoo5)).mono ?_
       rintro e v5 ⟨Ao6, no6, co6, Fo6, Ao7, no7, co7, Fo7, rfl, hoo6, hFo6, hoo7, hFo7, hdo6o7, hbv5⟩
       have hno6 : no6 ≤ 1000000 := by have h1 := hoo6.len; have h2 := HRLR0.out; omega
       have hno7 : no7 ≤ 1000000 := by have h1 := hoo7.len; have h2 := HRLR1.out; omega
       have hrgo6 := Lib.hid hFo6; clear hFo6
       have hrgo7 := Lib.hid hFo7; clear hFo7
       have HDo6o7 := Lib.hid hdo6o7; clear hdo6o7
       clear qo1_0 qo1_1 qo1_2 qo2_0 qo2_1 qo2_2 hlo1 hlo2
       (try replace hbv5 := und1 hbv5)
       (try replace hbv5 := undN hbv5)
       replace hoo3 := ownN_below hoo3 hbv5 (Nat.le_refl _)
       replace hoo4 := ownN_below hoo4 hbv5 (Nat.le_refl _)
       replace hoo5 := ownN_below hoo5 hbv5 (Nat.le_refl _)
       replace hxo1 := blk_bel hxo1 hbv5
       replace hxo2 := blk_bel hxo2 hbv5
       replace HB := HB.trans (hbv5.mono HB.size)
       have hszv5 := hbv5.size
       have qo1_0 := blk_cell hxo1 0 rfl
       have qo1_1 := blk_cell hxo1 1 rfl
       have qo1_2 := blk_cell hxo1 2 rfl
       have hlo1 := blk_lt hxo1
       have qo2_0 := blk_cell hxo2 0 rfl
       have qo2_1 := blk_cell hxo2 1 rfl
       have qo2_2 := blk_cell hxo2 2 rfl
       have hlo2 := blk_lt hxo2
       replace hrgo6 := Lib.hid (rg_lo hrgo6.out (lo := v4.heap.size + 0) (hi := v5.heap.size) (by first | exact Nat.le_refl _ | exact le_al1 | (simp; done) | (simp; omega)) (Nat.le_refl _))
       replace hrgo7 := Lib.hid (rg_lo hrgo7.out (lo := v4.heap.size + 0) (hi := v5.heap.size) (by first | exact Nat.le_refl _ | exact le_al1 | (simp; done) | (simp; omega)) (Nat.le_refl _))
       )
    )
  go_wp2_with fail
  refine (toMachine_any _ x0_0 x0_1 _ _ _ (flatR rs) (hr0_2.below HB (Nat.le_refl _)) (by omega)).mono ?_
  rintro e v6 ⟨Ao8, no8, co8, rfl, hoo8, hbv6⟩
  have hno8 : no8 ≤ 1048576 := by have h1 := hoo8.1; simp only [List.length_map] at h1; have h2 := HXL0_2.out; omega
  have hrgo8 := Lib.hid (rg_row hoo8)
  clear qo1_0 qo1_1 qo1_2 qo2_0 qo2_1 qo2_2 hlo1 hlo2
  (try replace hbv6 := und1 hbv6)
  (try replace hbv6 := undN hbv6)
  replace hoo3 := ownN_below hoo3 hbv6 (Nat.le_refl _)
  replace hoo4 := ownN_below hoo4 hbv6 (Nat.le_refl _)
  replace hoo5 := ownN_below hoo5 hbv6 (Nat.le_refl _)
  replace hoo6 := hoo6.below hbv6
  replace hoo7 := hoo7.below hbv6
  replace hxo1 := blk_bel hxo1 hbv6
  replace hxo2 := blk_bel hxo2 hbv6
  replace HB := HB.trans (hbv6.mono HB.size)
  have hszv6 := hbv6.size
  have qo1_0 := blk_cell hxo1 0 rfl
  have qo1_1 := blk_cell hxo1 1 rfl
  have qo1_2 := blk_cell hxo1 2 rfl
  have hlo1 := blk_lt hxo1
  have qo2_0 := blk_cell hxo2 0 rfl
  have qo2_1 := blk_cell hxo2 1 rfl
  have qo2_2 := blk_cell hxo2 2 rfl
  have hlo2 := blk_lt hxo2
  replace hrgo8 := Lib.hid (rg_lo hrgo8.out (lo := v5.heap.size + 0) (hi := v6.heap.size) (by first | exact Nat.le_refl _ | exact le_al1 | (simp; done) | (simp; omega)) (Nat.le_refl _))
  go_wp2_with fail
  refine (toConfig_any _ x1_0 _ _ _ x1_1 ((hr1_1.below HB (Nat.le_refl _)).below (below_new _ _) (Nat.le_refl _)) (by omega) _ _ _ x1_2 ((hr1_2.below HB (Nat.le_refl _)).below (below_new _ _) (Nat.le_refl _)) (by omega)).mono ?_
  rintro e v7 ⟨Ao10, no10, co10, Ao11, no11, co11, rfl, hoo10, hoo11, hdo10o11, hbv7⟩
  have hno10 : no10 ≤ 1048576 := by have h1 := hoo10.1; simp only [List.length_map] at h1; have h2 := HXL1_1.out; omega
  have hno11 : no11 ≤ 1048576 := by have h1 := hoo11.1; simp only [List.length_map] at h1; have h2 := HXL1_2.out; omega
  have hrgo10 := Lib.hid (rg_row hoo10)
  have hrgo11 := Lib.hid (rg_row hoo11)
  have HDo10o11 := Lib.hid hdo10o11; clear hdo10o11
  clear qo1_0 qo1_1 qo1_2 qo2_0 qo2_1 qo2_2 hlo1 hlo2
  (try replace hbv7 := und1 hbv7)
  (try replace hbv7 := undN hbv7)
  obtain ⟨hbv7b, hxo9, hso9⟩ := box_step hbv7
  (try simp only [World.size_alloc] at hxo9 hso9)
  replace hoo3 := ownN_below hoo3 hbv7b (Nat.le_refl _)
  replace hoo4 := ownN_below hoo4 hbv7b (Nat.le_refl _)
  replace hoo5 := ownN_below hoo5 hbv7b (Nat.le_refl _)
  replace hoo6 := hoo6.below hbv7b
  replace hoo7 := hoo7.below hbv7b
  replace hoo8 := ownN_below hoo8 hbv7b (Nat.le_refl _)
  replace hxo1 := blk_bel hxo1 hbv7b
  replace hxo2 := blk_bel hxo2 hbv7b
  replace HB := HB.trans (hbv7b.mono HB.size)
  have hszv7 := hbv7b.size
  have qo1_0 := blk_cell hxo1 0 rfl
  have qo1_1 := blk_cell hxo1 1 rfl
  have qo1_2 := blk_cell hxo1 2 rfl
  have hlo1 := blk_lt hxo1
  have qo2_0 := blk_cell hxo2 0 rfl
  have qo2_1 := blk_cell hxo2 1 rfl
  have qo2_2 := blk_cell hxo2 2 rfl
  have hlo2 := blk_lt hxo2
  have qo9_0 := blk_cell hxo9 0 rfl
  have qo9_1 := blk_cell hxo9 1 rfl
  have qo9_2 := blk_cell hxo9 2 rfl
  have hlo9 := blk_lt hxo9
  replace hrgo10 := Lib.hid (rg_lo hrgo10.out (lo := v6.heap.size + 1) (hi := v7.heap.size) (by first | exact Nat.le_refl _ | exact le_al1 | (simp; done) | (simp; omega)) (Nat.le_refl _))
  replace hrgo11 := Lib.hid (rg_lo hrgo11.out (lo := v6.heap.size + 1) (hi := v7.heap.size) (by first | exact Nat.le_refl _ | exact le_al1 | (simp; done) | (simp; omega)) (Nat.le_refl _))
  go_wp2_with fail
  refine (HI.out _ _ _ _ ((ownN_rd hoo8).below (below_new _ _) (Nat.le_refl _)) (by omega) (ownN_cap hoo8) _ _ _ ((own_rd hoo10).below (below_new _ _) (Nat.le_refl _)) (by omega) (ownN_cap hoo10) _ _ _ ((own_rd hoo11).below (below_new _ _) (Nat.le_refl _)) (by omega) (ownN_cap hoo11)).mono ?_
  rintro e v8 ⟨Ao13, no13, co13, Fo13, Ao14, no14, co14, Fo14, rfl, hoo13, hFo13, hoo14, hFo14, hdo13o14, hbv8⟩
  have hno13 : no13 ≤ 1000000 := by have h1 := hoo13.len; have h2 := HRLR0.out; omega
  have hno14 : no14 ≤ 1000000 := by have h1 := hoo14.len; have h2 := HRLR1.out; omega
  have hrgo13 := Lib.hid hFo13; clear hFo13
  have hrgo14 := Lib.hid hFo14; clear hFo14
  have HDo13o14 := Lib.hid hdo13o14; clear hdo13o14
  clear qo1_0 qo1_1 qo1_2 qo2_0 qo2_1 qo2_2 qo9_0 qo9_1 qo9_2 hlo1 hlo2 hlo9
  (try replace hbv8 := und1 hbv8)
  (try replace hbv8 := undN hbv8)
  obtain ⟨hbv8b, hxo12, hso12⟩ := box_step hbv8
  (try simp only [World.size_alloc] at hxo12 hso12)
  replace hoo3 := ownN_below hoo3 hbv8b (Nat.le_refl _)
  replace hoo4 := ownN_below hoo4 hbv8b (Nat.le_refl _)
  replace hoo5 := ownN_below hoo5 hbv8b (Nat.le_refl _)
  replace hoo6 := hoo6.below hbv8b
  replace hoo7 := hoo7.below hbv8b
  replace hoo8 := ownN_below hoo8 hbv8b (Nat.le_refl _)
  replace hoo10 := ownN_below hoo10 hbv8b (Nat.le_refl _)
  replace hoo11 := ownN_below hoo11 hbv8b (Nat.le_refl _)
  replace hxo1 := blk_bel hxo1 hbv8b
  replace hxo2 := blk_bel hxo2 hbv8b
  replace hxo9 := blk_bel hxo9 hbv8b
  replace HB := HB.trans (hbv8b.mono HB.size)
  have hszv8 := hbv8b.size
  have qo1_0 := blk_cell hxo1 0 rfl
  have qo1_1 := blk_cell hxo1 1 rfl
  have qo1_2 := blk_cell hxo1 2 rfl
  have hlo1 := blk_lt hxo1
  have qo2_0 := blk_cell hxo2 0 rfl
  have qo2_1 := blk_cell hxo2 1 rfl
  have qo2_2 := blk_cell hxo2 2 rfl
  have hlo2 := blk_lt hxo2
  have qo9_0 := blk_cell hxo9 0 rfl
  have qo9_1 := blk_cell hxo9 1 rfl
  have qo9_2 := blk_cell hxo9 2 rfl
  have hlo9 := blk_lt hxo9
  have qo12_0 := blk_cell hxo12 0 rfl
  have qo12_1 := blk_cell hxo12 1 rfl
  have qo12_2 := blk_cell hxo12 2 rfl
  have hlo12 := blk_lt hxo12
  replace hrgo13 := Lib.hid (rg_lo hrgo13.out (lo := v7.heap.size + 1) (hi := v8.heap.size) (by first | exact Nat.le_refl _ | exact le_al1 | (simp; done) | (simp; omega)) (Nat.le_refl _))
  replace hrgo14 := Lib.hid (rg_lo hrgo14.out (lo := v7.heap.size + 1) (hi := v8.heap.size) (by first | exact Nat.le_refl _ | exact le_al1 | (simp; done) | (simp; omega)) (Nat.le_refl _))
  go_wp2_with fail
  refine (eqInt64SS_same _ _ _ _ r0 hoo13.rdl (by omega) _ _ _ hoo6.rdl).mono ?_
  rintro e v9 ⟨rfl, hbv9⟩
  clear qo1_0 qo1_1 qo1_2 qo2_0 qo2_1 qo2_2 qo9_0 qo9_1 qo9_2 qo12_0 qo12_1 qo12_2 hlo1 hlo2 hlo9 hlo12
  (try replace hbv9 := und1 hbv9)
  (try replace hbv9 := undN hbv9)
  replace hoo3 := ownN_below hoo3 hbv9 (Nat.le_refl _)
  replace hoo4 := ownN_below hoo4 hbv9 (Nat.le_refl _)
  replace hoo5 := ownN_below hoo5 hbv9 (Nat.le_refl _)
  replace hoo6 := hoo6.below hbv9
  replace hoo7 := hoo7.below hbv9
  replace hoo8 := ownN_below hoo8 hbv9 (Nat.le_refl _)
  replace hoo10 := ownN_below hoo10 hbv9 (Nat.le_refl _)
  replace hoo11 := ownN_below hoo11 hbv9 (Nat.le_refl _)
  replace hoo13 := hoo13.below hbv9
  replace hoo14 := hoo14.below hbv9
  replace hxo1 := blk_bel hxo1 hbv9
  replace hxo2 := blk_bel hxo2 hbv9
  replace hxo9 := blk_bel hxo9 hbv9
  replace hxo12 := blk_bel hxo12 hbv9
  replace HB := HB.trans (hbv9.mono HB.size)
  have hszv9 := hbv9.size
  have qo1_0 := blk_cell hxo1 0 rfl
  have qo1_1 := blk_cell hxo1 1 rfl
  have qo1_2 := blk_cell hxo1 2 rfl
  have hlo1 := blk_lt hxo1
  have qo2_0 := blk_cell hxo2 0 rfl
  have qo2_1 := blk_cell hxo2 1 rfl
  have qo2_2 := blk_cell hxo2 2 rfl
  have hlo2 := blk_lt hxo2
  have qo9_0 := blk_cell hxo9 0 rfl
  have qo9_1 := blk_cell hxo9 1 rfl
  have qo9_2 := blk_cell hxo9 2 rfl
  have hlo9 := blk_lt hxo9
  have qo12_0 := blk_cell hxo12 0 rfl
  have qo12_1 := blk_cell hxo12 1 rfl
  have qo12_2 := blk_cell hxo12 2 rfl
  have hlo12 := blk_lt hxo12
  go_wp2_with fail
  refine (eqInt64SS_same _ _ _ _ r1 hoo14.rdl (by omega) _ _ _ hoo7.rdl).mono ?_
  rintro e v10 ⟨rfl, hbv10⟩
  clear qo1_0 qo1_1 qo1_2 qo2_0 qo2_1 qo2_2 qo9_0 qo9_1 qo9_2 qo12_0 qo12_1 qo12_2 hlo1 hlo2 hlo9 hlo12
  (try replace hbv10 := und1 hbv10)
  (try replace hbv10 := undN hbv10)
  replace hoo3 := ownN_below hoo3 hbv10 (Nat.le_refl _)
  replace hoo4 := ownN_below hoo4 hbv10 (Nat.le_refl _)
  replace hoo5 := ownN_below hoo5 hbv10 (Nat.le_refl _)
  replace hoo6 := hoo6.below hbv10
  replace hoo7 := hoo7.below hbv10
  replace hoo8 := ownN_below hoo8 hbv10 (Nat.le_refl _)
  replace hoo10 := ownN_below hoo10 hbv10 (Nat.le_refl _)
  replace hoo11 := ownN_below hoo11 hbv10 (Nat.le_refl _)
  replace hoo13 := hoo13.below hbv10
  replace hoo14 := hoo14.below hbv10
  replace hxo1 := blk_bel hxo1 hbv10
  replace hxo2 := blk_bel hxo2 hbv10
  replace hxo9 := blk_bel hxo9 hbv10
  replace hxo12 := blk_bel hxo12 hbv10
  replace HB := HB.trans (hbv10.mono HB.size)
  have hszv10 := hbv10.size
  have qo1_0 := blk_cell hxo1 0 rfl
  have qo1_1 := blk_cell hxo1 1 rfl
  have qo1_2 := blk_cell hxo1 2 rfl
  have hlo1 := blk_lt hxo1
  have qo2_0 := blk_cell hxo2 0 rfl
  have qo2_1 := blk_cell hxo2 1 rfl
  have qo2_2 := blk_cell hxo2 2 rfl
  have hlo2 := blk_lt hxo2
  have qo9_0 := blk_cell hxo9 0 rfl
  have qo9_1 := blk_cell hxo9 1 rfl
  have qo9_2 := blk_cell hxo9 2 rfl
  have hlo9 := blk_lt hxo9
  have qo12_0 := blk_cell hxo12 0 rfl
  have qo12_1 := blk_cell hxo12 1 rfl
  have qo12_2 := blk_cell hxo12 2 rfl
  have hlo12 := blk_lt hxo12
  go_wp2_with fail
  go_region_held3 (fun w' => w'.cell? ⟨v6.heap.size, 0, none⟩ = some (.int .i64 x0_0) ∧ w'.cell? ⟨v6.heap.size, 1, none⟩ = some (.int .i64 x0_1) ∧ w'.cell? ⟨v6.heap.size, 2, none⟩ = some (.slice Ao8 no8 co8) ∧ w'.cell? ⟨w.heap.size, 0, none⟩ = some (.int .i64 x0_0) ∧ w'.cell? ⟨w.heap.size, 1, none⟩ = some (.int .i64 x0_1) ∧ w'.cell? ⟨w.heap.size, 2, none⟩ = some (.slice A0_2 n0_2 c0_2)) (first | exact ⟨qo9_0, qo9_1, qo9_2, qo1_0, qo1_1, qo1_2⟩ | go_keep) (first
    | (go_at_call 12
       refine (toMachine_any _ x0_0 x0_1 _ _ _ (flatR rs) (by have h := (hr0_2.below HB (Nat.le_refl _)); first | exact h | exact h.below (below_new _ _) (Nat.le_refl _) | exact h.below (below_drew1 (below_new _ _)) (Nat.le_refl _)) (by omega)).mono ?_
       rintro e v11 ⟨Ao15, no15, co15, rfl, hoo15, hbv11⟩
       have hno15 : no15 ≤ 1048576 := by have h1 := hoo15.1; simp only [List.length_map] at h1; have h2 := HXL0_2.out; omega
       have hrgo15 := Lib.hid (rg_row hoo15)
       clear qo1_0 qo1_1 qo1_2 qo2_0 qo2_1 qo2_2 qo9_0 qo9_1 qo9_2 qo12_0 qo12_1 qo12_2 hlo1 hlo2 hlo9 hlo12
       (try replace hbv11 := und1 hbv11)
       (try replace hbv11 := undN hbv11)
       replace hoo3 := ownN_below hoo3 hbv11 (Nat.le_refl _)
       replace hoo4 := ownN_below hoo4 hbv11 (Nat.le_refl _)
       replace hoo5 := ownN_below hoo5 hbv11 (Nat.le_refl _)
       replace hoo6 := hoo6.below hbv11
       replace hoo7 := hoo7.below hbv11
       replace hoo8 := ownN_below hoo8 hbv11 (Nat.le_refl _)
       replace hoo10 := ownN_below hoo10 hbv11 (Nat.le_refl _)
       replace hoo11 := ownN_below hoo11 hbv11 (Nat.le_refl _)
       replace hoo13 := hoo13.below hbv11
       replace hoo14 := hoo14.below hbv11
       replace hxo1 := blk_bel hxo1 hbv11
       replace hxo2 := blk_bel hxo2 hbv11
       replace hxo9 := blk_bel hxo9 hbv11
       replace hxo12 := blk_bel hxo12 hbv11
       replace HB := HB.trans (hbv11.mono HB.size)
       have hszv11 := hbv11.size
       have qo1_0 := blk_cell hxo1 0 rfl
       have qo1_1 := blk_cell hxo1 1 rfl
       have qo1_2 := blk_cell hxo1 2 rfl
       have hlo1 := blk_lt hxo1
       have qo2_0 := blk_cell hxo2 0 rfl
       have qo2_1 := blk_cell hxo2 1 rfl
       have qo2_2 := blk_cell hxo2 2 rfl
       have hlo2 := blk_lt hxo2
       have qo9_0 := blk_cell hxo9 0 rfl
       have qo9_1 := blk_cell hxo9 1 rfl
       have qo9_2 := blk_cell hxo9 2 rfl
       have hlo9 := blk_lt hxo9
       have qo12_0 := blk_cell hxo12 0 rfl
       have qo12_1 := blk_cell hxo12 1 rfl
       have qo12_2 := blk_cell hxo12 2 rfl
       have hlo12 := blk_lt hxo12
       replace hrgo15 := Lib.hid (rg_lo hrgo15.out (lo := v10.heap.size + 0) (hi := v11.heap.size) (by first | exact Nat.le_refl _ | exact le_al1 | (simp; done) | (simp; omega)) (Nat.le_refl _))
       )
    | (go_at_call 17
       refine (eqMachine_same _ _ _ _ _ _ (flatR rs) (by have h := (ownN_rd hoo8); first | exact h | exact h.below (below_new _ _) (Nat.le_refl _) | exact h.below (below_drew1 (below_new _ _)) (Nat.le_refl _)) (by omega) _ _ _ (by have h := (ownN_rd hoo15); first | exact h | exact h.below (below_new _ _) (Nat.le_refl _) | exact h.below (below_drew1 (below_new _ _)) (Nat.le_refl _))).mono ?_
       rintro e v12 ⟨rfl, hbv12⟩
       clear qo1_0 qo1_1 qo1_2 qo2_0 qo2_1 qo2_2 qo9_0 qo9_1 qo9_2 qo12_0 qo12_1 qo12_2 hlo1 hlo2 hlo9 hlo12
       (try replace hbv12 := und1 hbv12)
       (try replace hbv12 := undN hbv12)
       replace hoo3 := ownN_below hoo3 hbv12 (Nat.le_refl _)
       replace hoo4 := ownN_below hoo4 hbv12 (Nat.le_refl _)
       replace hoo5 := ownN_below hoo5 hbv12 (Nat.le_refl _)
       replace hoo6 := hoo6.below hbv12
       replace hoo7 := hoo7.below hbv12
       replace hoo8 := ownN_below hoo8 hbv12 (Nat.le_refl _)
       replace hoo10 := ownN_below hoo10 hbv12 (Nat.le_refl _)
       replace hoo11 := ownN_below hoo11 hbv12 (Nat.le_refl _)
       replace hoo13 := hoo13.below hbv12
       replace hoo14 := hoo14.below hbv12
       replace hoo15 := ownN_below hoo15 hbv12 (Nat.le_refl _)
       replace hxo1 := blk_bel hxo1 hbv12
       replace hxo2 := blk_bel hxo2 hbv12
       replace hxo9 := blk_bel hxo9 hbv12
       replace hxo12 := blk_bel hxo12 hbv12
       replace HB := HB.trans (hbv12.mono HB.size)
       have hszv12 := hbv12.size
       have qo1_0 := blk_cell hxo1 0 rfl
       have qo1_1 := blk_cell hxo1 1 rfl
       have qo1_2 := blk_cell hxo1 2 rfl
       have hlo1 := blk_lt hxo1
       have qo2_0 := blk_cell hxo2 0 rfl
       have qo2_1 := blk_cell hxo2 1 rfl
       have qo2_2 := blk_cell hxo2 2 rfl
       have hlo2 := blk_lt hxo2
       have qo9_0 := blk_cell hxo9 0 rfl
       have qo9_1 := blk_cell hxo9 1 rfl
       have qo9_2 := blk_cell hxo9 2 rfl
       have hlo9 := blk_lt hxo9
       have qo12_0 := blk_cell hxo12 0 rfl
       have qo12_1 := blk_cell hxo12 1 rfl
       have qo12_2 := blk_cell hxo12 2 rfl
       have hlo12 := blk_lt hxo12
       )
    )
  go_wp2_with fail
  go_region_held3 (fun w' => w'.cell? ⟨v7.heap.size, 0, none⟩ = some (.int .i64 x1_0) ∧ w'.cell? ⟨v7.heap.size, 1, none⟩ = some (.slice Ao10 no10 co10) ∧ w'.cell? ⟨v7.heap.size, 2, none⟩ = some (.slice Ao11 no11 co11) ∧ w'.cell? ⟨w.heap.size + 1, 0, none⟩ = some (.int .i64 x1_0) ∧ w'.cell? ⟨w.heap.size + 1, 1, none⟩ = some (.slice A1_1 n1_1 c1_1) ∧ w'.cell? ⟨w.heap.size + 1, 2, none⟩ = some (.slice A1_2 n1_2 c1_2)) (first | exact ⟨qo12_0, qo12_1, qo12_2, qo2_0, qo2_1, qo2_2⟩ | go_keep) (first
    | (go_at_call 30
       refine (toConfig_any _ x1_0 _ _ _ x1_1 (by have h := (hr1_1.below HB (Nat.le_refl _)); first | exact h | exact h.below (below_new _ _) (Nat.le_refl _) | exact h.below (below_drew1 (below_new _ _)) (Nat.le_refl _)) (by omega) _ _ _ x1_2 (by have h := (hr1_2.below HB (Nat.le_refl _)); first | exact h | exact h.below (below_new _ _) (Nat.le_refl _) | exact h.below (below_drew1 (below_new _ _)) (Nat.le_refl _)) (by omega)).mono ?_
       rintro e v13 ⟨Ao16, no16, co16, Ao17, no17, co17, rfl, hoo16, hoo17, hdo16o17, hbv13⟩
       have hno16 : no16 ≤ 1048576 := by have h1 := hoo16.1; simp only [List.length_map] at h1; have h2 := HXL1_1.out; omega
       have hno17 : no17 ≤ 1048576 := by have h1 := hoo17.1; simp only [List.length_map] at h1; have h2 := HXL1_2.out; omega
       have hrgo16 := Lib.hid (rg_row hoo16)
       have hrgo17 := Lib.hid (rg_row hoo17)
       have HDo16o17 := Lib.hid hdo16o17; clear hdo16o17
       clear qo1_0 qo1_1 qo1_2 qo2_0 qo2_1 qo2_2 qo9_0 qo9_1 qo9_2 qo12_0 qo12_1 qo12_2 hlo1 hlo2 hlo9 hlo12
       (try replace hbv13 := und1 hbv13)
       (try replace hbv13 := undN hbv13)
       replace hoo3 := ownN_below hoo3 hbv13 (Nat.le_refl _)
       replace hoo4 := ownN_below hoo4 hbv13 (Nat.le_refl _)
       replace hoo5 := ownN_below hoo5 hbv13 (Nat.le_refl _)
       replace hoo6 := hoo6.below hbv13
       replace hoo7 := hoo7.below hbv13
       replace hoo8 := ownN_below hoo8 hbv13 (Nat.le_refl _)
       replace hoo10 := ownN_below hoo10 hbv13 (Nat.le_refl _)
       replace hoo11 := ownN_below hoo11 hbv13 (Nat.le_refl _)
       replace hoo13 := hoo13.below hbv13
       replace hoo14 := hoo14.below hbv13
       replace hoo15 := ownN_below hoo15 hbv13 (Nat.le_refl _)
       replace hxo1 := blk_bel hxo1 hbv13
       replace hxo2 := blk_bel hxo2 hbv13
       replace hxo9 := blk_bel hxo9 hbv13
       replace hxo12 := blk_bel hxo12 hbv13
       replace HB := HB.trans (hbv13.mono HB.size)
       have hszv13 := hbv13.size
       have qo1_0 := blk_cell hxo1 0 rfl
       have qo1_1 := blk_cell hxo1 1 rfl
       have qo1_2 := blk_cell hxo1 2 rfl
       have hlo1 := blk_lt hxo1
       have qo2_0 := blk_cell hxo2 0 rfl
       have qo2_1 := blk_cell hxo2 1 rfl
       have qo2_2 := blk_cell hxo2 2 rfl
       have hlo2 := blk_lt hxo2
       have qo9_0 := blk_cell hxo9 0 rfl
       have qo9_1 := blk_cell hxo9 1 rfl
       have qo9_2 := blk_cell hxo9 2 rfl
       have hlo9 := blk_lt hxo9
       have qo12_0 := blk_cell hxo12 0 rfl
       have qo12_1 := blk_cell hxo12 1 rfl
       have qo12_2 := blk_cell hxo12 2 rfl
       have hlo12 := blk_lt hxo12
       replace hrgo16 := Lib.hid (rg_lo hrgo16.out (lo := v12.heap.size + 0) (hi := v13.heap.size) (by first | exact Nat.le_refl _ | exact le_al1 | (simp; done) | (simp; omega)) (Nat.le_refl _))
       replace hrgo17 := Lib.hid (rg_lo hrgo17.out (lo := v12.heap.size + 0) (hi := v13.heap.size) (by first | exact Nat.le_refl _ | exact le_al1 | (simp; done) | (simp; omega)) (Nat.le_refl _))
       )
    | (go_at_call 32
       refine (eqConfig_same _ _ _ _ _ x1_1 (by have h := (own_rd hoo10); first | exact h | exact h.below (below_new _ _) (Nat.le_refl _) | exact h.below (below_drew1 (below_new _ _)) (Nat.le_refl _)) (by omega) _ _ _ (by have h := (own_rd hoo16); first | exact h | exact h.below (below_new _ _) (Nat.le_refl _) | exact h.below (below_drew1 (below_new _ _)) (Nat.le_refl _)) _ _ _ x1_2 (by have h := (own_rd hoo11); first | exact h | exact h.below (below_new _ _) (Nat.le_refl _) | exact h.below (below_drew1 (below_new _ _)) (Nat.le_refl _)) (by omega) _ _ _ (by have h := (own_rd hoo17); first | exact h | exact h.below (below_new _ _) (Nat.le_refl _) | exact h.below (below_drew1 (below_new _ _)) (Nat.le_refl _))).mono ?_
       rintro e v14 ⟨rfl, hbv14⟩
       clear qo1_0 qo1_1 qo1_2 qo2_0 qo2_1 qo2_2 qo9_0 qo9_1 qo9_2 qo12_0 qo12_1 qo12_2 hlo1 hlo2 hlo9 hlo12
       (try replace hbv14 := und1 hbv14)
       (try replace hbv14 := undN hbv14)
       replace hoo3 := ownN_below hoo3 hbv14 (Nat.le_refl _)
       replace hoo4 := ownN_below hoo4 hbv14 (Nat.le_refl _)
       replace hoo5 := ownN_below hoo5 hbv14 (Nat.le_refl _)
       replace hoo6 := hoo6.below hbv14
       replace hoo7 := hoo7.below hbv14
       replace hoo8 := ownN_below hoo8 hbv14 (Nat.le_refl _)
       replace hoo10 := ownN_below hoo10 hbv14 (Nat.le_refl _)
       replace hoo11 := ownN_below hoo11 hbv14 (Nat.le_refl _)
       replace hoo13 := hoo13.below hbv14
       replace hoo14 := hoo14.below hbv14
       replace hoo15 := ownN_below hoo15 hbv14 (Nat.le_refl _)
       replace hoo16 := ownN_below hoo16 hbv14 (Nat.le_refl _)
       replace hoo17 := ownN_below hoo17 hbv14 (Nat.le_refl _)
       replace hxo1 := blk_bel hxo1 hbv14
       replace hxo2 := blk_bel hxo2 hbv14
       replace hxo9 := blk_bel hxo9 hbv14
       replace hxo12 := blk_bel hxo12 hbv14
       replace HB := HB.trans (hbv14.mono HB.size)
       have hszv14 := hbv14.size
       have qo1_0 := blk_cell hxo1 0 rfl
       have qo1_1 := blk_cell hxo1 1 rfl
       have qo1_2 := blk_cell hxo1 2 rfl
       have hlo1 := blk_lt hxo1
       have qo2_0 := blk_cell hxo2 0 rfl
       have qo2_1 := blk_cell hxo2 1 rfl
       have qo2_2 := blk_cell hxo2 2 rfl
       have hlo2 := blk_lt hxo2
       have qo9_0 := blk_cell hxo9 0 rfl
       have qo9_1 := blk_cell hxo9 1 rfl
       have qo9_2 := blk_cell hxo9 2 rfl
       have hlo9 := blk_lt hxo9
       have qo12_0 := blk_cell hxo12 0 rfl
       have qo12_1 := blk_cell hxo12 1 rfl
       have qo12_2 := blk_cell hxo12 2 rfl
       have hlo12 := blk_lt hxo12
       )
    )
  go_wp2_with fail
  refine (markMachine_any _ _ _ _ _ _ _ _ hoo8 (by omega)  (1) (by omega) (by omega)).mono ?_
  rintro e v15 ⟨rfl, hmo8, hCv15⟩
  clear qo1_0 qo1_1 qo1_2 qo2_0 qo2_1 qo2_2 qo9_0 qo9_1 qo9_2 qo12_0 qo12_1 qo12_2 hlo1 hlo2 hlo9 hlo12
  replace hoo3 := own_ch hoo3 hCv15 (fun k h1 h2 => (by have := hrgo3.out k h1; have := hrgo8.out k h2; omega))
  replace hoo4 := own_ch hoo4 hCv15 (fun k h1 h2 => (by have := hrgo4.out k h1; have := hrgo8.out k h2; omega))
  replace hoo5 := own_ch hoo5 hCv15 (fun k h1 h2 => (by have := hrgo5.out k h1; have := hrgo8.out k h2; omega))
  replace hoo6 := hoo6.ch hCv15 (fun k h1 h2 => (by have := hrgo6.out k h1; have := hrgo8.out k h2; omega))
  replace hoo7 := hoo7.ch hCv15 (fun k h1 h2 => (by have := hrgo7.out k h1; have := hrgo8.out k h2; omega))
  replace hoo10 := own_ch hoo10 hCv15 (fun k h1 h2 => (by have := hrgo10.out k h1; have := hrgo8.out k h2; omega))
  replace hoo11 := own_ch hoo11 hCv15 (fun k h1 h2 => (by have := hrgo11.out k h1; have := hrgo8.out k h2; omega))
  replace hoo13 := hoo13.ch hCv15 (fun k h1 h2 => (by have := hrgo13.out k h1; have := hrgo8.out k h2; omega))
  replace hoo14 := hoo14.ch hCv15 (fun k h1 h2 => (by have := hrgo14.out k h1; have := hrgo8.out k h2; omega))
  replace hoo15 := own_ch hoo15 hCv15 (fun k h1 h2 => (by have := hrgo15.out k h1; have := hrgo8.out k h2; omega))
  replace hoo16 := own_ch hoo16 hCv15 (fun k h1 h2 => (by have := hrgo16.out k h1; have := hrgo8.out k h2; omega))
  replace hoo17 := own_ch hoo17 hCv15 (fun k h1 h2 => (by have := hrgo17.out k h1; have := hrgo8.out k h2; omega))
  replace hxo1 := blk_ch hxo1 hCv15 (fun h => by have := hrgo8.out _ h; omega)
  replace hxo2 := blk_ch hxo2 hCv15 (fun h => by have := hrgo8.out _ h; omega)
  replace hxo9 := blk_ch hxo9 hCv15 (fun h => by have := hrgo8.out _ h; omega)
  replace hxo12 := blk_ch hxo12 hCv15 (fun h => by have := hrgo8.out _ h; omega)
  replace HB := below_ch HB hCv15 (fun k h => by have := hrgo8.out k h; omega) HB.size
  replace hoo8 := hmo8
  have hszv15 := hCv15.size
  have qo1_0 := blk_cell hxo1 0 rfl
  have qo1_1 := blk_cell hxo1 1 rfl
  have qo1_2 := blk_cell hxo1 2 rfl
  have hlo1 := blk_lt hxo1
  have qo2_0 := blk_cell hxo2 0 rfl
  have qo2_1 := blk_cell hxo2 1 rfl
  have qo2_2 := blk_cell hxo2 2 rfl
  have hlo2 := blk_lt hxo2
  have qo9_0 := blk_cell hxo9 0 rfl
  have qo9_1 := blk_cell hxo9 1 rfl
  have qo9_2 := blk_cell hxo9 2 rfl
  have hlo9 := blk_lt hxo9
  have qo12_0 := blk_cell hxo12 0 rfl
  have qo12_1 := blk_cell hxo12 1 rfl
  have qo12_2 := blk_cell hxo12 2 rfl
  have hlo12 := blk_lt hxo12
  go_wp2_with fail
  refine (markConfig_any _ _ _ _ _ _ _ hoo10 (by omega) _ _ _ _ _ hoo11 (by omega) HDo10o11.out (1 + (no8 : Int) * 3) (by omega) (by omega)).mono ?_
  rintro e v16 ⟨rfl, hmo10, hmo11, hCv16⟩
  clear qo1_0 qo1_1 qo1_2 qo2_0 qo2_1 qo2_2 qo9_0 qo9_1 qo9_2 qo12_0 qo12_1 qo12_2 hlo1 hlo2 hlo9 hlo12
  replace hoo3 := own_ch hoo3 hCv16 (fun k h1 h => h.elim (fun h2 => (by have := hrgo3.out k h1; have := hrgo10.out k h2; omega)) (fun h2 => (by have := hrgo3.out k h1; have := hrgo11.out k h2; omega)))
  replace hoo4 := own_ch hoo4 hCv16 (fun k h1 h => h.elim (fun h2 => (by have := hrgo4.out k h1; have := hrgo10.out k h2; omega)) (fun h2 => (by have := hrgo4.out k h1; have := hrgo11.out k h2; omega)))
  replace hoo5 := own_ch hoo5 hCv16 (fun k h1 h => h.elim (fun h2 => (by have := hrgo5.out k h1; have := hrgo10.out k h2; omega)) (fun h2 => (by have := hrgo5.out k h1; have := hrgo11.out k h2; omega)))
  replace hoo6 := hoo6.ch hCv16 (fun k h1 h => h.elim (fun h2 => (by have := hrgo6.out k h1; have := hrgo10.out k h2; omega)) (fun h2 => (by have := hrgo6.out k h1; have := hrgo11.out k h2; omega)))
  replace hoo7 := hoo7.ch hCv16 (fun k h1 h => h.elim (fun h2 => (by have := hrgo7.out k h1; have := hrgo10.out k h2; omega)) (fun h2 => (by have := hrgo7.out k h1; have := hrgo11.out k h2; omega)))
  replace hoo8 := own_ch hoo8 hCv16 (fun k h1 h => h.elim (fun h2 => (by have := hrgo8.out k h1; have := hrgo10.out k h2; omega)) (fun h2 => (by have := hrgo8.out k h1; have := hrgo11.out k h2; omega)))
  replace hoo13 := hoo13.ch hCv16 (fun k h1 h => h.elim (fun h2 => (by have := hrgo13.out k h1; have := hrgo10.out k h2; omega)) (fun h2 => (by have := hrgo13.out k h1; have := hrgo11.out k h2; omega)))
  replace hoo14 := hoo14.ch hCv16 (fun k h1 h => h.elim (fun h2 => (by have := hrgo14.out k h1; have := hrgo10.out k h2; omega)) (fun h2 => (by have := hrgo14.out k h1; have := hrgo11.out k h2; omega)))
  replace hoo15 := own_ch hoo15 hCv16 (fun k h1 h => h.elim (fun h2 => (by have := hrgo15.out k h1; have := hrgo10.out k h2; omega)) (fun h2 => (by have := hrgo15.out k h1; have := hrgo11.out k h2; omega)))
  replace hoo16 := own_ch hoo16 hCv16 (fun k h1 h => h.elim (fun h2 => (by have := hrgo16.out k h1; have := hrgo10.out k h2; omega)) (fun h2 => (by have := hrgo16.out k h1; have := hrgo11.out k h2; omega)))
  replace hoo17 := own_ch hoo17 hCv16 (fun k h1 h => h.elim (fun h2 => (by have := hrgo17.out k h1; have := hrgo10.out k h2; omega)) (fun h2 => (by have := hrgo17.out k h1; have := hrgo11.out k h2; omega)))
  replace hxo1 := blk_ch hxo1 hCv16 (fun h => h.elim (fun h => by have := hrgo10.out _ h; omega) (fun h => by have := hrgo11.out _ h; omega))
  replace hxo2 := blk_ch hxo2 hCv16 (fun h => h.elim (fun h => by have := hrgo10.out _ h; omega) (fun h => by have := hrgo11.out _ h; omega))
  replace hxo9 := blk_ch hxo9 hCv16 (fun h => h.elim (fun h => by have := hrgo10.out _ h; omega) (fun h => by have := hrgo11.out _ h; omega))
  replace hxo12 := blk_ch hxo12 hCv16 (fun h => h.elim (fun h => by have := hrgo10.out _ h; omega) (fun h => by have := hrgo11.out _ h; omega))
  replace HB := below_ch HB hCv16 (fun k h => h.elim (fun h => by have := hrgo10.out k h; omega) (fun h => by have := hrgo11.out k h; omega)) HB.size
  replace hoo10 := hmo10
  replace hoo11 := hmo11
  have hszv16 := hCv16.size
  have qo1_0 := blk_cell hxo1 0 rfl
  have qo1_1 := blk_cell hxo1 1 rfl
  have qo1_2 := blk_cell hxo1 2 rfl
  have hlo1 := blk_lt hxo1
  have qo2_0 := blk_cell hxo2 0 rfl
  have qo2_1 := blk_cell hxo2 1 rfl
  have qo2_2 := blk_cell hxo2 2 rfl
  have hlo2 := blk_lt hxo2
  have qo9_0 := blk_cell hxo9 0 rfl
  have qo9_1 := blk_cell hxo9 1 rfl
  have qo9_2 := blk_cell hxo9 2 rfl
  have hlo9 := blk_lt hxo9
  have qo12_0 := blk_cell hxo12 0 rfl
  have qo12_1 := blk_cell hxo12 1 rfl
  have qo12_2 := blk_cell hxo12 2 rfl
  have hlo12 := blk_lt hxo12
  go_wp2_with fail
  refine (eqInt64SS_same _ _ _ _ r0 hoo13.rdl (by omega) _ _ _ hoo6.rdl).mono ?_
  rintro e v17 ⟨rfl, hbv17⟩
  clear qo1_0 qo1_1 qo1_2 qo2_0 qo2_1 qo2_2 qo9_0 qo9_1 qo9_2 qo12_0 qo12_1 qo12_2 hlo1 hlo2 hlo9 hlo12
  (try replace hbv17 := und1 hbv17)
  (try replace hbv17 := undN hbv17)
  replace hoo3 := ownN_below hoo3 hbv17 (Nat.le_refl _)
  replace hoo4 := ownN_below hoo4 hbv17 (Nat.le_refl _)
  replace hoo5 := ownN_below hoo5 hbv17 (Nat.le_refl _)
  replace hoo6 := hoo6.below hbv17
  replace hoo7 := hoo7.below hbv17
  replace hoo8 := ownN_below hoo8 hbv17 (Nat.le_refl _)
  replace hoo10 := ownN_below hoo10 hbv17 (Nat.le_refl _)
  replace hoo11 := ownN_below hoo11 hbv17 (Nat.le_refl _)
  replace hoo13 := hoo13.below hbv17
  replace hoo14 := hoo14.below hbv17
  replace hoo15 := ownN_below hoo15 hbv17 (Nat.le_refl _)
  replace hoo16 := ownN_below hoo16 hbv17 (Nat.le_refl _)
  replace hoo17 := ownN_below hoo17 hbv17 (Nat.le_refl _)
  replace hxo1 := blk_bel hxo1 hbv17
  replace hxo2 := blk_bel hxo2 hbv17
  replace hxo9 := blk_bel hxo9 hbv17
  replace hxo12 := blk_bel hxo12 hbv17
  replace HB := HB.trans (hbv17.mono HB.size)
  have hszv17 := hbv17.size
  have qo1_0 := blk_cell hxo1 0 rfl
  have qo1_1 := blk_cell hxo1 1 rfl
  have qo1_2 := blk_cell hxo1 2 rfl
  have hlo1 := blk_lt hxo1
  have qo2_0 := blk_cell hxo2 0 rfl
  have qo2_1 := blk_cell hxo2 1 rfl
  have qo2_2 := blk_cell hxo2 2 rfl
  have hlo2 := blk_lt hxo2
  have qo9_0 := blk_cell hxo9 0 rfl
  have qo9_1 := blk_cell hxo9 1 rfl
  have qo9_2 := blk_cell hxo9 2 rfl
  have hlo9 := blk_lt hxo9
  have qo12_0 := blk_cell hxo12 0 rfl
  have qo12_1 := blk_cell hxo12 1 rfl
  have qo12_2 := blk_cell hxo12 2 rfl
  have hlo12 := blk_lt hxo12
  go_wp2_with fail
  refine (eqInt64SS_same _ _ _ _ r1 hoo14.rdl (by omega) _ _ _ hoo7.rdl).mono ?_
  rintro e v18 ⟨rfl, hbv18⟩
  clear qo1_0 qo1_1 qo1_2 qo2_0 qo2_1 qo2_2 qo9_0 qo9_1 qo9_2 qo12_0 qo12_1 qo12_2 hlo1 hlo2 hlo9 hlo12
  (try replace hbv18 := und1 hbv18)
  (try replace hbv18 := undN hbv18)
  replace hoo3 := ownN_below hoo3 hbv18 (Nat.le_refl _)
  replace hoo4 := ownN_below hoo4 hbv18 (Nat.le_refl _)
  replace hoo5 := ownN_below hoo5 hbv18 (Nat.le_refl _)
  replace hoo6 := hoo6.below hbv18
  replace hoo7 := hoo7.below hbv18
  replace hoo8 := ownN_below hoo8 hbv18 (Nat.le_refl _)
  replace hoo10 := ownN_below hoo10 hbv18 (Nat.le_refl _)
  replace hoo11 := ownN_below hoo11 hbv18 (Nat.le_refl _)
  replace hoo13 := hoo13.below hbv18
  replace hoo14 := hoo14.below hbv18
  replace hoo15 := ownN_below hoo15 hbv18 (Nat.le_refl _)
  replace hoo16 := ownN_below hoo16 hbv18 (Nat.le_refl _)
  replace hoo17 := ownN_below hoo17 hbv18 (Nat.le_refl _)
  replace hxo1 := blk_bel hxo1 hbv18
  replace hxo2 := blk_bel hxo2 hbv18
  replace hxo9 := blk_bel hxo9 hbv18
  replace hxo12 := blk_bel hxo12 hbv18
  replace HB := HB.trans (hbv18.mono HB.size)
  have hszv18 := hbv18.size
  have qo1_0 := blk_cell hxo1 0 rfl
  have qo1_1 := blk_cell hxo1 1 rfl
  have qo1_2 := blk_cell hxo1 2 rfl
  have hlo1 := blk_lt hxo1
  have qo2_0 := blk_cell hxo2 0 rfl
  have qo2_1 := blk_cell hxo2 1 rfl
  have qo2_2 := blk_cell hxo2 2 rfl
  have hlo2 := blk_lt hxo2
  have qo9_0 := blk_cell hxo9 0 rfl
  have qo9_1 := blk_cell hxo9 1 rfl
  have qo9_2 := blk_cell hxo9 2 rfl
  have hlo9 := blk_lt hxo9
  have qo12_0 := blk_cell hxo12 0 rfl
  have qo12_1 := blk_cell hxo12 1 rfl
  have qo12_2 := blk_cell hxo12 2 rfl
  have hlo12 := blk_lt hxo12
  go_wp2_with fail
  have hTv19o13 : tot r0 ≤ 1048576 := by have := HRLR0.out.1; omega
  refine (markInt64SS_any _ _ _ _ _ r0 hoo13 (by omega) (by omega)  (1) (by omega) (by omega)).mono ?_
  rintro e v19 ⟨rfl, hmo13, hCv19⟩
  clear qo1_0 qo1_1 qo1_2 qo2_0 qo2_1 qo2_2 qo9_0 qo9_1 qo9_2 qo12_0 qo12_1 qo12_2 hlo1 hlo2 hlo9 hlo12
  replace hoo3 := own_ch hoo3 hCv19 (fun k h1 h2 => (by have := hrgo3.out k h1; have := hrgo13.out k h2; omega))
  replace hoo4 := own_ch hoo4 hCv19 (fun k h1 h2 => (by have := hrgo4.out k h1; have := hrgo13.out k h2; omega))
  replace hoo5 := own_ch hoo5 hCv19 (fun k h1 h2 => (by have := hrgo5.out k h1; have := hrgo13.out k h2; omega))
  replace hoo6 := hoo6.ch hCv19 (fun k h1 h2 => (by have := hrgo6.out k h1; have := hrgo13.out k h2; omega))
  replace hoo7 := hoo7.ch hCv19 (fun k h1 h2 => (by have := hrgo7.out k h1; have := hrgo13.out k h2; omega))
  replace hoo8 := own_ch hoo8 hCv19 (fun k h1 h2 => (by have := hrgo8.out k h1; have := hrgo13.out k h2; omega))
  replace hoo10 := own_ch hoo10 hCv19 (fun k h1 h2 => (by have := hrgo10.out k h1; have := hrgo13.out k h2; omega))
  replace hoo11 := own_ch hoo11 hCv19 (fun k h1 h2 => (by have := hrgo11.out k h1; have := hrgo13.out k h2; omega))
  replace hoo14 := hoo14.ch hCv19 (fun k h1 h2 => (HDo13o14.out k h2 h1))
  replace hoo15 := own_ch hoo15 hCv19 (fun k h1 h2 => (by have := hrgo15.out k h1; have := hrgo13.out k h2; omega))
  replace hoo16 := own_ch hoo16 hCv19 (fun k h1 h2 => (by have := hrgo16.out k h1; have := hrgo13.out k h2; omega))
  replace hoo17 := own_ch hoo17 hCv19 (fun k h1 h2 => (by have := hrgo17.out k h1; have := hrgo13.out k h2; omega))
  replace hxo1 := blk_ch hxo1 hCv19 (fun h => by have := hrgo13.out _ h; omega)
  replace hxo2 := blk_ch hxo2 hCv19 (fun h => by have := hrgo13.out _ h; omega)
  replace hxo9 := blk_ch hxo9 hCv19 (fun h => by have := hrgo13.out _ h; omega)
  replace hxo12 := blk_ch hxo12 hCv19 (fun h => by have := hrgo13.out _ h; omega)
  replace HB := below_ch HB hCv19 (fun k h => by have := hrgo13.out k h; omega) HB.size
  replace hoo13 := hmo13
  have hszv19 := hCv19.size
  have qo1_0 := blk_cell hxo1 0 rfl
  have qo1_1 := blk_cell hxo1 1 rfl
  have qo1_2 := blk_cell hxo1 2 rfl
  have hlo1 := blk_lt hxo1
  have qo2_0 := blk_cell hxo2 0 rfl
  have qo2_1 := blk_cell hxo2 1 rfl
  have qo2_2 := blk_cell hxo2 2 rfl
  have hlo2 := blk_lt hxo2
  have qo9_0 := blk_cell hxo9 0 rfl
  have qo9_1 := blk_cell hxo9 1 rfl
  have qo9_2 := blk_cell hxo9 2 rfl
  have hlo9 := blk_lt hxo9
  have qo12_0 := blk_cell hxo12 0 rfl
  have qo12_1 := blk_cell hxo12 1 rfl
  have qo12_2 := blk_cell hxo12 2 rfl
  have hlo12 := blk_lt hxo12
  go_wp2_with fail
  have hTv20o14 : tot r1 ≤ 1048576 := by have := HRLR1.out.1; omega
  refine (markInt64SS_any _ _ _ _ _ r1 hoo14 (by omega) (by omega)  (1 + (tot r0 : Int)) (by omega) (by omega)).mono ?_
  rintro e v20 ⟨rfl, hmo14, hCv20⟩
  clear qo1_0 qo1_1 qo1_2 qo2_0 qo2_1 qo2_2 qo9_0 qo9_1 qo9_2 qo12_0 qo12_1 qo12_2 hlo1 hlo2 hlo9 hlo12
  replace hoo3 := own_ch hoo3 hCv20 (fun k h1 h2 => (by have := hrgo3.out k h1; have := hrgo14.out k h2; omega))
  replace hoo4 := own_ch hoo4 hCv20 (fun k h1 h2 => (by have := hrgo4.out k h1; have := hrgo14.out k h2; omega))
  replace hoo5 := own_ch hoo5 hCv20 (fun k h1 h2 => (by have := hrgo5.out k h1; have := hrgo14.out k h2; omega))
  replace hoo6 := hoo6.ch hCv20 (fun k h1 h2 => (by have := hrgo6.out k h1; have := hrgo14.out k h2; omega))
  replace hoo7 := hoo7.ch hCv20 (fun k h1 h2 => (by have := hrgo7.out k h1; have := hrgo14.out k h2; omega))
  replace hoo8 := own_ch hoo8 hCv20 (fun k h1 h2 => (by have := hrgo8.out k h1; have := hrgo14.out k h2; omega))
  replace hoo10 := own_ch hoo10 hCv20 (fun k h1 h2 => (by have := hrgo10.out k h1; have := hrgo14.out k h2; omega))
  replace hoo11 := own_ch hoo11 hCv20 (fun k h1 h2 => (by have := hrgo11.out k h1; have := hrgo14.out k h2; omega))
  replace hoo13 := hoo13.ch hCv20 (fun k h1 h2 => (HDo13o14.out k h1 h2))
  replace hoo15 := own_ch hoo15 hCv20 (fun k h1 h2 => (by have := hrgo15.out k h1; have := hrgo14.out k h2; omega))
  replace hoo16 := own_ch hoo16 hCv20 (fun k h1 h2 => (by have := hrgo16.out k h1; have := hrgo14.out k h2; omega))
  replace hoo17 := own_ch hoo17 hCv20 (fun k h1 h2 => (by have := hrgo17.out k h1; have := hrgo14.out k h2; omega))
  replace hxo1 := blk_ch hxo1 hCv20 (fun h => by have := hrgo14.out _ h; omega)
  replace hxo2 := blk_ch hxo2 hCv20 (fun h => by have := hrgo14.out _ h; omega)
  replace hxo9 := blk_ch hxo9 hCv20 (fun h => by have := hrgo14.out _ h; omega)
  replace hxo12 := blk_ch hxo12 hCv20 (fun h => by have := hrgo14.out _ h; omega)
  replace HB := below_ch HB hCv20 (fun k h => by have := hrgo14.out k h; omega) HB.size
  replace hoo14 := hmo14
  have hszv20 := hCv20.size
  have qo1_0 := blk_cell hxo1 0 rfl
  have qo1_1 := blk_cell hxo1 1 rfl
  have qo1_2 := blk_cell hxo1 2 rfl
  have hlo1 := blk_lt hxo1
  have qo2_0 := blk_cell hxo2 0 rfl
  have qo2_1 := blk_cell hxo2 1 rfl
  have qo2_2 := blk_cell hxo2 2 rfl
  have hlo2 := blk_lt hxo2
  have qo9_0 := blk_cell hxo9 0 rfl
  have qo9_1 := blk_cell hxo9 1 rfl
  have qo9_2 := blk_cell hxo9 2 rfl
  have hlo9 := blk_lt hxo9
  have qo12_0 := blk_cell hxo12 0 rfl
  have qo12_1 := blk_cell hxo12 1 rfl
  have qo12_2 := blk_cell hxo12 2 rfl
  have hlo12 := blk_lt hxo12
  go_wp2_with fail
  have hTv21o13 : tot r0 ≤ 1048576 := by have := HRLR0.out.1; omega
  refine (heldInt64SS_any _ _ _ _ r0 (1) hoo13.rdl (by omega) (by omega) (by omega) (by omega)).mono ?_
  rintro e v21 ⟨rfl, hbv21⟩
  clear qo1_0 qo1_1 qo1_2 qo2_0 qo2_1 qo2_2 qo9_0 qo9_1 qo9_2 qo12_0 qo12_1 qo12_2 hlo1 hlo2 hlo9 hlo12
  (try replace hbv21 := und1 hbv21)
  (try replace hbv21 := undN hbv21)
  replace hoo3 := ownN_below hoo3 hbv21 (Nat.le_refl _)
  replace hoo4 := ownN_below hoo4 hbv21 (Nat.le_refl _)
  replace hoo5 := ownN_below hoo5 hbv21 (Nat.le_refl _)
  replace hoo6 := hoo6.below hbv21
  replace hoo7 := hoo7.below hbv21
  replace hoo8 := ownN_below hoo8 hbv21 (Nat.le_refl _)
  replace hoo10 := ownN_below hoo10 hbv21 (Nat.le_refl _)
  replace hoo11 := ownN_below hoo11 hbv21 (Nat.le_refl _)
  replace hoo13 := hoo13.below hbv21
  replace hoo14 := hoo14.below hbv21
  replace hoo15 := ownN_below hoo15 hbv21 (Nat.le_refl _)
  replace hoo16 := ownN_below hoo16 hbv21 (Nat.le_refl _)
  replace hoo17 := ownN_below hoo17 hbv21 (Nat.le_refl _)
  replace hxo1 := blk_bel hxo1 hbv21
  replace hxo2 := blk_bel hxo2 hbv21
  replace hxo9 := blk_bel hxo9 hbv21
  replace hxo12 := blk_bel hxo12 hbv21
  replace HB := HB.trans (hbv21.mono HB.size)
  have hszv21 := hbv21.size
  have qo1_0 := blk_cell hxo1 0 rfl
  have qo1_1 := blk_cell hxo1 1 rfl
  have qo1_2 := blk_cell hxo1 2 rfl
  have hlo1 := blk_lt hxo1
  have qo2_0 := blk_cell hxo2 0 rfl
  have qo2_1 := blk_cell hxo2 1 rfl
  have qo2_2 := blk_cell hxo2 2 rfl
  have hlo2 := blk_lt hxo2
  have qo9_0 := blk_cell hxo9 0 rfl
  have qo9_1 := blk_cell hxo9 1 rfl
  have qo9_2 := blk_cell hxo9 2 rfl
  have hlo9 := blk_lt hxo9
  have qo12_0 := blk_cell hxo12 0 rfl
  have qo12_1 := blk_cell hxo12 1 rfl
  have qo12_2 := blk_cell hxo12 2 rfl
  have hlo12 := blk_lt hxo12
  go_wp2_with fail
  have hTv22o14 : tot r1 ≤ 1048576 := by have := HRLR1.out.1; omega
  refine (heldInt64SS_any _ _ _ _ r1 (1 + (tot r0 : Int)) hoo14.rdl (by omega) (by omega) (by omega) (by omega)).mono ?_
  rintro e v22 ⟨rfl, hbv22⟩
  clear qo1_0 qo1_1 qo1_2 qo2_0 qo2_1 qo2_2 qo9_0 qo9_1 qo9_2 qo12_0 qo12_1 qo12_2 hlo1 hlo2 hlo9 hlo12
  (try replace hbv22 := und1 hbv22)
  (try replace hbv22 := undN hbv22)
  replace hoo3 := ownN_below hoo3 hbv22 (Nat.le_refl _)
  replace hoo4 := ownN_below hoo4 hbv22 (Nat.le_refl _)
  replace hoo5 := ownN_below hoo5 hbv22 (Nat.le_refl _)
  replace hoo6 := hoo6.below hbv22
  replace hoo7 := hoo7.below hbv22
  replace hoo8 := ownN_below hoo8 hbv22 (Nat.le_refl _)
  replace hoo10 := ownN_below hoo10 hbv22 (Nat.le_refl _)
  replace hoo11 := ownN_below hoo11 hbv22 (Nat.le_refl _)
  replace hoo13 := hoo13.below hbv22
  replace hoo14 := hoo14.below hbv22
  replace hoo15 := ownN_below hoo15 hbv22 (Nat.le_refl _)
  replace hoo16 := ownN_below hoo16 hbv22 (Nat.le_refl _)
  replace hoo17 := ownN_below hoo17 hbv22 (Nat.le_refl _)
  replace hxo1 := blk_bel hxo1 hbv22
  replace hxo2 := blk_bel hxo2 hbv22
  replace hxo9 := blk_bel hxo9 hbv22
  replace hxo12 := blk_bel hxo12 hbv22
  replace HB := HB.trans (hbv22.mono HB.size)
  have hszv22 := hbv22.size
  have qo1_0 := blk_cell hxo1 0 rfl
  have qo1_1 := blk_cell hxo1 1 rfl
  have qo1_2 := blk_cell hxo1 2 rfl
  have hlo1 := blk_lt hxo1
  have qo2_0 := blk_cell hxo2 0 rfl
  have qo2_1 := blk_cell hxo2 1 rfl
  have qo2_2 := blk_cell hxo2 2 rfl
  have hlo2 := blk_lt hxo2
  have qo9_0 := blk_cell hxo9 0 rfl
  have qo9_1 := blk_cell hxo9 1 rfl
  have qo9_2 := blk_cell hxo9 2 rfl
  have hlo9 := blk_lt hxo9
  have qo12_0 := blk_cell hxo12 0 rfl
  have qo12_1 := blk_cell hxo12 1 rfl
  have qo12_2 := blk_cell hxo12 2 rfl
  have hlo12 := blk_lt hxo12
  go_wp2_with fail
  go_region_held3 (fun w' => w'.cell? ⟨w.heap.size, 0, none⟩ = some (.int .i64 x0_0) ∧ w'.cell? ⟨w.heap.size, 1, none⟩ = some (.int .i64 x0_1) ∧ w'.cell? ⟨w.heap.size, 2, none⟩ = some (.slice A0_2 n0_2 c0_2) ∧ w'.cell? ⟨w.heap.size + 1, 0, none⟩ = some (.int .i64 x1_0) ∧ w'.cell? ⟨w.heap.size + 1, 1, none⟩ = some (.slice A1_1 n1_1 c1_1) ∧ w'.cell? ⟨w.heap.size + 1, 2, none⟩ = some (.slice A1_2 n1_2 c1_2)) (first | exact ⟨qo1_0, qo1_1, qo1_2, qo2_0, qo2_1, qo2_2⟩ | go_keep) (first
    | (go_at_call 12
       refine (toMachine_any _ x0_0 x0_1 _ _ _ (flatR rs) (by have h := (hr0_2.below HB (Nat.le_refl _)); first | exact h | exact h.below (below_new _ _) (Nat.le_refl _) | exact h.below (below_drew1 (below_new _ _)) (Nat.le_refl _)) (by omega)).mono ?_
       rintro e v23 ⟨Ao18, no18, co18, rfl, hoo18, hbv23⟩
       have hno18 : no18 ≤ 1048576 := by have h1 := hoo18.1; simp only [List.length_map] at h1; have h2 := HXL0_2.out; omega
       have hrgo18 := Lib.hid (rg_row hoo18)
       clear qo1_0 qo1_1 qo1_2 qo2_0 qo2_1 qo2_2 qo9_0 qo9_1 qo9_2 qo12_0 qo12_1 qo12_2 hlo1 hlo2 hlo9 hlo12
       (try replace hbv23 := und1 hbv23)
       (try replace hbv23 := undN hbv23)
       replace hoo3 := ownN_below hoo3 hbv23 (Nat.le_refl _)
       replace hoo4 := ownN_below hoo4 hbv23 (Nat.le_refl _)
       replace hoo5 := ownN_below hoo5 hbv23 (Nat.le_refl _)
       replace hoo6 := hoo6.below hbv23
       replace hoo7 := hoo7.below hbv23
       replace hoo8 := ownN_below hoo8 hbv23 (Nat.le_refl _)
       replace hoo10 := ownN_below hoo10 hbv23 (Nat.le_refl _)
       replace hoo11 := ownN_below hoo11 hbv23 (Nat.le_refl _)
       replace hoo13 := hoo13.below hbv23
       replace hoo14 := hoo14.below hbv23
       replace hoo15 := ownN_below hoo15 hbv23 (Nat.le_refl _)
       replace hoo16 := ownN_below hoo16 hbv23 (Nat.le_refl _)
       replace hoo17 := ownN_below hoo17 hbv23 (Nat.le_refl _)
       replace hxo1 := blk_bel hxo1 hbv23
       replace hxo2 := blk_bel hxo2 hbv23
       replace hxo9 := blk_bel hxo9 hbv23
       replace hxo12 := blk_bel hxo12 hbv23
       replace HB := HB.trans (hbv23.mono HB.size)
       have hszv23 := hbv23.size
       have qo1_0 := blk_cell hxo1 0 rfl
       have qo1_1 := blk_cell hxo1 1 rfl
       have qo1_2 := blk_cell hxo1 2 rfl
       have hlo1 := blk_lt hxo1
       have qo2_0 := blk_cell hxo2 0 rfl
       have qo2_1 := blk_cell hxo2 1 rfl
       have qo2_2 := blk_cell hxo2 2 rfl
       have hlo2 := blk_lt hxo2
       have qo9_0 := blk_cell hxo9 0 rfl
       have qo9_1 := blk_cell hxo9 1 rfl
       have qo9_2 := blk_cell hxo9 2 rfl
       have hlo9 := blk_lt hxo9
       have qo12_0 := blk_cell hxo12 0 rfl
       have qo12_1 := blk_cell hxo12 1 rfl
       have qo12_2 := blk_cell hxo12 2 rfl
       have hlo12 := blk_lt hxo12
       replace hrgo18 := Lib.hid (rg_lo hrgo18.out (lo := v22.heap.size + 0) (hi := v23.heap.size) (by first | exact Nat.le_refl _ | exact le_al1 | (simp; done) | (simp; omega)) (Nat.le_refl _))
       )
    | (go_at_call 30
       refine (toConfig_any _ x1_0 _ _ _ x1_1 (by have h := (hr1_1.below HB (Nat.le_refl _)); first | exact h | exact h.below (below_new _ _) (Nat.le_refl _) | exact h.below (below_drew1 (below_new _ _)) (Nat.le_refl _)) (by omega) _ _ _ x1_2 (by have h := (hr1_2.below HB (Nat.le_refl _)); first | exact h | exact h.below (below_new _ _) (Nat.le_refl _) | exact h.below (below_drew1 (below_new _ _)) (Nat.le_refl _)) (by omega)).mono ?_
       rintro e v24 ⟨Ao19, no19, co19, Ao20, no20, co20, rfl, hoo19, hoo20, hdo19o20, hbv24⟩
       have hno19 : no19 ≤ 1048576 := by have h1 := hoo19.1; simp only [List.length_map] at h1; have h2 := HXL1_1.out; omega
       have hno20 : no20 ≤ 1048576 := by have h1 := hoo20.1; simp only [List.length_map] at h1; have h2 := HXL1_2.out; omega
       have hrgo19 := Lib.hid (rg_row hoo19)
       have hrgo20 := Lib.hid (rg_row hoo20)
       have HDo19o20 := Lib.hid hdo19o20; clear hdo19o20
       clear qo1_0 qo1_1 qo1_2 qo2_0 qo2_1 qo2_2 qo9_0 qo9_1 qo9_2 qo12_0 qo12_1 qo12_2 hlo1 hlo2 hlo9 hlo12
       (try replace hbv24 := und1 hbv24)
       (try replace hbv24 := undN hbv24)
       replace hoo3 := ownN_below hoo3 hbv24 (Nat.le_refl _)
       replace hoo4 := ownN_below hoo4 hbv24 (Nat.le_refl _)
       replace hoo5 := ownN_below hoo5 hbv24 (Nat.le_refl _)
       replace hoo6 := hoo6.below hbv24
       replace hoo7 := hoo7.below hbv24
       replace hoo8 := ownN_below hoo8 hbv24 (Nat.le_refl _)
       replace hoo10 := ownN_below hoo10 hbv24 (Nat.le_refl _)
       replace hoo11 := ownN_below hoo11 hbv24 (Nat.le_refl _)
       replace hoo13 := hoo13.below hbv24
       replace hoo14 := hoo14.below hbv24
       replace hoo15 := ownN_below hoo15 hbv24 (Nat.le_refl _)
       replace hoo16 := ownN_below hoo16 hbv24 (Nat.le_refl _)
       replace hoo17 := ownN_below hoo17 hbv24 (Nat.le_refl _)
       replace hoo18 := ownN_below hoo18 hbv24 (Nat.le_refl _)
       replace hxo1 := blk_bel hxo1 hbv24
       replace hxo2 := blk_bel hxo2 hbv24
       replace hxo9 := blk_bel hxo9 hbv24
       replace hxo12 := blk_bel hxo12 hbv24
       replace HB := HB.trans (hbv24.mono HB.size)
       have hszv24 := hbv24.size
       have qo1_0 := blk_cell hxo1 0 rfl
       have qo1_1 := blk_cell hxo1 1 rfl
       have qo1_2 := blk_cell hxo1 2 rfl
       have hlo1 := blk_lt hxo1
       have qo2_0 := blk_cell hxo2 0 rfl
       have qo2_1 := blk_cell hxo2 1 rfl
       have qo2_2 := blk_cell hxo2 2 rfl
       have hlo2 := blk_lt hxo2
       have qo9_0 := blk_cell hxo9 0 rfl
       have qo9_1 := blk_cell hxo9 1 rfl
       have qo9_2 := blk_cell hxo9 2 rfl
       have hlo9 := blk_lt hxo9
       have qo12_0 := blk_cell hxo12 0 rfl
       have qo12_1 := blk_cell hxo12 1 rfl
       have qo12_2 := blk_cell hxo12 2 rfl
       have hlo12 := blk_lt hxo12
       replace hrgo19 := Lib.hid (rg_lo hrgo19.out (lo := v23.heap.size + 0) (hi := v24.heap.size) (by first | exact Nat.le_refl _ | exact le_al1 | (simp; done) | (simp; omega)) (Nat.le_refl _))
       replace hrgo20 := Lib.hid (rg_lo hrgo20.out (lo := v23.heap.size + 0) (hi := v24.heap.size) (by first | exact Nat.le_refl _ | exact le_al1 | (simp; done) | (simp; omega)) (Nat.le_refl _))
       )
    | (go_at_call 31
       refine (HI.out _ _ _ _ (by have h := (ownN_rd hoo18); first | exact h | exact h.below (below_new _ _) (Nat.le_refl _) | exact h.below (below_drew1 (below_new _ _)) (Nat.le_refl _)) (by omega) (ownN_cap hoo18) _ _ _ (by have h := (own_rd hoo19); first | exact h | exact h.below (below_new _ _) (Nat.le_refl _) | exact h.below (below_drew1 (below_new _ _)) (Nat.le_refl _)) (by omega) (ownN_cap hoo19) _ _ _ (by have h := (own_rd hoo20); first | exact h | exact h.below (below_new _ _) (Nat.le_refl _) | exact h.below (below_drew1 (below_new _ _)) (Nat.le_refl _)) (by omega) (ownN_cap hoo20)).mono ?_
       rintro e v25 ⟨Ao21, no21, co21, Fo21, Ao22, no22, co22, Fo22, rfl, hoo21, hFo21, hoo22, hFo22, hdo21o22, hbv25⟩
       have hno21 : no21 ≤ 1000000 := by have h1 := hoo21.len; have h2 := HRLR0.out; omega
       have hno22 : no22 ≤ 1000000 := by have h1 := hoo22.len; have h2 := HRLR1.out; omega
       have hrgo21 := Lib.hid hFo21; clear hFo21
       have hrgo22 := Lib.hid hFo22; clear hFo22
       have HDo21o22 := Lib.hid hdo21o22; clear hdo21o22
       clear qo1_0 qo1_1 qo1_2 qo2_0 qo2_1 qo2_2 qo9_0 qo9_1 qo9_2 qo12_0 qo12_1 qo12_2 hlo1 hlo2 hlo9 hlo12
       (try replace hbv25 := und1 hbv25)
       (try replace hbv25 := undN hbv25)
       replace hoo3 := ownN_below hoo3 hbv25 (Nat.le_refl _)
       replace hoo4 := ownN_below hoo4 hbv25 (Nat.le_refl _)
       replace hoo5 := ownN_below hoo5 hbv25 (Nat.le_refl _)
       replace hoo6 := hoo6.below hbv25
       replace hoo7 := hoo7.below hbv25
       replace hoo8 := ownN_below hoo8 hbv25 (Nat.le_refl _)
       replace hoo10 := ownN_below hoo10 hbv25 (Nat.le_refl _)
       replace hoo11 := ownN_below hoo11 hbv25 (Nat.le_refl _)
       replace hoo13 := hoo13.below hbv25
       replace hoo14 := hoo14.below hbv25
       replace hoo15 := ownN_below hoo15 hbv25 (Nat.le_refl _)
       replace hoo16 := ownN_below hoo16 hbv25 (Nat.le_refl _)
       replace hoo17 := ownN_below hoo17 hbv25 (Nat.le_refl _)
       replace hoo18 := ownN_below hoo18 hbv25 (Nat.le_refl _)
       replace hoo19 := ownN_below hoo19 hbv25 (Nat.le_refl _)
       replace hoo20 := ownN_below hoo20 hbv25 (Nat.le_refl _)
       replace hxo1 := blk_bel hxo1 hbv25
       replace hxo2 := blk_bel hxo2 hbv25
       replace hxo9 := blk_bel hxo9 hbv25
       replace hxo12 := blk_bel hxo12 hbv25
       replace HB := HB.trans (hbv25.mono HB.size)
       have hszv25 := hbv25.size
       have qo1_0 := blk_cell hxo1 0 rfl
       have qo1_1 := blk_cell hxo1 1 rfl
       have qo1_2 := blk_cell hxo1 2 rfl
       have hlo1 := blk_lt hxo1
       have qo2_0 := blk_cell hxo2 0 rfl
       have qo2_1 := blk_cell hxo2 1 rfl
       have qo2_2 := blk_cell hxo2 2 rfl
       have hlo2 := blk_lt hxo2
       have qo9_0 := blk_cell hxo9 0 rfl
       have qo9_1 := blk_cell hxo9 1 rfl
       have qo9_2 := blk_cell hxo9 2 rfl
       have hlo9 := blk_lt hxo9
       have qo12_0 := blk_cell hxo12 0 rfl
       have qo12_1 := blk_cell hxo12 1 rfl
       have qo12_2 := blk_cell hxo12 2 rfl
       have hlo12 := blk_lt hxo12
       replace hrgo21 := Lib.hid (rg_lo hrgo21.out (lo := v24.heap.size + 0) (hi := v25.heap.size) (by first | exact Nat.le_refl _ | exact le_al1 | (simp; done) | (simp; omega)) (Nat.le_refl _))
       replace hrgo22 := Lib.hid (rg_lo hrgo22.out (lo := v24.heap.size + 0) (hi := v25.heap.size) (by first | exact Nat.le_refl _ | exact le_al1 | (simp; done) | (simp; omega)) (Nat.le_refl _))
       )
    )
  go_wp2_with fail
  refine (eqInt64SS_same _ _ _ _ r0 hoo21.rdl (by omega) _ _ _ hoo6.rdl).mono ?_
  rintro e v26 ⟨rfl, hbv26⟩
  clear qo1_0 qo1_1 qo1_2 qo2_0 qo2_1 qo2_2 qo9_0 qo9_1 qo9_2 qo12_0 qo12_1 qo12_2 hlo1 hlo2 hlo9 hlo12
  (try replace hbv26 := und1 hbv26)
  (try replace hbv26 := undN hbv26)
  replace hoo3 := ownN_below hoo3 hbv26 (Nat.le_refl _)
  replace hoo4 := ownN_below hoo4 hbv26 (Nat.le_refl _)
  replace hoo5 := ownN_below hoo5 hbv26 (Nat.le_refl _)
  replace hoo6 := hoo6.below hbv26
  replace hoo7 := hoo7.below hbv26
  replace hoo8 := ownN_below hoo8 hbv26 (Nat.le_refl _)
  replace hoo10 := ownN_below hoo10 hbv26 (Nat.le_refl _)
  replace hoo11 := ownN_below hoo11 hbv26 (Nat.le_refl _)
  replace hoo13 := hoo13.below hbv26
  replace hoo14 := hoo14.below hbv26
  replace hoo15 := ownN_below hoo15 hbv26 (Nat.le_refl _)
  replace hoo16 := ownN_below hoo16 hbv26 (Nat.le_refl _)
  replace hoo17 := ownN_below hoo17 hbv26 (Nat.le_refl _)
  replace hoo18 := ownN_below hoo18 hbv26 (Nat.le_refl _)
  replace hoo19 := ownN_below hoo19 hbv26 (Nat.le_refl _)
  replace hoo20 := ownN_below hoo20 hbv26 (Nat.le_refl _)
  replace hoo21 := hoo21.below hbv26
  replace hoo22 := hoo22.below hbv26
  replace hxo1 := blk_bel hxo1 hbv26
  replace hxo2 := blk_bel hxo2 hbv26
  replace hxo9 := blk_bel hxo9 hbv26
  replace hxo12 := blk_bel hxo12 hbv26
  replace HB := HB.trans (hbv26.mono HB.size)
  have hszv26 := hbv26.size
  have qo1_0 := blk_cell hxo1 0 rfl
  have qo1_1 := blk_cell hxo1 1 rfl
  have qo1_2 := blk_cell hxo1 2 rfl
  have hlo1 := blk_lt hxo1
  have qo2_0 := blk_cell hxo2 0 rfl
  have qo2_1 := blk_cell hxo2 1 rfl
  have qo2_2 := blk_cell hxo2 2 rfl
  have hlo2 := blk_lt hxo2
  have qo9_0 := blk_cell hxo9 0 rfl
  have qo9_1 := blk_cell hxo9 1 rfl
  have qo9_2 := blk_cell hxo9 2 rfl
  have hlo9 := blk_lt hxo9
  have qo12_0 := blk_cell hxo12 0 rfl
  have qo12_1 := blk_cell hxo12 1 rfl
  have qo12_2 := blk_cell hxo12 2 rfl
  have hlo12 := blk_lt hxo12
  go_wp2_with fail
  refine (eqInt64SS_same _ _ _ _ r1 hoo22.rdl (by omega) _ _ _ hoo7.rdl).mono ?_
  rintro e v27 ⟨rfl, hbv27⟩
  clear qo1_0 qo1_1 qo1_2 qo2_0 qo2_1 qo2_2 qo9_0 qo9_1 qo9_2 qo12_0 qo12_1 qo12_2 hlo1 hlo2 hlo9 hlo12
  (try replace hbv27 := und1 hbv27)
  (try replace hbv27 := undN hbv27)
  replace hoo3 := ownN_below hoo3 hbv27 (Nat.le_refl _)
  replace hoo4 := ownN_below hoo4 hbv27 (Nat.le_refl _)
  replace hoo5 := ownN_below hoo5 hbv27 (Nat.le_refl _)
  replace hoo6 := hoo6.below hbv27
  replace hoo7 := hoo7.below hbv27
  replace hoo8 := ownN_below hoo8 hbv27 (Nat.le_refl _)
  replace hoo10 := ownN_below hoo10 hbv27 (Nat.le_refl _)
  replace hoo11 := ownN_below hoo11 hbv27 (Nat.le_refl _)
  replace hoo13 := hoo13.below hbv27
  replace hoo14 := hoo14.below hbv27
  replace hoo15 := ownN_below hoo15 hbv27 (Nat.le_refl _)
  replace hoo16 := ownN_below hoo16 hbv27 (Nat.le_refl _)
  replace hoo17 := ownN_below hoo17 hbv27 (Nat.le_refl _)
  replace hoo18 := ownN_below hoo18 hbv27 (Nat.le_refl _)
  replace hoo19 := ownN_below hoo19 hbv27 (Nat.le_refl _)
  replace hoo20 := ownN_below hoo20 hbv27 (Nat.le_refl _)
  replace hoo21 := hoo21.below hbv27
  replace hoo22 := hoo22.below hbv27
  replace hxo1 := blk_bel hxo1 hbv27
  replace hxo2 := blk_bel hxo2 hbv27
  replace hxo9 := blk_bel hxo9 hbv27
  replace hxo12 := blk_bel hxo12 hbv27
  replace HB := HB.trans (hbv27.mono HB.size)
  have hszv27 := hbv27.size
  have qo1_0 := blk_cell hxo1 0 rfl
  have qo1_1 := blk_cell hxo1 1 rfl
  have qo1_2 := blk_cell hxo1 2 rfl
  have hlo1 := blk_lt hxo1
  have qo2_0 := blk_cell hxo2 0 rfl
  have qo2_1 := blk_cell hxo2 1 rfl
  have qo2_2 := blk_cell hxo2 2 rfl
  have hlo2 := blk_lt hxo2
  have qo9_0 := blk_cell hxo9 0 rfl
  have qo9_1 := blk_cell hxo9 1 rfl
  have qo9_2 := blk_cell hxo9 2 rfl
  have hlo9 := blk_lt hxo9
  have qo12_0 := blk_cell hxo12 0 rfl
  have qo12_1 := blk_cell hxo12 1 rfl
  have qo12_2 := blk_cell hxo12 2 rfl
  have hlo12 := blk_lt hxo12
  go_wp2_with fail
  have hTv28o13 : tot r0 ≤ 1048576 := by have := HRLR0.out.1; omega
  refine (heldInt64SS_any _ _ _ _ r0 (1) hoo13.rdl (by omega) (by omega) (by omega) (by omega)).mono ?_
  rintro e v28 ⟨rfl, hbv28⟩
  clear qo1_0 qo1_1 qo1_2 qo2_0 qo2_1 qo2_2 qo9_0 qo9_1 qo9_2 qo12_0 qo12_1 qo12_2 hlo1 hlo2 hlo9 hlo12
  (try replace hbv28 := und1 hbv28)
  (try replace hbv28 := undN hbv28)
  replace hoo3 := ownN_below hoo3 hbv28 (Nat.le_refl _)
  replace hoo4 := ownN_below hoo4 hbv28 (Nat.le_refl _)
  replace hoo5 := ownN_below hoo5 hbv28 (Nat.le_refl _)
  replace hoo6 := hoo6.below hbv28
  replace hoo7 := hoo7.below hbv28
  replace hoo8 := ownN_below hoo8 hbv28 (Nat.le_refl _)
  replace hoo10 := ownN_below hoo10 hbv28 (Nat.le_refl _)
  replace hoo11 := ownN_below hoo11 hbv28 (Nat.le_refl _)
  replace hoo13 := hoo13.below hbv28
  replace hoo14 := hoo14.below hbv28
  replace hoo15 := ownN_below hoo15 hbv28 (Nat.le_refl _)
  replace hoo16 := ownN_below hoo16 hbv28 (Nat.le_refl _)
  replace hoo17 := ownN_below hoo17 hbv28 (Nat.le_refl _)
  replace hoo18 := ownN_below hoo18 hbv28 (Nat.le_refl _)
  replace hoo19 := ownN_below hoo19 hbv28 (Nat.le_refl _)
  replace hoo20 := ownN_below hoo20 hbv28 (Nat.le_refl _)
  replace hoo21 := hoo21.below hbv28
  replace hoo22 := hoo22.below hbv28
  replace hxo1 := blk_bel hxo1 hbv28
  replace hxo2 := blk_bel hxo2 hbv28
  replace hxo9 := blk_bel hxo9 hbv28
  replace hxo12 := blk_bel hxo12 hbv28
  replace HB := HB.trans (hbv28.mono HB.size)
  have hszv28 := hbv28.size
  have qo1_0 := blk_cell hxo1 0 rfl
  have qo1_1 := blk_cell hxo1 1 rfl
  have qo1_2 := blk_cell hxo1 2 rfl
  have hlo1 := blk_lt hxo1
  have qo2_0 := blk_cell hxo2 0 rfl
  have qo2_1 := blk_cell hxo2 1 rfl
  have qo2_2 := blk_cell hxo2 2 rfl
  have hlo2 := blk_lt hxo2
  have qo9_0 := blk_cell hxo9 0 rfl
  have qo9_1 := blk_cell hxo9 1 rfl
  have qo9_2 := blk_cell hxo9 2 rfl
  have hlo9 := blk_lt hxo9
  have qo12_0 := blk_cell hxo12 0 rfl
  have qo12_1 := blk_cell hxo12 1 rfl
  have qo12_2 := blk_cell hxo12 2 rfl
  have hlo12 := blk_lt hxo12
  go_wp2_with fail
  have hTv29o14 : tot r1 ≤ 1048576 := by have := HRLR1.out.1; omega
  refine (heldInt64SS_any _ _ _ _ r1 (1 + (tot r0 : Int)) hoo14.rdl (by omega) (by omega) (by omega) (by omega)).mono ?_
  rintro e v29 ⟨rfl, hbv29⟩
  clear qo1_0 qo1_1 qo1_2 qo2_0 qo2_1 qo2_2 qo9_0 qo9_1 qo9_2 qo12_0 qo12_1 qo12_2 hlo1 hlo2 hlo9 hlo12
  (try replace hbv29 := und1 hbv29)
  (try replace hbv29 := undN hbv29)
  replace hoo3 := ownN_below hoo3 hbv29 (Nat.le_refl _)
  replace hoo4 := ownN_below hoo4 hbv29 (Nat.le_refl _)
  replace hoo5 := ownN_below hoo5 hbv29 (Nat.le_refl _)
  replace hoo6 := hoo6.below hbv29
  replace hoo7 := hoo7.below hbv29
  replace hoo8 := ownN_below hoo8 hbv29 (Nat.le_refl _)
  replace hoo10 := ownN_below hoo10 hbv29 (Nat.le_refl _)
  replace hoo11 := ownN_below hoo11 hbv29 (Nat.le_refl _)
  replace hoo13 := hoo13.below hbv29
  replace hoo14 := hoo14.below hbv29
  replace hoo15 := ownN_below hoo15 hbv29 (Nat.le_refl _)
  replace hoo16 := ownN_below hoo16 hbv29 (Nat.le_refl _)
  replace hoo17 := ownN_below hoo17 hbv29 (Nat.le_refl _)
  replace hoo18 := ownN_below hoo18 hbv29 (Nat.le_refl _)
  replace hoo19 := ownN_below hoo19 hbv29 (Nat.le_refl _)
  replace hoo20 := ownN_below hoo20 hbv29 (Nat.le_refl _)
  replace hoo21 := hoo21.below hbv29
  replace hoo22 := hoo22.below hbv29
  replace hxo1 := blk_bel hxo1 hbv29
  replace hxo2 := blk_bel hxo2 hbv29
  replace hxo9 := blk_bel hxo9 hbv29
  replace hxo12 := blk_bel hxo12 hbv29
  replace HB := HB.trans (hbv29.mono HB.size)
  have hszv29 := hbv29.size
  have qo1_0 := blk_cell hxo1 0 rfl
  have qo1_1 := blk_cell hxo1 1 rfl
  have qo1_2 := blk_cell hxo1 2 rfl
  have hlo1 := blk_lt hxo1
  have qo2_0 := blk_cell hxo2 0 rfl
  have qo2_1 := blk_cell hxo2 1 rfl
  have qo2_2 := blk_cell hxo2 2 rfl
  have hlo2 := blk_lt hxo2
  have qo9_0 := blk_cell hxo9 0 rfl
  have qo9_1 := blk_cell hxo9 1 rfl
  have qo9_2 := blk_cell hxo9 2 rfl
  have hlo9 := blk_lt hxo9
  have qo12_0 := blk_cell hxo12 0 rfl
  have qo12_1 := blk_cell hxo12 1 rfl
  have qo12_2 := blk_cell hxo12 2 rfl
  have hlo12 := blk_lt hxo12
  go_wp2_with fail
  go_ret
  first | exact ⟨rfl, HB⟩ | exact ⟨rfl, below_drewN HB⟩
end Go.Proofs.Ytemllhkgjdifiaa
