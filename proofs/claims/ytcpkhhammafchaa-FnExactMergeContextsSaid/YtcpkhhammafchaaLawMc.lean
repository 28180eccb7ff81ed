/- The law on MergeContexts. Written by genlaw5.py. -/
import Derived.Test.YtcpkhhammafchaaMcI
import Derived.Test.YtcpkhhammafchaaMcS
import Derived.Test.YtcpkhhammafchaaPr
import Derived.Test.YtcpkhhammafchaaGD
namespace Go.Proofs.Ytcpkhhammafchaa
open Go.RowKit
set_option linter.unusedVariables false
set_option linter.unusedSimpArgs false
theorem mcP_bd (k1 : Int) (ns1 : List Int) (ws1 : List (List Int)) (k2 : Int) (ns2 : List Int) (ws2 : List (List Int)) : (mcP k1 ns1 ws1 k2 ns2 ws2).2.1.length ≤ 1000000 ∧ tot (mcP k1 ns1 ws1 k2 ns2 ws2).2.2.1 ≤ 1000000 ∧ (mcP k1 ns1 ws1 k2 ns2 ws2).2.2.1.length ≤ 1000000 := by
  unfold mcP
  split
  · split
    · rw [← prF_chR (N := (pN ns1).toNat) (S := mcS ns1 ws1 ns2 ws2) rfl rfl]
      exact chR_bd _ _
    · simp [tot]
  · simp [tot]
set_option maxHeartbeats 16000000 in
set_option maxRecDepth 100000 in
theorem lawMergeContexts (w : World) (x0_0 : Int) (A0_1 : Option Addr) (n0_1 c0_1 : Nat) (x0_1 : List Int) (hr0_1 : Rd w A0_1 n0_1 (ints x0_1)) (hnn0_1 : n0_1 ≤ 9223372036854775807) (A0_2 : Option Addr) (n0_2 c0_2 : Nat) (x0_2 : List (List Int)) (hw0_2 : RdW w A0_2 n0_2 x0_2) (hnn0_2 : n0_2 ≤ 9223372036854775807) (x1_0 : Int) (A1_1 : Option Addr) (n1_1 c1_1 : Nat) (x1_1 : List Int) (hr1_1 : Rd w A1_1 n1_1 (ints x1_1)) (hnn1_1 : n1_1 ≤ 9223372036854775807) (A1_2 : Option Addr) (n1_2 c1_2 : Nat) (x1_2 : List (List Int)) (hw1_2 : RdW w A1_2 n1_2 x1_2) (hnn1_2 : n1_2 ≤ 9223372036854775807) :
    Calls Try.prog 6 #[.agg #[.int .i64 x0_0, .slice A0_1 n0_1 c0_1, .slice A0_2 n0_2 c0_2], .agg #[.int .i64 x1_0, .slice A1_1 n1_1 c1_1, .slice A1_2 n1_2 c1_2]] w fun e w' => e = .returned (.bool true) ∧ Below w.heap.size w w' := by
  have hS : ∀ (w : World) (A0_1 : Option Addr) (n0_1 c0_1 : Nat) (h0_1 : Rd w A0_1 n0_1 (ints x0_1)) (hn0_1 : n0_1 ≤ 1000000000) (hcp0_1 : n0_1 ≤ c0_1) (A0_2 : Option Addr) (n0_2 c0_2 : Nat) (h0_2 : RdL w A0_2 n0_2 x0_2) (hn0_2 : n0_2 ≤ 1000000000) (hcp0_2 : n0_2 ≤ c0_2) (A1_1 : Option Addr) (n1_1 c1_1 : Nat) (h1_1 : Rd w A1_1 n1_1 (ints x1_1)) (hn1_1 : n1_1 ≤ 1000000000) (hcp1_1 : n1_1 ≤ c1_1) (A1_2 : Option Addr) (n1_2 c1_2 : Nat) (h1_2 : RdL w A1_2 n1_2 x1_2) (hn1_2 : n1_2 ≤ 1000000000) (hcp1_2 : n1_2 ≤ c1_2), Calls Try.prog 31 #[.agg #[.int .i64 x0_0, .slice A0_1 n0_1 c0_1, .slice A0_2 n0_2 c0_2], .agg #[.int .i64 x1_0, .slice A1_1 n1_1 c1_1, .slice A1_2 n1_2 c1_2]] w (fun e w' => ∃ (AR1 : Option Addr) (nR1 cR1 : Nat) (AR2 : Option Addr) (nR2 cR2 : Nat) (FR2 : Nat → Prop), e = .returned (.tuple #[.agg #[.int .i64 ((mcP x0_0 x0_1 x0_2 x1_0 x1_1 x1_2).1), .slice AR1 nR1 cR1, .slice AR2 nR2 cR2], .int .i64 ((mcP x0_0 x0_1 x0_2 x1_0 x1_1 x1_2).2.2.2)]) ∧ w'.ownsRow w.heap.size 2 1 (.slice AR1 nR1 cR1) nR1 (ints ((mcP x0_0 x0_1 x0_2 x1_0 x1_1 x1_2).2.1)) ∧ OwnP w' FR2 AR2 nR2 cR2 ((mcP x0_0 x0_1 x0_2 x1_0 x1_1 x1_2).2.2.1) ∧ (∀ k, FR2 k → w.heap.size ≤ k ∧ k < w'.heap.size) ∧ (∀ k, Fo (.slice AR1 nR1 cR1) k → FR2 k → False) ∧ Below w.heap.size w w') := fun w A0_1 n0_1 c0_1 h0_1 hn0_1 hcp0_1 A0_2 n0_2 c0_2 h0_2 hn0_2 hcp0_2 A1_1 n1_1 c1_1 h1_1 hn1_1 hcp1_1 A1_2 n1_2 c1_2 h1_2 hn1_2 hcp1_2 => specMergeContexts_any w x0_0 A0_1 n0_1 c0_1 x0_1 h0_1 hn0_1 hcp0_1 A0_2 n0_2 c0_2 x0_2 h0_2 hn0_2 hcp0_2 x1_0 A1_1 n1_1 c1_1 x1_1 h1_1 hn1_1 hcp1_1 A1_2 n1_2 c1_2 x1_2 h1_2 hn1_2 hcp1_2
  have hI : ∀ (w : World) (A0_1 : Option Addr) (n0_1 c0_1 : Nat) (h0_1 : Rd w A0_1 n0_1 (ints x0_1)) (hn0_1 : n0_1 ≤ 1000000000) (hcp0_1 : n0_1 ≤ c0_1) (A0_2 : Option Addr) (n0_2 c0_2 : Nat) (h0_2 : RdL w A0_2 n0_2 x0_2) (hn0_2 : n0_2 ≤ 1000000000) (hcp0_2 : n0_2 ≤ c0_2) (A1_1 : Option Addr) (n1_1 c1_1 : Nat) (h1_1 : Rd w A1_1 n1_1 (ints x1_1)) (hn1_1 : n1_1 ≤ 1000000000) (hcp1_1 : n1_1 ≤ c1_1) (A1_2 : Option Addr) (n1_2 c1_2 : Nat) (h1_2 : RdL w A1_2 n1_2 x1_2) (hn1_2 : n1_2 ≤ 1000000000) (hcp1_2 : n1_2 ≤ c1_2), Calls Try.prog 33 #[.agg #[.int .i64 x0_0, .slice A0_1 n0_1 c0_1, .slice A0_2 n0_2 c0_2], .agg #[.int .i64 x1_0, .slice A1_1 n1_1 c1_1, .slice A1_2 n1_2 c1_2]] w (fun e w' => ∃ (AR1 : Option Addr) (nR1 cR1 : Nat) (AR2 : Option Addr) (nR2 cR2 : Nat) (FR2 : Nat → Prop), e = .returned (.tuple #[.agg #[.int .i64 ((mcP x0_0 x0_1 x0_2 x1_0 x1_1 x1_2).1), .slice AR1 nR1 cR1, .slice AR2 nR2 cR2], .int .i64 ((mcP x0_0 x0_1 x0_2 x1_0 x1_1 x1_2).2.2.2)]) ∧ w'.ownsRow w.heap.size 2 1 (.slice AR1 nR1 cR1) nR1 (ints ((mcP x0_0 x0_1 x0_2 x1_0 x1_1 x1_2).2.1)) ∧ OwnP w' FR2 AR2 nR2 cR2 ((mcP x0_0 x0_1 x0_2 x1_0 x1_1 x1_2).2.2.1) ∧ (∀ k, FR2 k → w.heap.size ≤ k ∧ k < w'.heap.size) ∧ (∀ k, Fo (.slice AR1 nR1 cR1) k → FR2 k → False) ∧ Below w.heap.size w w') := fun w A0_1 n0_1 c0_1 h0_1 hn0_1 hcp0_1 A0_2 n0_2 c0_2 h0_2 hn0_2 hcp0_2 A1_1 n1_1 c1_1 h1_1 hn1_1 hcp1_1 A1_2 n1_2 c1_2 h1_2 hn1_2 hcp1_2 => implMergeContexts_any w x0_0 A0_1 n0_1 c0_1 x0_1 h0_1 hn0_1 hcp0_1 A0_2 n0_2 c0_2 x0_2 h0_2 hn0_2 hcp0_2 x1_0 A1_1 n1_1 c1_1 x1_1 h1_1 hn1_1 hcp1_1 A1_2 n1_2 c1_2 x1_2 h1_2 hn1_2 hcp1_2
  have HRLR1 : Hid (((mcP x0_0 x0_1 x0_2 x1_0 x1_1 x1_2).2.1).length ≤ 1000000) := Lib.hid ((mcP_bd x0_0 x0_1 x0_2 x1_0 x1_1 x1_2).1)
  have HRLR2 : Hid (tot ((mcP x0_0 x0_1 x0_2 x1_0 x1_1 x1_2).2.2.1) ≤ 1000000 ∧ ((mcP x0_0 x0_1 x0_2 x1_0 x1_1 x1_2).2.2.1).length ≤ 1000000) := Lib.hid ((mcP_bd x0_0 x0_1 x0_2 x1_0 x1_1 x1_2).2)
  have HS := Lib.hid hS; have HI := Lib.hid hI
  clear hS hI
  generalize (mcP x0_0 x0_1 x0_2 x1_0 x1_1 x1_2).1 = r0 at HS HI 
  generalize (mcP x0_0 x0_1 x0_2 x1_0 x1_1 x1_2).2.1 = r1 at HS HI HRLR1
  generalize (mcP x0_0 x0_1 x0_2 x1_0 x1_1 x1_2).2.2.1 = r2 at HS HI HRLR2
  generalize (mcP x0_0 x0_1 x0_2 x1_0 x1_1 x1_2).2.2.2 = r3 at HS HI 
  have HXL0_1 : Hid ((x0_1).length = n0_1 * 1) := Lib.hid (by have := hr0_1.1; simp at this; omega)
  have HXL0_2 : Hid ((x0_2).length = n0_2) := Lib.hid hw0_2.len
  have HXL1_1 : Hid ((x1_1).length = n1_1 * 1) := Lib.hid (by have := hr1_1.1; simp at this; omega)
  have HXL1_2 : Hid ((x1_2).length = n1_2) := Lib.hid hw1_2.len
  have HB := Below.refl w.heap.size w
  go_enter Try.func6, Try.ntmps6
  go_wp2_with fail
  refine (szProof_post _ x0_0 _ _ _ hnn0_1 _ _ _ x0_2 (by have h := hw0_2.below HB (Nat.le_refl _); first | exact h | exact h.below (below_new _ _) (Nat.le_refl _) | exact (h.below (below_new _ _) (Nat.le_refl _)).below (below_new _ _) (Nat.le_refl _) | exact ((h.below (below_new _ _) (Nat.le_refl _)).below (below_new _ _) (Nat.le_refl _)).below (below_new _ _) (Nat.le_refl _)) hnn0_2 _ (by omega) (by omega)).mono ?_
  rintro e v1 ⟨lfv1, rfl, hqv1, hpv1, hbv1⟩
  (try replace hbv1 := und1 hbv1)
  (try replace hbv1 := undN hbv1)
  obtain ⟨hbv1b, hxo2, hso2⟩ := box_step hbv1
  (try simp only [World.size_alloc] at hxo2 hso2)
  obtain ⟨hbv1bb, hxo1, hso1⟩ := box_step hbv1b
  (try simp only [World.size_alloc] at hxo1 hso1)
  replace HB := HB.trans (hbv1bb.mono HB.size)
  have hszv1 := hbv1bb.size
  have qo1_0 := blk_cell hxo1 0 rfl
  have qo1_1 := blk_cell hxo1 1 rfl
  have qo1_2 := blk_cell hxo1 2 rfl
  have hlo1 := blk_lt hxo1
  have qo2_0 := blk_cell hxo2 0 rfl
  have qo2_1 := blk_cell hxo2 1 rfl
  have qo2_2 := blk_cell hxo2 2 rfl
  have hlo2 := blk_lt hxo2
  by_cases hzv1 : lfv1 < 0
  · clear hqv1 hpv1
    go_wp2_with fail
    go_ret
    exact ⟨rfl, HB⟩
  replace hqv1 := hqv1 (by omega)
  have hbig0_1 : n0_1 ≤ 1048576 := by omega
  have hbig0_2 : n0_2 ≤ 1048576 := by omega
  have HTX0_2 : Hid (tot x0_2 ≤ 1048576) := Lib.hid (by omega)
  have hr0_2 := hw0_2.rdl (by have := HTX0_2.out; omega)
  have HQv1 := Lib.hid hqv1; clear hqv1
  go_wp2_with fail
  refine (szProof_post _ x1_0 _ _ _ hnn1_1 _ _ _ x1_2 (by have h := hw1_2.below HB (Nat.le_refl _); first | exact h | exact h.below (below_new _ _) (Nat.le_refl _) | exact (h.below (below_new _ _) (Nat.le_refl _)).below (below_new _ _) (Nat.le_refl _) | exact ((h.below (below_new _ _) (Nat.le_refl _)).below (below_new _ _) (Nat.le_refl _)).below (below_new _ _) (Nat.le_refl _)) hnn1_2 _ (by omega) (by omega)).mono ?_
  rintro e v2 ⟨lfv2, rfl, hqv2, hpv2, hbv2⟩
  clear qo1_0 qo1_1 qo1_2 qo2_0 qo2_1 qo2_2 hlo1 hlo2
  (try replace hbv2 := und1 hbv2)
  (try replace hbv2 := undN hbv2)
  replace hxo1 := blk_bel hxo1 hbv2
  replace hxo2 := blk_bel hxo2 hbv2
  replace HB := HB.trans (hbv2.mono HB.size)
  have hszv2 := hbv2.size
  have qo1_0 := blk_cell hxo1 0 rfl
  have qo1_1 := blk_cell hxo1 1 rfl
  have qo1_2 := blk_cell hxo1 2 rfl
  have hlo1 := blk_lt hxo1
  have qo2_0 := blk_cell hxo2 0 rfl
  have qo2_1 := blk_cell hxo2 1 rfl
  have qo2_2 := blk_cell hxo2 2 rfl
  have hlo2 := blk_lt hxo2
  by_cases hzv2 : lfv2 < 0
  · clear hqv2 hpv2
    go_wp2_with fail
    go_ret
    exact ⟨rfl, HB⟩
  replace hqv2 := hqv2 (by omega)
  have hbig1_1 : n1_1 ≤ 1048576 := by omega
  have hbig1_2 : n1_2 ≤ 1048576 := by omega
  have HTX1_2 : Hid (tot x1_2 ≤ 1048576) := Lib.hid (by omega)
  have hr1_2 := hw1_2.rdl (by have := HTX1_2.out; omega)
  have HQv2 := Lib.hid hqv2; clear hqv2
  go_upto_region 8 with fail
  go_cut [6, 7] (fun s6 s7 wx => ∃ (go3 : Nat) (Ao8 : Option Addr) (no8 : Nat) (co8 : Nat) (Ao9 : Option Addr) (no9 : Nat) (co9 : Nat) (Fo9 : Nat → Prop), s6 = .pointer (some ⟨go3, 0, none⟩) ∧ s7 = .int .i64 r3 ∧ wx.heap[go3]? = some (.cells #[.int .i64 r0, .slice Ao8 no8 co8, .slice Ao9 no9 co9] 48 (0, 0)) ∧ v2.heap.size ≤ go3 ∧ wx.ownsRow v2.heap.size 2 1 (.slice Ao8 no8 co8) no8 (ints r1) ∧ (∀ k, Fo (.slice Ao8 no8 co8) k → v2.heap.size ≤ k ∧ k < wx.heap.size) ∧ (¬ Fo (.slice Ao8 no8 co8) go3) ∧ OwnP wx Fo9 Ao9 no9 co9 r2 ∧ (∀ k, Fo9 k → v2.heap.size ≤ k ∧ k < wx.heap.size) ∧ (¬ Fo9 go3) ∧ (∀ k, Fo (.slice Ao8 no8 co8) k → Fo9 k → False) ∧ Below v2.heap.size v2 wx)
  case first =>
    have HC := Below.refl v2.heap.size v2
    go_region_held3 (fun w' => w'.cell? ⟨w.heap.size, 0, none⟩ = some (.int .i64 x0_0) ∧ w'.cell? ⟨w.heap.size, 1, none⟩ = some (.slice A0_1 n0_1 c0_1) ∧ w'.cell? ⟨w.heap.size, 2, none⟩ = some (.slice A0_2 n0_2 c0_2) ∧ w'.cell? ⟨w.heap.size + 1, 0, none⟩ = some (.int .i64 x1_0) ∧ w'.cell? ⟨w.heap.size + 1, 1, none⟩ = some (.slice A1_1 n1_1 c1_1) ∧ w'.cell? ⟨w.heap.size + 1, 2, none⟩ = some (.slice A1_2 n1_2 c1_2)) (first | exact ⟨qo1_0, qo1_1, qo1_2, qo2_0, qo2_1, qo2_2⟩ | (refine ⟨?_, ?_, ?_, ?_, ?_, ?_⟩ <;> (repeat (refine cell_far ?_ (by omega))) <;> assumption) | go_keep) (first
      | (go_at_call 31
         refine (HS.out _ _ _ _ (by have h := (own_rd hoo4); first | exact h | exact h.below (below_new _ _) (Nat.le_refl _) | exact h.below (below_drew1 (below_new _ _)) (Nat.le_refl _)) (by omega) (ownN_cap hoo4) _ _ _ (by have h := hoo5.rdl; first | exact h | exact h.below (below_new _ _) (Nat.le_refl _) | exact h.below (below_drew1 (below_new _ _)) (Nat.le_refl _)) (by omega) hoo5.cap _ _ _ (by have h := (own_rd hoo6); first | exact h | exact h.below (below_new _ _) (Nat.le_refl _) | exact h.below (below_drew1 (below_new _ _)) (Nat.le_refl _)) (by omega) (ownN_cap hoo6) _ _ _ (by have h := hoo7.rdl; first | exact h | exact h.below (below_new _ _) (Nat.le_refl _) | exact h.below (below_drew1 (below_new _ _)) (Nat.le_refl _)) (by omega) hoo7.cap).mono ?_
         rintro e v5 ⟨Ao8, no8, co8, Ao9, no9, co9, Fo9, rfl, hoo8, hoo9, hFo9, hdo8o9, hbv5⟩
         have hno8 : no8 ≤ 1000000 := by have h1 := hoo8.1; simp only [List.length_map] at h1; have h2 := HRLR1.out; omega
         have hno9 : no9 ≤ 1000000 := by have h1 := hoo9.len; have h2 := HRLR2.out; omega
         have hrgo8 := Lib.hid (rg_row hoo8)
         have hrgo9 := Lib.hid hFo9; clear hFo9
         have HDo8o9 := Lib.hid hdo8o9; clear hdo8o9
         clear qo1_0 qo1_1 qo1_2 qo2_0 qo2_1 qo2_2 hlo1 hlo2
         (try replace hbv5 := und1 hbv5)
         (try replace hbv5 := undN hbv5)
         (try clear zo3_0 fo3_0 zo3_1 fo3_1 zo3_2 fo3_2)
         (try (have hq := box_step hbv5; clear hbv5; obtain ⟨hbv5, hxo3, hso3⟩ := hq))
         (try replace hxo3 := blk_bel hxo3 hbv5)
         (try have zo3_0 := blk_cell hxo3 0 rfl)
         (try have fo3_0 := blk_free hxo3 0)
         (try have zo3_1 := blk_cell hxo3 1 rfl)
         (try have fo3_1 := blk_free hxo3 1)
         (try have zo3_2 := blk_cell hxo3 2 rfl)
         (try have fo3_2 := blk_free hxo3 2)
         (try have hlo3 := blk_lt hxo3)
         replace HC := HC.trans (hbv5.mono HC.size)
         replace hoo4 := ownN_below hoo4 hbv5 (Nat.le_refl _)
         replace hoo5 := hoo5.below hbv5
         replace hoo6 := ownN_below hoo6 hbv5 (Nat.le_refl _)
         replace hoo7 := hoo7.below hbv5
         replace hxo1 := blk_bel hxo1 hbv5
         replace hxo2 := blk_bel hxo2 hbv5
         replace HB := HB.trans (hbv5.mono HB.size)
         have hszv5 := hbv5.size
         have qo1_0 := blk_cell hxo1 0 rfl
         have qo1_1 := blk_cell hxo1 1 rfl
         have qo1_2 := blk_cell hxo1 2 rfl
         have hlo1 := blk_lt hxo1
         have qo2_0 := blk_cell hxo2 0 rfl
         have qo2_1 := blk_cell hxo2 1 rfl
         have qo2_2 := blk_cell hxo2 2 rfl
         have hlo2 := blk_lt hxo2
         have hrgzo8 := hrgo8
         have hrgzo9 := hrgo9
         replace hrgo8 := Lib.hid (rg_lo hrgo8.out (lo := v4.heap.size + 0) (hi := v5.heap.size) (by first | exact Nat.le_refl _ | exact le_al1 | (simp; done) | (simp; omega)) (Nat.le_refl _))
         replace hrgo9 := Lib.hid (rg_lo hrgo9.out (lo := v4.heap.size + 0) (hi := v5.heap.size) (by first | exact Nat.le_refl _ | exact le_al1 | (simp; done) | (simp; omega)) (Nat.le_refl _))
         )
      | (have hqg := hoo4
         clear hqg
         go_at_call 32
         refine (toProof_any _ x1_0 _ _ _ x1_1 (by have h := (hr1_1.below HB (Nat.le_refl _)); first | exact h | exact h.below (below_new _ _) (Nat.le_refl _) | exact h.below (below_drew1 (below_new _ _)) (Nat.le_refl _)) (by omega) _ _ _ x1_2 (by have h := (hr1_2.below HB (Nat.le_refl _)); first | exact h | exact h.below (below_new _ _) (Nat.le_refl _) | exact h.below (below_drew1 (below_new _ _)) (Nat.le_refl _)) (by omega)).mono ?_
         rintro e v4 ⟨Ao6, no6, co6, Ao7, no7, co7, Fo7, rfl, hoo6, hoo7, hFo7, hdo6o7, hbv4⟩
         have hno6 : no6 ≤ 1048576 := by have h1 := hoo6.1; simp only [List.length_map] at h1; have h2 := HXL1_1.out; omega
         have hno7 : no7 ≤ 1048576 := by have h1 := hoo7.len; have h2 := HXL1_2.out; omega
         have hrgo6 := Lib.hid (rg_row hoo6)
         have hrgo7 := Lib.hid hFo7; clear hFo7
         have HDo6o7 := Lib.hid hdo6o7; clear hdo6o7
         clear qo1_0 qo1_1 qo1_2 qo2_0 qo2_1 qo2_2 hlo1 hlo2
         (try replace hbv4 := und1 hbv4)
         (try replace hbv4 := undN hbv4)
         (try clear zo3_0 fo3_0 zo3_1 fo3_1 zo3_2 fo3_2)
         (try (have hq := box_step hbv4; clear hbv4; obtain ⟨hbv4, hxo3, hso3⟩ := hq))
         (try replace hxo3 := blk_bel hxo3 hbv4)
         (try have zo3_0 := blk_cell hxo3 0 rfl)
         (try have fo3_0 := blk_free hxo3 0)
         (try have zo3_1 := blk_cell hxo3 1 rfl)
         (try have fo3_1 := blk_free hxo3 1)
         (try have zo3_2 := blk_cell hxo3 2 rfl)
         (try have fo3_2 := blk_free hxo3 2)
         (try have hlo3 := blk_lt hxo3)
         replace HC := HC.trans (hbv4.mono HC.size)
         replace hoo4 := ownN_below hoo4 hbv4 (Nat.le_refl _)
         replace hoo5 := hoo5.below hbv4
         replace hxo1 := blk_bel hxo1 hbv4
         replace hxo2 := blk_bel hxo2 hbv4
         replace HB := HB.trans (hbv4.mono HB.size)
         have hszv4 := hbv4.size
         have qo1_0 := blk_cell hxo1 0 rfl
         have qo1_1 := blk_cell hxo1 1 rfl
         have qo1_2 := blk_cell hxo1 2 rfl
         have hlo1 := blk_lt hxo1
         have qo2_0 := blk_cell hxo2 0 rfl
         have qo2_1 := blk_cell hxo2 1 rfl
         have qo2_2 := blk_cell hxo2 2 rfl
         have hlo2 := blk_lt hxo2
         have hrgzo6 := hrgo6
         have hrgzo7 := hrgo7
         replace hrgo6 := Lib.hid (rg_lo hrgo6.out (lo := v3.heap.size + 0) (hi := v4.heap.size) (by first | exact Nat.le_refl _ | exact le_al1 | (simp; done) | (simp; omega)) (Nat.le_refl _))
         replace hrgo7 := Lib.hid (rg_lo hrgo7.out (lo := v3.heap.size + 0) (hi := v4.heap.size) (by first | exact Nat.le_refl _ | exact le_al1 | (simp; done) | (simp; omega)) (Nat.le_refl _))
         )
      | (go_at_call 32
         refine (toProof_any _ x0_0 _ _ _ x0_1 (by have h := (hr0_1.below HB (Nat.le_refl _)); first | exact h | exact h.below (below_new _ _) (Nat.le_refl _) | exact h.below (below_drew1 (below_new _ _)) (Nat.le_refl _)) (by omega) _ _ _ x0_2 (by have h := (hr0_2.below HB (Nat.le_refl _)); first | exact h | exact h.below (below_new _ _) (Nat.le_refl _) | exact h.below (below_drew1 (below_new _ _)) (Nat.le_refl _)) (by omega)).mono ?_
         rintro e v3 ⟨Ao4, no4, co4, Ao5, no5, co5, Fo5, rfl, hoo4, hoo5, hFo5, hdo4o5, hbv3⟩
         have hno4 : no4 ≤ 1048576 := by have h1 := hoo4.1; simp only [List.length_map] at h1; have h2 := HXL0_1.out; omega
         have hno5 : no5 ≤ 1048576 := by have h1 := hoo5.len; have h2 := HXL0_2.out; omega
         have hrgo4 := Lib.hid (rg_row hoo4)
         have hrgo5 := Lib.hid hFo5; clear hFo5
         have HDo4o5 := Lib.hid hdo4o5; clear hdo4o5
         clear qo1_0 qo1_1 qo1_2 qo2_0 qo2_1 qo2_2 hlo1 hlo2
         (try replace hbv3 := und1 hbv3)
         (try replace hbv3 := undN hbv3)
         (try clear zo3_0 fo3_0 zo3_1 fo3_1 zo3_2 fo3_2)
         (try (have hq := box_step hbv3; clear hbv3; obtain ⟨hbv3, hxo3, hso3⟩ := hq))
         (try replace hxo3 := blk_bel hxo3 hbv3)
         (try have zo3_0 := blk_cell hxo3 0 rfl)
         (try have fo3_0 := blk_free hxo3 0)
         (try have zo3_1 := blk_cell hxo3 1 rfl)
         (try have fo3_1 := blk_free hxo3 1)
         (try have zo3_2 := blk_cell hxo3 2 rfl)
         (try have fo3_2 := blk_free hxo3 2)
         (try have hlo3 := blk_lt hxo3)
         replace HC := HC.trans (hbv3.mono HC.size)
         replace hxo1 := blk_bel hxo1 hbv3
         replace hxo2 := blk_bel hxo2 hbv3
         replace HB := HB.trans (hbv3.mono HB.size)
         have hszv3 := hbv3.size
         have qo1_0 := blk_cell hxo1 0 rfl
         have qo1_1 := blk_cell hxo1 1 rfl
         have qo1_2 := blk_cell hxo1 2 rfl
         have hlo1 := blk_lt hxo1
         have qo2_0 := blk_cell hxo2 0 rfl
         have qo2_1 := blk_cell hxo2 1 rfl
         have qo2_2 := blk_cell hxo2 2 rfl
         have hlo2 := blk_lt hxo2
         have hrgzo4 := hrgo4
         have hrgzo5 := hrgo5
         replace hrgo4 := Lib.hid (rg_lo hrgo4.out (lo := v2.heap.size + 0) (hi := v3.heap.size) (by first | exact Nat.le_refl _ | exact le_al1 | (simp; done) | (simp; omega)) (Nat.le_refl _))
         replace hrgo5 := Lib.hid (rg_lo hrgo5.out (lo := v2.heap.size + 0) (hi := v3.heap.size) (by first | exact Nat.le_refl _ | exact le_al1 | (simp; done) | (simp; omega)) (Nat.le_refl _))
         )
      )
    all_goals
      go_wp2_with fail
      go_meet
      exact ⟨_, _, _, _, _, _, _, _, rfl, rfl, (by first | exact box_new _ _ _ | simpa using blk_set (blk_set (blk_set (hxo3) 0 _) 1 _) 2 _), (by first | omega | (simp; omega)), (by first | exact own_ch (ownN_base hoo8 (by first | omega | (simp; omega) | (show _ ≤ (World.alloc _ _).heap.size; simp; omega))) (ch_alloc (fun _ => False) _ _) (fun k h1 h2 => h2) | exact own_ch (ownN_base hoo8 (by first | omega | (simp; omega) | (show _ ≤ (World.alloc _ _).heap.size; simp; omega))) (((ch_set _ _ 0 _).trans (ch_set _ _ 1 _)).trans (ch_set _ _ 2 _)) (fun k h1 h2 => by have h3 := hrgo8.out k h1; have h4 := (hrgzo8.out k h1).1; first | omega | (simp at h4; omega) | (change (World.alloc _ _).heap.size ≤ _ at h4; simp at h4; omega)) | exact own_ch (ownN_base hoo8 (by first | omega | (simp; omega) | (show _ ≤ (World.alloc _ _).heap.size; simp; omega))) (ch_drew (ch_alloc (fun _ => False) _ _)) (fun k h1 h2 => h2) | exact own_ch (ownN_base hoo8 (by first | omega | (simp; omega) | (show _ ≤ (World.alloc _ _).heap.size; simp; omega))) (ch_drew (((ch_set _ _ 0 _).trans (ch_set _ _ 1 _)).trans (ch_set _ _ 2 _))) (fun k h1 h2 => by have h3 := hrgo8.out k h1; have h4 := (hrgzo8.out k h1).1; first | omega | (simp at h4; omega) | (change (World.alloc _ _).heap.size ≤ _ at h4; simp at h4; omega))), (fun k hk => by have h1 := hrgo8.out k hk; first | omega | (refine ⟨by omega, ?_⟩; simp; omega) | (refine ⟨by omega, ?_⟩; show k < _; simp only [World.size_setCell, World.size_alloc]; omega) | (trace_state; fail)), (fun hk => by have h1 := hrgo8.out _ hk; have h2 := (hrgzo8.out _ hk).1; first | omega | (simp at h2; omega) | (change (World.alloc _ _).heap.size ≤ _ at h2; simp at h2; omega)), (by first | exact hoo9.ch (ch_alloc (fun _ => False) _ _) (fun k h1 h2 => h2) | exact hoo9.ch (((ch_set _ _ 0 _).trans (ch_set _ _ 1 _)).trans (ch_set _ _ 2 _)) (fun k h1 h2 => by have h3 := hrgo9.out k h1; have h4 := (hrgzo9.out k h1).1; first | omega | (simp at h4; omega) | (change (World.alloc _ _).heap.size ≤ _ at h4; simp at h4; omega)) | exact hoo9.ch (ch_drew (ch_alloc (fun _ => False) _ _)) (fun k h1 h2 => h2) | exact hoo9.ch (ch_drew (((ch_set _ _ 0 _).trans (ch_set _ _ 1 _)).trans (ch_set _ _ 2 _))) (fun k h1 h2 => by have h3 := hrgo9.out k h1; have h4 := (hrgzo9.out k h1).1; first | omega | (simp at h4; omega) | (change (World.alloc _ _).heap.size ≤ _ at h4; simp at h4; omega))), (fun k hk => by have h1 := hrgo9.out k hk; first | omega | (refine ⟨by omega, ?_⟩; simp; omega) | (refine ⟨by omega, ?_⟩; show k < _; simp only [World.size_setCell, World.size_alloc]; omega) | (trace_state; fail)), (fun hk => by have h1 := hrgo9.out _ hk; have h2 := (hrgzo9.out _ hk).1; first | omega | (simp at h2; omega) | (change (World.alloc _ _).heap.size ≤ _ at h2; simp at h2; omega)), HDo8o9.out, (by first | exact HC.alloc HC.size _ | (refine (((HC).setCell ?_ _).setCell ?_ _).setCell ?_ _ <;> (first | omega | (dsimp only; omega) | (simp; omega))) | exact below_drew1 (HC.alloc HC.size _) | (refine below_drew1 ((((HC).setCell ?_ _).setCell ?_ _).setCell ?_ _) <;> (first | omega | (dsimp only; omega) | (simp; omega))))⟩
  case rest =>
  obtain ⟨go3, Ao8, no8, co8, Ao9, no9, co9, Fo9, rfl, rfl, hxo3, hgo3, hoo8, hFo8, hnfo8o3, hoo9, hFo9, hnfo9o3, hdo8o9, hbcut⟩ := hcut
  have hupo3 := blk_lt hxo3
  obtain ⟨v6, rfl⟩ : ∃ v, v = wc := ⟨_, rfl⟩
  have hrgo8 := Lib.hid hFo8; clear hFo8
  have hno8 : no8 ≤ 1000000 := by have h1 := hoo8.1; simp only [List.length_map] at h1; have h2 := HRLR1.out; omega
  have hrgo9 := Lib.hid hFo9; clear hFo9
  have hno9 : no9 ≤ 1000000 := by have h1 := hoo9.len; have h2 := HRLR2.out; omega
  have HDo8o9 := Lib.hid hdo8o9; clear hdo8o9
  clear qo1_0 qo1_1 qo1_2 qo2_0 qo2_1 qo2_2 hlo1 hlo2
  (try replace hbcut := und1 hbcut)
  (try replace hbcut := undN hbcut)
  replace hxo1 := blk_bel hxo1 hbcut
  replace hxo2 := blk_bel hxo2 hbcut
  replace HB := HB.trans (hbcut.mono HB.size)
  have hszv6 := hbcut.size
  have qo1_0 := blk_cell hxo1 0 rfl
  have qo1_1 := blk_cell hxo1 1 rfl
  have qo1_2 := blk_cell hxo1 2 rfl
  have hlo1 := blk_lt hxo1
  have qo2_0 := blk_cell hxo2 0 rfl
  have qo2_1 := blk_cell hxo2 1 rfl
  have qo2_2 := blk_cell hxo2 2 rfl
  have hlo2 := blk_lt hxo2
  clear qo1_0 qo1_1 qo1_2 qo2_0 qo2_1 qo2_2 hlo1 hlo2
  have qo1_0 := blk_cell hxo1 0 rfl
  have qo1_1 := blk_cell hxo1 1 rfl
  have qo1_2 := blk_cell hxo1 2 rfl
  have hlo1 := blk_lt hxo1
  have qo2_0 := blk_cell hxo2 0 rfl
  have qo2_1 := blk_cell hxo2 1 rfl
  have qo2_2 := blk_cell hxo2 2 rfl
  have hlo2 := blk_lt hxo2
  have qo3_0 := blk_cell hxo3 0 rfl
  have qo3_1 := blk_cell hxo3 1 rfl
  have qo3_2 := blk_cell hxo3 2 rfl
  have hlo3 := blk_lt hxo3
  go_wp2_with fail
  refine (toProof_any _ x0_0 _ _ _ x0_1 (hr0_1.below HB (Nat.le_refl _)) (by omega) _ _ _ x0_2 (hr0_2.below HB (Nat.le_refl _)) (by omega)).mono ?_
  rintro e v7 ⟨Ao11, no11, co11, Ao12, no12, co12, Fo12, rfl, hoo11, hoo12, hFo12, hdo11o12, hbv7⟩
  have hno11 : no11 ≤ 1048576 := by have h1 := hoo11.1; simp only [List.length_map] at h1; have h2 := HXL0_1.out; omega
  have hno12 : no12 ≤ 1048576 := by have h1 := hoo12.len; have h2 := HXL0_2.out; omega
  have hrgo11 := Lib.hid (rg_row hoo11)
  have hrgo12 := Lib.hid hFo12; clear hFo12
  have HDo11o12 := Lib.hid hdo11o12; clear hdo11o12
  clear qo1_0 qo1_1 qo1_2 qo2_0 qo2_1 qo2_2 qo3_0 qo3_1 qo3_2 hlo1 hlo2 hlo3
  (try replace hbv7 := und1 hbv7)
  (try replace hbv7 := undN hbv7)
  replace hoo8 := ownN_below hoo8 hbv7 (Nat.le_refl _)
  replace hoo9 := hoo9.below hbv7
  replace hxo1 := blk_bel hxo1 hbv7
  replace hxo2 := blk_bel hxo2 hbv7
  replace hxo3 := blk_bel hxo3 hbv7
  replace HB := HB.trans (hbv7.mono HB.size)
  have hszv7 := hbv7.size
  have qo1_0 := blk_cell hxo1 0 rfl
  have qo1_1 := blk_cell hxo1 1 rfl
  have qo1_2 := blk_cell hxo1 2 rfl
  have hlo1 := blk_lt hxo1
  have qo2_0 := blk_cell hxo2 0 rfl
  have qo2_1 := blk_cell hxo2 1 rfl
  have qo2_2 := blk_cell hxo2 2 rfl
  have hlo2 := blk_lt hxo2
  have qo3_0 := blk_cell hxo3 0 rfl
  have qo3_1 := blk_cell hxo3 1 rfl
  have qo3_2 := blk_cell hxo3 2 rfl
  have hlo3 := blk_lt hxo3
  replace hrgo11 := Lib.hid (rg_lo hrgo11.out (lo := v6.heap.size + 0) (hi := v7.heap.size) (by first | exact Nat.le_refl _ | exact le_al1 | (simp; done) | (simp; omega)) (Nat.le_refl _))
  replace hrgo12 := Lib.hid (rg_lo hrgo12.out (lo := v6.heap.size + 0) (hi := v7.heap.size) (by first | exact Nat.le_refl _ | exact le_al1 | (simp; done) | (simp; omega)) (Nat.le_refl _))
  go_wp2_with fail
  refine (toProof_any _ x1_0 _ _ _ x1_1 ((hr1_1.below HB (Nat.le_refl _)).below (below_new _ _) (Nat.le_refl _)) (by omega) _ _ _ x1_2 ((hr1_2.below HB (Nat.le_refl _)).below (below_new _ _) (Nat.le_refl _)) (by omega)).mono ?_
  rintro e v8 ⟨Ao14, no14, co14, Ao15, no15, co15, Fo15, rfl, hoo14, hoo15, hFo15, hdo14o15, hbv8⟩
  have hno14 : no14 ≤ 1048576 := by have h1 := hoo14.1; simp only [List.length_map] at h1; have h2 := HXL1_1.out; omega
  have hno15 : no15 ≤ 1048576 := by have h1 := hoo15.len; have h2 := HXL1_2.out; omega
  have hrgo14 := Lib.hid (rg_row hoo14)
  have hrgo15 := Lib.hid hFo15; clear hFo15
  have HDo14o15 := Lib.hid hdo14o15; clear hdo14o15
  clear qo1_0 qo1_1 qo1_2 qo2_0 qo2_1 qo2_2 qo3_0 qo3_1 qo3_2 hlo1 hlo2 hlo3
  (try replace hbv8 := und1 hbv8)
  (try replace hbv8 := undN hbv8)
  obtain ⟨hbv8b, hxo13, hso13⟩ := box_step hbv8
  (try simp only [World.size_alloc] at hxo13 hso13)
  replace hoo8 := ownN_below hoo8 hbv8b (Nat.le_refl _)
  replace hoo9 := hoo9.below hbv8b
  replace hoo11 := ownN_below hoo11 hbv8b (Nat.le_refl _)
  replace hoo12 := hoo12.below hbv8b
  replace hxo1 := blk_bel hxo1 hbv8b
  replace hxo2 := blk_bel hxo2 hbv8b
  replace hxo3 := blk_bel hxo3 hbv8b
  replace HB := HB.trans (hbv8b.mono HB.size)
  have hszv8 := hbv8b.size
  have qo1_0 := blk_cell hxo1 0 rfl
  have qo1_1 := blk_cell hxo1 1 rfl
  have qo1_2 := blk_cell hxo1 2 rfl
  have hlo1 := blk_lt hxo1
  have qo2_0 := blk_cell hxo2 0 rfl
  have qo2_1 := blk_cell hxo2 1 rfl
  have qo2_2 := blk_cell hxo2 2 rfl
  have hlo2 := blk_lt hxo2
  have qo3_0 := blk_cell hxo3 0 rfl
  have qo3_1 := blk_cell hxo3 1 rfl
  have qo3_2 := blk_cell hxo3 2 rfl
  have hlo3 := blk_lt hxo3
  have qo13_0 := blk_cell hxo13 0 rfl
  have qo13_1 := blk_cell hxo13 1 rfl
  have qo13_2 := blk_cell hxo13 2 rfl
  have hlo13 := blk_lt hxo13
  replace hrgo14 := Lib.hid (rg_lo hrgo14.out (lo := v7.heap.size + 1) (hi := v8.heap.size) (by first | exact Nat.le_refl _ | exact le_al1 | (simp; done) | (simp; omega)) (Nat.le_refl _))
  replace hrgo15 := Lib.hid (rg_lo hrgo15.out (lo := v7.heap.size + 1) (hi := v8.heap.size) (by first | exact Nat.le_refl _ | exact le_al1 | (simp; done) | (simp; omega)) (Nat.le_refl _))
  go_wp2_with fail
  refine (HI.out _ _ _ _ ((own_rd hoo11).below (below_new _ _) (Nat.le_refl _)) (by omega) (ownN_cap hoo11) _ _ _ (hoo12.rdl.below (below_new _ _) (Nat.le_refl _)) (by omega) hoo12.cap _ _ _ ((own_rd hoo14).below (below_new _ _) (Nat.le_refl _)) (by omega) (ownN_cap hoo14) _ _ _ (hoo15.rdl.below (below_new _ _) (Nat.le_refl _)) (by omega) hoo15.cap).mono ?_
  rintro e v9 ⟨Ao17, no17, co17, Ao18, no18, co18, Fo18, rfl, hoo17, hoo18, hFo18, hdo17o18, hbv9⟩
  have hno17 : no17 ≤ 1000000 := by have h1 := hoo17.1; simp only [List.length_map] at h1; have h2 := HRLR1.out; omega
  have hno18 : no18 ≤ 1000000 := by have h1 := hoo18.len; have h2 := HRLR2.out; omega
  have hrgo17 := Lib.hid (rg_row hoo17)
  have hrgo18 := Lib.hid hFo18; clear hFo18
  have HDo17o18 := Lib.hid hdo17o18; clear hdo17o18
  clear qo1_0 qo1_1 qo1_2 qo2_0 qo2_1 qo2_2 qo3_0 qo3_1 qo3_2 qo13_0 qo13_1 qo13_2 hlo1 hlo2 hlo3 hlo13
  (try replace hbv9 := und1 hbv9)
  (try replace hbv9 := undN hbv9)
  obtain ⟨hbv9b, hxo16, hso16⟩ := box_step hbv9
  (try simp only [World.size_alloc] at hxo16 hso16)
  replace hoo8 := ownN_below hoo8 hbv9b (Nat.le_refl _)
  replace hoo9 := hoo9.below hbv9b
  replace hoo11 := ownN_below hoo11 hbv9b (Nat.le_refl _)
  replace hoo12 := hoo12.below hbv9b
  replace hoo14 := ownN_below hoo14 hbv9b (Nat.le_refl _)
  replace hoo15 := hoo15.below hbv9b
  replace hxo1 := blk_bel hxo1 hbv9b
  replace hxo2 := blk_bel hxo2 hbv9b
  replace hxo3 := blk_bel hxo3 hbv9b
  replace hxo13 := blk_bel hxo13 hbv9b
  replace HB := HB.trans (hbv9b.mono HB.size)
  have hszv9 := hbv9b.size
  have qo1_0 := blk_cell hxo1 0 rfl
  have qo1_1 := blk_cell hxo1 1 rfl
  have qo1_2 := blk_cell hxo1 2 rfl
  have hlo1 := blk_lt hxo1
  have qo2_0 := blk_cell hxo2 0 rfl
  have qo2_1 := blk_cell hxo2 1 rfl
  have qo2_2 := blk_cell hxo2 2 rfl
  have hlo2 := blk_lt hxo2
  have qo3_0 := blk_cell hxo3 0 rfl
  have qo3_1 := blk_cell hxo3 1 rfl
  have qo3_2 := blk_cell hxo3 2 rfl
  have hlo3 := blk_lt hxo3
  have qo13_0 := blk_cell hxo13 0 rfl
  have qo13_1 := blk_cell hxo13 1 rfl
  have qo13_2 := blk_cell hxo13 2 rfl
  have hlo13 := blk_lt hxo13
  have qo16_0 := blk_cell hxo16 0 rfl
  have qo16_1 := blk_cell hxo16 1 rfl
  have qo16_2 := blk_cell hxo16 2 rfl
  have hlo16 := blk_lt hxo16
  replace hrgo17 := Lib.hid (rg_lo hrgo17.out (lo := v8.heap.size + 1) (hi := v9.heap.size) (by first | exact Nat.le_refl _ | exact le_al1 | (simp; done) | (simp; omega)) (Nat.le_refl _))
  replace hrgo18 := Lib.hid (rg_lo hrgo18.out (lo := v8.heap.size + 1) (hi := v9.heap.size) (by first | exact Nat.le_refl _ | exact le_al1 | (simp; done) | (simp; omega)) (Nat.le_refl _))
  go_wp2_with fail
  refine (eqProof_same _ _ _ _ _ r1 ((own_rd hoo17).below (below_new _ _) (Nat.le_refl _)) (by omega) _ _ _ ((own_rd hoo8).below (below_new _ _) (Nat.le_refl _)) _ _ _ r2 (hoo18.rdl.below (below_new _ _) (Nat.le_refl _)) (by omega) _ _ _ (hoo9.rdl.below (below_new _ _) (Nat.le_refl _))).mono ?_
  rintro e v10 ⟨rfl, hbv10⟩
  clear qo1_0 qo1_1 qo1_2 qo2_0 qo2_1 qo2_2 qo3_0 qo3_1 qo3_2 qo13_0 qo13_1 qo13_2 qo16_0 qo16_1 qo16_2 hlo1 hlo2 hlo3 hlo13 hlo16
  (try replace hbv10 := und1 hbv10)
  (try replace hbv10 := undN hbv10)
  obtain ⟨hbv10b, hxo19, hso19⟩ := box_step hbv10
  (try simp only [World.size_alloc] at hxo19 hso19)
  replace hoo8 := ownN_below hoo8 hbv10b (Nat.le_refl _)
  replace hoo9 := hoo9.below hbv10b
  replace hoo11 := ownN_below hoo11 hbv10b (Nat.le_refl _)
  replace hoo12 := hoo12.below hbv10b
  replace hoo14 := ownN_below hoo14 hbv10b (Nat.le_refl _)
  replace hoo15 := hoo15.below hbv10b
  replace hoo17 := ownN_below hoo17 hbv10b (Nat.le_refl _)
  replace hoo18 := hoo18.below hbv10b
  replace hxo1 := blk_bel hxo1 hbv10b
  replace hxo2 := blk_bel hxo2 hbv10b
  replace hxo3 := blk_bel hxo3 hbv10b
  replace hxo13 := blk_bel hxo13 hbv10b
  replace hxo16 := blk_bel hxo16 hbv10b
  replace HB := HB.trans (hbv10b.mono HB.size)
  have hszv10 := hbv10b.size
  have qo1_0 := blk_cell hxo1 0 rfl
  have qo1_1 := blk_cell hxo1 1 rfl
  have qo1_2 := blk_cell hxo1 2 rfl
  have hlo1 := blk_lt hxo1
  have qo2_0 := blk_cell hxo2 0 rfl
  have qo2_1 := blk_cell hxo2 1 rfl
  have qo2_2 := blk_cell hxo2 2 rfl
  have hlo2 := blk_lt hxo2
  have qo3_0 := blk_cell hxo3 0 rfl
  have qo3_1 := blk_cell hxo3 1 rfl
  have qo3_2 := blk_cell hxo3 2 rfl
  have hlo3 := blk_lt hxo3
  have qo13_0 := blk_cell hxo13 0 rfl
  have qo13_1 := blk_cell hxo13 1 rfl
  have qo13_2 := blk_cell hxo13 2 rfl
  have hlo13 := blk_lt hxo13
  have qo16_0 := blk_cell hxo16 0 rfl
  have qo16_1 := blk_cell hxo16 1 rfl
  have qo16_2 := blk_cell hxo16 2 rfl
  have hlo16 := blk_lt hxo16
  have qo19_0 := blk_cell hxo19 0 rfl
  have qo19_1 := blk_cell hxo19 1 rfl
  have qo19_2 := blk_cell hxo19 2 rfl
  have hlo19 := blk_lt hxo19
  go_wp2_with fail
  go_region_held3 (fun w' => w'.cell? ⟨v7.heap.size, 0, none⟩ = some (.int .i64 x0_0) ∧ w'.cell? ⟨v7.heap.size, 1, none⟩ = some (.slice Ao11 no11 co11) ∧ w'.cell? ⟨v7.heap.size, 2, none⟩ = some (.slice Ao12 no12 co12) ∧ w'.cell? ⟨w.heap.size, 0, none⟩ = some (.int .i64 x0_0) ∧ w'.cell? ⟨w.heap.size, 1, none⟩ = some (.slice A0_1 n0_1 c0_1) ∧ w'.cell? ⟨w.heap.size, 2, none⟩ = some (.slice A0_2 n0_2 c0_2)) (first | exact ⟨qo13_0, qo13_1, qo13_2, qo1_0, qo1_1, qo1_2⟩ | go_keep) (first
    | (go_at_call 32
       refine (toProof_any _ x0_0 _ _ _ x0_1 (by have h := (hr0_1.below HB (Nat.le_refl _)); first | exact h | exact h.below (below_new _ _) (Nat.le_refl _) | exact h.below (below_drew1 (below_new _ _)) (Nat.le_refl _)) (by omega) _ _ _ x0_2 (by have h := (hr0_2.below HB (Nat.le_refl _)); first | exact h | exact h.below (below_new _ _) (Nat.le_refl _) | exact h.below (below_drew1 (below_new _ _)) (Nat.le_refl _)) (by omega)).mono ?_
       rintro e v11 ⟨Ao20, no20, co20, Ao21, no21, co21, Fo21, rfl, hoo20, hoo21, hFo21, hdo20o21, hbv11⟩
       have hno20 : no20 ≤ 1048576 := by have h1 := hoo20.1; simp only [List.length_map] at h1; have h2 := HXL0_1.out; omega
       have hno21 : no21 ≤ 1048576 := by have h1 := hoo21.len; have h2 := HXL0_2.out; omega
       have hrgo20 := Lib.hid (rg_row hoo20)
       have hrgo21 := Lib.hid hFo21; clear hFo21
       have HDo20o21 := Lib.hid hdo20o21; clear hdo20o21
       clear qo1_0 qo1_1 qo1_2 qo2_0 qo2_1 qo2_2 qo3_0 qo3_1 qo3_2 qo13_0 qo13_1 qo13_2 qo16_0 qo16_1 qo16_2 qo19_0 qo19_1 qo19_2 hlo1 hlo2 hlo3 hlo13 hlo16 hlo19
       (try replace hbv11 := und1 hbv11)
       (try replace hbv11 := undN hbv11)
       replace hoo8 := ownN_below hoo8 hbv11 (Nat.le_refl _)
       replace hoo9 := hoo9.below hbv11
       replace hoo11 := ownN_below hoo11 hbv11 (Nat.le_refl _)
       replace hoo12 := hoo12.below hbv11
       replace hoo14 := ownN_below hoo14 hbv11 (Nat.le_refl _)
       replace hoo15 := hoo15.below hbv11
       replace hoo17 := ownN_below hoo17 hbv11 (Nat.le_refl _)
       replace hoo18 := hoo18.below hbv11
       replace hxo1 := blk_bel hxo1 hbv11
       replace hxo2 := blk_bel hxo2 hbv11
       replace hxo3 := blk_bel hxo3 hbv11
       replace hxo13 := blk_bel hxo13 hbv11
       replace hxo16 := blk_bel hxo16 hbv11
       replace hxo19 := blk_bel hxo19 hbv11
       replace HB := HB.trans (hbv11.mono HB.size)
       have hszv11 := hbv11.size
       have qo1_0 := blk_cell hxo1 0 rfl
       have qo1_1 := blk_cell hxo1 1 rfl
       have qo1_2 := blk_cell hxo1 2 rfl
       have hlo1 := blk_lt hxo1
       have qo2_0 := blk_cell hxo2 0 rfl
       have qo2_1 := blk_cell hxo2 1 rfl
       have qo2_2 := blk_cell hxo2 2 rfl
       have hlo2 := blk_lt hxo2
       have qo3_0 := blk_cell hxo3 0 rfl
       have qo3_1 := blk_cell hxo3 1 rfl
       have qo3_2 := blk_cell hxo3 2 rfl
       have hlo3 := blk_lt hxo3
       have qo13_0 := blk_cell hxo13 0 rfl
       have qo13_1 := blk_cell hxo13 1 rfl
       have qo13_2 := blk_cell hxo13 2 rfl
       have hlo13 := blk_lt hxo13
       have qo16_0 := blk_cell hxo16 0 rfl
       have qo16_1 := blk_cell hxo16 1 rfl
       have qo16_2 := blk_cell hxo16 2 rfl
       have hlo16 := blk_lt hxo16
       have qo19_0 := blk_cell hxo19 0 rfl
       have qo19_1 := blk_cell hxo19 1 rfl
       have qo19_2 := blk_cell hxo19 2 rfl
       have hlo19 := blk_lt hxo19
       replace hrgo20 := Lib.hid (rg_lo hrgo20.out (lo := v10.heap.size + 0) (hi := v11.heap.size) (by first | exact Nat.le_refl _ | exact le_al1 | (simp; done) | (simp; omega)) (Nat.le_refl _))
       replace hrgo21 := Lib.hid (rg_lo hrgo21.out (lo := v10.heap.size + 0) (hi := v11.heap.size) (by first | exact Nat.le_refl _ | exact le_al1 | (simp; done) | (simp; omega)) (Nat.le_refl _))
       )
    | (go_at_call 21
       refine (eqProof_same _ _ _ _ _ x0_1 (by have h := (own_rd hoo11); first | exact h | exact h.below (below_new _ _) (Nat.le_refl _) | exact h.below (below_drew1 (below_new _ _)) (Nat.le_refl _)) (by omega) _ _ _ (by have h := (own_rd hoo20); first | exact h | exact h.below (below_new _ _) (Nat.le_refl _) | exact h.below (below_drew1 (below_new _ _)) (Nat.le_refl _)) _ _ _ x0_2 (by have h := hoo12.rdl; first | exact h | exact h.below (below_new _ _) (Nat.le_refl _) | exact h.below (below_drew1 (below_new _ _)) (Nat.le_refl _)) (by omega) _ _ _ (by have h := hoo21.rdl; first | exact h | exact h.below (below_new _ _) (Nat.le_refl _) | exact h.below (below_drew1 (below_new _ _)) (Nat.le_refl _))).mono ?_
       rintro e v12 ⟨rfl, hbv12⟩
       clear qo1_0 qo1_1 qo1_2 qo2_0 qo2_1 qo2_2 qo3_0 qo3_1 qo3_2 qo13_0 qo13_1 qo13_2 qo16_0 qo16_1 qo16_2 qo19_0 qo19_1 qo19_2 hlo1 hlo2 hlo3 hlo13 hlo16 hlo19
       (try replace hbv12 := und1 hbv12)
       (try replace hbv12 := undN hbv12)
       replace hoo8 := ownN_below hoo8 hbv12 (Nat.le_refl _)
       replace hoo9 := hoo9.below hbv12
       replace hoo11 := ownN_below hoo11 hbv12 (Nat.le_refl _)
       replace hoo12 := hoo12.below hbv12
       replace hoo14 := ownN_below hoo14 hbv12 (Nat.le_refl _)
       replace hoo15 := hoo15.below hbv12
       replace hoo17 := ownN_below hoo17 hbv12 (Nat.le_refl _)
       replace hoo18 := hoo18.below hbv12
       replace hoo20 := ownN_below hoo20 hbv12 (Nat.le_refl _)
       replace hoo21 := hoo21.below hbv12
       replace hxo1 := blk_bel hxo1 hbv12
       replace hxo2 := blk_bel hxo2 hbv12
       replace hxo3 := blk_bel hxo3 hbv12
       replace hxo13 := blk_bel hxo13 hbv12
       replace hxo16 := blk_bel hxo16 hbv12
       replace hxo19 := blk_bel hxo19 hbv12
       replace HB := HB.trans (hbv12.mono HB.size)
       have hszv12 := hbv12.size
       have qo1_0 := blk_cell hxo1 0 rfl
       have qo1_1 := blk_cell hxo1 1 rfl
       have qo1_2 := blk_cell hxo1 2 rfl
       have hlo1 := blk_lt hxo1
       have qo2_0 := blk_cell hxo2 0 rfl
       have qo2_1 := blk_cell hxo2 1 rfl
       have qo2_2 := blk_cell hxo2 2 rfl
       have hlo2 := blk_lt hxo2
       have qo3_0 := blk_cell hxo3 0 rfl
       have qo3_1 := blk_cell hxo3 1 rfl
       have qo3_2 := blk_cell hxo3 2 rfl
       have hlo3 := blk_lt hxo3
       have qo13_0 := blk_cell hxo13 0 rfl
       have qo13_1 := blk_cell hxo13 1 rfl
       have qo13_2 := blk_cell hxo13 2 rfl
       have hlo13 := blk_lt hxo13
       have qo16_0 := blk_cell hxo16 0 rfl
       have qo16_1 := blk_cell hxo16 1 rfl
       have qo16_2 := blk_cell hxo16 2 rfl
       have hlo16 := blk_lt hxo16
       have qo19_0 := blk_cell hxo19 0 rfl
       have qo19_1 := blk_cell hxo19 1 rfl
       have qo19_2 := blk_cell hxo19 2 rfl
       have hlo19 := blk_lt hxo19
       )
    )
  go_wp2_with fail
  go_region_held3 (fun w' => w'.cell? ⟨v8.heap.size, 0, none⟩ = some (.int .i64 x1_0) ∧ w'.cell? ⟨v8.heap.size, 1, none⟩ = some (.slice Ao14 no14 co14) ∧ w'.cell? ⟨v8.heap.size, 2, none⟩ = some (.slice Ao15 no15 co15) ∧ w'.cell? ⟨w.heap.size + 1, 0, none⟩ = some (.int .i64 x1_0) ∧ w'.cell? ⟨w.heap.size + 1, 1, none⟩ = some (.slice A1_1 n1_1 c1_1) ∧ w'.cell? ⟨w.heap.size + 1, 2, none⟩ = some (.slice A1_2 n1_2 c1_2)) (first | exact ⟨qo16_0, qo16_1, qo16_2, qo2_0, qo2_1, qo2_2⟩ | go_keep) (first
    | (go_at_call 32
       refine (toProof_any _ x1_0 _ _ _ x1_1 (by have h := (hr1_1.below HB (Nat.le_refl _)); first | exact h | exact h.below (below_new _ _) (Nat.le_refl _) | exact h.below (below_drew1 (below_new _ _)) (Nat.le_refl _)) (by omega) _ _ _ x1_2 (by have h := (hr1_2.below HB (Nat.le_refl _)); first | exact h | exact h.below (below_new _ _) (Nat.le_refl _) | exact h.below (below_drew1 (below_new _ _)) (Nat.le_refl _)) (by omega)).mono ?_
       rintro e v13 ⟨Ao22, no22, co22, Ao23, no23, co23, Fo23, rfl, hoo22, hoo23, hFo23, hdo22o23, hbv13⟩
       have hno22 : no22 ≤ 1048576 := by have h1 := hoo22.1; simp only [List.length_map] at h1; have h2 := HXL1_1.out; omega
       have hno23 : no23 ≤ 1048576 := by have h1 := hoo23.len; have h2 := HXL1_2.out; omega
       have hrgo22 := Lib.hid (rg_row hoo22)
       have hrgo23 := Lib.hid hFo23; clear hFo23
       have HDo22o23 := Lib.hid hdo22o23; clear hdo22o23
       clear qo1_0 qo1_1 qo1_2 qo2_0 qo2_1 qo2_2 qo3_0 qo3_1 qo3_2 qo13_0 qo13_1 qo13_2 qo16_0 qo16_1 qo16_2 qo19_0 qo19_1 qo19_2 hlo1 hlo2 hlo3 hlo13 hlo16 hlo19
       (try replace hbv13 := und1 hbv13)
       (try replace hbv13 := undN hbv13)
       replace hoo8 := ownN_below hoo8 hbv13 (Nat.le_refl _)
       replace hoo9 := hoo9.below hbv13
       replace hoo11 := ownN_below hoo11 hbv13 (Nat.le_refl _)
       replace hoo12 := hoo12.below hbv13
       replace hoo14 := ownN_below hoo14 hbv13 (Nat.le_refl _)
       replace hoo15 := hoo15.below hbv13
       replace hoo17 := ownN_below hoo17 hbv13 (Nat.le_refl _)
       replace hoo18 := hoo18.below hbv13
       replace hoo20 := ownN_below hoo20 hbv13 (Nat.le_refl _)
       replace hoo21 := hoo21.below hbv13
       replace hxo1 := blk_bel hxo1 hbv13
       replace hxo2 := blk_bel hxo2 hbv13
       replace hxo3 := blk_bel hxo3 hbv13
       replace hxo13 := blk_bel hxo13 hbv13
       replace hxo16 := blk_bel hxo16 hbv13
       replace hxo19 := blk_bel hxo19 hbv13
       replace HB := HB.trans (hbv13.mono HB.size)
       have hszv13 := hbv13.size
       have qo1_0 := blk_cell hxo1 0 rfl
       have qo1_1 := blk_cell hxo1 1 rfl
       have qo1_2 := blk_cell hxo1 2 rfl
       have hlo1 := blk_lt hxo1
       have qo2_0 := blk_cell hxo2 0 rfl
       have qo2_1 := blk_cell hxo2 1 rfl
       have qo2_2 := blk_cell hxo2 2 rfl
       have hlo2 := blk_lt hxo2
       have qo3_0 := blk_cell hxo3 0 rfl
       have qo3_1 := blk_cell hxo3 1 rfl
       have qo3_2 := blk_cell hxo3 2 rfl
       have hlo3 := blk_lt hxo3
       have qo13_0 := blk_cell hxo13 0 rfl
       have qo13_1 := blk_cell hxo13 1 rfl
       have qo13_2 := blk_cell hxo13 2 rfl
       have hlo13 := blk_lt hxo13
       have qo16_0 := blk_cell hxo16 0 rfl
       have qo16_1 := blk_cell hxo16 1 rfl
       have qo16_2 := blk_cell hxo16 2 rfl
       have hlo16 := blk_lt hxo16
       have qo19_0 := blk_cell hxo19 0 rfl
       have qo19_1 := blk_cell hxo19 1 rfl
       have qo19_2 := blk_cell hxo19 2 rfl
       have hlo19 := blk_lt hxo19
       replace hrgo22 := Lib.hid (rg_lo hrgo22.out (lo := v12.heap.size + 0) (hi := v13.heap.size) (by first | exact Nat.le_refl _ | exact le_al1 | (simp; done) | (simp; omega)) (Nat.le_refl _))
       replace hrgo23 := Lib.hid (rg_lo hrgo23.out (lo := v12.heap.size + 0) (hi := v13.heap.size) (by first | exact Nat.le_refl _ | exact le_al1 | (simp; done) | (simp; omega)) (Nat.le_refl _))
       )
    | (go_at_call 21
       refine (eqProof_same _ _ _ _ _ x1_1 (by have h := (own_rd hoo14); first | exact h | exact h.below (below_new _ _) (Nat.le_refl _) | exact h.below (below_drew1 (below_new _ _)) (Nat.le_refl _)) (by omega) _ _ _ (by have h := (own_rd hoo22); first | exact h | exact h.below (below_new _ _) (Nat.le_refl _) | exact h.below (below_drew1 (below_new _ _)) (Nat.le_refl _)) _ _ _ x1_2 (by have h := hoo15.rdl; first | exact h | exact h.below (below_new _ _) (Nat.le_refl _) | exact h.below (below_drew1 (below_new _ _)) (Nat.le_refl _)) (by omega) _ _ _ (by have h := hoo23.rdl; first | exact h | exact h.below (below_new _ _) (Nat.le_refl _) | exact h.below (below_drew1 (below_new _ _)) (Nat.le_refl _))).mono ?_
       rintro e v14 ⟨rfl, hbv14⟩
       clear qo1_0 qo1_1 qo1_2 qo2_0 qo2_1 qo2_2 qo3_0 qo3_1 qo3_2 qo13_0 qo13_1 qo13_2 qo16_0 qo16_1 qo16_2 qo19_0 qo19_1 qo19_2 hlo1 hlo2 hlo3 hlo13 hlo16 hlo19
       (try replace hbv14 := und1 hbv14)
       (try replace hbv14 := undN hbv14)
       replace hoo8 := ownN_below hoo8 hbv14 (Nat.le_refl _)
       replace hoo9 := hoo9.below hbv14
       replace hoo11 := ownN_below hoo11 hbv14 (Nat.le_refl _)
       replace hoo12 := hoo12.below hbv14
       replace hoo14 := ownN_below hoo14 hbv14 (Nat.le_refl _)
       replace hoo15 := hoo15.below hbv14
       replace hoo17 := ownN_below hoo17 hbv14 (Nat.le_refl _)
       replace hoo18 := hoo18.below hbv14
       replace hoo20 := ownN_below hoo20 hbv14 (Nat.le_refl _)
       replace hoo21 := hoo21.below hbv14
       replace hoo22 := ownN_below hoo22 hbv14 (Nat.le_refl _)
       replace hoo23 := hoo23.below hbv14
       replace hxo1 := blk_bel hxo1 hbv14
       replace hxo2 := blk_bel hxo2 hbv14
       replace hxo3 := blk_bel hxo3 hbv14
       replace hxo13 := blk_bel hxo13 hbv14
       replace hxo16 := blk_bel hxo16 hbv14
       replace hxo19 := blk_bel hxo19 hbv14
       replace HB := HB.trans (hbv14.mono HB.size)
       have hszv14 := hbv14.size
       have qo1_0 := blk_cell hxo1 0 rfl
       have qo1_1 := blk_cell hxo1 1 rfl
       have qo1_2 := blk_cell hxo1 2 rfl
       have hlo1 := blk_lt hxo1
       have qo2_0 := blk_cell hxo2 0 rfl
       have qo2_1 := blk_cell hxo2 1 rfl
       have qo2_2 := blk_cell hxo2 2 rfl
       have hlo2 := blk_lt hxo2
       have qo3_0 := blk_cell hxo3 0 rfl
       have qo3_1 := blk_cell hxo3 1 rfl
       have qo3_2 := blk_cell hxo3 2 rfl
       have hlo3 := blk_lt hxo3
       have qo13_0 := blk_cell hxo13 0 rfl
       have qo13_1 := blk_cell hxo13 1 rfl
       have qo13_2 := blk_cell hxo13 2 rfl
       have hlo13 := blk_lt hxo13
       have qo16_0 := blk_cell hxo16 0 rfl
       have qo16_1 := blk_cell hxo16 1 rfl
       have qo16_2 := blk_cell hxo16 2 rfl
       have hlo16 := blk_lt hxo16
       have qo19_0 := blk_cell hxo19 0 rfl
       have qo19_1 := blk_cell hxo19 1 rfl
       have qo19_2 := blk_cell hxo19 2 rfl
       have hlo19 := blk_lt hxo19
       )
    )
  go_wp2_with fail
  have hTv15o12 : tot x0_2 ≤ 1048576 := by have := HTX0_2.out; omega
  refine (markProof_any _ _ _ _ _ _ _ hoo11 (by omega) _ _ _ _ x0_2 hoo12 (by omega) (by omega) HDo11o12.out (1) (by omega) (by omega)).mono ?_
  rintro e v15 ⟨rfl, hmo11, hmo12, hCv15⟩
  clear qo1_0 qo1_1 qo1_2 qo2_0 qo2_1 qo2_2 qo3_0 qo3_1 qo3_2 qo13_0 qo13_1 qo13_2 qo16_0 qo16_1 qo16_2 qo19_0 qo19_1 qo19_2 hlo1 hlo2 hlo3 hlo13 hlo16 hlo19
  replace hoo8 := own_ch hoo8 hCv15 (fun k h1 h => h.elim (fun h2 => (by have := hrgo8.out k h1; have := hrgo11.out k h2; omega)) (fun h2 => (by have := hrgo8.out k h1; have := hrgo12.out k h2; omega)))
  replace hoo9 := hoo9.ch hCv15 (fun k h1 h => h.elim (fun h2 => (by have := hrgo9.out k h1; have := hrgo11.out k h2; omega)) (fun h2 => (by have := hrgo9.out k h1; have := hrgo12.out k h2; omega)))
  replace hoo14 := own_ch hoo14 hCv15 (fun k h1 h => h.elim (fun h2 => (by have := hrgo14.out k h1; have := hrgo11.out k h2; omega)) (fun h2 => (by have := hrgo14.out k h1; have := hrgo12.out k h2; omega)))
  replace hoo15 := hoo15.ch hCv15 (fun k h1 h => h.elim (fun h2 => (by have := hrgo15.out k h1; have := hrgo11.out k h2; omega)) (fun h2 => (by have := hrgo15.out k h1; have := hrgo12.out k h2; omega)))
  replace hoo17 := own_ch hoo17 hCv15 (fun k h1 h => h.elim (fun h2 => (by have := hrgo17.out k h1; have := hrgo11.out k h2; omega)) (fun h2 => (by have := hrgo17.out k h1; have := hrgo12.out k h2; omega)))
  replace hoo18 := hoo18.ch hCv15 (fun k h1 h => h.elim (fun h2 => (by have := hrgo18.out k h1; have := hrgo11.out k h2; omega)) (fun h2 => (by have := hrgo18.out k h1; have := hrgo12.out k h2; omega)))
  replace hoo20 := own_ch hoo20 hCv15 (fun k h1 h => h.elim (fun h2 => (by have := hrgo20.out k h1; have := hrgo11.out k h2; omega)) (fun h2 => (by have := hrgo20.out k h1; have := hrgo12.out k h2; omega)))
  replace hoo21 := hoo21.ch hCv15 (fun k h1 h => h.elim (fun h2 => (by have := hrgo21.out k h1; have := hrgo11.out k h2; omega)) (fun h2 => (by have := hrgo21.out k h1; have := hrgo12.out k h2; omega)))
  replace hoo22 := own_ch hoo22 hCv15 (fun k h1 h => h.elim (fun h2 => (by have := hrgo22.out k h1; have := hrgo11.out k h2; omega)) (fun h2 => (by have := hrgo22.out k h1; have := hrgo12.out k h2; omega)))
  replace hoo23 := hoo23.ch hCv15 (fun k h1 h => h.elim (fun h2 => (by have := hrgo23.out k h1; have := hrgo11.out k h2; omega)) (fun h2 => (by have := hrgo23.out k h1; have := hrgo12.out k h2; omega)))
  replace hxo1 := blk_ch hxo1 hCv15 (fun h => h.elim (fun h => by have := hrgo11.out _ h; omega) (fun h => by have := hrgo12.out _ h; omega))
  replace hxo2 := blk_ch hxo2 hCv15 (fun h => h.elim (fun h => by have := hrgo11.out _ h; omega) (fun h => by have := hrgo12.out _ h; omega))
  replace hxo3 := blk_ch hxo3 hCv15 (fun h => h.elim (fun h => by have := hrgo11.out _ h; omega) (fun h => by have := hrgo12.out _ h; omega))
  replace hxo13 := blk_ch hxo13 hCv15 (fun h => h.elim (fun h => by have := hrgo11.out _ h; omega) (fun h => by have := hrgo12.out _ h; omega))
  replace hxo16 := blk_ch hxo16 hCv15 (fun h => h.elim (fun h => by have := hrgo11.out _ h; omega) (fun h => by have := hrgo12.out _ h; omega))
  replace hxo19 := blk_ch hxo19 hCv15 (fun h => h.elim (fun h => by have := hrgo11.out _ h; omega) (fun h => by have := hrgo12.out _ h; omega))
  replace HB := below_ch HB hCv15 (fun k h => h.elim (fun h => by have := hrgo11.out k h; omega) (fun h => by have := hrgo12.out k h; omega)) HB.size
  replace hoo11 := hmo11
  replace hoo12 := hmo12
  have hszv15 := hCv15.size
  have qo1_0 := blk_cell hxo1 0 rfl
  have qo1_1 := blk_cell hxo1 1 rfl
  have qo1_2 := blk_cell hxo1 2 rfl
  have hlo1 := blk_lt hxo1
  have qo2_0 := blk_cell hxo2 0 rfl
  have qo2_1 := blk_cell hxo2 1 rfl
  have qo2_2 := blk_cell hxo2 2 rfl
  have hlo2 := blk_lt hxo2
  have qo3_0 := blk_cell hxo3 0 rfl
  have qo3_1 := blk_cell hxo3 1 rfl
  have qo3_2 := blk_cell hxo3 2 rfl
  have hlo3 := blk_lt hxo3
  have qo13_0 := blk_cell hxo13 0 rfl
  have qo13_1 := blk_cell hxo13 1 rfl
  have qo13_2 := blk_cell hxo13 2 rfl
  have hlo13 := blk_lt hxo13
  have qo16_0 := blk_cell hxo16 0 rfl
  have qo16_1 := blk_cell hxo16 1 rfl
  have qo16_2 := blk_cell hxo16 2 rfl
  have hlo16 := blk_lt hxo16
  have qo19_0 := blk_cell hxo19 0 rfl
  have qo19_1 := blk_cell hxo19 1 rfl
  have qo19_2 := blk_cell hxo19 2 rfl
  have hlo19 := blk_lt hxo19
  go_wp2_with fail
  have hTv16o15 : tot x1_2 ≤ 1048576 := by have := HTX1_2.out; omega
  refine (markProof_any _ _ _ _ _ _ _ hoo14 (by omega) _ _ _ _ x1_2 hoo15 (by omega) (by omega) HDo14o15.out (1 + (no11 : Int) + (tot x0_2 : Int)) (by omega) (by omega)).mono ?_
  rintro e v16 ⟨rfl, hmo14, hmo15, hCv16⟩
  clear qo1_0 qo1_1 qo1_2 qo2_0 qo2_1 qo2_2 qo3_0 qo3_1 qo3_2 qo13_0 qo13_1 qo13_2 qo16_0 qo16_1 qo16_2 qo19_0 qo19_1 qo19_2 hlo1 hlo2 hlo3 hlo13 hlo16 hlo19
  replace hoo8 := own_ch hoo8 hCv16 (fun k h1 h => h.elim (fun h2 => (by have := hrgo8.out k h1; have := hrgo14.out k h2; omega)) (fun h2 => (by have := hrgo8.out k h1; have := hrgo15.out k h2; omega)))
  replace hoo9 := hoo9.ch hCv16 (fun k h1 h => h.elim (fun h2 => (by have := hrgo9.out k h1; have := hrgo14.out k h2; omega)) (fun h2 => (by have := hrgo9.out k h1; have := hrgo15.out k h2; omega)))
  replace hoo11 := own_ch hoo11 hCv16 (fun k h1 h => h.elim (fun h2 => (by have := hrgo11.out k h1; have := hrgo14.out k h2; omega)) (fun h2 => (by have := hrgo11.out k h1; have := hrgo15.out k h2; omega)))
  replace hoo12 := hoo12.ch hCv16 (fun k h1 h => h.elim (fun h2 => (by have := hrgo12.out k h1; have := hrgo14.out k h2; omega)) (fun h2 => (by have := hrgo12.out k h1; have := hrgo15.out k h2; omega)))
  replace hoo17 := own_ch hoo17 hCv16 (fun k h1 h => h.elim (fun h2 => (by have := hrgo17.out k h1; have := hrgo14.out k h2; omega)) (fun h2 => (by have := hrgo17.out k h1; have := hrgo15.out k h2; omega)))
  replace hoo18 := hoo18.ch hCv16 (fun k h1 h => h.elim (fun h2 => (by have := hrgo18.out k h1; have := hrgo14.out k h2; omega)) (fun h2 => (by have := hrgo18.out k h1; have := hrgo15.out k h2; omega)))
  replace hoo20 := own_ch hoo20 hCv16 (fun k h1 h => h.elim (fun h2 => (by have := hrgo20.out k h1; have := hrgo14.out k h2; omega)) (fun h2 => (by have := hrgo20.out k h1; have := hrgo15.out k h2; omega)))
  replace hoo21 := hoo21.ch hCv16 (fun k h1 h => h.elim (fun h2 => (by have := hrgo21.out k h1; have := hrgo14.out k h2; omega)) (fun h2 => (by have := hrgo21.out k h1; have := hrgo15.out k h2; omega)))
  replace hoo22 := own_ch hoo22 hCv16 (fun k h1 h => h.elim (fun h2 => (by have := hrgo22.out k h1; have := hrgo14.out k h2; omega)) (fun h2 => (by have := hrgo22.out k h1; have := hrgo15.out k h2; omega)))
  replace hoo23 := hoo23.ch hCv16 (fun k h1 h => h.elim (fun h2 => (by have := hrgo23.out k h1; have := hrgo14.out k h2; omega)) (fun h2 => (by have := hrgo23.out k h1; have := hrgo15.out k h2; omega)))
  replace hxo1 := blk_ch hxo1 hCv16 (fun h => h.elim (fun h => by have := hrgo14.out _ h; omega) (fun h => by have := hrgo15.out _ h; omega))
  replace hxo2 := blk_ch hxo2 hCv16 (fun h => h.elim (fun h => by have := hrgo14.out _ h; omega) (fun h => by have := hrgo15.out _ h; omega))
  replace hxo3 := blk_ch hxo3 hCv16 (fun h => h.elim (fun h => by have := hrgo14.out _ h; omega) (fun h => by have := hrgo15.out _ h; omega))
  replace hxo13 := blk_ch hxo13 hCv16 (fun h => h.elim (fun h => by have := hrgo14.out _ h; omega) (fun h => by have := hrgo15.out _ h; omega))
  replace hxo16 := blk_ch hxo16 hCv16 (fun h => h.elim (fun h => by have := hrgo14.out _ h; omega) (fun h => by have := hrgo15.out _ h; omega))
  replace hxo19 := blk_ch hxo19 hCv16 (fun h => h.elim (fun h => by have := hrgo14.out _ h; omega) (fun h => by have := hrgo15.out _ h; omega))
  replace HB := below_ch HB hCv16 (fun k h => h.elim (fun h => by have := hrgo14.out k h; omega) (fun h => by have := hrgo15.out k h; omega)) HB.size
  replace hoo14 := hmo14
  replace hoo15 := hmo15
  have hszv16 := hCv16.size
  have qo1_0 := blk_cell hxo1 0 rfl
  have qo1_1 := blk_cell hxo1 1 rfl
  have qo1_2 := blk_cell hxo1 2 rfl
  have hlo1 := blk_lt hxo1
  have qo2_0 := blk_cell hxo2 0 rfl
  have qo2_1 := blk_cell hxo2 1 rfl
  have qo2_2 := blk_cell hxo2 2 rfl
  have hlo2 := blk_lt hxo2
  have qo3_0 := blk_cell hxo3 0 rfl
  have qo3_1 := blk_cell hxo3 1 rfl
  have qo3_2 := blk_cell hxo3 2 rfl
  have hlo3 := blk_lt hxo3
  have qo13_0 := blk_cell hxo13 0 rfl
  have qo13_1 := blk_cell hxo13 1 rfl
  have qo13_2 := blk_cell hxo13 2 rfl
  have hlo13 := blk_lt hxo13
  have qo16_0 := blk_cell hxo16 0 rfl
  have qo16_1 := blk_cell hxo16 1 rfl
  have qo16_2 := blk_cell hxo16 2 rfl
  have hlo16 := blk_lt hxo16
  have qo19_0 := blk_cell hxo19 0 rfl
  have qo19_1 := blk_cell hxo19 1 rfl
  have qo19_2 := blk_cell hxo19 2 rfl
  have hlo19 := blk_lt hxo19
  go_wp2_with fail
  refine (eqProof_same _ _ _ _ _ r1 (own_rd hoo17) (by omega) _ _ _ (own_rd hoo8) _ _ _ r2 hoo18.rdl (by omega) _ _ _ hoo9.rdl).mono ?_
  rintro e v17 ⟨rfl, hbv17⟩
  clear qo1_0 qo1_1 qo1_2 qo2_0 qo2_1 qo2_2 qo3_0 qo3_1 qo3_2 qo13_0 qo13_1 qo13_2 qo16_0 qo16_1 qo16_2 qo19_0 qo19_1 qo19_2 hlo1 hlo2 hlo3 hlo13 hlo16 hlo19
  (try replace hbv17 := und1 hbv17)
  (try replace hbv17 := undN hbv17)
  replace hoo8 := ownN_below hoo8 hbv17 (Nat.le_refl _)
  replace hoo9 := hoo9.below hbv17
  replace hoo11 := ownN_below hoo11 hbv17 (Nat.le_refl _)
  replace hoo12 := hoo12.below hbv17
  replace hoo14 := ownN_below hoo14 hbv17 (Nat.le_refl _)
  replace hoo15 := hoo15.below hbv17
  replace hoo17 := ownN_below hoo17 hbv17 (Nat.le_refl _)
  replace hoo18 := hoo18.below hbv17
  replace hoo20 := ownN_below hoo20 hbv17 (Nat.le_refl _)
  replace hoo21 := hoo21.below hbv17
  replace hoo22 := ownN_below hoo22 hbv17 (Nat.le_refl _)
  replace hoo23 := hoo23.below hbv17
  replace hxo1 := blk_bel hxo1 hbv17
  replace hxo2 := blk_bel hxo2 hbv17
  replace hxo3 := blk_bel hxo3 hbv17
  replace hxo13 := blk_bel hxo13 hbv17
  replace hxo16 := blk_bel hxo16 hbv17
  replace hxo19 := blk_bel hxo19 hbv17
  replace HB := HB.trans (hbv17.mono HB.size)
  have hszv17 := hbv17.size
  have qo1_0 := blk_cell hxo1 0 rfl
  have qo1_1 := blk_cell hxo1 1 rfl
  have qo1_2 := blk_cell hxo1 2 rfl
  have hlo1 := blk_lt hxo1
  have qo2_0 := blk_cell hxo2 0 rfl
  have qo2_1 := blk_cell hxo2 1 rfl
  have qo2_2 := blk_cell hxo2 2 rfl
  have hlo2 := blk_lt hxo2
  have qo3_0 := blk_cell hxo3 0 rfl
  have qo3_1 := blk_cell hxo3 1 rfl
  have qo3_2 := blk_cell hxo3 2 rfl
  have hlo3 := blk_lt hxo3
  have qo13_0 := blk_cell hxo13 0 rfl
  have qo13_1 := blk_cell hxo13 1 rfl
  have qo13_2 := blk_cell hxo13 2 rfl
  have hlo13 := blk_lt hxo13
  have qo16_0 := blk_cell hxo16 0 rfl
  have qo16_1 := blk_cell hxo16 1 rfl
  have qo16_2 := blk_cell hxo16 2 rfl
  have hlo16 := blk_lt hxo16
  have qo19_0 := blk_cell hxo19 0 rfl
  have qo19_1 := blk_cell hxo19 1 rfl
  have qo19_2 := blk_cell hxo19 2 rfl
  have hlo19 := blk_lt hxo19
  go_wp2_with fail
  have hTv18o18 : tot r2 ≤ 1048576 := by have := HRLR2.out.1; omega
  refine (markProof_any _ _ _ _ _ _ _ hoo17 (by omega) _ _ _ _ r2 hoo18 (by omega) (by omega) HDo17o18.out (1) (by omega) (by omega)).mono ?_
  rintro e v18 ⟨rfl, hmo17, hmo18, hCv18⟩
  clear qo1_0 qo1_1 qo1_2 qo2_0 qo2_1 qo2_2 qo3_0 qo3_1 qo3_2 qo13_0 qo13_1 qo13_2 qo16_0 qo16_1 qo16_2 qo19_0 qo19_1 qo19_2 hlo1 hlo2 hlo3 hlo13 hlo16 hlo19
  replace hoo8 := own_ch hoo8 hCv18 (fun k h1 h => h.elim (fun h2 => (by have := hrgo8.out k h1; have := hrgo17.out k h2; omega)) (fun h2 => (by have := hrgo8.out k h1; have := hrgo18.out k h2; omega)))
  replace hoo9 := hoo9.ch hCv18 (fun k h1 h => h.elim (fun h2 => (by have := hrgo9.out k h1; have := hrgo17.out k h2; omega)) (fun h2 => (by have := hrgo9.out k h1; have := hrgo18.out k h2; omega)))
  replace hoo11 := own_ch hoo11 hCv18 (fun k h1 h => h.elim (fun h2 => (by have := hrgo11.out k h1; have := hrgo17.out k h2; omega)) (fun h2 => (by have := hrgo11.out k h1; have := hrgo18.out k h2; omega)))
  replace hoo12 := hoo12.ch hCv18 (fun k h1 h => h.elim (fun h2 => (by have := hrgo12.out k h1; have := hrgo17.out k h2; omega)) (fun h2 => (by have := hrgo12.out k h1; have := hrgo18.out k h2; omega)))
  replace hoo14 := own_ch hoo14 hCv18 (fun k h1 h => h.elim (fun h2 => (by have := hrgo14.out k h1; have := hrgo17.out k h2; omega)) (fun h2 => (by have := hrgo14.out k h1; have := hrgo18.out k h2; omega)))
  replace hoo15 := hoo15.ch hCv18 (fun k h1 h => h.elim (fun h2 => (by have := hrgo15.out k h1; have := hrgo17.out k h2; omega)) (fun h2 => (by have := hrgo15.out k h1; have := hrgo18.out k h2; omega)))
  replace hoo20 := own_ch hoo20 hCv18 (fun k h1 h => h.elim (fun h2 => (by have := hrgo20.out k h1; have := hrgo17.out k h2; omega)) (fun h2 => (by have := hrgo20.out k h1; have := hrgo18.out k h2; omega)))
  replace hoo21 := hoo21.ch hCv18 (fun k h1 h => h.elim (fun h2 => (by have := hrgo21.out k h1; have := hrgo17.out k h2; omega)) (fun h2 => (by have := hrgo21.out k h1; have := hrgo18.out k h2; omega)))
  replace hoo22 := own_ch hoo22 hCv18 (fun k h1 h => h.elim (fun h2 => (by have := hrgo22.out k h1; have := hrgo17.out k h2; omega)) (fun h2 => (by have := hrgo22.out k h1; have := hrgo18.out k h2; omega)))
  replace hoo23 := hoo23.ch hCv18 (fun k h1 h => h.elim (fun h2 => (by have := hrgo23.out k h1; have := hrgo17.out k h2; omega)) (fun h2 => (by have := hrgo23.out k h1; have := hrgo18.out k h2; omega)))
  replace hxo1 := blk_ch hxo1 hCv18 (fun h => h.elim (fun h => by have := hrgo17.out _ h; omega) (fun h => by have := hrgo18.out _ h; omega))
  replace hxo2 := blk_ch hxo2 hCv18 (fun h => h.elim (fun h => by have := hrgo17.out _ h; omega) (fun h => by have := hrgo18.out _ h; omega))
  replace hxo3 := blk_ch hxo3 hCv18 (fun h => h.elim (fun h => by have := hrgo17.out _ h; omega) (fun h => by have := hrgo18.out _ h; omega))
  replace hxo13 := blk_ch hxo13 hCv18 (fun h => h.elim (fun h => by have := hrgo17.out _ h; omega) (fun h => by have := hrgo18.out _ h; omega))
  replace hxo16 := blk_ch hxo16 hCv18 (fun h => h.elim (fun h => by have := hrgo17.out _ h; omega) (fun h => by have := hrgo18.out _ h; omega))
  replace hxo19 := blk_ch hxo19 hCv18 (fun h => h.elim (fun h => by have := hrgo17.out _ h; omega) (fun h => by have := hrgo18.out _ h; omega))
  replace HB := below_ch HB hCv18 (fun k h => h.elim (fun h => by have := hrgo17.out k h; omega) (fun h => by have := hrgo18.out k h; omega)) HB.size
  replace hoo17 := hmo17
  replace hoo18 := hmo18
  have hszv18 := hCv18.size
  have qo1_0 := blk_cell hxo1 0 rfl
  have qo1_1 := blk_cell hxo1 1 rfl
  have qo1_2 := blk_cell hxo1 2 rfl
  have hlo1 := blk_lt hxo1
  have qo2_0 := blk_cell hxo2 0 rfl
  have qo2_1 := blk_cell hxo2 1 rfl
  have qo2_2 := blk_cell hxo2 2 rfl
  have hlo2 := blk_lt hxo2
  have qo3_0 := blk_cell hxo3 0 rfl
  have qo3_1 := blk_cell hxo3 1 rfl
  have qo3_2 := blk_cell hxo3 2 rfl
  have hlo3 := blk_lt hxo3
  have qo13_0 := blk_cell hxo13 0 rfl
  have qo13_1 := blk_cell hxo13 1 rfl
  have qo13_2 := blk_cell hxo13 2 rfl
  have hlo13 := blk_lt hxo13
  have qo16_0 := blk_cell hxo16 0 rfl
  have qo16_1 := blk_cell hxo16 1 rfl
  have qo16_2 := blk_cell hxo16 2 rfl
  have hlo16 := blk_lt hxo16
  have qo19_0 := blk_cell hxo19 0 rfl
  have qo19_1 := blk_cell hxo19 1 rfl
  have qo19_2 := blk_cell hxo19 2 rfl
  have hlo19 := blk_lt hxo19
  go_wp2_with fail
  have hTv19o18 : tot r2 ≤ 1048576 := by have := HRLR2.out.1; omega
  refine (heldProof_any _ _ _ _ _ _ _ _ r2 (1) (own_rd hoo17) (by omega) hoo18.rdl (by omega) (by omega) (by omega) (by omega)).mono ?_
  rintro e v19 ⟨rfl, hbv19⟩
  clear qo1_0 qo1_1 qo1_2 qo2_0 qo2_1 qo2_2 qo3_0 qo3_1 qo3_2 qo13_0 qo13_1 qo13_2 qo16_0 qo16_1 qo16_2 qo19_0 qo19_1 qo19_2 hlo1 hlo2 hlo3 hlo13 hlo16 hlo19
  (try replace hbv19 := und1 hbv19)
  (try replace hbv19 := undN hbv19)
  replace hoo8 := ownN_below hoo8 hbv19 (Nat.le_refl _)
  replace hoo9 := hoo9.below hbv19
  replace hoo11 := ownN_below hoo11 hbv19 (Nat.le_refl _)
  replace hoo12 := hoo12.below hbv19
  replace hoo14 := ownN_below hoo14 hbv19 (Nat.le_refl _)
  replace hoo15 := hoo15.below hbv19
  replace hoo17 := ownN_below hoo17 hbv19 (Nat.le_refl _)
  replace hoo18 := hoo18.below hbv19
  replace hoo20 := ownN_below hoo20 hbv19 (Nat.le_refl _)
  replace hoo21 := hoo21.below hbv19
  replace hoo22 := ownN_below hoo22 hbv19 (Nat.le_refl _)
  replace hoo23 := hoo23.below hbv19
  replace hxo1 := blk_bel hxo1 hbv19
  replace hxo2 := blk_bel hxo2 hbv19
  replace hxo3 := blk_bel hxo3 hbv19
  replace hxo13 := blk_bel hxo13 hbv19
  replace hxo16 := blk_bel hxo16 hbv19
  replace hxo19 := blk_bel hxo19 hbv19
  replace HB := HB.trans (hbv19.mono HB.size)
  have hszv19 := hbv19.size
  have qo1_0 := blk_cell hxo1 0 rfl
  have qo1_1 := blk_cell hxo1 1 rfl
  have qo1_2 := blk_cell hxo1 2 rfl
  have hlo1 := blk_lt hxo1
  have qo2_0 := blk_cell hxo2 0 rfl
  have qo2_1 := blk_cell hxo2 1 rfl
  have qo2_2 := blk_cell hxo2 2 rfl
  have hlo2 := blk_lt hxo2
  have qo3_0 := blk_cell hxo3 0 rfl
  have qo3_1 := blk_cell hxo3 1 rfl
  have qo3_2 := blk_cell hxo3 2 rfl
  have hlo3 := blk_lt hxo3
  have qo13_0 := blk_cell hxo13 0 rfl
  have qo13_1 := blk_cell hxo13 1 rfl
  have qo13_2 := blk_cell hxo13 2 rfl
  have hlo13 := blk_lt hxo13
  have qo16_0 := blk_cell hxo16 0 rfl
  have qo16_1 := blk_cell hxo16 1 rfl
  have qo16_2 := blk_cell hxo16 2 rfl
  have hlo16 := blk_lt hxo16
  have qo19_0 := blk_cell hxo19 0 rfl
  have qo19_1 := blk_cell hxo19 1 rfl
  have qo19_2 := blk_cell hxo19 2 rfl
  have hlo19 := blk_lt hxo19
  go_upto_region 31 with fail
  go_cut [15, 16] (fun s15 s16 wx => ∃ (go24 : Nat) (Ao29 : Option Addr) (no29 : Nat) (co29 : Nat) (Ao30 : Option Addr) (no30 : Nat) (co30 : Nat) (Fo30 : Nat → Prop), s15 = .pointer (some ⟨go24, 0, none⟩) ∧ s16 = .int .i64 r3 ∧ wx.heap[go24]? = some (.cells #[.int .i64 r0, .slice Ao29 no29 co29, .slice Ao30 no30 co30] 48 (0, 0)) ∧ v19.heap.size ≤ go24 ∧ wx.ownsRow v19.heap.size 2 1 (.slice Ao29 no29 co29) no29 (ints r1) ∧ (∀ k, Fo (.slice Ao29 no29 co29) k → v19.heap.size ≤ k ∧ k < wx.heap.size) ∧ (¬ Fo (.slice Ao29 no29 co29) go24) ∧ OwnP wx Fo30 Ao30 no30 co30 r2 ∧ (∀ k, Fo30 k → v19.heap.size ≤ k ∧ k < wx.heap.size) ∧ (¬ Fo30 go24) ∧ (∀ k, Fo (.slice Ao29 no29 co29) k → Fo30 k → False) ∧ Below v19.heap.size v19 wx)
  case first =>
    have HC := Below.refl v19.heap.size v19
    go_region_held3 (fun w' => w'.cell? ⟨w.heap.size, 0, none⟩ = some (.int .i64 x0_0) ∧ w'.cell? ⟨w.heap.size, 1, none⟩ = some (.slice A0_1 n0_1 c0_1) ∧ w'.cell? ⟨w.heap.size, 2, none⟩ = some (.slice A0_2 n0_2 c0_2) ∧ w'.cell? ⟨w.heap.size + 1, 0, none⟩ = some (.int .i64 x1_0) ∧ w'.cell? ⟨w.heap.size + 1, 1, none⟩ = some (.slice A1_1 n1_1 c1_1) ∧ w'.cell? ⟨w.heap.size + 1, 2, none⟩ = some (.slice A1_2 n1_2 c1_2)) (first | exact ⟨qo1_0, qo1_1, qo1_2, qo2_0, qo2_1, qo2_2⟩ | (refine ⟨?_, ?_, ?_, ?_, ?_, ?_⟩ <;> (repeat (refine cell_far ?_ (by omega))) <;> assumption) | go_keep) (first
      | (go_at_call 33
         refine (HI.out _ _ _ _ (by have h := (own_rd hoo25); first | exact h | exact h.below (below_new _ _) (Nat.le_refl _) | exact h.below (below_drew1 (below_new _ _)) (Nat.le_refl _)) (by omega) (ownN_cap hoo25) _ _ _ (by have h := hoo26.rdl; first | exact h | exact h.below (below_new _ _) (Nat.le_refl _) | exact h.below (below_drew1 (below_new _ _)) (Nat.le_refl _)) (by omega) hoo26.cap _ _ _ (by have h := (own_rd hoo27); first | exact h | exact h.below (below_new _ _) (Nat.le_refl _) | exact h.below (below_drew1 (below_new _ _)) (Nat.le_refl _)) (by omega) (ownN_cap hoo27) _ _ _ (by have h := hoo28.rdl; first | exact h | exact h.below (below_new _ _) (Nat.le_refl _) | exact h.below (below_drew1 (below_new _ _)) (Nat.le_refl _)) (by omega) hoo28.cap).mono ?_
         rintro e v22 ⟨Ao29, no29, co29, Ao30, no30, co30, Fo30, rfl, hoo29, hoo30, hFo30, hdo29o30, hbv22⟩
         have hno29 : no29 ≤ 1000000 := by have h1 := hoo29.1; simp only [List.length_map] at h1; have h2 := HRLR1.out; omega
         have hno30 : no30 ≤ 1000000 := by have h1 := hoo30.len; have h2 := HRLR2.out; omega
         have hrgo29 := Lib.hid (rg_row hoo29)
         have hrgo30 := Lib.hid hFo30; clear hFo30
         have HDo29o30 := Lib.hid hdo29o30; clear hdo29o30
         clear qo1_0 qo1_1 qo1_2 qo2_0 qo2_1 qo2_2 hlo1 hlo2
         (try replace hbv22 := und1 hbv22)
         (try replace hbv22 := undN hbv22)
         (try clear zo24_0 fo24_0 zo24_1 fo24_1 zo24_2 fo24_2)
         (try (have hq := box_step hbv22; clear hbv22; obtain ⟨hbv22, hxo24, hso24⟩ := hq))
         (try replace hxo24 := blk_bel hxo24 hbv22)
         (try have zo24_0 := blk_cell hxo24 0 rfl)
         (try have fo24_0 := blk_free hxo24 0)
         (try have zo24_1 := blk_cell hxo24 1 rfl)
         (try have fo24_1 := blk_free hxo24 1)
         (try have zo24_2 := blk_cell hxo24 2 rfl)
         (try have fo24_2 := blk_free hxo24 2)
         (try have hlo24 := blk_lt hxo24)
         replace HC := HC.trans (hbv22.mono HC.size)
         replace hoo25 := ownN_below hoo25 hbv22 (Nat.le_refl _)
         replace hoo26 := hoo26.below hbv22
         replace hoo27 := ownN_below hoo27 hbv22 (Nat.le_refl _)
         replace hoo28 := hoo28.below hbv22
         replace hxo1 := blk_bel hxo1 hbv22
         replace hxo2 := blk_bel hxo2 hbv22
         replace HB := HB.trans (hbv22.mono HB.size)
         have hszv22 := hbv22.size
         have qo1_0 := blk_cell hxo1 0 rfl
         have qo1_1 := blk_cell hxo1 1 rfl
         have qo1_2 := blk_cell hxo1 2 rfl
         have hlo1 := blk_lt hxo1
         have qo2_0 := blk_cell hxo2 0 rfl
         have qo2_1 := blk_cell hxo2 1 rfl
         have qo2_2 := blk_cell hxo2 2 rfl
         have hlo2 := blk_lt hxo2
         have hrgzo29 := hrgo29
         have hrgzo30 := hrgo30
         replace hrgo29 := Lib.hid (rg_lo hrgo29.out (lo := v21.heap.size + 0) (hi := v22.heap.size) (by first | exact Nat.le_refl _ | exact le_al1 | (simp; done) | (simp; omega)) (Nat.le_refl _))
         replace hrgo30 := Lib.hid (rg_lo hrgo30.out (lo := v21.heap.size + 0) (hi := v22.heap.size) (by first | exact Nat.le_refl _ | exact le_al1 | (simp; done) | (simp; omega)) (Nat.le_refl _))
         )
      | (have hqg := hoo25
         clear hqg
         go_at_call 32
         refine (toProof_any _ x1_0 _ _ _ x1_1 (by have h := (hr1_1.below HB (Nat.le_refl _)); first | exact h | exact h.below (below_new _ _) (Nat.le_refl _) | exact h.below (below_drew1 (below_new _ _)) (Nat.le_refl _)) (by omega) _ _ _ x1_2 (by have h := (hr1_2.below HB (Nat.le_refl _)); first | exact h | exact h.below (below_new _ _) (Nat.le_refl _) | exact h.below (below_drew1 (below_new _ _)) (Nat.le_refl _)) (by omega)).mono ?_
         rintro e v21 ⟨Ao27, no27, co27, Ao28, no28, co28, Fo28, rfl, hoo27, hoo28, hFo28, hdo27o28, hbv21⟩
         have hno27 : no27 ≤ 1048576 := by have h1 := hoo27.1; simp only [List.length_map] at h1; have h2 := HXL1_1.out; omega
         have hno28 : no28 ≤ 1048576 := by have h1 := hoo28.len; have h2 := HXL1_2.out; omega
         have hrgo27 := Lib.hid (rg_row hoo27)
         have hrgo28 := Lib.hid hFo28; clear hFo28
         have HDo27o28 := Lib.hid hdo27o28; clear hdo27o28
         clear qo1_0 qo1_1 qo1_2 qo2_0 qo2_1 qo2_2 hlo1 hlo2
         (try replace hbv21 := und1 hbv21)
         (try replace hbv21 := undN hbv21)
         (try clear zo24_0 fo24_0 zo24_1 fo24_1 zo24_2 fo24_2)
         (try (have hq := box_step hbv21; clear hbv21; obtain ⟨hbv21, hxo24, hso24⟩ := hq))
         (try replace hxo24 := blk_bel hxo24 hbv21)
         (try have zo24_0 := blk_cell hxo24 0 rfl)
         (try have fo24_0 := blk_free hxo24 0)
         (try have zo24_1 := blk_cell hxo24 1 rfl)
         (try have fo24_1 := blk_free hxo24 1)
         (try have zo24_2 := blk_cell hxo24 2 rfl)
         (try have fo24_2 := blk_free hxo24 2)
         (try have hlo24 := blk_lt hxo24)
         replace HC := HC.trans (hbv21.mono HC.size)
         replace hoo25 := ownN_below hoo25 hbv21 (Nat.le_refl _)
         replace hoo26 := hoo26.below hbv21
         replace hxo1 := blk_bel hxo1 hbv21
         replace hxo2 := blk_bel hxo2 hbv21
         replace HB := HB.trans (hbv21.mono HB.size)
         have hszv21 := hbv21.size
         have qo1_0 := blk_cell hxo1 0 rfl
         have qo1_1 := blk_cell hxo1 1 rfl
         have qo1_2 := blk_cell hxo1 2 rfl
         have hlo1 := blk_lt hxo1
         have qo2_0 := blk_cell hxo2 0 rfl
         have qo2_1 := blk_cell hxo2 1 rfl
         have qo2_2 := blk_cell hxo2 2 rfl
         have hlo2 := blk_lt hxo2
         have hrgzo27 := hrgo27
         have hrgzo28 := hrgo28
         replace hrgo27 := Lib.hid (rg_lo hrgo27.out (lo := v20.heap.size + 0) (hi := v21.heap.size) (by first | exact Nat.le_refl _ | exact le_al1 | (simp; done) | (simp; omega)) (Nat.le_refl _))
         replace hrgo28 := Lib.hid (rg_lo hrgo28.out (lo := v20.heap.size + 0) (hi := v21.heap.size) (by first | exact Nat.le_refl _ | exact le_al1 | (simp; done) | (simp; omega)) (Nat.le_refl _))
         )
      | (go_at_call 32
         refine (toProof_any _ x0_0 _ _ _ x0_1 (by have h := (hr0_1.below HB (Nat.le_refl _)); first | exact h | exact h.below (below_new _ _) (Nat.le_refl _) | exact h.below (below_drew1 (below_new _ _)) (Nat.le_refl _)) (by omega) _ _ _ x0_2 (by have h := (hr0_2.below HB (Nat.le_refl _)); first | exact h | exact h.below (below_new _ _) (Nat.le_refl _) | exact h.below (below_drew1 (below_new _ _)) (Nat.le_refl _)) (by omega)).mono ?_
         rintro e v20 ⟨Ao25, no25, co25, Ao26, no26, co26, Fo26, rfl, hoo25, hoo26, hFo26, hdo25o26, hbv20⟩
         have hno25 : no25 ≤ 1048576 := by have h1 := hoo25.1; simp only [List.length_map] at h1; have h2 := HXL0_1.out; omega
         have hno26 : no26 ≤ 1048576 := by have h1 := hoo26.len; have h2 := HXL0_2.out; omega
         have hrgo25 := Lib.hid (rg_row hoo25)
         have hrgo26 := Lib.hid hFo26; clear hFo26
         have HDo25o26 := Lib.hid hdo25o26; clear hdo25o26
         clear qo1_0 qo1_1 qo1_2 qo2_0 qo2_1 qo2_2 hlo1 hlo2
         (try replace hbv20 := und1 hbv20)
         (try replace hbv20 := undN hbv20)
         (try clear zo24_0 fo24_0 zo24_1 fo24_1 zo24_2 fo24_2)
         (try (have hq := box_step hbv20; clear hbv20; obtain ⟨hbv20, hxo24, hso24⟩ := hq))
         (try replace hxo24 := blk_bel hxo24 hbv20)
         (try have zo24_0 := blk_cell hxo24 0 rfl)
         (try have fo24_0 := blk_free hxo24 0)
         (try have zo24_1 := blk_cell hxo24 1 rfl)
         (try have fo24_1 := blk_free hxo24 1)
         (try have zo24_2 := blk_cell hxo24 2 rfl)
         (try have fo24_2 := blk_free hxo24 2)
         (try have hlo24 := blk_lt hxo24)
         replace HC := HC.trans (hbv20.mono HC.size)
         replace hxo1 := blk_bel hxo1 hbv20
         replace hxo2 := blk_bel hxo2 hbv20
         replace HB := HB.trans (hbv20.mono HB.size)
         have hszv20 := hbv20.size
         have qo1_0 := blk_cell hxo1 0 rfl
         have qo1_1 := blk_cell hxo1 1 rfl
         have qo1_2 := blk_cell hxo1 2 rfl
         have hlo1 := blk_lt hxo1
         have qo2_0 := blk_cell hxo2 0 rfl
         have qo2_1 := blk_cell hxo2 1 rfl
         have qo2_2 := blk_cell hxo2 2 rfl
         have hlo2 := blk_lt hxo2
         have hrgzo25 := hrgo25
         have hrgzo26 := hrgo26
         replace hrgo25 := Lib.hid (rg_lo hrgo25.out (lo := v19.heap.size + 0) (hi := v20.heap.size) (by first | exact Nat.le_refl _ | exact le_al1 | (simp; done) | (simp; omega)) (Nat.le_refl _))
         replace hrgo26 := Lib.hid (rg_lo hrgo26.out (lo := v19.heap.size + 0) (hi := v20.heap.size) (by first | exact Nat.le_refl _ | exact le_al1 | (simp; done) | (simp; omega)) (Nat.le_refl _))
         )
      )
    all_goals
      go_wp2_with fail
      go_meet
      exact ⟨_, _, _, _, _, _, _, _, rfl, rfl, (by first | exact box_new _ _ _ | simpa using blk_set (blk_set (blk_set (hxo24) 0 _) 1 _) 2 _), (by first | omega | (simp; omega)), (by first | exact own_ch (ownN_base hoo29 (by first | omega | (simp; omega) | (show _ ≤ (World.alloc _ _).heap.size; simp; omega))) (ch_alloc (fun _ => False) _ _) (fun k h1 h2 => h2) | exact own_ch (ownN_base hoo29 (by first | omega | (simp; omega) | (show _ ≤ (World.alloc _ _).heap.size; simp; omega))) (((ch_set _ _ 0 _).trans (ch_set _ _ 1 _)).trans (ch_set _ _ 2 _)) (fun k h1 h2 => by have h3 := hrgo29.out k h1; have h4 := (hrgzo29.out k h1).1; first | omega | (simp at h4; omega) | (change (World.alloc _ _).heap.size ≤ _ at h4; simp at h4; omega)) | exact own_ch (ownN_base hoo29 (by first | omega | (simp; omega) | (show _ ≤ (World.alloc _ _).heap.size; simp; omega))) (ch_drew (ch_alloc (fun _ => False) _ _)) (fun k h1 h2 => h2) | exact own_ch (ownN_base hoo29 (by first | omega | (simp; omega) | (show _ ≤ (World.alloc _ _).heap.size; simp; omega))) (ch_drew (((ch_set _ _ 0 _).trans (ch_set _ _ 1 _)).trans (ch_set _ _ 2 _))) (fun k h1 h2 => by have h3 := hrgo29.out k h1; have h4 := (hrgzo29.out k h1).1; first | omega | (simp at h4; omega) | (change (World.alloc _ _).heap.size ≤ _ at h4; simp at h4; omega))), (fun k hk => by have h1 := hrgo29.out k hk; first | omega | (refine ⟨by omega, ?_⟩; simp; omega) | (refine ⟨by omega, ?_⟩; show k < _; simp only [World.size_setCell, World.size_alloc]; omega) | (trace_state; fail)), (fun hk => by have h1 := hrgo29.out _ hk; have h2 := (hrgzo29.out _ hk).1; first | omega | (simp at h2; omega) | (change (World.alloc _ _).heap.size ≤ _ at h2; simp at h2; omega)), (by first | exact hoo30.ch (ch_alloc (fun _ => False) _ _) (fun k h1 h2 => h2) | exact hoo30.ch (((ch_set _ _ 0 _).trans (ch_set _ _ 1 _)).trans (ch_set _ _ 2 _)) (fun k h1 h2 => by have h3 := hrgo30.out k h1; have h4 := (hrgzo30.out k h1).1; first | omega | (simp at h4; omega) | (change (World.alloc _ _).heap.size ≤ _ at h4; simp at h4; omega)) | exact hoo30.ch (ch_drew (ch_alloc (fun _ => False) _ _)) (fun k h1 h2 => h2) | exact hoo30.ch (ch_drew (((ch_set _ _ 0 _).trans (ch_set _ _ 1 _)).trans (ch_set _ _ 2 _))) (fun k h1 h2 => by have h3 := hrgo30.out k h1; have h4 := (hrgzo30.out k h1).1; first | omega | (simp at h4; omega) | (change (World.alloc _ _).heap.size ≤ _ at h4; simp at h4; omega))), (fun k hk => by have h1 := hrgo30.out k hk; first | omega | (refine ⟨by omega, ?_⟩; simp; omega) | (refine ⟨by omega, ?_⟩; show k < _; simp only [World.size_setCell, World.size_alloc]; omega) | (trace_state; fail)), (fun hk => by have h1 := hrgo30.out _ hk; have h2 := (hrgzo30.out _ hk).1; first | omega | (simp at h2; omega) | (change (World.alloc _ _).heap.size ≤ _ at h2; simp at h2; omega)), HDo29o30.out, (by first | exact HC.alloc HC.size _ | (refine (((HC).setCell ?_ _).setCell ?_ _).setCell ?_ _ <;> (first | omega | (dsimp only; omega) | (simp; omega))) | exact below_drew1 (HC.alloc HC.size _) | (refine below_drew1 ((((HC).setCell ?_ _).setCell ?_ _).setCell ?_ _) <;> (first | omega | (dsimp only; omega) | (simp; omega))))⟩
  case rest =>
  obtain ⟨go24, Ao29, no29, co29, Ao30, no30, co30, Fo30, rfl, rfl, hxo24, hgo24, hoo29, hFo29, hnfo29o24, hoo30, hFo30, hnfo30o24, hdo29o30, hbcut⟩ := hcut
  have hupo24 := blk_lt hxo24
  obtain ⟨v23, rfl⟩ : ∃ v, v = wc := ⟨_, rfl⟩
  have hrgo29 := Lib.hid hFo29; clear hFo29
  have hno29 : no29 ≤ 1000000 := by have h1 := hoo29.1; simp only [List.length_map] at h1; have h2 := HRLR1.out; omega
  have hrgo30 := Lib.hid hFo30; clear hFo30
  have hno30 : no30 ≤ 1000000 := by have h1 := hoo30.len; have h2 := HRLR2.out; omega
  have HDo29o30 := Lib.hid hdo29o30; clear hdo29o30
  clear qo1_0 qo1_1 qo1_2 qo2_0 qo2_1 qo2_2 qo3_0 qo3_1 qo3_2 qo13_0 qo13_1 qo13_2 qo16_0 qo16_1 qo16_2 qo19_0 qo19_1 qo19_2 hlo1 hlo2 hlo3 hlo13 hlo16 hlo19
  (try replace hbcut := und1 hbcut)
  (try replace hbcut := undN hbcut)
  replace hoo8 := ownN_below hoo8 hbcut (Nat.le_refl _)
  replace hoo9 := hoo9.below hbcut
  replace hoo11 := ownN_below hoo11 hbcut (Nat.le_refl _)
  replace hoo12 := hoo12.below hbcut
  replace hoo14 := ownN_below hoo14 hbcut (Nat.le_refl _)
  replace hoo15 := hoo15.below hbcut
  replace hoo17 := ownN_below hoo17 hbcut (Nat.le_refl _)
  replace hoo18 := hoo18.below hbcut
  replace hoo20 := ownN_below hoo20 hbcut (Nat.le_refl _)
  replace hoo21 := hoo21.below hbcut
  replace hoo22 := ownN_below hoo22 hbcut (Nat.le_refl _)
  replace hoo23 := hoo23.below hbcut
  replace hxo1 := blk_bel hxo1 hbcut
  replace hxo2 := blk_bel hxo2 hbcut
  replace hxo3 := blk_bel hxo3 hbcut
  replace hxo13 := blk_bel hxo13 hbcut
  replace hxo16 := blk_bel hxo16 hbcut
  replace hxo19 := blk_bel hxo19 hbcut
  replace HB := HB.trans (hbcut.mono HB.size)
  have hszv23 := hbcut.size
  have qo1_0 := blk_cell hxo1 0 rfl
  have qo1_1 := blk_cell hxo1 1 rfl
  have qo1_2 := blk_cell hxo1 2 rfl
  have hlo1 := blk_lt hxo1
  have qo2_0 := blk_cell hxo2 0 rfl
  have qo2_1 := blk_cell hxo2 1 rfl
  have qo2_2 := blk_cell hxo2 2 rfl
  have hlo2 := blk_lt hxo2
  have qo3_0 := blk_cell hxo3 0 rfl
  have qo3_1 := blk_cell hxo3 1 rfl
  have qo3_2 := blk_cell hxo3 2 rfl
  have hlo3 := blk_lt hxo3
  have qo13_0 := blk_cell hxo13 0 rfl
  have qo13_1 := blk_cell hxo13 1 rfl
  have qo13_2 := blk_cell hxo13 2 rfl
  have hlo13 := blk_lt hxo13
  have qo16_0 := blk_cell hxo16 0 rfl
  have qo16_1 := blk_cell hxo16 1 rfl
  have qo16_2 := blk_cell hxo16 2 rfl
  have hlo16 := blk_lt hxo16
  have qo19_0 := blk_cell hxo19 0 rfl
  have qo19_1 := blk_cell hxo19 1 rfl
  have qo19_2 := blk_cell hxo19 2 rfl
  have hlo19 := blk_lt hxo19
  clear qo1_0 qo1_1 qo1_2 qo2_0 qo2_1 qo2_2 qo3_0 qo3_1 qo3_2 qo13_0 qo13_1 qo13_2 qo16_0 qo16_1 qo16_2 qo19_0 qo19_1 qo19_2 hlo1 hlo2 hlo3 hlo13 hlo16 hlo19
  have qo1_0 := blk_cell hxo1 0 rfl
  have qo1_1 := blk_cell hxo1 1 rfl
  have qo1_2 := blk_cell hxo1 2 rfl
  have hlo1 := blk_lt hxo1
  have qo2_0 := blk_cell hxo2 0 rfl
  have qo2_1 := blk_cell hxo2 1 rfl
  have qo2_2 := blk_cell hxo2 2 rfl
  have hlo2 := blk_lt hxo2
  have qo3_0 := blk_cell hxo3 0 rfl
  have qo3_1 := blk_cell hxo3 1 rfl
  have qo3_2 := blk_cell hxo3 2 rfl
  have hlo3 := blk_lt hxo3
  have qo13_0 := blk_cell hxo13 0 rfl
  have qo13_1 := blk_cell hxo13 1 rfl
  have qo13_2 := blk_cell hxo13 2 rfl
  have hlo13 := blk_lt hxo13
  have qo16_0 := blk_cell hxo16 0 rfl
  have qo16_1 := blk_cell hxo16 1 rfl
  have qo16_2 := blk_cell hxo16 2 rfl
  have hlo16 := blk_lt hxo16
  have qo19_0 := blk_cell hxo19 0 rfl
  have qo19_1 := blk_cell hxo19 1 rfl
  have qo19_2 := blk_cell hxo19 2 rfl
  have hlo19 := blk_lt hxo19
  have qo24_0 := blk_cell hxo24 0 rfl
  have qo24_1 := blk_cell hxo24 1 rfl
  have qo24_2 := blk_cell hxo24 2 rfl
  have hlo24 := blk_lt hxo24
  go_wp2_with fail
  refine (eqProof_same _ _ _ _ _ r1 (own_rd hoo29) (by omega) _ _ _ (own_rd hoo8) _ _ _ r2 hoo30.rdl (by omega) _ _ _ hoo9.rdl).mono ?_
  rintro e v24 ⟨rfl, hbv24⟩
  clear qo1_0 qo1_1 qo1_2 qo2_0 qo2_1 qo2_2 qo3_0 qo3_1 qo3_2 qo13_0 qo13_1 qo13_2 qo16_0 qo16_1 qo16_2 qo19_0 qo19_1 qo19_2 qo24_0 qo24_1 qo24_2 hlo1 hlo2 hlo3 hlo13 hlo16 hlo19 hlo24
  (try replace hbv24 := und1 hbv24)
  (try replace hbv24 := undN hbv24)
  replace hoo8 := ownN_below hoo8 hbv24 (Nat.le_refl _)
  replace hoo9 := hoo9.below hbv24
  replace hoo11 := ownN_below hoo11 hbv24 (Nat.le_refl _)
  replace hoo12 := hoo12.below hbv24
  replace hoo14 := ownN_below hoo14 hbv24 (Nat.le_refl _)
  replace hoo15 := hoo15.below hbv24
  replace hoo17 := ownN_below hoo17 hbv24 (Nat.le_refl _)
  replace hoo18 := hoo18.below hbv24
  replace hoo20 := ownN_below hoo20 hbv24 (Nat.le_refl _)
  replace hoo21 := hoo21.below hbv24
  replace hoo22 := ownN_below hoo22 hbv24 (Nat.le_refl _)
  replace hoo23 := hoo23.below hbv24
  replace hoo29 := ownN_below hoo29 hbv24 (Nat.le_refl _)
  replace hoo30 := hoo30.below hbv24
  replace hxo1 := blk_bel hxo1 hbv24
  replace hxo2 := blk_bel hxo2 hbv24
  replace hxo3 := blk_bel hxo3 hbv24
  replace hxo13 := blk_bel hxo13 hbv24
  replace hxo16 := blk_bel hxo16 hbv24
  replace hxo19 := blk_bel hxo19 hbv24
  replace hxo24 := blk_bel hxo24 hbv24
  replace HB := HB.trans (hbv24.mono HB.size)
  have hszv24 := hbv24.size
  have qo1_0 := blk_cell hxo1 0 rfl
  have qo1_1 := blk_cell hxo1 1 rfl
  have qo1_2 := blk_cell hxo1 2 rfl
  have hlo1 := blk_lt hxo1
  have qo2_0 := blk_cell hxo2 0 rfl
  have qo2_1 := blk_cell hxo2 1 rfl
  have qo2_2 := blk_cell hxo2 2 rfl
  have hlo2 := blk_lt hxo2
  have qo3_0 := blk_cell hxo3 0 rfl
  have qo3_1 := blk_cell hxo3 1 rfl
  have qo3_2 := blk_cell hxo3 2 rfl
  have hlo3 := blk_lt hxo3
  have qo13_0 := blk_cell hxo13 0 rfl
  have qo13_1 := blk_cell hxo13 1 rfl
  have qo13_2 := blk_cell hxo13 2 rfl
  have hlo13 := blk_lt hxo13
  have qo16_0 := blk_cell hxo16 0 rfl
  have qo16_1 := blk_cell hxo16 1 rfl
  have qo16_2 := blk_cell hxo16 2 rfl
  have hlo16 := blk_lt hxo16
  have qo19_0 := blk_cell hxo19 0 rfl
  have qo19_1 := blk_cell hxo19 1 rfl
  have qo19_2 := blk_cell hxo19 2 rfl
  have hlo19 := blk_lt hxo19
  have qo24_0 := blk_cell hxo24 0 rfl
  have qo24_1 := blk_cell hxo24 1 rfl
  have qo24_2 := blk_cell hxo24 2 rfl
  have hlo24 := blk_lt hxo24
  go_wp2_with fail
  have hTv25o18 : tot r2 ≤ 1048576 := by have := HRLR2.out.1; omega
  refine (heldProof_any _ _ _ _ _ _ _ _ r2 (1) (own_rd hoo17) (by omega) hoo18.rdl (by omega) (by omega) (by omega) (by omega)).mono ?_
  rintro e v25 ⟨rfl, hbv25⟩
  clear qo1_0 qo1_1 qo1_2 qo2_0 qo2_1 qo2_2 qo3_0 qo3_1 qo3_2 qo13_0 qo13_1 qo13_2 qo16_0 qo16_1 qo16_2 qo19_0 qo19_1 qo19_2 qo24_0 qo24_1 qo24_2 hlo1 hlo2 hlo3 hlo13 hlo16 hlo19 hlo24
  (try replace hbv25 := und1 hbv25)
  (try replace hbv25 := undN hbv25)
  replace hoo8 := ownN_below hoo8 hbv25 (Nat.le_refl _)
  replace hoo9 := hoo9.below hbv25
  replace hoo11 := ownN_below hoo11 hbv25 (Nat.le_refl _)
  replace hoo12 := hoo12.below hbv25
  replace hoo14 := ownN_below hoo14 hbv25 (Nat.le_refl _)
  replace hoo15 := hoo15.below hbv25
  replace hoo17 := ownN_below hoo17 hbv25 (Nat.le_refl _)
  replace hoo18 := hoo18.below hbv25
  replace hoo20 := ownN_below hoo20 hbv25 (Nat.le_refl _)
  replace hoo21 := hoo21.below hbv25
  replace hoo22 := ownN_below hoo22 hbv25 (Nat.le_refl _)
  replace hoo23 := hoo23.below hbv25
  replace hoo29 := ownN_below hoo29 hbv25 (Nat.le_refl _)
  replace hoo30 := hoo30.below hbv25
  replace hxo1 := blk_bel hxo1 hbv25
  replace hxo2 := blk_bel hxo2 hbv25
  replace hxo3 := blk_bel hxo3 hbv25
  replace hxo13 := blk_bel hxo13 hbv25
  replace hxo16 := blk_bel hxo16 hbv25
  replace hxo19 := blk_bel hxo19 hbv25
  replace hxo24 := blk_bel hxo24 hbv25
  replace HB := HB.trans (hbv25.mono HB.size)
  have hszv25 := hbv25.size
  have qo1_0 := blk_cell hxo1 0 rfl
  have qo1_1 := blk_cell hxo1 1 rfl
  have qo1_2 := blk_cell hxo1 2 rfl
  have hlo1 := blk_lt hxo1
  have qo2_0 := blk_cell hxo2 0 rfl
  have qo2_1 := blk_cell hxo2 1 rfl
  have qo2_2 := blk_cell hxo2 2 rfl
  have hlo2 := blk_lt hxo2
  have qo3_0 := blk_cell hxo3 0 rfl
  have qo3_1 := blk_cell hxo3 1 rfl
  have qo3_2 := blk_cell hxo3 2 rfl
  have hlo3 := blk_lt hxo3
  have qo13_0 := blk_cell hxo13 0 rfl
  have qo13_1 := blk_cell hxo13 1 rfl
  have qo13_2 := blk_cell hxo13 2 rfl
  have hlo13 := blk_lt hxo13
  have qo16_0 := blk_cell hxo16 0 rfl
  have qo16_1 := blk_cell hxo16 1 rfl
  have qo16_2 := blk_cell hxo16 2 rfl
  have hlo16 := blk_lt hxo16
  have qo19_0 := blk_cell hxo19 0 rfl
  have qo19_1 := blk_cell hxo19 1 rfl
  have qo19_2 := blk_cell hxo19 2 rfl
  have hlo19 := blk_lt hxo19
  have qo24_0 := blk_cell hxo24 0 rfl
  have qo24_1 := blk_cell hxo24 1 rfl
  have qo24_2 := blk_cell hxo24 2 rfl
  have hlo24 := blk_lt hxo24
  go_wp2_with fail
  go_ret
  first | exact ⟨rfl, HB⟩ | exact ⟨rfl, below_drewN HB⟩
end Go.Proofs.Ytcpkhhammafchaa
