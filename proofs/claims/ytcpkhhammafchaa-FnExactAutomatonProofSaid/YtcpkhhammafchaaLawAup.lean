/- The law on AutomatonProof. Written by genlaw5.py. -/
import Derived.Test.YtcpkhhammafchaaAuP
import Derived.Test.YtcpkhhammafchaaGC
import Derived.Test.YtcpkhhammafchaaLawDfa
import Derived.Test.YtcpkhhammafchaaGD
namespace Go.Proofs.Ytcpkhhammafchaa
open Go.RowKit
set_option linter.unusedVariables false
set_option linter.unusedSimpArgs false
theorem auP_bd (s t : Int) (rs : List Rul) (a : Int) (xs : List Int) (b : Int) (ys : List Int) : (auP s t rs a xs b ys).2.1.length ≤ 1000000 ∧ tot (auP s t rs a xs b ys).2.2.1 ≤ 1000000 ∧ (auP s t rs a xs b ys).2.2.1.length ≤ 1000000 := by
  unfold auP
  by_cases h : auV s t rs a xs b ys = true
  · rw [if_pos h]
    simp only [auV, Bool.and_eq_true] at h
    obtain ⟨⟨v1, v2⟩, v3⟩ := h
    obtain ⟨hs, ha, hl, _⟩ := dfB_all v2
    obtain ⟨_, hb, hl2, _⟩ := dfB_all v3
    have e4 := mul_bd (show 0 ≤ a by omega) ha.2 (show 0 ≤ s by omega) hs.2
    have e5 := mul_bd (show 0 ≤ b by omega) hb.2 (show 0 ≤ s by omega) hs.2
    split
    · refine ⟨?_, by simp [tot], by simp⟩
      simp only [List.length_append, List.length_cons, List.length_nil]
      omega
    · simp [tot]
  · rw [if_neg h]; simp [tot]
set_option maxHeartbeats 16000000 in
set_option maxRecDepth 100000 in
theorem lawAutomatonProof (w : World) (x0_0 : Int) (x0_1 : Int) (A0_2 : Option Addr) (n0_2 c0_2 : Nat) (x0_2 : List Int) (hr0_2 : Rd w A0_2 (n0_2 * 3) (ints x0_2)) (hnn0_2 : n0_2 ≤ 9223372036854775807) (x1_0 : Int) (A1_1 : Option Addr) (n1_1 c1_1 : Nat) (x1_1 : List Int) (hr1_1 : Rd w A1_1 n1_1 (ints x1_1)) (hnn1_1 : n1_1 ≤ 9223372036854775807) (x2_0 : Int) (A2_1 : Option Addr) (n2_1 c2_1 : Nat) (x2_1 : List Int) (hr2_1 : Rd w A2_1 n2_1 (ints x2_1)) (hnn2_1 : n2_1 ≤ 9223372036854775807) :
    Calls Try.prog 4 #[.agg #[.int .i64 x0_0, .int .i64 x0_1, .slice A0_2 n0_2 c0_2], .agg #[.int .i64 x1_0, .slice A1_1 n1_1 c1_1], .agg #[.int .i64 x2_0, .slice A2_1 n2_1 c2_1]] w fun e w' => e = .returned (.bool true) ∧ Below w.heap.size w w' := by
  obtain ⟨rs, rfl, hps⟩ := unflatR n0_2 x0_2 (by simpa using hr0_2.1)
  have HPS := Lib.hid hps; clear hps
  have hS : ∀ (w : World) (A0_2 : Option Addr) (n0_2 c0_2 : Nat) (h0_2 : Rd w A0_2 (n0_2 * 3) (ints (flatR rs))) (hn0_2 : n0_2 ≤ 1000000000) (hcp0_2 : n0_2 ≤ c0_2) (A1_1 : Option Addr) (n1_1 c1_1 : Nat) (h1_1 : Rd w A1_1 n1_1 (ints x1_1)) (hn1_1 : n1_1 ≤ 1000000000) (hcp1_1 : n1_1 ≤ c1_1) (A2_1 : Option Addr) (n2_1 c2_1 : Nat) (h2_1 : Rd w A2_1 n2_1 (ints x2_1)) (hn2_1 : n2_1 ≤ 1000000000) (hcp2_1 : n2_1 ≤ c2_1), Calls Try.prog 17 #[.agg #[.int .i64 x0_0, .int .i64 x0_1, .slice A0_2 n0_2 c0_2], .agg #[.int .i64 x1_0, .slice A1_1 n1_1 c1_1], .agg #[.int .i64 x2_0, .slice A2_1 n2_1 c2_1]] w (fun e w' => ∃ (AR1 : Option Addr) (nR1 cR1 : Nat) (AR2 : Option Addr) (nR2 cR2 : Nat) (FR2 : Nat → Prop), e = .returned (.tuple #[.agg #[.int .i64 ((auP x0_0 x0_1 rs x1_0 x1_1 x2_0 x2_1).1), .slice AR1 nR1 cR1, .slice AR2 nR2 cR2], .int .i64 ((auP x0_0 x0_1 rs x1_0 x1_1 x2_0 x2_1).2.2.2)]) ∧ w'.ownsRow w.heap.size 2 1 (.slice AR1 nR1 cR1) nR1 (ints ((auP x0_0 x0_1 rs x1_0 x1_1 x2_0 x2_1).2.1)) ∧ OwnP w' FR2 AR2 nR2 cR2 ((auP x0_0 x0_1 rs x1_0 x1_1 x2_0 x2_1).2.2.1) ∧ (∀ k, FR2 k → w.heap.size ≤ k ∧ k < w'.heap.size) ∧ (∀ k, Fo (.slice AR1 nR1 cR1) k → FR2 k → False) ∧ Below w.heap.size w w') := fun w A0_2 n0_2 c0_2 h0_2 hn0_2 hcp0_2 A1_1 n1_1 c1_1 h1_1 hn1_1 hcp1_1 A2_1 n2_1 c2_1 h2_1 hn2_1 hcp2_1 => specAutomatonProof_any w x0_0 x0_1 A0_2 n0_2 c0_2 rs h0_2 (by omega) x1_0 A1_1 n1_1 c1_1 x1_1 h1_1 x2_0 A2_1 n2_1 c2_1 x2_1 h2_1
  have hI : ∀ (w : World) (A0_2 : Option Addr) (n0_2 c0_2 : Nat) (h0_2 : Rd w A0_2 (n0_2 * 3) (ints (flatR rs))) (hn0_2 : n0_2 ≤ 1000000000) (hcp0_2 : n0_2 ≤ c0_2) (A1_1 : Option Addr) (n1_1 c1_1 : Nat) (h1_1 : Rd w A1_1 n1_1 (ints x1_1)) (hn1_1 : n1_1 ≤ 1000000000) (hcp1_1 : n1_1 ≤ c1_1) (A2_1 : Option Addr) (n2_1 c2_1 : Nat) (h2_1 : Rd w A2_1 n2_1 (ints x2_1)) (hn2_1 : n2_1 ≤ 1000000000) (hcp2_1 : n2_1 ≤ c2_1), Calls Try.prog 20 #[.agg #[.int .i64 x0_0, .int .i64 x0_1, .slice A0_2 n0_2 c0_2], .agg #[.int .i64 x1_0, .slice A1_1 n1_1 c1_1], .agg #[.int .i64 x2_0, .slice A2_1 n2_1 c2_1]] w (fun e w' => ∃ (AR1 : Option Addr) (nR1 cR1 : Nat) (AR2 : Option Addr) (nR2 cR2 : Nat) (FR2 : Nat → Prop), e = .returned (.tuple #[.agg #[.int .i64 ((auP x0_0 x0_1 rs x1_0 x1_1 x2_0 x2_1).1), .slice AR1 nR1 cR1, .slice AR2 nR2 cR2], .int .i64 ((auP x0_0 x0_1 rs x1_0 x1_1 x2_0 x2_1).2.2.2)]) ∧ w'.ownsRow w.heap.size 2 1 (.slice AR1 nR1 cR1) nR1 (ints ((auP x0_0 x0_1 rs x1_0 x1_1 x2_0 x2_1).2.1)) ∧ OwnP w' FR2 AR2 nR2 cR2 ((auP x0_0 x0_1 rs x1_0 x1_1 x2_0 x2_1).2.2.1) ∧ (∀ k, FR2 k → w.heap.size ≤ k ∧ k < w'.heap.size) ∧ (∀ k, Fo (.slice AR1 nR1 cR1) k → FR2 k → False) ∧ Below w.heap.size w w') := fun w A0_2 n0_2 c0_2 h0_2 hn0_2 hcp0_2 A1_1 n1_1 c1_1 h1_1 hn1_1 hcp1_1 A2_1 n2_1 c2_1 h2_1 hn2_1 hcp2_1 => implAutomatonProof_any w x0_0 x0_1 A0_2 n0_2 c0_2 rs h0_2 (by omega) x1_0 A1_1 n1_1 c1_1 x1_1 h1_1 (by omega) x2_0 A2_1 n2_1 c2_1 x2_1 h2_1 (by omega)
  have HRLR1 : Hid (((auP x0_0 x0_1 rs x1_0 x1_1 x2_0 x2_1).2.1).length ≤ 1000000) := Lib.hid ((auP_bd x0_0 x0_1 rs x1_0 x1_1 x2_0 x2_1).1)
  have HRLR2 : Hid (tot ((auP x0_0 x0_1 rs x1_0 x1_1 x2_0 x2_1).2.2.1) ≤ 1000000 ∧ ((auP x0_0 x0_1 rs x1_0 x1_1 x2_0 x2_1).2.2.1).length ≤ 1000000) := Lib.hid ((auP_bd x0_0 x0_1 rs x1_0 x1_1 x2_0 x2_1).2)
  have HS := Lib.hid hS; have HI := Lib.hid hI
  clear hS hI
  generalize (auP x0_0 x0_1 rs x1_0 x1_1 x2_0 x2_1).1 = r0 at HS HI 
  generalize (auP x0_0 x0_1 rs x1_0 x1_1 x2_0 x2_1).2.1 = r1 at HS HI HRLR1
  generalize (auP x0_0 x0_1 rs x1_0 x1_1 x2_0 x2_1).2.2.1 = r2 at HS HI HRLR2
  generalize (auP x0_0 x0_1 rs x1_0 x1_1 x2_0 x2_1).2.2.2 = r3 at HS HI 
  have HXL0_2 : Hid (((flatR rs)).length = n0_2 * 3) := Lib.hid (by have := hr0_2.1; simp at this; omega)
  have HXL1_1 : Hid ((x1_1).length = n1_1 * 1) := Lib.hid (by have := hr1_1.1; simp at this; omega)
  have HXL2_1 : Hid ((x2_1).length = n2_1 * 1) := Lib.hid (by have := hr2_1.1; simp at this; omega)
  have HB := Below.refl w.heap.size w
  go_enter Try.func4, Try.ntmps4
  go_wp2_with fail
  refine (szMachine_post _ x0_0 x0_1 _ _ _ hnn0_2 _ (by omega) (by omega)).mono ?_
  rintro e v1 ⟨lfv1, rfl, hqv1, hpv1, hbv1⟩
  (try replace hbv1 := und1 hbv1)
  (try replace hbv1 := undN hbv1)
  obtain ⟨hbv1b, hxo3, hso3⟩ := box_step hbv1
  (try simp only [World.size_alloc] at hxo3 hso3)
  obtain ⟨hbv1bb, hxo2, hso2⟩ := box_step hbv1b
  (try simp only [World.size_alloc] at hxo2 hso2)
  obtain ⟨hbv1bbb, hxo1, hso1⟩ := box_step hbv1bb
  (try simp only [World.size_alloc] at hxo1 hso1)
  replace HB := HB.trans (hbv1bbb.mono HB.size)
  have hszv1 := hbv1bbb.size
  have qo1_0 := blk_cell hxo1 0 rfl
  have qo1_1 := blk_cell hxo1 1 rfl
  have qo1_2 := blk_cell hxo1 2 rfl
  have hlo1 := blk_lt hxo1
  have qo2_0 := blk_cell hxo2 0 rfl
  have qo2_1 := blk_cell hxo2 1 rfl
  have hlo2 := blk_lt hxo2
  have qo3_0 := blk_cell hxo3 0 rfl
  have qo3_1 := blk_cell hxo3 1 rfl
  have hlo3 := blk_lt hxo3
  by_cases hzv1 : lfv1 < 0
  · clear hqv1 hpv1
    go_wp2_with fail
    go_ret
    exact ⟨rfl, HB⟩
  replace hqv1 := hqv1 (by omega)
  have hbig0_2 : n0_2 ≤ 1048576 := by omega
  have HQv1 := Lib.hid hqv1; clear hqv1
  go_wp2_with fail
  refine (szDfa_post _ x1_0 _ _ _ hnn1_1 _ (by omega) (by omega)).mono ?_
  rintro e v2 ⟨lfv2, rfl, hqv2, hpv2, hbv2⟩
  clear qo1_0 qo1_1 qo1_2 qo2_0 qo2_1 qo3_0 qo3_1 hlo1 hlo2 hlo3
  (try replace hbv2 := und1 hbv2)
  (try replace hbv2 := undN hbv2)
  replace hxo1 := blk_bel hxo1 hbv2
  replace hxo2 := blk_bel hxo2 hbv2
  replace hxo3 := blk_bel hxo3 hbv2
  replace HB := HB.trans (hbv2.mono HB.size)
  have hszv2 := hbv2.size
  have qo1_0 := blk_cell hxo1 0 rfl
  have qo1_1 := blk_cell hxo1 1 rfl
  have qo1_2 := blk_cell hxo1 2 rfl
  have hlo1 := blk_lt hxo1
  have qo2_0 := blk_cell hxo2 0 rfl
  have qo2_1 := blk_cell hxo2 1 rfl
  have hlo2 := blk_lt hxo2
  have qo3_0 := blk_cell hxo3 0 rfl
  have qo3_1 := blk_cell hxo3 1 rfl
  have hlo3 := blk_lt hxo3
  by_cases hzv2 : lfv2 < 0
  · clear hqv2 hpv2
    go_wp2_with fail
    go_ret
    exact ⟨rfl, HB⟩
  replace hqv2 := hqv2 (by omega)
  have hbig1_1 : n1_1 ≤ 1048576 := by omega
  have HQv2 := Lib.hid hqv2; clear hqv2
  go_wp2_with fail
  refine (szDfa_post _ x2_0 _ _ _ hnn2_1 _ (by omega) (by omega)).mono ?_
  rintro e v3 ⟨lfv3, rfl, hqv3, hpv3, hbv3⟩
  clear qo1_0 qo1_1 qo1_2 qo2_0 qo2_1 qo3_0 qo3_1 hlo1 hlo2 hlo3
  (try replace hbv3 := und1 hbv3)
  (try replace hbv3 := undN hbv3)
  replace hxo1 := blk_bel hxo1 hbv3
  replace hxo2 := blk_bel hxo2 hbv3
  replace hxo3 := blk_bel hxo3 hbv3
  replace HB := HB.trans (hbv3.mono HB.size)
  have hszv3 := hbv3.size
  have qo1_0 := blk_cell hxo1 0 rfl
  have qo1_1 := blk_cell hxo1 1 rfl
  have qo1_2 := blk_cell hxo1 2 rfl
  have hlo1 := blk_lt hxo1
  have qo2_0 := blk_cell hxo2 0 rfl
  have qo2_1 := blk_cell hxo2 1 rfl
  have hlo2 := blk_lt hxo2
  have qo3_0 := blk_cell hxo3 0 rfl
  have qo3_1 := blk_cell hxo3 1 rfl
  have hlo3 := blk_lt hxo3
  by_cases hzv3 : lfv3 < 0
  · clear hqv3 hpv3
    go_wp2_with fail
    go_ret
    exact ⟨rfl, HB⟩
  replace hqv3 := hqv3 (by omega)
  have hbig2_1 : n2_1 ≤ 1048576 := by omega
  have HQv3 := Lib.hid hqv3; clear hqv3
  go_upto_region 11 with fail
  go_cut [8, 9] (fun s8 s9 wx => ∃ (go4 : Nat) (Ao8 : Option Addr) (no8 : Nat) (co8 : Nat) (Ao9 : Option Addr) (no9 : Nat) (co9 : Nat) (Fo9 : Nat → Prop), s8 = .pointer (some ⟨go4, 0, none⟩) ∧ s9 = .int .i64 r3 ∧ wx.heap[go4]? = some (.cells #[.int .i64 r0, .slice Ao8 no8 co8, .slice Ao9 no9 co9] 48 (0, 0)) ∧ v3.heap.size ≤ go4 ∧ wx.ownsRow v3.heap.size 2 1 (.slice Ao8 no8 co8) no8 (ints r1) ∧ (∀ k, Fo (.slice Ao8 no8 co8) k → v3.heap.size ≤ k ∧ k < wx.heap.size) ∧ (¬ Fo (.slice Ao8 no8 co8) go4) ∧ OwnP wx Fo9 Ao9 no9 co9 r2 ∧ (∀ k, Fo9 k → v3.heap.size ≤ k ∧ k < wx.heap.size) ∧ (¬ Fo9 go4) ∧ (∀ k, Fo (.slice Ao8 no8 co8) k → Fo9 k → False) ∧ Below v3.heap.size v3 wx)
  case first =>
    have HC := Below.refl v3.heap.size v3
    go_region_held3 (fun w' => w'.cell? ⟨w.heap.size, 0, none⟩ = some (.int .i64 x0_0) ∧ w'.cell? ⟨w.heap.size, 1, none⟩ = some (.int .i64 x0_1) ∧ w'.cell? ⟨w.heap.size, 2, none⟩ = some (.slice A0_2 n0_2 c0_2) ∧ w'.cell? ⟨w.heap.size + 1, 0, none⟩ = some (.int .i64 x1_0) ∧ w'.cell? ⟨w.heap.size + 1, 1, none⟩ = some (.slice A1_1 n1_1 c1_1) ∧ w'.cell? ⟨w.heap.size + 2, 0, none⟩ = some (.int .i64 x2_0) ∧ w'.cell? ⟨w.heap.size + 2, 1, none⟩ = some (.slice A2_1 n2_1 c2_1)) (first | exact ⟨qo1_0, qo1_1, qo1_2, qo2_0, qo2_1, qo3_0, qo3_1⟩ | (refine ⟨?_, ?_, ?_, ?_, ?_, ?_, ?_⟩ <;> (repeat (refine cell_far ?_ (by omega))) <;> assumption) | go_keep) (first
      | (go_at_call 17
         refine (HS.out _ _ _ _ (by have h := (ownN_rd hoo5); first | exact h | exact h.below (below_new _ _) (Nat.le_refl _) | exact h.below (below_drew1 (below_new _ _)) (Nat.le_refl _)) (by omega) (ownN_cap hoo5) _ _ _ (by have h := (own_rd hoo6); first | exact h | exact h.below (below_new _ _) (Nat.le_refl _) | exact h.below (below_drew1 (below_new _ _)) (Nat.le_refl _)) (by omega) (ownN_cap hoo6) _ _ _ (by have h := (own_rd hoo7); first | exact h | exact h.below (below_new _ _) (Nat.le_refl _) | exact h.below (below_drew1 (below_new _ _)) (Nat.le_refl _)) (by omega) (ownN_cap hoo7)).mono ?_
         rintro e v7 ⟨Ao8, no8, co8, Ao9, no9, co9, Fo9, rfl, hoo8, hoo9, hFo9, hdo8o9, hbv7⟩
         have hno8 : no8 ≤ 1000000 := by have h1 := hoo8.1; simp only [List.length_map] at h1; have h2 := HRLR1.out; omega
         have hno9 : no9 ≤ 1000000 := by have h1 := hoo9.len; have h2 := HRLR2.out; omega
         have hrgo8 := Lib.hid (rg_row hoo8)
         have hrgo9 := Lib.hid hFo9; clear hFo9
         have HDo8o9 := Lib.hid hdo8o9; clear hdo8o9
         clear qo1_0 qo1_1 qo1_2 qo2_0 qo2_1 qo3_0 qo3_1 hlo1 hlo2 hlo3
         (try replace hbv7 := und1 hbv7)
         (try replace hbv7 := undN hbv7)
         (try clear zo4_0 fo4_0 zo4_1 fo4_1 zo4_2 fo4_2)
         (try (have hq := box_step hbv7; clear hbv7; obtain ⟨hbv7, hxo4, hso4⟩ := hq))
         (try replace hxo4 := blk_bel hxo4 hbv7)
         (try have zo4_0 := blk_cell hxo4 0 rfl)
         (try have fo4_0 := blk_free hxo4 0)
         (try have zo4_1 := blk_cell hxo4 1 rfl)
         (try have fo4_1 := blk_free hxo4 1)
         (try have zo4_2 := blk_cell hxo4 2 rfl)
         (try have fo4_2 := blk_free hxo4 2)
         (try have hlo4 := blk_lt hxo4)
         replace HC := HC.trans (hbv7.mono HC.size)
         replace hoo5 := ownN_below hoo5 hbv7 (Nat.le_refl _)
         replace hoo6 := ownN_below hoo6 hbv7 (Nat.le_refl _)
         replace hoo7 := ownN_below hoo7 hbv7 (Nat.le_refl _)
         replace hxo1 := blk_bel hxo1 hbv7
         replace hxo2 := blk_bel hxo2 hbv7
         replace hxo3 := blk_bel hxo3 hbv7
         replace HB := HB.trans (hbv7.mono HB.size)
         have hszv7 := hbv7.size
         have qo1_0 := blk_cell hxo1 0 rfl
         have qo1_1 := blk_cell hxo1 1 rfl
         have qo1_2 := blk_cell hxo1 2 rfl
         have hlo1 := blk_lt hxo1
         have qo2_0 := blk_cell hxo2 0 rfl
         have qo2_1 := blk_cell hxo2 1 rfl
         have hlo2 := blk_lt hxo2
         have qo3_0 := blk_cell hxo3 0 rfl
         have qo3_1 := blk_cell hxo3 1 rfl
         have hlo3 := blk_lt hxo3
         have hrgzo8 := hrgo8
         have hrgzo9 := hrgo9
         replace hrgo8 := Lib.hid (rg_lo hrgo8.out (lo := v6.heap.size + 0) (hi := v7.heap.size) (by first | exact Nat.le_refl _ | exact le_al1 | (simp; done) | (simp; omega)) (Nat.le_refl _))
         replace hrgo9 := Lib.hid (rg_lo hrgo9.out (lo := v6.heap.size + 0) (hi := v7.heap.size) (by first | exact Nat.le_refl _ | exact le_al1 | (simp; done) | (simp; omega)) (Nat.le_refl _))
         )
      | (have hqg := hoo6
         clear hqg
         go_at_call 19
         refine (toDfa_any _ x2_0 _ _ _ x2_1 (by have h := (hr2_1.below HB (Nat.le_refl _)); first | exact h | exact h.below (below_new _ _) (Nat.le_refl _) | exact h.below (below_drew1 (below_new _ _)) (Nat.le_refl _)) (by omega)).mono ?_
         rintro e v6 ⟨Ao7, no7, co7, rfl, hoo7, hbv6⟩
         have hno7 : no7 ≤ 1048576 := by have h1 := hoo7.1; simp only [List.length_map] at h1; have h2 := HXL2_1.out; omega
         have hrgo7 := Lib.hid (rg_row hoo7)
         clear qo1_0 qo1_1 qo1_2 qo2_0 qo2_1 qo3_0 qo3_1 hlo1 hlo2 hlo3
         (try replace hbv6 := und1 hbv6)
         (try replace hbv6 := undN hbv6)
         (try clear zo4_0 fo4_0 zo4_1 fo4_1 zo4_2 fo4_2)
         (try (have hq := box_step hbv6; clear hbv6; obtain ⟨hbv6, hxo4, hso4⟩ := hq))
         (try replace hxo4 := blk_bel hxo4 hbv6)
         (try have zo4_0 := blk_cell hxo4 0 rfl)
         (try have fo4_0 := blk_free hxo4 0)
         (try have zo4_1 := blk_cell hxo4 1 rfl)
         (try have fo4_1 := blk_free hxo4 1)
         (try have zo4_2 := blk_cell hxo4 2 rfl)
         (try have fo4_2 := blk_free hxo4 2)
         (try have hlo4 := blk_lt hxo4)
         replace HC := HC.trans (hbv6.mono HC.size)
         replace hoo5 := ownN_below hoo5 hbv6 (Nat.le_refl _)
         replace hoo6 := ownN_below hoo6 hbv6 (Nat.le_refl _)
         replace hxo1 := blk_bel hxo1 hbv6
         replace hxo2 := blk_bel hxo2 hbv6
         replace hxo3 := blk_bel hxo3 hbv6
         replace HB := HB.trans (hbv6.mono HB.size)
         have hszv6 := hbv6.size
         have qo1_0 := blk_cell hxo1 0 rfl
         have qo1_1 := blk_cell hxo1 1 rfl
         have qo1_2 := blk_cell hxo1 2 rfl
         have hlo1 := blk_lt hxo1
         have qo2_0 := blk_cell hxo2 0 rfl
         have qo2_1 := blk_cell hxo2 1 rfl
         have hlo2 := blk_lt hxo2
         have qo3_0 := blk_cell hxo3 0 rfl
         have qo3_1 := blk_cell hxo3 1 rfl
         have hlo3 := blk_lt hxo3
         have hrgzo7 := hrgo7
         replace hrgo7 := Lib.hid (rg_lo hrgo7.out (lo := v5.heap.size + 0) (hi := v6.heap.size) (by first | exact Nat.le_refl _ | exact le_al1 | (simp; done) | (simp; omega)) (Nat.le_refl _))
         )
      | (go_at_call 19
         refine (toDfa_any _ x1_0 _ _ _ x1_1 (by have h := (hr1_1.below HB (Nat.le_refl _)); first | exact h | exact h.below (below_new _ _) (Nat.le_refl _) | exact h.below (below_drew1 (below_new _ _)) (Nat.le_refl _)) (by omega)).mono ?_
         rintro e v5 ⟨Ao6, no6, co6, rfl, hoo6, hbv5⟩
         have hno6 : no6 ≤ 1048576 := by have h1 := hoo6.1; simp only [List.length_map] at h1; have h2 := HXL1_1.out; omega
         have hrgo6 := Lib.hid (rg_row hoo6)
         clear qo1_0 qo1_1 qo1_2 qo2_0 qo2_1 qo3_0 qo3_1 hlo1 hlo2 hlo3
         (try replace hbv5 := und1 hbv5)
         (try replace hbv5 := undN hbv5)
         (try clear zo4_0 fo4_0 zo4_1 fo4_1 zo4_2 fo4_2)
         (try (have hq := box_step hbv5; clear hbv5; obtain ⟨hbv5, hxo4, hso4⟩ := hq))
         (try replace hxo4 := blk_bel hxo4 hbv5)
         (try have zo4_0 := blk_cell hxo4 0 rfl)
         (try have fo4_0 := blk_free hxo4 0)
         (try have zo4_1 := blk_cell hxo4 1 rfl)
         (try have fo4_1 := blk_free hxo4 1)
         (try have zo4_2 := blk_cell hxo4 2 rfl)
         (try have fo4_2 := blk_free hxo4 2)
         (try have hlo4 := blk_lt hxo4)
         replace HC := HC.trans (hbv5.mono HC.size)
         replace hoo5 := ownN_below hoo5 hbv5 (Nat.le_refl _)
         replace hxo1 := blk_bel hxo1 hbv5
         replace hxo2 := blk_bel hxo2 hbv5
         replace hxo3 := blk_bel hxo3 hbv5
         replace HB := HB.trans (hbv5.mono HB.size)
         have hszv5 := hbv5.size
         have qo1_0 := blk_cell hxo1 0 rfl
         have qo1_1 := blk_cell hxo1 1 rfl
         have qo1_2 := blk_cell hxo1 2 rfl
         have hlo1 := blk_lt hxo1
         have qo2_0 := blk_cell hxo2 0 rfl
         have qo2_1 := blk_cell hxo2 1 rfl
         have hlo2 := blk_lt hxo2
         have qo3_0 := blk_cell hxo3 0 rfl
         have qo3_1 := blk_cell hxo3 1 rfl
         have hlo3 := blk_lt hxo3
         have hrgzo6 := hrgo6
         replace hrgo6 := Lib.hid (rg_lo hrgo6.out (lo := v4.heap.size + 0) (hi := v5.heap.size) (by first | exact Nat.le_refl _ | exact le_al1 | (simp; done) | (simp; omega)) (Nat.le_refl _))
         )
      | (go_at_call 18
         refine (toMachine_any _ x0_0 x0_1 _ _ _ (flatR rs) (by have h := (hr0_2.below HB (Nat.le_refl _)); first | exact h | exact h.below (below_new _ _) (Nat.le_refl _) | exact h.below (below_drew1 (below_new _ _)) (Nat.le_refl _)) (by omega)).mono ?_
         rintro e v4 ⟨Ao5, no5, co5, rfl, hoo5, hbv4⟩
         have hno5 : no5 ≤ 1048576 := by have h1 := hoo5.1; simp only [List.length_map] at h1; have h2 := HXL0_2.out; omega
         have hrgo5 := Lib.hid (rg_row hoo5)
         clear qo1_0 qo1_1 qo1_2 qo2_0 qo2_1 qo3_0 qo3_1 hlo1 hlo2 hlo3
         (try replace hbv4 := und1 hbv4)
         (try replace hbv4 := undN hbv4)
         (try clear zo4_0 fo4_0 zo4_1 fo4_1 zo4_2 fo4_2)
         (try (have hq := box_step hbv4; clear hbv4; obtain ⟨hbv4, hxo4, hso4⟩ := hq))
         (try replace hxo4 := blk_bel hxo4 hbv4)
         (try have zo4_0 := blk_cell hxo4 0 rfl)
         (try have fo4_0 := blk_free hxo4 0)
         (try have zo4_1 := blk_cell hxo4 1 rfl)
         (try have fo4_1 := blk_free hxo4 1)
         (try have zo4_2 := blk_cell hxo4 2 rfl)
         (try have fo4_2 := blk_free hxo4 2)
         (try have hlo4 := blk_lt hxo4)
         replace HC := HC.trans (hbv4.mono HC.size)
         replace hxo1 := blk_bel hxo1 hbv4
         replace hxo2 := blk_bel hxo2 hbv4
         replace hxo3 := blk_bel hxo3 hbv4
         replace HB := HB.trans (hbv4.mono HB.size)
         have hszv4 := hbv4.size
         have qo1_0 := blk_cell hxo1 0 rfl
         have qo1_1 := blk_cell hxo1 1 rfl
         have qo1_2 := blk_cell hxo1 2 rfl
         have hlo1 := blk_lt hxo1
         have qo2_0 := blk_cell hxo2 0 rfl
         have qo2_1 := blk_cell hxo2 1 rfl
         have hlo2 := blk_lt hxo2
         have qo3_0 := blk_cell hxo3 0 rfl
         have qo3_1 := blk_cell hxo3 1 rfl
         have hlo3 := blk_lt hxo3
         have hrgzo5 := hrgo5
         replace hrgo5 := Lib.hid (rg_lo hrgo5.out (lo := v3.heap.size + 0) (hi := v4.heap.size) (by first | exact Nat.le_refl _ | exact le_al1 | (simp; done) | (simp; omega)) (Nat.le_refl _))
         )
      )
    all_goals
      go_wp2_with fail
      go_meet
      exact ⟨_, _, _, _, _, _, _, _, rfl, rfl, (by first | exact box_new _ _ _ | simpa using blk_set (blk_set (blk_set (hxo4) 0 _) 1 _) 2 _), (by first | omega | (simp; omega)), (by first | exact own_ch (ownN_base hoo8 (by first | omega | (simp; omega) | (show _ ≤ (World.alloc _ _).heap.size; simp; omega))) (ch_alloc (fun _ => False) _ _) (fun k h1 h2 => h2) | exact own_ch (ownN_base hoo8 (by first | omega | (simp; omega) | (show _ ≤ (World.alloc _ _).heap.size; simp; omega))) (((ch_set _ _ 0 _).trans (ch_set _ _ 1 _)).trans (ch_set _ _ 2 _)) (fun k h1 h2 => by have h3 := hrgo8.out k h1; have h4 := (hrgzo8.out k h1).1; first | omega | (simp at h4; omega) | (change (World.alloc _ _).heap.size ≤ _ at h4; simp at h4; omega)) | exact own_ch (ownN_base hoo8 (by first | omega | (simp; omega) | (show _ ≤ (World.alloc _ _).heap.size; simp; omega))) (ch_drew (ch_alloc (fun _ => False) _ _)) (fun k h1 h2 => h2) | exact own_ch (ownN_base hoo8 (by first | omega | (simp; omega) | (show _ ≤ (World.alloc _ _).heap.size; simp; omega))) (ch_drew (((ch_set _ _ 0 _).trans (ch_set _ _ 1 _)).trans (ch_set _ _ 2 _))) (fun k h1 h2 => by have h3 := hrgo8.out k h1; have h4 := (hrgzo8.out k h1).1; first | omega | (simp at h4; omega) | (change (World.alloc _ _).heap.size ≤ _ at h4; simp at h4; omega))), (fun k hk => by have h1 := hrgo8.out k hk; first | omega | (refine ⟨by omega, ?_⟩; simp; omega) | (refine ⟨by omega, ?_⟩; show k < _; simp only [World.size_setCell, World.size_alloc]; omega) | (trace_state; fail)), (fun hk => by have h1 := hrgo8.out _ hk; have h2 := (hrgzo8.out _ hk).1; first | omega | (simp at h2; omega) | (change (World.alloc _ _).heap.size ≤ _ at h2; simp at h2; omega)), (by first | exact hoo9.ch (ch_alloc (fun _ => False) _ _) (fun k h1 h2 => h2) | exact hoo9.ch (((ch_set _ _ 0 _).trans (ch_set _ _ 1 _)).trans (ch_set _ _ 2 _)) (fun k h1 h2 => by have h3 := hrgo9.out k h1; have h4 := (hrgzo9.out k h1).1; first | omega | (simp at h4; omega) | (change (World.alloc _ _).heap.size ≤ _ at h4; simp at h4; omega)) | exact hoo9.ch (ch_drew (ch_alloc (fun _ => False) _ _)) (fun k h1 h2 => h2) | exact hoo9.ch (ch_drew (((ch_set _ _ 0 _).trans (ch_set _ _ 1 _)).trans (ch_set _ _ 2 _))) (fun k h1 h2 => by have h3 := hrgo9.out k h1; have h4 := (hrgzo9.out k h1).1; first | omega | (simp at h4; omega) | (change (World.alloc _ _).heap.size ≤ _ at h4; simp at h4; omega))), (fun k hk => by have h1 := hrgo9.out k hk; first | omega | (refine ⟨by omega, ?_⟩; simp; omega) | (refine ⟨by omega, ?_⟩; show k < _; simp only [World.size_setCell, World.size_alloc]; omega) | (trace_state; fail)), (fun hk => by have h1 := hrgo9.out _ hk; have h2 := (hrgzo9.out _ hk).1; first | omega | (simp at h2; omega) | (change (World.alloc _ _).heap.size ≤ _ at h2; simp at h2; omega)), HDo8o9.out, (by first | exact HC.alloc HC.size _ | (refine (((HC).setCell ?_ _).setCell ?_ _).setCell ?_ _ <;> (first | omega | (dsimp only; omega) | (simp; omega))) | exact below_drew1 (HC.alloc HC.size _) | (refine below_drew1 ((((HC).setCell ?_ _).setCell ?_ _).setCell ?_ _) <;> (first | omega | (dsimp only; omega) | (simp; omega))))⟩
  case rest =>
  obtain ⟨go4, Ao8, no8, co8, Ao9, no9, co9, Fo9, rfl, rfl, hxo4, hgo4, hoo8, hFo8, hnfo8o4, hoo9, hFo9, hnfo9o4, hdo8o9, hbcut⟩ := hcut
  have hupo4 := blk_lt hxo4
  obtain ⟨v8, rfl⟩ : ∃ v, v = wc := ⟨_, rfl⟩
  have hrgo8 := Lib.hid hFo8; clear hFo8
  have hno8 : no8 ≤ 1000000 := by have h1 := hoo8.1; simp only [List.length_map] at h1; have h2 := HRLR1.out; omega
  have hrgo9 := Lib.hid hFo9; clear hFo9
  have hno9 : no9 ≤ 1000000 := by have h1 := hoo9.len; have h2 := HRLR2.out; omega
  have HDo8o9 := Lib.hid hdo8o9; clear hdo8o9
  clear qo1_0 qo1_1 qo1_2 qo2_0 qo2_1 qo3_0 qo3_1 hlo1 hlo2 hlo3
  (try replace hbcut := und1 hbcut)
  (try replace hbcut := undN hbcut)
  replace hxo1 := blk_bel hxo1 hbcut
  replace hxo2 := blk_bel hxo2 hbcut
  replace hxo3 := blk_bel hxo3 hbcut
  replace HB := HB.trans (hbcut.mono HB.size)
  have hszv8 := hbcut.size
  have qo1_0 := blk_cell hxo1 0 rfl
  have qo1_1 := blk_cell hxo1 1 rfl
  have qo1_2 := blk_cell hxo1 2 rfl
  have hlo1 := blk_lt hxo1
  have qo2_0 := blk_cell hxo2 0 rfl
  have qo2_1 := blk_cell hxo2 1 rfl
  have hlo2 := blk_lt hxo2
  have qo3_0 := blk_cell hxo3 0 rfl
  have qo3_1 := blk_cell hxo3 1 rfl
  have hlo3 := blk_lt hxo3
  clear qo1_0 qo1_1 qo1_2 qo2_0 qo2_1 qo3_0 qo3_1 hlo1 hlo2 hlo3
  have qo1_0 := blk_cell hxo1 0 rfl
  have qo1_1 := blk_cell hxo1 1 rfl
  have qo1_2 := blk_cell hxo1 2 rfl
  have hlo1 := blk_lt hxo1
  have qo2_0 := blk_cell hxo2 0 rfl
  have qo2_1 := blk_cell hxo2 1 rfl
  have hlo2 := blk_lt hxo2
  have qo3_0 := blk_cell hxo3 0 rfl
  have qo3_1 := blk_cell hxo3 1 rfl
  have hlo3 := blk_lt hxo3
  have qo4_0 := blk_cell hxo4 0 rfl
  have qo4_1 := blk_cell hxo4 1 rfl
  have qo4_2 := blk_cell hxo4 2 rfl
  have hlo4 := blk_lt hxo4
  go_wp2_with fail
  refine (toMachine_any _ x0_0 x0_1 _ _ _ (flatR rs) (hr0_2.below HB (Nat.le_refl _)) (by omega)).mono ?_
  rintro e v9 ⟨Ao11, no11, co11, rfl, hoo11, hbv9⟩
  have hno11 : no11 ≤ 1048576 := by have h1 := hoo11.1; simp only [List.length_map] at h1; have h2 := HXL0_2.out; omega
  have hrgo11 := Lib.hid (rg_row hoo11)
  clear qo1_0 qo1_1 qo1_2 qo2_0 qo2_1 qo3_0 qo3_1 qo4_0 qo4_1 qo4_2 hlo1 hlo2 hlo3 hlo4
  (try replace hbv9 := und1 hbv9)
  (try replace hbv9 := undN hbv9)
  replace hoo8 := ownN_below hoo8 hbv9 (Nat.le_refl _)
  replace hoo9 := hoo9.below hbv9
  replace hxo1 := blk_bel hxo1 hbv9
  replace hxo2 := blk_bel hxo2 hbv9
  replace hxo3 := blk_bel hxo3 hbv9
  replace hxo4 := blk_bel hxo4 hbv9
  replace HB := HB.trans (hbv9.mono HB.size)
  have hszv9 := hbv9.size
  have qo1_0 := blk_cell hxo1 0 rfl
  have qo1_1 := blk_cell hxo1 1 rfl
  have qo1_2 := blk_cell hxo1 2 rfl
  have hlo1 := blk_lt hxo1
  have qo2_0 := blk_cell hxo2 0 rfl
  have qo2_1 := blk_cell hxo2 1 rfl
  have hlo2 := blk_lt hxo2
  have qo3_0 := blk_cell hxo3 0 rfl
  have qo3_1 := blk_cell hxo3 1 rfl
  have hlo3 := blk_lt hxo3
  have qo4_0 := blk_cell hxo4 0 rfl
  have qo4_1 := blk_cell hxo4 1 rfl
  have qo4_2 := blk_cell hxo4 2 rfl
  have hlo4 := blk_lt hxo4
  replace hrgo11 := Lib.hid (rg_lo hrgo11.out (lo := v8.heap.size + 0) (hi := v9.heap.size) (by first | exact Nat.le_refl _ | exact le_al1 | (simp; done) | (simp; omega)) (Nat.le_refl _))
  go_wp2_with fail
  refine (toDfa_any _ x1_0 _ _ _ x1_1 ((hr1_1.below HB (Nat.le_refl _)).below (below_new _ _) (Nat.le_refl _)) (by omega)).mono ?_
  rintro e v10 ⟨Ao13, no13, co13, rfl, hoo13, hbv10⟩
  have hno13 : no13 ≤ 1048576 := by have h1 := hoo13.1; simp only [List.length_map] at h1; have h2 := HXL1_1.out; omega
  have hrgo13 := Lib.hid (rg_row hoo13)
  clear qo1_0 qo1_1 qo1_2 qo2_0 qo2_1 qo3_0 qo3_1 qo4_0 qo4_1 qo4_2 hlo1 hlo2 hlo3 hlo4
  (try replace hbv10 := und1 hbv10)
  (try replace hbv10 := undN hbv10)
  obtain ⟨hbv10b, hxo12, hso12⟩ := box_step hbv10
  (try simp only [World.size_alloc] at hxo12 hso12)
  replace hoo8 := ownN_below hoo8 hbv10b (Nat.le_refl _)
  replace hoo9 := hoo9.below hbv10b
  replace hoo11 := ownN_below hoo11 hbv10b (Nat.le_refl _)
  replace hxo1 := blk_bel hxo1 hbv10b
  replace hxo2 := blk_bel hxo2 hbv10b
  replace hxo3 := blk_bel hxo3 hbv10b
  replace hxo4 := blk_bel hxo4 hbv10b
  replace HB := HB.trans (hbv10b.mono HB.size)
  have hszv10 := hbv10b.size
  have qo1_0 := blk_cell hxo1 0 rfl
  have qo1_1 := blk_cell hxo1 1 rfl
  have qo1_2 := blk_cell hxo1 2 rfl
  have hlo1 := blk_lt hxo1
  have qo2_0 := blk_cell hxo2 0 rfl
  have qo2_1 := blk_cell hxo2 1 rfl
  have hlo2 := blk_lt hxo2
  have qo3_0 := blk_cell hxo3 0 rfl
  have qo3_1 := blk_cell hxo3 1 rfl
  have hlo3 := blk_lt hxo3
  have qo4_0 := blk_cell hxo4 0 rfl
  have qo4_1 := blk_cell hxo4 1 rfl
  have qo4_2 := blk_cell hxo4 2 rfl
  have hlo4 := blk_lt hxo4
  have qo12_0 := blk_cell hxo12 0 rfl
  have qo12_1 := blk_cell hxo12 1 rfl
  have qo12_2 := blk_cell hxo12 2 rfl
  have hlo12 := blk_lt hxo12
  replace hrgo13 := Lib.hid (rg_lo hrgo13.out (lo := v9.heap.size + 1) (hi := v10.heap.size) (by first | exact Nat.le_refl _ | exact le_al1 | (simp; done) | (simp; omega)) (Nat.le_refl _))
  go_wp2_with fail
  refine (toDfa_any _ x2_0 _ _ _ x2_1 ((hr2_1.below HB (Nat.le_refl _)).below (below_new _ _) (Nat.le_refl _)) (by omega)).mono ?_
  rintro e v11 ⟨Ao15, no15, co15, rfl, hoo15, hbv11⟩
  have hno15 : no15 ≤ 1048576 := by have h1 := hoo15.1; simp only [List.length_map] at h1; have h2 := HXL2_1.out; omega
  have hrgo15 := Lib.hid (rg_row hoo15)
  clear qo1_0 qo1_1 qo1_2 qo2_0 qo2_1 qo3_0 qo3_1 qo4_0 qo4_1 qo4_2 qo12_0 qo12_1 qo12_2 hlo1 hlo2 hlo3 hlo4 hlo12
  (try replace hbv11 := und1 hbv11)
  (try replace hbv11 := undN hbv11)
  obtain ⟨hbv11b, hxo14, hso14⟩ := box_step hbv11
  (try simp only [World.size_alloc] at hxo14 hso14)
  replace hoo8 := ownN_below hoo8 hbv11b (Nat.le_refl _)
  replace hoo9 := hoo9.below hbv11b
  replace hoo11 := ownN_below hoo11 hbv11b (Nat.le_refl _)
  replace hoo13 := ownN_below hoo13 hbv11b (Nat.le_refl _)
  replace hxo1 := blk_bel hxo1 hbv11b
  replace hxo2 := blk_bel hxo2 hbv11b
  replace hxo3 := blk_bel hxo3 hbv11b
  replace hxo4 := blk_bel hxo4 hbv11b
  replace hxo12 := blk_bel hxo12 hbv11b
  replace HB := HB.trans (hbv11b.mono HB.size)
  have hszv11 := hbv11b.size
  have qo1_0 := blk_cell hxo1 0 rfl
  have qo1_1 := blk_cell hxo1 1 rfl
  have qo1_2 := blk_cell hxo1 2 rfl
  have hlo1 := blk_lt hxo1
  have qo2_0 := blk_cell hxo2 0 rfl
  have qo2_1 := blk_cell hxo2 1 rfl
  have hlo2 := blk_lt hxo2
  have qo3_0 := blk_cell hxo3 0 rfl
  have qo3_1 := blk_cell hxo3 1 rfl
  have hlo3 := blk_lt hxo3
  have qo4_0 := blk_cell hxo4 0 rfl
  have qo4_1 := blk_cell hxo4 1 rfl
  have qo4_2 := blk_cell hxo4 2 rfl
  have hlo4 := blk_lt hxo4
  have qo12_0 := blk_cell hxo12 0 rfl
  have qo12_1 := blk_cell hxo12 1 rfl
  have qo12_2 := blk_cell hxo12 2 rfl
  have hlo12 := blk_lt hxo12
  have qo14_0 := blk_cell hxo14 0 rfl
  have qo14_1 := blk_cell hxo14 1 rfl
  have hlo14 := blk_lt hxo14
  replace hrgo15 := Lib.hid (rg_lo hrgo15.out (lo := v10.heap.size + 1) (hi := v11.heap.size) (by first | exact Nat.le_refl _ | exact le_al1 | (simp; done) | (simp; omega)) (Nat.le_refl _))
  go_wp2_with fail
  refine (HI.out _ _ _ _ ((ownN_rd hoo11).below (below_new _ _) (Nat.le_refl _)) (by omega) (ownN_cap hoo11) _ _ _ ((own_rd hoo13).below (below_new _ _) (Nat.le_refl _)) (by omega) (ownN_cap hoo13) _ _ _ ((own_rd hoo15).below (below_new _ _) (Nat.le_refl _)) (by omega) (ownN_cap hoo15)).mono ?_
  rintro e v12 ⟨Ao17, no17, co17, Ao18, no18, co18, Fo18, rfl, hoo17, hoo18, hFo18, hdo17o18, hbv12⟩
  have hno17 : no17 ≤ 1000000 := by have h1 := hoo17.1; simp only [List.length_map] at h1; have h2 := HRLR1.out; omega
  have hno18 : no18 ≤ 1000000 := by have h1 := hoo18.len; have h2 := HRLR2.out; omega
  have hrgo17 := Lib.hid (rg_row hoo17)
  have hrgo18 := Lib.hid hFo18; clear hFo18
  have HDo17o18 := Lib.hid hdo17o18; clear hdo17o18
  clear qo1_0 qo1_1 qo1_2 qo2_0 qo2_1 qo3_0 qo3_1 qo4_0 qo4_1 qo4_2 qo12_0 qo12_1 qo12_2 qo14_0 qo14_1 hlo1 hlo2 hlo3 hlo4 hlo12 hlo14
  (try replace hbv12 := und1 hbv12)
  (try replace hbv12 := undN hbv12)
  obtain ⟨hbv12b, hxo16, hso16⟩ := box_step hbv12
  (try simp only [World.size_alloc] at hxo16 hso16)
  replace hoo8 := ownN_below hoo8 hbv12b (Nat.le_refl _)
  replace hoo9 := hoo9.below hbv12b
  replace hoo11 := ownN_below hoo11 hbv12b (Nat.le_refl _)
  replace hoo13 := ownN_below hoo13 hbv12b (Nat.le_refl _)
  replace hoo15 := ownN_below hoo15 hbv12b (Nat.le_refl _)
  replace hxo1 := blk_bel hxo1 hbv12b
  replace hxo2 := blk_bel hxo2 hbv12b
  replace hxo3 := blk_bel hxo3 hbv12b
  replace hxo4 := blk_bel hxo4 hbv12b
  replace hxo12 := blk_bel hxo12 hbv12b
  replace hxo14 := blk_bel hxo14 hbv12b
  replace HB := HB.trans (hbv12b.mono HB.size)
  have hszv12 := hbv12b.size
  have qo1_0 := blk_cell hxo1 0 rfl
  have qo1_1 := blk_cell hxo1 1 rfl
  have qo1_2 := blk_cell hxo1 2 rfl
  have hlo1 := blk_lt hxo1
  have qo2_0 := blk_cell hxo2 0 rfl
  have qo2_1 := blk_cell hxo2 1 rfl
  have hlo2 := blk_lt hxo2
  have qo3_0 := blk_cell hxo3 0 rfl
  have qo3_1 := blk_cell hxo3 1 rfl
  have hlo3 := blk_lt hxo3
  have qo4_0 := blk_cell hxo4 0 rfl
  have qo4_1 := blk_cell hxo4 1 rfl
  have qo4_2 := blk_cell hxo4 2 rfl
  have hlo4 := blk_lt hxo4
  have qo12_0 := blk_cell hxo12 0 rfl
  have qo12_1 := blk_cell hxo12 1 rfl
  have qo12_2 := blk_cell hxo12 2 rfl
  have hlo12 := blk_lt hxo12
  have qo14_0 := blk_cell hxo14 0 rfl
  have qo14_1 := blk_cell hxo14 1 rfl
  have hlo14 := blk_lt hxo14
  have qo16_0 := blk_cell hxo16 0 rfl
  have qo16_1 := blk_cell hxo16 1 rfl
  have hlo16 := blk_lt hxo16
  replace hrgo17 := Lib.hid (rg_lo hrgo17.out (lo := v11.heap.size + 1) (hi := v12.heap.size) (by first | exact Nat.le_refl _ | exact le_al1 | (simp; done) | (simp; omega)) (Nat.le_refl _))
  replace hrgo18 := Lib.hid (rg_lo hrgo18.out (lo := v11.heap.size + 1) (hi := v12.heap.size) (by first | exact Nat.le_refl _ | exact le_al1 | (simp; done) | (simp; omega)) (Nat.le_refl _))
  go_wp2_with fail
  refine (eqProof_same _ _ _ _ _ r1 ((own_rd hoo17).below (below_new _ _) (Nat.le_refl _)) (by omega) _ _ _ ((own_rd hoo8).below (below_new _ _) (Nat.le_refl _)) _ _ _ r2 (hoo18.rdl.below (below_new _ _) (Nat.le_refl _)) (by omega) _ _ _ (hoo9.rdl.below (below_new _ _) (Nat.le_refl _))).mono ?_
  rintro e v13 ⟨rfl, hbv13⟩
  clear qo1_0 qo1_1 qo1_2 qo2_0 qo2_1 qo3_0 qo3_1 qo4_0 qo4_1 qo4_2 qo12_0 qo12_1 qo12_2 qo14_0 qo14_1 qo16_0 qo16_1 hlo1 hlo2 hlo3 hlo4 hlo12 hlo14 hlo16
  (try replace hbv13 := und1 hbv13)
  (try replace hbv13 := undN hbv13)
  obtain ⟨hbv13b, hxo19, hso19⟩ := box_step hbv13
  (try simp only [World.size_alloc] at hxo19 hso19)
  replace hoo8 := ownN_below hoo8 hbv13b (Nat.le_refl _)
  replace hoo9 := hoo9.below hbv13b
  replace hoo11 := ownN_below hoo11 hbv13b (Nat.le_refl _)
  replace hoo13 := ownN_below hoo13 hbv13b (Nat.le_refl _)
  replace hoo15 := ownN_below hoo15 hbv13b (Nat.le_refl _)
  replace hoo17 := ownN_below hoo17 hbv13b (Nat.le_refl _)
  replace hoo18 := hoo18.below hbv13b
  replace hxo1 := blk_bel hxo1 hbv13b
  replace hxo2 := blk_bel hxo2 hbv13b
  replace hxo3 := blk_bel hxo3 hbv13b
  replace hxo4 := blk_bel hxo4 hbv13b
  replace hxo12 := blk_bel hxo12 hbv13b
  replace hxo14 := blk_bel hxo14 hbv13b
  replace hxo16 := blk_bel hxo16 hbv13b
  replace HB := HB.trans (hbv13b.mono HB.size)
  have hszv13 := hbv13b.size
  have qo1_0 := blk_cell hxo1 0 rfl
  have qo1_1 := blk_cell hxo1 1 rfl
  have qo1_2 := blk_cell hxo1 2 rfl
  have hlo1 := blk_lt hxo1
  have qo2_0 := blk_cell hxo2 0 rfl
  have qo2_1 := blk_cell hxo2 1 rfl
  have hlo2 := blk_lt hxo2
  have qo3_0 := blk_cell hxo3 0 rfl
  have qo3_1 := blk_cell hxo3 1 rfl
  have hlo3 := blk_lt hxo3
  have qo4_0 := blk_cell hxo4 0 rfl
  have qo4_1 := blk_cell hxo4 1 rfl
  have qo4_2 := blk_cell hxo4 2 rfl
  have hlo4 := blk_lt hxo4
  have qo12_0 := blk_cell hxo12 0 rfl
  have qo12_1 := blk_cell hxo12 1 rfl
  have qo12_2 := blk_cell hxo12 2 rfl
  have hlo12 := blk_lt hxo12
  have qo14_0 := blk_cell hxo14 0 rfl
  have qo14_1 := blk_cell hxo14 1 rfl
  have hlo14 := blk_lt hxo14
  have qo16_0 := blk_cell hxo16 0 rfl
  have qo16_1 := blk_cell hxo16 1 rfl
  have hlo16 := blk_lt hxo16
  have qo19_0 := blk_cell hxo19 0 rfl
  have qo19_1 := blk_cell hxo19 1 rfl
  have qo19_2 := blk_cell hxo19 2 rfl
  have hlo19 := blk_lt hxo19
  go_wp2_with fail
  go_region_held3 (fun w' => w'.cell? ⟨v9.heap.size, 0, none⟩ = some (.int .i64 x0_0) ∧ w'.cell? ⟨v9.heap.size, 1, none⟩ = some (.int .i64 x0_1) ∧ w'.cell? ⟨v9.heap.size, 2, none⟩ = some (.slice Ao11 no11 co11) ∧ w'.cell? ⟨w.heap.size, 0, none⟩ = some (.int .i64 x0_0) ∧ w'.cell? ⟨w.heap.size, 1, none⟩ = some (.int .i64 x0_1) ∧ w'.cell? ⟨w.heap.size, 2, none⟩ = some (.slice A0_2 n0_2 c0_2)) (first | exact ⟨qo12_0, qo12_1, qo12_2, qo1_0, qo1_1, qo1_2⟩ | go_keep) (first
    | (go_at_call 18
       refine (toMachine_any _ x0_0 x0_1 _ _ _ (flatR rs) (by have h := (hr0_2.below HB (Nat.le_refl _)); first | exact h | exact h.below (below_new _ _) (Nat.le_refl _) | exact h.below (below_drew1 (below_new _ _)) (Nat.le_refl _)) (by omega)).mono ?_
       rintro e v14 ⟨Ao20, no20, co20, rfl, hoo20, hbv14⟩
       have hno20 : no20 ≤ 1048576 := by have h1 := hoo20.1; simp only [List.length_map] at h1; have h2 := HXL0_2.out; omega
       have hrgo20 := Lib.hid (rg_row hoo20)
       clear qo1_0 qo1_1 qo1_2 qo2_0 qo2_1 qo3_0 qo3_1 qo4_0 qo4_1 qo4_2 qo12_0 qo12_1 qo12_2 qo14_0 qo14_1 qo16_0 qo16_1 qo19_0 qo19_1 qo19_2 hlo1 hlo2 hlo3 hlo4 hlo12 hlo14 hlo16 hlo19
       (try replace hbv14 := und1 hbv14)
       (try replace hbv14 := undN hbv14)
       replace hoo8 := ownN_below hoo8 hbv14 (Nat.le_refl _)
       replace hoo9 := hoo9.below hbv14
       replace hoo11 := ownN_below hoo11 hbv14 (Nat.le_refl _)
       replace hoo13 := ownN_below hoo13 hbv14 (Nat.le_refl _)
       replace hoo15 := ownN_below hoo15 hbv14 (Nat.le_refl _)
       replace hoo17 := ownN_below hoo17 hbv14 (Nat.le_refl _)
       replace hoo18 := hoo18.below hbv14
       replace hxo1 := blk_bel hxo1 hbv14
       replace hxo2 := blk_bel hxo2 hbv14
       replace hxo3 := blk_bel hxo3 hbv14
       replace hxo4 := blk_bel hxo4 hbv14
       replace hxo12 := blk_bel hxo12 hbv14
       replace hxo14 := blk_bel hxo14 hbv14
       replace hxo16 := blk_bel hxo16 hbv14
       replace hxo19 := blk_bel hxo19 hbv14
       replace HB := HB.trans (hbv14.mono HB.size)
       have hszv14 := hbv14.size
       have qo1_0 := blk_cell hxo1 0 rfl
       have qo1_1 := blk_cell hxo1 1 rfl
       have qo1_2 := blk_cell hxo1 2 rfl
       have hlo1 := blk_lt hxo1
       have qo2_0 := blk_cell hxo2 0 rfl
       have qo2_1 := blk_cell hxo2 1 rfl
       have hlo2 := blk_lt hxo2
       have qo3_0 := blk_cell hxo3 0 rfl
       have qo3_1 := blk_cell hxo3 1 rfl
       have hlo3 := blk_lt hxo3
       have qo4_0 := blk_cell hxo4 0 rfl
       have qo4_1 := blk_cell hxo4 1 rfl
       have qo4_2 := blk_cell hxo4 2 rfl
       have hlo4 := blk_lt hxo4
       have qo12_0 := blk_cell hxo12 0 rfl
       have qo12_1 := blk_cell hxo12 1 rfl
       have qo12_2 := blk_cell hxo12 2 rfl
       have hlo12 := blk_lt hxo12
       have qo14_0 := blk_cell hxo14 0 rfl
       have qo14_1 := blk_cell hxo14 1 rfl
       have hlo14 := blk_lt hxo14
       have qo16_0 := blk_cell hxo16 0 rfl
       have qo16_1 := blk_cell hxo16 1 rfl
       have hlo16 := blk_lt hxo16
       have qo19_0 := blk_cell hxo19 0 rfl
       have qo19_1 := blk_cell hxo19 1 rfl
       have qo19_2 := blk_cell hxo19 2 rfl
       have hlo19 := blk_lt hxo19
       replace hrgo20 := Lib.hid (rg_lo hrgo20.out (lo := v13.heap.size + 0) (hi := v14.heap.size) (by first | exact Nat.le_refl _ | exact le_al1 | (simp; done) | (simp; omega)) (Nat.le_refl _))
       )
    | (go_at_call 22
       refine (eqMachine_same _ _ _ _ _ _ (flatR rs) (by have h := (ownN_rd hoo11); first | exact h | exact h.below (below_new _ _) (Nat.le_refl _) | exact h.below (below_drew1 (below_new _ _)) (Nat.le_refl _)) (by omega) _ _ _ (by have h := (ownN_rd hoo20); first | exact h | exact h.below (below_new _ _) (Nat.le_refl _) | exact h.below (below_drew1 (below_new _ _)) (Nat.le_refl _))).mono ?_
       rintro e v15 ⟨rfl, hbv15⟩
       clear qo1_0 qo1_1 qo1_2 qo2_0 qo2_1 qo3_0 qo3_1 qo4_0 qo4_1 qo4_2 qo12_0 qo12_1 qo12_2 qo14_0 qo14_1 qo16_0 qo16_1 qo19_0 qo19_1 qo19_2 hlo1 hlo2 hlo3 hlo4 hlo12 hlo14 hlo16 hlo19
       (try replace hbv15 := und1 hbv15)
       (try replace hbv15 := undN hbv15)
       replace hoo8 := ownN_below hoo8 hbv15 (Nat.le_refl _)
       replace hoo9 := hoo9.below hbv15
       replace hoo11 := ownN_below hoo11 hbv15 (Nat.le_refl _)
       replace hoo13 := ownN_below hoo13 hbv15 (Nat.le_refl _)
       replace hoo15 := ownN_below hoo15 hbv15 (Nat.le_refl _)
       replace hoo17 := ownN_below hoo17 hbv15 (Nat.le_refl _)
       replace hoo18 := hoo18.below hbv15
       replace hoo20 := ownN_below hoo20 hbv15 (Nat.le_refl _)
       replace hxo1 := blk_bel hxo1 hbv15
       replace hxo2 := blk_bel hxo2 hbv15
       replace hxo3 := blk_bel hxo3 hbv15
       replace hxo4 := blk_bel hxo4 hbv15
       replace hxo12 := blk_bel hxo12 hbv15
       replace hxo14 := blk_bel hxo14 hbv15
       replace hxo16 := blk_bel hxo16 hbv15
       replace hxo19 := blk_bel hxo19 hbv15
       replace HB := HB.trans (hbv15.mono HB.size)
       have hszv15 := hbv15.size
       have qo1_0 := blk_cell hxo1 0 rfl
       have qo1_1 := blk_cell hxo1 1 rfl
       have qo1_2 := blk_cell hxo1 2 rfl
       have hlo1 := blk_lt hxo1
       have qo2_0 := blk_cell hxo2 0 rfl
       have qo2_1 := blk_cell hxo2 1 rfl
       have hlo2 := blk_lt hxo2
       have qo3_0 := blk_cell hxo3 0 rfl
       have qo3_1 := blk_cell hxo3 1 rfl
       have hlo3 := blk_lt hxo3
       have qo4_0 := blk_cell hxo4 0 rfl
       have qo4_1 := blk_cell hxo4 1 rfl
       have qo4_2 := blk_cell hxo4 2 rfl
       have hlo4 := blk_lt hxo4
       have qo12_0 := blk_cell hxo12 0 rfl
       have qo12_1 := blk_cell hxo12 1 rfl
       have qo12_2 := blk_cell hxo12 2 rfl
       have hlo12 := blk_lt hxo12
       have qo14_0 := blk_cell hxo14 0 rfl
       have qo14_1 := blk_cell hxo14 1 rfl
       have hlo14 := blk_lt hxo14
       have qo16_0 := blk_cell hxo16 0 rfl
       have qo16_1 := blk_cell hxo16 1 rfl
       have hlo16 := blk_lt hxo16
       have qo19_0 := blk_cell hxo19 0 rfl
       have qo19_1 := blk_cell hxo19 1 rfl
       have qo19_2 := blk_cell hxo19 2 rfl
       have hlo19 := blk_lt hxo19
       )
    )
  go_wp2_with fail
  go_region_held3 (fun w' => w'.cell? ⟨v10.heap.size, 0, none⟩ = some (.int .i64 x1_0) ∧ w'.cell? ⟨v10.heap.size, 1, none⟩ = some (.slice Ao13 no13 co13) ∧ w'.cell? ⟨w.heap.size + 1, 0, none⟩ = some (.int .i64 x1_0) ∧ w'.cell? ⟨w.heap.size + 1, 1, none⟩ = some (.slice A1_1 n1_1 c1_1)) (first | exact ⟨qo14_0, qo14_1, qo2_0, qo2_1⟩ | go_keep) (first
    | (go_at_call 19
       refine (toDfa_any _ x1_0 _ _ _ x1_1 (by have h := (hr1_1.below HB (Nat.le_refl _)); first | exact h | exact h.below (below_new _ _) (Nat.le_refl _) | exact h.below (below_drew1 (below_new _ _)) (Nat.le_refl _)) (by omega)).mono ?_
       rintro e v16 ⟨Ao21, no21, co21, rfl, hoo21, hbv16⟩
       have hno21 : no21 ≤ 1048576 := by have h1 := hoo21.1; simp only [List.length_map] at h1; have h2 := HXL1_1.out; omega
       have hrgo21 := Lib.hid (rg_row hoo21)
       clear qo1_0 qo1_1 qo1_2 qo2_0 qo2_1 qo3_0 qo3_1 qo4_0 qo4_1 qo4_2 qo12_0 qo12_1 qo12_2 qo14_0 qo14_1 qo16_0 qo16_1 qo19_0 qo19_1 qo19_2 hlo1 hlo2 hlo3 hlo4 hlo12 hlo14 hlo16 hlo19
       (try replace hbv16 := und1 hbv16)
       (try replace hbv16 := undN hbv16)
       replace hoo8 := ownN_below hoo8 hbv16 (Nat.le_refl _)
       replace hoo9 := hoo9.below hbv16
       replace hoo11 := ownN_below hoo11 hbv16 (Nat.le_refl _)
       replace hoo13 := ownN_below hoo13 hbv16 (Nat.le_refl _)
       replace hoo15 := ownN_below hoo15 hbv16 (Nat.le_refl _)
       replace hoo17 := ownN_below hoo17 hbv16 (Nat.le_refl _)
       replace hoo18 := hoo18.below hbv16
       replace hoo20 := ownN_below hoo20 hbv16 (Nat.le_refl _)
       replace hxo1 := blk_bel hxo1 hbv16
       replace hxo2 := blk_bel hxo2 hbv16
       replace hxo3 := blk_bel hxo3 hbv16
       replace hxo4 := blk_bel hxo4 hbv16
       replace hxo12 := blk_bel hxo12 hbv16
       replace hxo14 := blk_bel hxo14 hbv16
       replace hxo16 := blk_bel hxo16 hbv16
       replace hxo19 := blk_bel hxo19 hbv16
       replace HB := HB.trans (hbv16.mono HB.size)
       have hszv16 := hbv16.size
       have qo1_0 := blk_cell hxo1 0 rfl
       have qo1_1 := blk_cell hxo1 1 rfl
       have qo1_2 := blk_cell hxo1 2 rfl
       have hlo1 := blk_lt hxo1
       have qo2_0 := blk_cell hxo2 0 rfl
       have qo2_1 := blk_cell hxo2 1 rfl
       have hlo2 := blk_lt hxo2
       have qo3_0 := blk_cell hxo3 0 rfl
       have qo3_1 := blk_cell hxo3 1 rfl
       have hlo3 := blk_lt hxo3
       have qo4_0 := blk_cell hxo4 0 rfl
       have qo4_1 := blk_cell hxo4 1 rfl
       have qo4_2 := blk_cell hxo4 2 rfl
       have hlo4 := blk_lt hxo4
       have qo12_0 := blk_cell hxo12 0 rfl
       have qo12_1 := blk_cell hxo12 1 rfl
       have qo12_2 := blk_cell hxo12 2 rfl
       have hlo12 := blk_lt hxo12
       have qo14_0 := blk_cell hxo14 0 rfl
       have qo14_1 := blk_cell hxo14 1 rfl
       have hlo14 := blk_lt hxo14
       have qo16_0 := blk_cell hxo16 0 rfl
       have qo16_1 := blk_cell hxo16 1 rfl
       have hlo16 := blk_lt hxo16
       have qo19_0 := blk_cell hxo19 0 rfl
       have qo19_1 := blk_cell hxo19 1 rfl
       have qo19_2 := blk_cell hxo19 2 rfl
       have hlo19 := blk_lt hxo19
       replace hrgo21 := Lib.hid (rg_lo hrgo21.out (lo := v15.heap.size + 0) (hi := v16.heap.size) (by first | exact Nat.le_refl _ | exact le_al1 | (simp; done) | (simp; omega)) (Nat.le_refl _))
       )
    | (go_at_call 23
       refine (eqDfa_same _ _ _ _ _ x1_1 (by have h := (own_rd hoo13); first | exact h | exact h.below (below_new _ _) (Nat.le_refl _) | exact h.below (below_drew1 (below_new _ _)) (Nat.le_refl _)) (by omega) _ _ _ (by have h := (own_rd hoo21); first | exact h | exact h.below (below_new _ _) (Nat.le_refl _) | exact h.below (below_drew1 (below_new _ _)) (Nat.le_refl _))).mono ?_
       rintro e v17 ⟨rfl, hbv17⟩
       clear qo1_0 qo1_1 qo1_2 qo2_0 qo2_1 qo3_0 qo3_1 qo4_0 qo4_1 qo4_2 qo12_0 qo12_1 qo12_2 qo14_0 qo14_1 qo16_0 qo16_1 qo19_0 qo19_1 qo19_2 hlo1 hlo2 hlo3 hlo4 hlo12 hlo14 hlo16 hlo19
       (try replace hbv17 := und1 hbv17)
       (try replace hbv17 := undN hbv17)
       replace hoo8 := ownN_below hoo8 hbv17 (Nat.le_refl _)
       replace hoo9 := hoo9.below hbv17
       replace hoo11 := ownN_below hoo11 hbv17 (Nat.le_refl _)
       replace hoo13 := ownN_below hoo13 hbv17 (Nat.le_refl _)
       replace hoo15 := ownN_below hoo15 hbv17 (Nat.le_refl _)
       replace hoo17 := ownN_below hoo17 hbv17 (Nat.le_refl _)
       replace hoo18 := hoo18.below hbv17
       replace hoo20 := ownN_below hoo20 hbv17 (Nat.le_refl _)
       replace hoo21 := ownN_below hoo21 hbv17 (Nat.le_refl _)
       replace hxo1 := blk_bel hxo1 hbv17
       replace hxo2 := blk_bel hxo2 hbv17
       replace hxo3 := blk_bel hxo3 hbv17
       replace hxo4 := blk_bel hxo4 hbv17
       replace hxo12 := blk_bel hxo12 hbv17
       replace hxo14 := blk_bel hxo14 hbv17
       replace hxo16 := blk_bel hxo16 hbv17
       replace hxo19 := blk_bel hxo19 hbv17
       replace HB := HB.trans (hbv17.mono HB.size)
       have hszv17 := hbv17.size
       have qo1_0 := blk_cell hxo1 0 rfl
       have qo1_1 := blk_cell hxo1 1 rfl
       have qo1_2 := blk_cell hxo1 2 rfl
       have hlo1 := blk_lt hxo1
       have qo2_0 := blk_cell hxo2 0 rfl
       have qo2_1 := blk_cell hxo2 1 rfl
       have hlo2 := blk_lt hxo2
       have qo3_0 := blk_cell hxo3 0 rfl
       have qo3_1 := blk_cell hxo3 1 rfl
       have hlo3 := blk_lt hxo3
       have qo4_0 := blk_cell hxo4 0 rfl
       have qo4_1 := blk_cell hxo4 1 rfl
       have qo4_2 := blk_cell hxo4 2 rfl
       have hlo4 := blk_lt hxo4
       have qo12_0 := blk_cell hxo12 0 rfl
       have qo12_1 := blk_cell hxo12 1 rfl
       have qo12_2 := blk_cell hxo12 2 rfl
       have hlo12 := blk_lt hxo12
       have qo14_0 := blk_cell hxo14 0 rfl
       have qo14_1 := blk_cell hxo14 1 rfl
       have hlo14 := blk_lt hxo14
       have qo16_0 := blk_cell hxo16 0 rfl
       have qo16_1 := blk_cell hxo16 1 rfl
       have hlo16 := blk_lt hxo16
       have qo19_0 := blk_cell hxo19 0 rfl
       have qo19_1 := blk_cell hxo19 1 rfl
       have qo19_2 := blk_cell hxo19 2 rfl
       have hlo19 := blk_lt hxo19
       )
    )
  go_wp2_with fail
  go_region_held3 (fun w' => w'.cell? ⟨v11.heap.size, 0, none⟩ = some (.int .i64 x2_0) ∧ w'.cell? ⟨v11.heap.size, 1, none⟩ = some (.slice Ao15 no15 co15) ∧ w'.cell? ⟨w.heap.size + 2, 0, none⟩ = some (.int .i64 x2_0) ∧ w'.cell? ⟨w.heap.size + 2, 1, none⟩ = some (.slice A2_1 n2_1 c2_1)) (first | exact ⟨qo16_0, qo16_1, qo3_0, qo3_1⟩ | go_keep) (first
    | (go_at_call 19
       refine (toDfa_any _ x2_0 _ _ _ x2_1 (by have h := (hr2_1.below HB (Nat.le_refl _)); first | exact h | exact h.below (below_new _ _) (Nat.le_refl _) | exact h.below (below_drew1 (below_new _ _)) (Nat.le_refl _)) (by omega)).mono ?_
       rintro e v18 ⟨Ao22, no22, co22, rfl, hoo22, hbv18⟩
       have hno22 : no22 ≤ 1048576 := by have h1 := hoo22.1; simp only [List.length_map] at h1; have h2 := HXL2_1.out; omega
       have hrgo22 := Lib.hid (rg_row hoo22)
       clear qo1_0 qo1_1 qo1_2 qo2_0 qo2_1 qo3_0 qo3_1 qo4_0 qo4_1 qo4_2 qo12_0 qo12_1 qo12_2 qo14_0 qo14_1 qo16_0 qo16_1 qo19_0 qo19_1 qo19_2 hlo1 hlo2 hlo3 hlo4 hlo12 hlo14 hlo16 hlo19
       (try replace hbv18 := und1 hbv18)
       (try replace hbv18 := undN hbv18)
       replace hoo8 := ownN_below hoo8 hbv18 (Nat.le_refl _)
       replace hoo9 := hoo9.below hbv18
       replace hoo11 := ownN_below hoo11 hbv18 (Nat.le_refl _)
       replace hoo13 := ownN_below hoo13 hbv18 (Nat.le_refl _)
       replace hoo15 := ownN_below hoo15 hbv18 (Nat.le_refl _)
       replace hoo17 := ownN_below hoo17 hbv18 (Nat.le_refl _)
       replace hoo18 := hoo18.below hbv18
       replace hoo20 := ownN_below hoo20 hbv18 (Nat.le_refl _)
       replace hoo21 := ownN_below hoo21 hbv18 (Nat.le_refl _)
       replace hxo1 := blk_bel hxo1 hbv18
       replace hxo2 := blk_bel hxo2 hbv18
       replace hxo3 := blk_bel hxo3 hbv18
       replace hxo4 := blk_bel hxo4 hbv18
       replace hxo12 := blk_bel hxo12 hbv18
       replace hxo14 := blk_bel hxo14 hbv18
       replace hxo16 := blk_bel hxo16 hbv18
       replace hxo19 := blk_bel hxo19 hbv18
       replace HB := HB.trans (hbv18.mono HB.size)
       have hszv18 := hbv18.size
       have qo1_0 := blk_cell hxo1 0 rfl
       have qo1_1 := blk_cell hxo1 1 rfl
       have qo1_2 := blk_cell hxo1 2 rfl
       have hlo1 := blk_lt hxo1
       have qo2_0 := blk_cell hxo2 0 rfl
       have qo2_1 := blk_cell hxo2 1 rfl
       have hlo2 := blk_lt hxo2
       have qo3_0 := blk_cell hxo3 0 rfl
       have qo3_1 := blk_cell hxo3 1 rfl
       have hlo3 := blk_lt hxo3
       have qo4_0 := blk_cell hxo4 0 rfl
       have qo4_1 := blk_cell hxo4 1 rfl
       have qo4_2 := blk_cell hxo4 2 rfl
       have hlo4 := blk_lt hxo4
       have qo12_0 := blk_cell hxo12 0 rfl
       have qo12_1 := blk_cell hxo12 1 rfl
       have qo12_2 := blk_cell hxo12 2 rfl
       have hlo12 := blk_lt hxo12
       have qo14_0 := blk_cell hxo14 0 rfl
       have qo14_1 := blk_cell hxo14 1 rfl
       have hlo14 := blk_lt hxo14
       have qo16_0 := blk_cell hxo16 0 rfl
       have qo16_1 := blk_cell hxo16 1 rfl
       have hlo16 := blk_lt hxo16
       have qo19_0 := blk_cell hxo19 0 rfl
       have qo19_1 := blk_cell hxo19 1 rfl
       have qo19_2 := blk_cell hxo19 2 rfl
       have hlo19 := blk_lt hxo19
       replace hrgo22 := Lib.hid (rg_lo hrgo22.out (lo := v17.heap.size + 0) (hi := v18.heap.size) (by first | exact Nat.le_refl _ | exact le_al1 | (simp; done) | (simp; omega)) (Nat.le_refl _))
       )
    | (go_at_call 23
       refine (eqDfa_same _ _ _ _ _ x2_1 (by have h := (own_rd hoo15); first | exact h | exact h.below (below_new _ _) (Nat.le_refl _) | exact h.below (below_drew1 (below_new _ _)) (Nat.le_refl _)) (by omega) _ _ _ (by have h := (own_rd hoo22); first | exact h | exact h.below (below_new _ _) (Nat.le_refl _) | exact h.below (below_drew1 (below_new _ _)) (Nat.le_refl _))).mono ?_
       rintro e v19 ⟨rfl, hbv19⟩
       clear qo1_0 qo1_1 qo1_2 qo2_0 qo2_1 qo3_0 qo3_1 qo4_0 qo4_1 qo4_2 qo12_0 qo12_1 qo12_2 qo14_0 qo14_1 qo16_0 qo16_1 qo19_0 qo19_1 qo19_2 hlo1 hlo2 hlo3 hlo4 hlo12 hlo14 hlo16 hlo19
       (try replace hbv19 := und1 hbv19)
       (try replace hbv19 := undN hbv19)
       replace hoo8 := ownN_below hoo8 hbv19 (Nat.le_refl _)
       replace hoo9 := hoo9.below hbv19
       replace hoo11 := ownN_below hoo11 hbv19 (Nat.le_refl _)
       replace hoo13 := ownN_below hoo13 hbv19 (Nat.le_refl _)
       replace hoo15 := ownN_below hoo15 hbv19 (Nat.le_refl _)
       replace hoo17 := ownN_below hoo17 hbv19 (Nat.le_refl _)
       replace hoo18 := hoo18.below hbv19
       replace hoo20 := ownN_below hoo20 hbv19 (Nat.le_refl _)
       replace hoo21 := ownN_below hoo21 hbv19 (Nat.le_refl _)
       replace hoo22 := ownN_below hoo22 hbv19 (Nat.le_refl _)
       replace hxo1 := blk_bel hxo1 hbv19
       replace hxo2 := blk_bel hxo2 hbv19
       replace hxo3 := blk_bel hxo3 hbv19
       replace hxo4 := blk_bel hxo4 hbv19
       replace hxo12 := blk_bel hxo12 hbv19
       replace hxo14 := blk_bel hxo14 hbv19
       replace hxo16 := blk_bel hxo16 hbv19
       replace hxo19 := blk_bel hxo19 hbv19
       replace HB := HB.trans (hbv19.mono HB.size)
       have hszv19 := hbv19.size
       have qo1_0 := blk_cell hxo1 0 rfl
       have qo1_1 := blk_cell hxo1 1 rfl
       have qo1_2 := blk_cell hxo1 2 rfl
       have hlo1 := blk_lt hxo1
       have qo2_0 := blk_cell hxo2 0 rfl
       have qo2_1 := blk_cell hxo2 1 rfl
       have hlo2 := blk_lt hxo2
       have qo3_0 := blk_cell hxo3 0 rfl
       have qo3_1 := blk_cell hxo3 1 rfl
       have hlo3 := blk_lt hxo3
       have qo4_0 := blk_cell hxo4 0 rfl
       have qo4_1 := blk_cell hxo4 1 rfl
       have qo4_2 := blk_cell hxo4 2 rfl
       have hlo4 := blk_lt hxo4
       have qo12_0 := blk_cell hxo12 0 rfl
       have qo12_1 := blk_cell hxo12 1 rfl
       have qo12_2 := blk_cell hxo12 2 rfl
       have hlo12 := blk_lt hxo12
       have qo14_0 := blk_cell hxo14 0 rfl
       have qo14_1 := blk_cell hxo14 1 rfl
       have hlo14 := blk_lt hxo14
       have qo16_0 := blk_cell hxo16 0 rfl
       have qo16_1 := blk_cell hxo16 1 rfl
       have hlo16 := blk_lt hxo16
       have qo19_0 := blk_cell hxo19 0 rfl
       have qo19_1 := blk_cell hxo19 1 rfl
       have qo19_2 := blk_cell hxo19 2 rfl
       have hlo19 := blk_lt hxo19
       )
    )
  go_wp2_with fail
  refine (markMachine_any _ _ _ _ _ _ _ _ hoo11 (by omega)  (1) (by omega) (by omega)).mono ?_
  rintro e v20 ⟨rfl, hmo11, hCv20⟩
  clear qo1_0 qo1_1 qo1_2 qo2_0 qo2_1 qo3_0 qo3_1 qo4_0 qo4_1 qo4_2 qo12_0 qo12_1 qo12_2 qo14_0 qo14_1 qo16_0 qo16_1 qo19_0 qo19_1 qo19_2 hlo1 hlo2 hlo3 hlo4 hlo12 hlo14 hlo16 hlo19
  replace hoo8 := own_ch hoo8 hCv20 (fun k h1 h2 => (by have := hrgo8.out k h1; have := hrgo11.out k h2; omega))
  replace hoo9 := hoo9.ch hCv20 (fun k h1 h2 => (by have := hrgo9.out k h1; have := hrgo11.out k h2; omega))
  replace hoo13 := own_ch hoo13 hCv20 (fun k h1 h2 => (by have := hrgo13.out k h1; have := hrgo11.out k h2; omega))
  replace hoo15 := own_ch hoo15 hCv20 (fun k h1 h2 => (by have := hrgo15.out k h1; have := hrgo11.out k h2; omega))
  replace hoo17 := own_ch hoo17 hCv20 (fun k h1 h2 => (by have := hrgo17.out k h1; have := hrgo11.out k h2; omega))
  replace hoo18 := hoo18.ch hCv20 (fun k h1 h2 => (by have := hrgo18.out k h1; have := hrgo11.out k h2; omega))
  replace hoo20 := own_ch hoo20 hCv20 (fun k h1 h2 => (by have := hrgo20.out k h1; have := hrgo11.out k h2; omega))
  replace hoo21 := own_ch hoo21 hCv20 (fun k h1 h2 => (by have := hrgo21.out k h1; have := hrgo11.out k h2; omega))
  replace hoo22 := own_ch hoo22 hCv20 (fun k h1 h2 => (by have := hrgo22.out k h1; have := hrgo11.out k h2; omega))
  replace hxo1 := blk_ch hxo1 hCv20 (fun h => by have := hrgo11.out _ h; omega)
  replace hxo2 := blk_ch hxo2 hCv20 (fun h => by have := hrgo11.out _ h; omega)
  replace hxo3 := blk_ch hxo3 hCv20 (fun h => by have := hrgo11.out _ h; omega)
  replace hxo4 := blk_ch hxo4 hCv20 (fun h => by have := hrgo11.out _ h; omega)
  replace hxo12 := blk_ch hxo12 hCv20 (fun h => by have := hrgo11.out _ h; omega)
  replace hxo14 := blk_ch hxo14 hCv20 (fun h => by have := hrgo11.out _ h; omega)
  replace hxo16 := blk_ch hxo16 hCv20 (fun h => by have := hrgo11.out _ h; omega)
  replace hxo19 := blk_ch hxo19 hCv20 (fun h => by have := hrgo11.out _ h; omega)
  replace HB := below_ch HB hCv20 (fun k h => by have := hrgo11.out k h; omega) HB.size
  replace hoo11 := hmo11
  have hszv20 := hCv20.size
  have qo1_0 := blk_cell hxo1 0 rfl
  have qo1_1 := blk_cell hxo1 1 rfl
  have qo1_2 := blk_cell hxo1 2 rfl
  have hlo1 := blk_lt hxo1
  have qo2_0 := blk_cell hxo2 0 rfl
  have qo2_1 := blk_cell hxo2 1 rfl
  have hlo2 := blk_lt hxo2
  have qo3_0 := blk_cell hxo3 0 rfl
  have qo3_1 := blk_cell hxo3 1 rfl
  have hlo3 := blk_lt hxo3
  have qo4_0 := blk_cell hxo4 0 rfl
  have qo4_1 := blk_cell hxo4 1 rfl
  have qo4_2 := blk_cell hxo4 2 rfl
  have hlo4 := blk_lt hxo4
  have qo12_0 := blk_cell hxo12 0 rfl
  have qo12_1 := blk_cell hxo12 1 rfl
  have qo12_2 := blk_cell hxo12 2 rfl
  have hlo12 := blk_lt hxo12
  have qo14_0 := blk_cell hxo14 0 rfl
  have qo14_1 := blk_cell hxo14 1 rfl
  have hlo14 := blk_lt hxo14
  have qo16_0 := blk_cell hxo16 0 rfl
  have qo16_1 := blk_cell hxo16 1 rfl
  have hlo16 := blk_lt hxo16
  have qo19_0 := blk_cell hxo19 0 rfl
  have qo19_1 := blk_cell hxo19 1 rfl
  have qo19_2 := blk_cell hxo19 2 rfl
  have hlo19 := blk_lt hxo19
  go_wp2_with fail
  refine (markDfa_any _ _ _ _ _ _ _ hoo13 (by omega)  (1 + (no11 : Int) * 3) (by omega) (by omega)).mono ?_
  rintro e v21 ⟨rfl, hmo13, hCv21⟩
  clear qo1_0 qo1_1 qo1_2 qo2_0 qo2_1 qo3_0 qo3_1 qo4_0 qo4_1 qo4_2 qo12_0 qo12_1 qo12_2 qo14_0 qo14_1 qo16_0 qo16_1 qo19_0 qo19_1 qo19_2 hlo1 hlo2 hlo3 hlo4 hlo12 hlo14 hlo16 hlo19
  replace hoo8 := own_ch hoo8 hCv21 (fun k h1 h2 => (by have := hrgo8.out k h1; have := hrgo13.out k h2; omega))
  replace hoo9 := hoo9.ch hCv21 (fun k h1 h2 => (by have := hrgo9.out k h1; have := hrgo13.out k h2; omega))
  replace hoo11 := own_ch hoo11 hCv21 (fun k h1 h2 => (by have := hrgo11.out k h1; have := hrgo13.out k h2; omega))
  replace hoo15 := own_ch hoo15 hCv21 (fun k h1 h2 => (by have := hrgo15.out k h1; have := hrgo13.out k h2; omega))
  replace hoo17 := own_ch hoo17 hCv21 (fun k h1 h2 => (by have := hrgo17.out k h1; have := hrgo13.out k h2; omega))
  replace hoo18 := hoo18.ch hCv21 (fun k h1 h2 => (by have := hrgo18.out k h1; have := hrgo13.out k h2; omega))
  replace hoo20 := own_ch hoo20 hCv21 (fun k h1 h2 => (by have := hrgo20.out k h1; have := hrgo13.out k h2; omega))
  replace hoo21 := own_ch hoo21 hCv21 (fun k h1 h2 => (by have := hrgo21.out k h1; have := hrgo13.out k h2; omega))
  replace hoo22 := own_ch hoo22 hCv21 (fun k h1 h2 => (by have := hrgo22.out k h1; have := hrgo13.out k h2; omega))
  replace hxo1 := blk_ch hxo1 hCv21 (fun h => by have := hrgo13.out _ h; omega)
  replace hxo2 := blk_ch hxo2 hCv21 (fun h => by have := hrgo13.out _ h; omega)
  replace hxo3 := blk_ch hxo3 hCv21 (fun h => by have := hrgo13.out _ h; omega)
  replace hxo4 := blk_ch hxo4 hCv21 (fun h => by have := hrgo13.out _ h; omega)
  replace hxo12 := blk_ch hxo12 hCv21 (fun h => by have := hrgo13.out _ h; omega)
  replace hxo14 := blk_ch hxo14 hCv21 (fun h => by have := hrgo13.out _ h; omega)
  replace hxo16 := blk_ch hxo16 hCv21 (fun h => by have := hrgo13.out _ h; omega)
  replace hxo19 := blk_ch hxo19 hCv21 (fun h => by have := hrgo13.out _ h; omega)
  replace HB := below_ch HB hCv21 (fun k h => by have := hrgo13.out k h; omega) HB.size
  replace hoo13 := hmo13
  have hszv21 := hCv21.size
  have qo1_0 := blk_cell hxo1 0 rfl
  have qo1_1 := blk_cell hxo1 1 rfl
  have qo1_2 := blk_cell hxo1 2 rfl
  have hlo1 := blk_lt hxo1
  have qo2_0 := blk_cell hxo2 0 rfl
  have qo2_1 := blk_cell hxo2 1 rfl
  have hlo2 := blk_lt hxo2
  have qo3_0 := blk_cell hxo3 0 rfl
  have qo3_1 := blk_cell hxo3 1 rfl
  have hlo3 := blk_lt hxo3
  have qo4_0 := blk_cell hxo4 0 rfl
  have qo4_1 := blk_cell hxo4 1 rfl
  have qo4_2 := blk_cell hxo4 2 rfl
  have hlo4 := blk_lt hxo4
  have qo12_0 := blk_cell hxo12 0 rfl
  have qo12_1 := blk_cell hxo12 1 rfl
  have qo12_2 := blk_cell hxo12 2 rfl
  have hlo12 := blk_lt hxo12
  have qo14_0 := blk_cell hxo14 0 rfl
  have qo14_1 := blk_cell hxo14 1 rfl
  have hlo14 := blk_lt hxo14
  have qo16_0 := blk_cell hxo16 0 rfl
  have qo16_1 := blk_cell hxo16 1 rfl
  have hlo16 := blk_lt hxo16
  have qo19_0 := blk_cell hxo19 0 rfl
  have qo19_1 := blk_cell hxo19 1 rfl
  have qo19_2 := blk_cell hxo19 2 rfl
  have hlo19 := blk_lt hxo19
  go_wp2_with fail
  refine (markDfa_any _ _ _ _ _ _ _ hoo15 (by omega)  (1 + (no11 : Int) * 3 + (no13 : Int)) (by omega) (by omega)).mono ?_
  rintro e v22 ⟨rfl, hmo15, hCv22⟩
  clear qo1_0 qo1_1 qo1_2 qo2_0 qo2_1 qo3_0 qo3_1 qo4_0 qo4_1 qo4_2 qo12_0 qo12_1 qo12_2 qo14_0 qo14_1 qo16_0 qo16_1 qo19_0 qo19_1 qo19_2 hlo1 hlo2 hlo3 hlo4 hlo12 hlo14 hlo16 hlo19
  replace hoo8 := own_ch hoo8 hCv22 (fun k h1 h2 => (by have := hrgo8.out k h1; have := hrgo15.out k h2; omega))
  replace hoo9 := hoo9.ch hCv22 (fun k h1 h2 => (by have := hrgo9.out k h1; have := hrgo15.out k h2; omega))
  replace hoo11 := own_ch hoo11 hCv22 (fun k h1 h2 => (by have := hrgo11.out k h1; have := hrgo15.out k h2; omega))
  replace hoo13 := own_ch hoo13 hCv22 (fun k h1 h2 => (by have := hrgo13.out k h1; have := hrgo15.out k h2; omega))
  replace hoo17 := own_ch hoo17 hCv22 (fun k h1 h2 => (by have := hrgo17.out k h1; have := hrgo15.out k h2; omega))
  replace hoo18 := hoo18.ch hCv22 (fun k h1 h2 => (by have := hrgo18.out k h1; have := hrgo15.out k h2; omega))
  replace hoo20 := own_ch hoo20 hCv22 (fun k h1 h2 => (by have := hrgo20.out k h1; have := hrgo15.out k h2; omega))
  replace hoo21 := own_ch hoo21 hCv22 (fun k h1 h2 => (by have := hrgo21.out k h1; have := hrgo15.out k h2; omega))
  replace hoo22 := own_ch hoo22 hCv22 (fun k h1 h2 => (by have := hrgo22.out k h1; have := hrgo15.out k h2; omega))
  replace hxo1 := blk_ch hxo1 hCv22 (fun h => by have := hrgo15.out _ h; omega)
  replace hxo2 := blk_ch hxo2 hCv22 (fun h => by have := hrgo15.out _ h; omega)
  replace hxo3 := blk_ch hxo3 hCv22 (fun h => by have := hrgo15.out _ h; omega)
  replace hxo4 := blk_ch hxo4 hCv22 (fun h => by have := hrgo15.out _ h; omega)
  replace hxo12 := blk_ch hxo12 hCv22 (fun h => by have := hrgo15.out _ h; omega)
  replace hxo14 := blk_ch hxo14 hCv22 (fun h => by have := hrgo15.out _ h; omega)
  replace hxo16 := blk_ch hxo16 hCv22 (fun h => by have := hrgo15.out _ h; omega)
  replace hxo19 := blk_ch hxo19 hCv22 (fun h => by have := hrgo15.out _ h; omega)
  replace HB := below_ch HB hCv22 (fun k h => by have := hrgo15.out k h; omega) HB.size
  replace hoo15 := hmo15
  have hszv22 := hCv22.size
  have qo1_0 := blk_cell hxo1 0 rfl
  have qo1_1 := blk_cell hxo1 1 rfl
  have qo1_2 := blk_cell hxo1 2 rfl
  have hlo1 := blk_lt hxo1
  have qo2_0 := blk_cell hxo2 0 rfl
  have qo2_1 := blk_cell hxo2 1 rfl
  have hlo2 := blk_lt hxo2
  have qo3_0 := blk_cell hxo3 0 rfl
  have qo3_1 := blk_cell hxo3 1 rfl
  have hlo3 := blk_lt hxo3
  have qo4_0 := blk_cell hxo4 0 rfl
  have qo4_1 := blk_cell hxo4 1 rfl
  have qo4_2 := blk_cell hxo4 2 rfl
  have hlo4 := blk_lt hxo4
  have qo12_0 := blk_cell hxo12 0 rfl
  have qo12_1 := blk_cell hxo12 1 rfl
  have qo12_2 := blk_cell hxo12 2 rfl
  have hlo12 := blk_lt hxo12
  have qo14_0 := blk_cell hxo14 0 rfl
  have qo14_1 := blk_cell hxo14 1 rfl
  have hlo14 := blk_lt hxo14
  have qo16_0 := blk_cell hxo16 0 rfl
  have qo16_1 := blk_cell hxo16 1 rfl
  have hlo16 := blk_lt hxo16
  have qo19_0 := blk_cell hxo19 0 rfl
  have qo19_1 := blk_cell hxo19 1 rfl
  have qo19_2 := blk_cell hxo19 2 rfl
  have hlo19 := blk_lt hxo19
  go_wp2_with fail
  refine (eqProof_same _ _ _ _ _ r1 (own_rd hoo17) (by omega) _ _ _ (own_rd hoo8) _ _ _ r2 hoo18.rdl (by omega) _ _ _ hoo9.rdl).mono ?_
  rintro e v23 ⟨rfl, hbv23⟩
  clear qo1_0 qo1_1 qo1_2 qo2_0 qo2_1 qo3_0 qo3_1 qo4_0 qo4_1 qo4_2 qo12_0 qo12_1 qo12_2 qo14_0 qo14_1 qo16_0 qo16_1 qo19_0 qo19_1 qo19_2 hlo1 hlo2 hlo3 hlo4 hlo12 hlo14 hlo16 hlo19
  (try replace hbv23 := und1 hbv23)
  (try replace hbv23 := undN hbv23)
  replace hoo8 := ownN_below hoo8 hbv23 (Nat.le_refl _)
  replace hoo9 := hoo9.below hbv23
  replace hoo11 := ownN_below hoo11 hbv23 (Nat.le_refl _)
  replace hoo13 := ownN_below hoo13 hbv23 (Nat.le_refl _)
  replace hoo15 := ownN_below hoo15 hbv23 (Nat.le_refl _)
  replace hoo17 := ownN_below hoo17 hbv23 (Nat.le_refl _)
  replace hoo18 := hoo18.below hbv23
  replace hoo20 := ownN_below hoo20 hbv23 (Nat.le_refl _)
  replace hoo21 := ownN_below hoo21 hbv23 (Nat.le_refl _)
  replace hoo22 := ownN_below hoo22 hbv23 (Nat.le_refl _)
  replace hxo1 := blk_bel hxo1 hbv23
  replace hxo2 := blk_bel hxo2 hbv23
  replace hxo3 := blk_bel hxo3 hbv23
  replace hxo4 := blk_bel hxo4 hbv23
  replace hxo12 := blk_bel hxo12 hbv23
  replace hxo14 := blk_bel hxo14 hbv23
  replace hxo16 := blk_bel hxo16 hbv23
  replace hxo19 := blk_bel hxo19 hbv23
  replace HB := HB.trans (hbv23.mono HB.size)
  have hszv23 := hbv23.size
  have qo1_0 := blk_cell hxo1 0 rfl
  have qo1_1 := blk_cell hxo1 1 rfl
  have qo1_2 := blk_cell hxo1 2 rfl
  have hlo1 := blk_lt hxo1
  have qo2_0 := blk_cell hxo2 0 rfl
  have qo2_1 := blk_cell hxo2 1 rfl
  have hlo2 := blk_lt hxo2
  have qo3_0 := blk_cell hxo3 0 rfl
  have qo3_1 := blk_cell hxo3 1 rfl
  have hlo3 := blk_lt hxo3
  have qo4_0 := blk_cell hxo4 0 rfl
  have qo4_1 := blk_cell hxo4 1 rfl
  have qo4_2 := blk_cell hxo4 2 rfl
  have hlo4 := blk_lt hxo4
  have qo12_0 := blk_cell hxo12 0 rfl
  have qo12_1 := blk_cell hxo12 1 rfl
  have qo12_2 := blk_cell hxo12 2 rfl
  have hlo12 := blk_lt hxo12
  have qo14_0 := blk_cell hxo14 0 rfl
  have qo14_1 := blk_cell hxo14 1 rfl
  have hlo14 := blk_lt hxo14
  have qo16_0 := blk_cell hxo16 0 rfl
  have qo16_1 := blk_cell hxo16 1 rfl
  have hlo16 := blk_lt hxo16
  have qo19_0 := blk_cell hxo19 0 rfl
  have qo19_1 := blk_cell hxo19 1 rfl
  have qo19_2 := blk_cell hxo19 2 rfl
  have hlo19 := blk_lt hxo19
  go_wp2_with fail
  have hTv24o18 : tot r2 ≤ 1048576 := by have := HRLR2.out.1; omega
  refine (markProof_any _ _ _ _ _ _ _ hoo17 (by omega) _ _ _ _ r2 hoo18 (by omega) (by omega) HDo17o18.out (1) (by omega) (by omega)).mono ?_
  rintro e v24 ⟨rfl, hmo17, hmo18, hCv24⟩
  clear qo1_0 qo1_1 qo1_2 qo2_0 qo2_1 qo3_0 qo3_1 qo4_0 qo4_1 qo4_2 qo12_0 qo12_1 qo12_2 qo14_0 qo14_1 qo16_0 qo16_1 qo19_0 qo19_1 qo19_2 hlo1 hlo2 hlo3 hlo4 hlo12 hlo14 hlo16 hlo19
  replace hoo8 := own_ch hoo8 hCv24 (fun k h1 h => h.elim (fun h2 => (by have := hrgo8.out k h1; have := hrgo17.out k h2; omega)) (fun h2 => (by have := hrgo8.out k h1; have := hrgo18.out k h2; omega)))
  replace hoo9 := hoo9.ch hCv24 (fun k h1 h => h.elim (fun h2 => (by have := hrgo9.out k h1; have := hrgo17.out k h2; omega)) (fun h2 => (by have := hrgo9.out k h1; have := hrgo18.out k h2; omega)))
  replace hoo11 := own_ch hoo11 hCv24 (fun k h1 h => h.elim (fun h2 => (by have := hrgo11.out k h1; have := hrgo17.out k h2; omega)) (fun h2 => (by have := hrgo11.out k h1; have := hrgo18.out k h2; omega)))
  replace hoo13 := own_ch hoo13 hCv24 (fun k h1 h => h.elim (fun h2 => (by have := hrgo13.out k h1; have := hrgo17.out k h2; omega)) (fun h2 => (by have := hrgo13.out k h1; have := hrgo18.out k h2; omega)))
  replace hoo15 := own_ch hoo15 hCv24 (fun k h1 h => h.elim (fun h2 => (by have := hrgo15.out k h1; have := hrgo17.out k h2; omega)) (fun h2 => (by have := hrgo15.out k h1; have := hrgo18.out k h2; omega)))
  replace hoo20 := own_ch hoo20 hCv24 (fun k h1 h => h.elim (fun h2 => (by have := hrgo20.out k h1; have := hrgo17.out k h2; omega)) (fun h2 => (by have := hrgo20.out k h1; have := hrgo18.out k h2; omega)))
  replace hoo21 := own_ch hoo21 hCv24 (fun k h1 h => h.elim (fun h2 => (by have := hrgo21.out k h1; have := hrgo17.out k h2; omega)) (fun h2 => (by have := hrgo21.out k h1; have := hrgo18.out k h2; omega)))
  replace hoo22 := own_ch hoo22 hCv24 (fun k h1 h => h.elim (fun h2 => (by have := hrgo22.out k h1; have := hrgo17.out k h2; omega)) (fun h2 => (by have := hrgo22.out k h1; have := hrgo18.out k h2; omega)))
  replace hxo1 := blk_ch hxo1 hCv24 (fun h => h.elim (fun h => by have := hrgo17.out _ h; omega) (fun h => by have := hrgo18.out _ h; omega))
  replace hxo2 := blk_ch hxo2 hCv24 (fun h => h.elim (fun h => by have := hrgo17.out _ h; omega) (fun h => by have := hrgo18.out _ h; omega))
  replace hxo3 := blk_ch hxo3 hCv24 (fun h => h.elim (fun h => by have := hrgo17.out _ h; omega) (fun h => by have := hrgo18.out _ h; omega))
  replace hxo4 := blk_ch hxo4 hCv24 (fun h => h.elim (fun h => by have := hrgo17.out _ h; omega) (fun h => by have := hrgo18.out _ h; omega))
  replace hxo12 := blk_ch hxo12 hCv24 (fun h => h.elim (fun h => by have := hrgo17.out _ h; omega) (fun h => by have := hrgo18.out _ h; omega))
  replace hxo14 := blk_ch hxo14 hCv24 (fun h => h.elim (fun h => by have := hrgo17.out _ h; omega) (fun h => by have := hrgo18.out _ h; omega))
  replace hxo16 := blk_ch hxo16 hCv24 (fun h => h.elim (fun h => by have := hrgo17.out _ h; omega) (fun h => by have := hrgo18.out _ h; omega))
  replace hxo19 := blk_ch hxo19 hCv24 (fun h => h.elim (fun h => by have := hrgo17.out _ h; omega) (fun h => by have := hrgo18.out _ h; omega))
  replace HB := below_ch HB hCv24 (fun k h => h.elim (fun h => by have := hrgo17.out k h; omega) (fun h => by have := hrgo18.out k h; omega)) HB.size
  replace hoo17 := hmo17
  replace hoo18 := hmo18
  have hszv24 := hCv24.size
  have qo1_0 := blk_cell hxo1 0 rfl
  have qo1_1 := blk_cell hxo1 1 rfl
  have qo1_2 := blk_cell hxo1 2 rfl
  have hlo1 := blk_lt hxo1
  have qo2_0 := blk_cell hxo2 0 rfl
  have qo2_1 := blk_cell hxo2 1 rfl
  have hlo2 := blk_lt hxo2
  have qo3_0 := blk_cell hxo3 0 rfl
  have qo3_1 := blk_cell hxo3 1 rfl
  have hlo3 := blk_lt hxo3
  have qo4_0 := blk_cell hxo4 0 rfl
  have qo4_1 := blk_cell hxo4 1 rfl
  have qo4_2 := blk_cell hxo4 2 rfl
  have hlo4 := blk_lt hxo4
  have qo12_0 := blk_cell hxo12 0 rfl
  have qo12_1 := blk_cell hxo12 1 rfl
  have qo12_2 := blk_cell hxo12 2 rfl
  have hlo12 := blk_lt hxo12
  have qo14_0 := blk_cell hxo14 0 rfl
  have qo14_1 := blk_cell hxo14 1 rfl
  have hlo14 := blk_lt hxo14
  have qo16_0 := blk_cell hxo16 0 rfl
  have qo16_1 := blk_cell hxo16 1 rfl
  have hlo16 := blk_lt hxo16
  have qo19_0 := blk_cell hxo19 0 rfl
  have qo19_1 := blk_cell hxo19 1 rfl
  have qo19_2 := blk_cell hxo19 2 rfl
  have hlo19 := blk_lt hxo19
  go_wp2_with fail
  have hTv25o18 : tot r2 ≤ 1048576 := by have := HRLR2.out.1; omega
  refine (heldProof_any _ _ _ _ _ _ _ _ r2 (1) (own_rd hoo17) (by omega) hoo18.rdl (by omega) (by omega) (by omega) (by omega)).mono ?_
  rintro e v25 ⟨rfl, hbv25⟩
  clear qo1_0 qo1_1 qo1_2 qo2_0 qo2_1 qo3_0 qo3_1 qo4_0 qo4_1 qo4_2 qo12_0 qo12_1 qo12_2 qo14_0 qo14_1 qo16_0 qo16_1 qo19_0 qo19_1 qo19_2 hlo1 hlo2 hlo3 hlo4 hlo12 hlo14 hlo16 hlo19
  (try replace hbv25 := und1 hbv25)
  (try replace hbv25 := undN hbv25)
  replace hoo8 := ownN_below hoo8 hbv25 (Nat.le_refl _)
  replace hoo9 := hoo9.below hbv25
  replace hoo11 := ownN_below hoo11 hbv25 (Nat.le_refl _)
  replace hoo13 := ownN_below hoo13 hbv25 (Nat.le_refl _)
  replace hoo15 := ownN_below hoo15 hbv25 (Nat.le_refl _)
  replace hoo17 := ownN_below hoo17 hbv25 (Nat.le_refl _)
  replace hoo18 := hoo18.below hbv25
  replace hoo20 := ownN_below hoo20 hbv25 (Nat.le_refl _)
  replace hoo21 := ownN_below hoo21 hbv25 (Nat.le_refl _)
  replace hoo22 := ownN_below hoo22 hbv25 (Nat.le_refl _)
  replace hxo1 := blk_bel hxo1 hbv25
  replace hxo2 := blk_bel hxo2 hbv25
  replace hxo3 := blk_bel hxo3 hbv25
  replace hxo4 := blk_bel hxo4 hbv25
  replace hxo12 := blk_bel hxo12 hbv25
  replace hxo14 := blk_bel hxo14 hbv25
  replace hxo16 := blk_bel hxo16 hbv25
  replace hxo19 := blk_bel hxo19 hbv25
  replace HB := HB.trans (hbv25.mono HB.size)
  have hszv25 := hbv25.size
  have qo1_0 := blk_cell hxo1 0 rfl
  have qo1_1 := blk_cell hxo1 1 rfl
  have qo1_2 := blk_cell hxo1 2 rfl
  have hlo1 := blk_lt hxo1
  have qo2_0 := blk_cell hxo2 0 rfl
  have qo2_1 := blk_cell hxo2 1 rfl
  have hlo2 := blk_lt hxo2
  have qo3_0 := blk_cell hxo3 0 rfl
  have qo3_1 := blk_cell hxo3 1 rfl
  have hlo3 := blk_lt hxo3
  have qo4_0 := blk_cell hxo4 0 rfl
  have qo4_1 := blk_cell hxo4 1 rfl
  have qo4_2 := blk_cell hxo4 2 rfl
  have hlo4 := blk_lt hxo4
  have qo12_0 := blk_cell hxo12 0 rfl
  have qo12_1 := blk_cell hxo12 1 rfl
  have qo12_2 := blk_cell hxo12 2 rfl
  have hlo12 := blk_lt hxo12
  have qo14_0 := blk_cell hxo14 0 rfl
  have qo14_1 := blk_cell hxo14 1 rfl
  have hlo14 := blk_lt hxo14
  have qo16_0 := blk_cell hxo16 0 rfl
  have qo16_1 := blk_cell hxo16 1 rfl
  have hlo16 := blk_lt hxo16
  have qo19_0 := blk_cell hxo19 0 rfl
  have qo19_1 := blk_cell hxo19 1 rfl
  have qo19_2 := blk_cell hxo19 2 rfl
  have hlo19 := blk_lt hxo19
  go_upto_region 38 with fail
  go_cut [18, 19] (fun s18 s19 wx => ∃ (go23 : Nat) (Ao27 : Option Addr) (no27 : Nat) (co27 : Nat) (Ao28 : Option Addr) (no28 : Nat) (co28 : Nat) (Fo28 : Nat → Prop), s18 = .pointer (some ⟨go23, 0, none⟩) ∧ s19 = .int .i64 r3 ∧ wx.heap[go23]? = some (.cells #[.int .i64 r0, .slice Ao27 no27 co27, .slice Ao28 no28 co28] 48 (0, 0)) ∧ v25.heap.size ≤ go23 ∧ wx.ownsRow v25.heap.size 2 1 (.slice Ao27 no27 co27) no27 (ints r1) ∧ (∀ k, Fo (.slice Ao27 no27 co27) k → v25.heap.size ≤ k ∧ k < wx.heap.size) ∧ (¬ Fo (.slice Ao27 no27 co27) go23) ∧ OwnP wx Fo28 Ao28 no28 co28 r2 ∧ (∀ k, Fo28 k → v25.heap.size ≤ k ∧ k < wx.heap.size) ∧ (¬ Fo28 go23) ∧ (∀ k, Fo (.slice Ao27 no27 co27) k → Fo28 k → False) ∧ Below v25.heap.size v25 wx)
  case first =>
    have HC := Below.refl v25.heap.size v25
    go_region_held3 (fun w' => w'.cell? ⟨w.heap.size, 0, none⟩ = some (.int .i64 x0_0) ∧ w'.cell? ⟨w.heap.size, 1, none⟩ = some (.int .i64 x0_1) ∧ w'.cell? ⟨w.heap.size, 2, none⟩ = some (.slice A0_2 n0_2 c0_2) ∧ w'.cell? ⟨w.heap.size + 1, 0, none⟩ = some (.int .i64 x1_0) ∧ w'.cell? ⟨w.heap.size + 1, 1, none⟩ = some (.slice A1_1 n1_1 c1_1) ∧ w'.cell? ⟨w.heap.size + 2, 0, none⟩ = some (.int .i64 x2_0) ∧ w'.cell? ⟨w.heap.size + 2, 1, none⟩ = some (.slice A2_1 n2_1 c2_1)) (first | exact ⟨qo1_0, qo1_1, qo1_2, qo2_0, qo2_1, qo3_0, qo3_1⟩ | (refine ⟨?_, ?_, ?_, ?_, ?_, ?_, ?_⟩ <;> (repeat (refine cell_far ?_ (by omega))) <;> assumption) | go_keep) (first
      | (go_at_call 20
         refine (HI.out _ _ _ _ (by have h := (ownN_rd hoo24); first | exact h | exact h.below (below_new _ _) (Nat.le_refl _) | exact h.below (below_drew1 (below_new _ _)) (Nat.le_refl _)) (by omega) (ownN_cap hoo24) _ _ _ (by have h := (own_rd hoo25); first | exact h | exact h.below (below_new _ _) (Nat.le_refl _) | exact h.below (below_drew1 (below_new _ _)) (Nat.le_refl _)) (by omega) (ownN_cap hoo25) _ _ _ (by have h := (own_rd hoo26); first | exact h | exact h.below (below_new _ _) (Nat.le_refl _) | exact h.below (below_drew1 (below_new _ _)) (Nat.le_refl _)) (by omega) (ownN_cap hoo26)).mono ?_
         rintro e v29 ⟨Ao27, no27, co27, Ao28, no28, co28, Fo28, rfl, hoo27, hoo28, hFo28, hdo27o28, hbv29⟩
         have hno27 : no27 ≤ 1000000 := by have h1 := hoo27.1; simp only [List.length_map] at h1; have h2 := HRLR1.out; omega
         have hno28 : no28 ≤ 1000000 := by have h1 := hoo28.len; have h2 := HRLR2.out; omega
         have hrgo27 := Lib.hid (rg_row hoo27)
         have hrgo28 := Lib.hid hFo28; clear hFo28
         have HDo27o28 := Lib.hid hdo27o28; clear hdo27o28
         clear qo1_0 qo1_1 qo1_2 qo2_0 qo2_1 qo3_0 qo3_1 hlo1 hlo2 hlo3
         (try replace hbv29 := und1 hbv29)
         (try replace hbv29 := undN hbv29)
         (try clear zo23_0 fo23_0 zo23_1 fo23_1 zo23_2 fo23_2)
         (try (have hq := box_step hbv29; clear hbv29; obtain ⟨hbv29, hxo23, hso23⟩ := hq))
         (try replace hxo23 := blk_bel hxo23 hbv29)
         (try have zo23_0 := blk_cell hxo23 0 rfl)
         (try have fo23_0 := blk_free hxo23 0)
         (try have zo23_1 := blk_cell hxo23 1 rfl)
         (try have fo23_1 := blk_free hxo23 1)
         (try have zo23_2 := blk_cell hxo23 2 rfl)
         (try have fo23_2 := blk_free hxo23 2)
         (try have hlo23 := blk_lt hxo23)
         replace HC := HC.trans (hbv29.mono HC.size)
         replace hoo24 := ownN_below hoo24 hbv29 (Nat.le_refl _)
         replace hoo25 := ownN_below hoo25 hbv29 (Nat.le_refl _)
         replace hoo26 := ownN_below hoo26 hbv29 (Nat.le_refl _)
         replace hxo1 := blk_bel hxo1 hbv29
         replace hxo2 := blk_bel hxo2 hbv29
         replace hxo3 := blk_bel hxo3 hbv29
         replace HB := HB.trans (hbv29.mono HB.size)
         have hszv29 := hbv29.size
         have qo1_0 := blk_cell hxo1 0 rfl
         have qo1_1 := blk_cell hxo1 1 rfl
         have qo1_2 := blk_cell hxo1 2 rfl
         have hlo1 := blk_lt hxo1
         have qo2_0 := blk_cell hxo2 0 rfl
         have qo2_1 := blk_cell hxo2 1 rfl
         have hlo2 := blk_lt hxo2
         have qo3_0 := blk_cell hxo3 0 rfl
         have qo3_1 := blk_cell hxo3 1 rfl
         have hlo3 := blk_lt hxo3
         have hrgzo27 := hrgo27
         have hrgzo28 := hrgo28
         replace hrgo27 := Lib.hid (rg_lo hrgo27.out (lo := v28.heap.size + 0) (hi := v29.heap.size) (by first | exact Nat.le_refl _ | exact le_al1 | (simp; done) | (simp; omega)) (Nat.le_refl _))
         replace hrgo28 := Lib.hid (rg_lo hrgo28.out (lo := v28.heap.size + 0) (hi := v29.heap.size) (by first | exact Nat.le_refl _ | exact le_al1 | (simp; done) | (simp; omega)) (Nat.le_refl _))
         )
      | (have hqg := hoo25
         clear hqg
         go_at_call 19
         refine (toDfa_any _ x2_0 _ _ _ x2_1 (by have h := (hr2_1.below HB (Nat.le_refl _)); first | exact h | exact h.below (below_new _ _) (Nat.le_refl _) | exact h.below (below_drew1 (below_new _ _)) (Nat.le_refl _)) (by omega)).mono ?_
         rintro e v28 ⟨Ao26, no26, co26, rfl, hoo26, hbv28⟩
         have hno26 : no26 ≤ 1048576 := by have h1 := hoo26.1; simp only [List.length_map] at h1; have h2 := HXL2_1.out; omega
         have hrgo26 := Lib.hid (rg_row hoo26)
         clear qo1_0 qo1_1 qo1_2 qo2_0 qo2_1 qo3_0 qo3_1 hlo1 hlo2 hlo3
         (try replace hbv28 := und1 hbv28)
         (try replace hbv28 := undN hbv28)
         (try clear zo23_0 fo23_0 zo23_1 fo23_1 zo23_2 fo23_2)
         (try (have hq := box_step hbv28; clear hbv28; obtain ⟨hbv28, hxo23, hso23⟩ := hq))
         (try replace hxo23 := blk_bel hxo23 hbv28)
         (try have zo23_0 := blk_cell hxo23 0 rfl)
         (try have fo23_0 := blk_free hxo23 0)
         (try have zo23_1 := blk_cell hxo23 1 rfl)
         (try have fo23_1 := blk_free hxo23 1)
         (try have zo23_2 := blk_cell hxo23 2 rfl)
         (try have fo23_2 := blk_free hxo23 2)
         (try have hlo23 := blk_lt hxo23)
         replace HC := HC.trans (hbv28.mono HC.size)
         replace hoo24 := ownN_below hoo24 hbv28 (Nat.le_refl _)
         replace hoo25 := ownN_below hoo25 hbv28 (Nat.le_refl _)
         replace hxo1 := blk_bel hxo1 hbv28
         replace hxo2 := blk_bel hxo2 hbv28
         replace hxo3 := blk_bel hxo3 hbv28
         replace HB := HB.trans (hbv28.mono HB.size)
         have hszv28 := hbv28.size
         have qo1_0 := blk_cell hxo1 0 rfl
         have qo1_1 := blk_cell hxo1 1 rfl
         have qo1_2 := blk_cell hxo1 2 rfl
         have hlo1 := blk_lt hxo1
         have qo2_0 := blk_cell hxo2 0 rfl
         have qo2_1 := blk_cell hxo2 1 rfl
         have hlo2 := blk_lt hxo2
         have qo3_0 := blk_cell hxo3 0 rfl
         have qo3_1 := blk_cell hxo3 1 rfl
         have hlo3 := blk_lt hxo3
         have hrgzo26 := hrgo26
         replace hrgo26 := Lib.hid (rg_lo hrgo26.out (lo := v27.heap.size + 0) (hi := v28.heap.size) (by first | exact Nat.le_refl _ | exact le_al1 | (simp; done) | (simp; omega)) (Nat.le_refl _))
         )
      | (go_at_call 19
         refine (toDfa_any _ x1_0 _ _ _ x1_1 (by have h := (hr1_1.below HB (Nat.le_refl _)); first | exact h | exact h.below (below_new _ _) (Nat.le_refl _) | exact h.below (below_drew1 (below_new _ _)) (Nat.le_refl _)) (by omega)).mono ?_
         rintro e v27 ⟨Ao25, no25, co25, rfl, hoo25, hbv27⟩
         have hno25 : no25 ≤ 1048576 := by have h1 := hoo25.1; simp only [List.length_map] at h1; have h2 := HXL1_1.out; omega
         have hrgo25 := Lib.hid (rg_row hoo25)
         clear qo1_0 qo1_1 qo1_2 qo2_0 qo2_1 qo3_0 qo3_1 hlo1 hlo2 hlo3
         (try replace hbv27 := und1 hbv27)
         (try replace hbv27 := undN hbv27)
         (try clear zo23_0 fo23_0 zo23_1 fo23_1 zo23_2 fo23_2)
         (try (have hq := box_step hbv27; clear hbv27; obtain ⟨hbv27, hxo23, hso23⟩ := hq))
         (try replace hxo23 := blk_bel hxo23 hbv27)
         (try have zo23_0 := blk_cell hxo23 0 rfl)
         (try have fo23_0 := blk_free hxo23 0)
         (try have zo23_1 := blk_cell hxo23 1 rfl)
         (try have fo23_1 := blk_free hxo23 1)
         (try have zo23_2 := blk_cell hxo23 2 rfl)
         (try have fo23_2 := blk_free hxo23 2)
         (try have hlo23 := blk_lt hxo23)
         replace HC := HC.trans (hbv27.mono HC.size)
         replace hoo24 := ownN_below hoo24 hbv27 (Nat.le_refl _)
         replace hxo1 := blk_bel hxo1 hbv27
         replace hxo2 := blk_bel hxo2 hbv27
         replace hxo3 := blk_bel hxo3 hbv27
         replace HB := HB.trans (hbv27.mono HB.size)
         have hszv27 := hbv27.size
         have qo1_0 := blk_cell hxo1 0 rfl
         have qo1_1 := blk_cell hxo1 1 rfl
         have qo1_2 := blk_cell hxo1 2 rfl
         have hlo1 := blk_lt hxo1
         have qo2_0 := blk_cell hxo2 0 rfl
         have qo2_1 := blk_cell hxo2 1 rfl
         have hlo2 := blk_lt hxo2
         have qo3_0 := blk_cell hxo3 0 rfl
         have qo3_1 := blk_cell hxo3 1 rfl
         have hlo3 := blk_lt hxo3
         have hrgzo25 := hrgo25
         replace hrgo25 := Lib.hid (rg_lo hrgo25.out (lo := v26.heap.size + 0) (hi := v27.heap.size) (by first | exact Nat.le_refl _ | exact le_al1 | (simp; done) | (simp; omega)) (Nat.le_refl _))
         )
      | (go_at_call 18
         refine (toMachine_any _ x0_0 x0_1 _ _ _ (flatR rs) (by have h := (hr0_2.below HB (Nat.le_refl _)); first | exact h | exact h.below (below_new _ _) (Nat.le_refl _) | exact h.below (below_drew1 (below_new _ _)) (Nat.le_refl _)) (by omega)).mono ?_
         rintro e v26 ⟨Ao24, no24, co24, rfl, hoo24, hbv26⟩
         have hno24 : no24 ≤ 1048576 := by have h1 := hoo24.1; simp only [List.length_map] at h1; have h2 := HXL0_2.out; omega
         have hrgo24 := Lib.hid (rg_row hoo24)
         clear qo1_0 qo1_1 qo1_2 qo2_0 qo2_1 qo3_0 qo3_1 hlo1 hlo2 hlo3
         (try replace hbv26 := und1 hbv26)
         (try replace hbv26 := undN hbv26)
         (try clear zo23_0 fo23_0 zo23_1 fo23_1 zo23_2 fo23_2)
         (try (have hq := box_step hbv26; clear hbv26; obtain ⟨hbv26, hxo23, hso23⟩ := hq))
         (try replace hxo23 := blk_bel hxo23 hbv26)
         (try have zo23_0 := blk_cell hxo23 0 rfl)
         (try have fo23_0 := blk_free hxo23 0)
         (try have zo23_1 := blk_cell hxo23 1 rfl)
         (try have fo23_1 := blk_free hxo23 1)
         (try have zo23_2 := blk_cell hxo23 2 rfl)
         (try have fo23_2 := blk_free hxo23 2)
         (try have hlo23 := blk_lt hxo23)
         replace HC := HC.trans (hbv26.mono HC.size)
         replace hxo1 := blk_bel hxo1 hbv26
         replace hxo2 := blk_bel hxo2 hbv26
         replace hxo3 := blk_bel hxo3 hbv26
         replace HB := HB.trans (hbv26.mono HB.size)
         have hszv26 := hbv26.size
         have qo1_0 := blk_cell hxo1 0 rfl
         have qo1_1 := blk_cell hxo1 1 rfl
         have qo1_2 := blk_cell hxo1 2 rfl
         have hlo1 := blk_lt hxo1
         have qo2_0 := blk_cell hxo2 0 rfl
         have qo2_1 := blk_cell hxo2 1 rfl
         have hlo2 := blk_lt hxo2
         have qo3_0 := blk_cell hxo3 0 rfl
         have qo3_1 := blk_cell hxo3 1 rfl
         have hlo3 := blk_lt hxo3
         have hrgzo24 := hrgo24
         replace hrgo24 := Lib.hid (rg_lo hrgo24.out (lo := v25.heap.size + 0) (hi := v26.heap.size) (by first | exact Nat.le_refl _ | exact le_al1 | (simp; done) | (simp; omega)) (Nat.le_refl _))
         )
      )
    all_goals
      go_wp2_with fail
      go_meet
      exact ⟨_, _, _, _, _, _, _, _, rfl, rfl, (by first | exact box_new _ _ _ | simpa using blk_set (blk_set (blk_set (hxo23) 0 _) 1 _) 2 _), (by first | omega | (simp; omega)), (by first | exact own_ch (ownN_base hoo27 (by first | omega | (simp; omega) | (show _ ≤ (World.alloc _ _).heap.size; simp; omega))) (ch_alloc (fun _ => False) _ _) (fun k h1 h2 => h2) | exact own_ch (ownN_base hoo27 (by first | omega | (simp; omega) | (show _ ≤ (World.alloc _ _).heap.size; simp; omega))) (((ch_set _ _ 0 _).trans (ch_set _ _ 1 _)).trans (ch_set _ _ 2 _)) (fun k h1 h2 => by have h3 := hrgo27.out k h1; have h4 := (hrgzo27.out k h1).1; first | omega | (simp at h4; omega) | (change (World.alloc _ _).heap.size ≤ _ at h4; simp at h4; omega)) | exact own_ch (ownN_base hoo27 (by first | omega | (simp; omega) | (show _ ≤ (World.alloc _ _).heap.size; simp; omega))) (ch_drew (ch_alloc (fun _ => False) _ _)) (fun k h1 h2 => h2) | exact own_ch (ownN_base hoo27 (by first | omega | (simp; omega) | (show _ ≤ (World.alloc _ _).heap.size; simp; omega))) (ch_drew (((ch_set _ _ 0 _).trans (ch_set _ _ 1 _)).trans (ch_set _ _ 2 _))) (fun k h1 h2 => by have h3 := hrgo27.out k h1; have h4 := (hrgzo27.out k h1).1; first | omega | (simp at h4; omega) | (change (World.alloc _ _).heap.size ≤ _ at h4; simp at h4; omega))), (fun k hk => by have h1 := hrgo27.out k hk; first | omega | (refine ⟨by omega, ?_⟩; simp; omega) | (refine ⟨by omega, ?_⟩; show k < _; simp only [World.size_setCell, World.size_alloc]; omega) | (trace_state; fail)), (fun hk => by have h1 := hrgo27.out _ hk; have h2 := (hrgzo27.out _ hk).1; first | omega | (simp at h2; omega) | (change (World.alloc _ _).heap.size ≤ _ at h2; simp at h2; omega)), (by first | exact hoo28.ch (ch_alloc (fun _ => False) _ _) (fun k h1 h2 => h2) | exact hoo28.ch (((ch_set _ _ 0 _).trans (ch_set _ _ 1 _)).trans (ch_set _ _ 2 _)) (fun k h1 h2 => by have h3 := hrgo28.out k h1; have h4 := (hrgzo28.out k h1).1; first | omega | (simp at h4; omega) | (change (World.alloc _ _).heap.size ≤ _ at h4; simp at h4; omega)) | exact hoo28.ch (ch_drew (ch_alloc (fun _ => False) _ _)) (fun k h1 h2 => h2) | exact hoo28.ch (ch_drew (((ch_set _ _ 0 _).trans (ch_set _ _ 1 _)).trans (ch_set _ _ 2 _))) (fun k h1 h2 => by have h3 := hrgo28.out k h1; have h4 := (hrgzo28.out k h1).1; first | omega | (simp at h4; omega) | (change (World.alloc _ _).heap.size ≤ _ at h4; simp at h4; omega))), (fun k hk => by have h1 := hrgo28.out k hk; first | omega | (refine ⟨by omega, ?_⟩; simp; omega) | (refine ⟨by omega, ?_⟩; show k < _; simp only [World.size_setCell, World.size_alloc]; omega) | (trace_state; fail)), (fun hk => by have h1 := hrgo28.out _ hk; have h2 := (hrgzo28.out _ hk).1; first | omega | (simp at h2; omega) | (change (World.alloc _ _).heap.size ≤ _ at h2; simp at h2; omega)), HDo27o28.out, (by first | exact HC.alloc HC.size _ | (refine (((HC).setCell ?_ _).setCell ?_ _).setCell ?_ _ <;> (first | omega | (dsimp only; omega) | (simp; omega))) | exact below_drew1 (HC.alloc HC.size _) | (refine below_drew1 ((((HC).setCell ?_ _).setCell ?_ _).setCell ?_ _) <;> (first | omega | (dsimp only; omega) | (simp; omega))))⟩
  case rest =>
  obtain ⟨go23, Ao27, no27, co27, Ao28, no28, co28, Fo28, rfl, rfl, hxo23, hgo23, hoo27, hFo27, hnfo27o23, hoo28, hFo28, hnfo28o23, hdo27o28, hbcut⟩ := hcut
  have hupo23 := blk_lt hxo23
  obtain ⟨v30, rfl⟩ : ∃ v, v = wc := ⟨_, rfl⟩
  have hrgo27 := Lib.hid hFo27; clear hFo27
  have hno27 : no27 ≤ 1000000 := by have h1 := hoo27.1; simp only [List.length_map] at h1; have h2 := HRLR1.out; omega
  have hrgo28 := Lib.hid hFo28; clear hFo28
  have hno28 : no28 ≤ 1000000 := by have h1 := hoo28.len; have h2 := HRLR2.out; omega
  have HDo27o28 := Lib.hid hdo27o28; clear hdo27o28
  clear qo1_0 qo1_1 qo1_2 qo2_0 qo2_1 qo3_0 qo3_1 qo4_0 qo4_1 qo4_2 qo12_0 qo12_1 qo12_2 qo14_0 qo14_1 qo16_0 qo16_1 qo19_0 qo19_1 qo19_2 hlo1 hlo2 hlo3 hlo4 hlo12 hlo14 hlo16 hlo19
  (try replace hbcut := und1 hbcut)
  (try replace hbcut := undN hbcut)
  replace hoo8 := ownN_below hoo8 hbcut (Nat.le_refl _)
  replace hoo9 := hoo9.below hbcut
  replace hoo11 := ownN_below hoo11 hbcut (Nat.le_refl _)
  replace hoo13 := ownN_below hoo13 hbcut (Nat.le_refl _)
  replace hoo15 := ownN_below hoo15 hbcut (Nat.le_refl _)
  replace hoo17 := ownN_below hoo17 hbcut (Nat.le_refl _)
  replace hoo18 := hoo18.below hbcut
  replace hoo20 := ownN_below hoo20 hbcut (Nat.le_refl _)
  replace hoo21 := ownN_below hoo21 hbcut (Nat.le_refl _)
  replace hoo22 := ownN_below hoo22 hbcut (Nat.le_refl _)
  replace hxo1 := blk_bel hxo1 hbcut
  replace hxo2 := blk_bel hxo2 hbcut
  replace hxo3 := blk_bel hxo3 hbcut
  replace hxo4 := blk_bel hxo4 hbcut
  replace hxo12 := blk_bel hxo12 hbcut
  replace hxo14 := blk_bel hxo14 hbcut
  replace hxo16 := blk_bel hxo16 hbcut
  replace hxo19 := blk_bel hxo19 hbcut
  replace HB := HB.trans (hbcut.mono HB.size)
  have hszv30 := hbcut.size
  have qo1_0 := blk_cell hxo1 0 rfl
  have qo1_1 := blk_cell hxo1 1 rfl
  have qo1_2 := blk_cell hxo1 2 rfl
  have hlo1 := blk_lt hxo1
  have qo2_0 := blk_cell hxo2 0 rfl
  have qo2_1 := blk_cell hxo2 1 rfl
  have hlo2 := blk_lt hxo2
  have qo3_0 := blk_cell hxo3 0 rfl
  have qo3_1 := blk_cell hxo3 1 rfl
  have hlo3 := blk_lt hxo3
  have qo4_0 := blk_cell hxo4 0 rfl
  have qo4_1 := blk_cell hxo4 1 rfl
  have qo4_2 := blk_cell hxo4 2 rfl
  have hlo4 := blk_lt hxo4
  have qo12_0 := blk_cell hxo12 0 rfl
  have qo12_1 := blk_cell hxo12 1 rfl
  have qo12_2 := blk_cell hxo12 2 rfl
  have hlo12 := blk_lt hxo12
  have qo14_0 := blk_cell hxo14 0 rfl
  have qo14_1 := blk_cell hxo14 1 rfl
  have hlo14 := blk_lt hxo14
  have qo16_0 := blk_cell hxo16 0 rfl
  have qo16_1 := blk_cell hxo16 1 rfl
  have hlo16 := blk_lt hxo16
  have qo19_0 := blk_cell hxo19 0 rfl
  have qo19_1 := blk_cell hxo19 1 rfl
  have qo19_2 := blk_cell hxo19 2 rfl
  have hlo19 := blk_lt hxo19
  clear qo1_0 qo1_1 qo1_2 qo2_0 qo2_1 qo3_0 qo3_1 qo4_0 qo4_1 qo4_2 qo12_0 qo12_1 qo12_2 qo14_0 qo14_1 qo16_0 qo16_1 qo19_0 qo19_1 qo19_2 hlo1 hlo2 hlo3 hlo4 hlo12 hlo14 hlo16 hlo19
  have qo1_0 := blk_cell hxo1 0 rfl
  have qo1_1 := blk_cell hxo1 1 rfl
  have qo1_2 := blk_cell hxo1 2 rfl
  have hlo1 := blk_lt hxo1
  have qo2_0 := blk_cell hxo2 0 rfl
  have qo2_1 := blk_cell hxo2 1 rfl
  have hlo2 := blk_lt hxo2
  have qo3_0 := blk_cell hxo3 0 rfl
  have qo3_1 := blk_cell hxo3 1 rfl
  have hlo3 := blk_lt hxo3
  have qo4_0 := blk_cell hxo4 0 rfl
  have qo4_1 := blk_cell hxo4 1 rfl
  have qo4_2 := blk_cell hxo4 2 rfl
  have hlo4 := blk_lt hxo4
  have qo12_0 := blk_cell hxo12 0 rfl
  have qo12_1 := blk_cell hxo12 1 rfl
  have qo12_2 := blk_cell hxo12 2 rfl
  have hlo12 := blk_lt hxo12
  have qo14_0 := blk_cell hxo14 0 rfl
  have qo14_1 := blk_cell hxo14 1 rfl
  have hlo14 := blk_lt hxo14
  have qo16_0 := blk_cell hxo16 0 rfl
  have qo16_1 := blk_cell hxo16 1 rfl
  have hlo16 := blk_lt hxo16
  have qo19_0 := blk_cell hxo19 0 rfl
  have qo19_1 := blk_cell hxo19 1 rfl
  have qo19_2 := blk_cell hxo19 2 rfl
  have hlo19 := blk_lt hxo19
  have qo23_0 := blk_cell hxo23 0 rfl
  have qo23_1 := blk_cell hxo23 1 rfl
  have qo23_2 := blk_cell hxo23 2 rfl
  have hlo23 := blk_lt hxo23
  go_wp2_with fail
  refine (eqProof_same _ _ _ _ _ r1 (own_rd hoo27) (by omega) _ _ _ (own_rd hoo8) _ _ _ r2 hoo28.rdl (by omega) _ _ _ hoo9.rdl).mono ?_
  rintro e v31 ⟨rfl, hbv31⟩
  clear qo1_0 qo1_1 qo1_2 qo2_0 qo2_1 qo3_0 qo3_1 qo4_0 qo4_1 qo4_2 qo12_0 qo12_1 qo12_2 qo14_0 qo14_1 qo16_0 qo16_1 qo19_0 qo19_1 qo19_2 qo23_0 qo23_1 qo23_2 hlo1 hlo2 hlo3 hlo4 hlo12 hlo14 hlo16 hlo19 hlo23
  (try replace hbv31 := und1 hbv31)
  (try replace hbv31 := undN hbv31)
  replace hoo8 := ownN_below hoo8 hbv31 (Nat.le_refl _)
  replace hoo9 := hoo9.below hbv31
  replace hoo11 := ownN_below hoo11 hbv31 (Nat.le_refl _)
  replace hoo13 := ownN_below hoo13 hbv31 (Nat.le_refl _)
  replace hoo15 := ownN_below hoo15 hbv31 (Nat.le_refl _)
  replace hoo17 := ownN_below hoo17 hbv31 (Nat.le_refl _)
  replace hoo18 := hoo18.below hbv31
  replace hoo20 := ownN_below hoo20 hbv31 (Nat.le_refl _)
  replace hoo21 := ownN_below hoo21 hbv31 (Nat.le_refl _)
  replace hoo22 := ownN_below hoo22 hbv31 (Nat.le_refl _)
  replace hoo27 := ownN_below hoo27 hbv31 (Nat.le_refl _)
  replace hoo28 := hoo28.below hbv31
  replace hxo1 := blk_bel hxo1 hbv31
  replace hxo2 := blk_bel hxo2 hbv31
  replace hxo3 := blk_bel hxo3 hbv31
  replace hxo4 := blk_bel hxo4 hbv31
  replace hxo12 := blk_bel hxo12 hbv31
  replace hxo14 := blk_bel hxo14 hbv31
  replace hxo16 := blk_bel hxo16 hbv31
  replace hxo19 := blk_bel hxo19 hbv31
  replace hxo23 := blk_bel hxo23 hbv31
  replace HB := HB.trans (hbv31.mono HB.size)
  have hszv31 := hbv31.size
  have qo1_0 := blk_cell hxo1 0 rfl
  have qo1_1 := blk_cell hxo1 1 rfl
  have qo1_2 := blk_cell hxo1 2 rfl
  have hlo1 := blk_lt hxo1
  have qo2_0 := blk_cell hxo2 0 rfl
  have qo2_1 := blk_cell hxo2 1 rfl
  have hlo2 := blk_lt hxo2
  have qo3_0 := blk_cell hxo3 0 rfl
  have qo3_1 := blk_cell hxo3 1 rfl
  have hlo3 := blk_lt hxo3
  have qo4_0 := blk_cell hxo4 0 rfl
  have qo4_1 := blk_cell hxo4 1 rfl
  have qo4_2 := blk_cell hxo4 2 rfl
  have hlo4 := blk_lt hxo4
  have qo12_0 := blk_cell hxo12 0 rfl
  have qo12_1 := blk_cell hxo12 1 rfl
  have qo12_2 := blk_cell hxo12 2 rfl
  have hlo12 := blk_lt hxo12
  have qo14_0 := blk_cell hxo14 0 rfl
  have qo14_1 := blk_cell hxo14 1 rfl
  have hlo14 := blk_lt hxo14
  have qo16_0 := blk_cell hxo16 0 rfl
  have qo16_1 := blk_cell hxo16 1 rfl
  have hlo16 := blk_lt hxo16
  have qo19_0 := blk_cell hxo19 0 rfl
  have qo19_1 := blk_cell hxo19 1 rfl
  have qo19_2 := blk_cell hxo19 2 rfl
  have hlo19 := blk_lt hxo19
  have qo23_0 := blk_cell hxo23 0 rfl
  have qo23_1 := blk_cell hxo23 1 rfl
  have qo23_2 := blk_cell hxo23 2 rfl
  have hlo23 := blk_lt hxo23
  go_wp2_with fail
  have hTv32o18 : tot r2 ≤ 1048576 := by have := HRLR2.out.1; omega
  refine (heldProof_any _ _ _ _ _ _ _ _ r2 (1) (own_rd hoo17) (by omega) hoo18.rdl (by omega) (by omega) (by omega) (by omega)).mono ?_
  rintro e v32 ⟨rfl, hbv32⟩
  clear qo1_0 qo1_1 qo1_2 qo2_0 qo2_1 qo3_0 qo3_1 qo4_0 qo4_1 qo4_2 qo12_0 qo12_1 qo12_2 qo14_0 qo14_1 qo16_0 qo16_1 qo19_0 qo19_1 qo19_2 qo23_0 qo23_1 qo23_2 hlo1 hlo2 hlo3 hlo4 hlo12 hlo14 hlo16 hlo19 hlo23
  (try replace hbv32 := und1 hbv32)
  (try replace hbv32 := undN hbv32)
  replace hoo8 := ownN_below hoo8 hbv32 (Nat.le_refl _)
  replace hoo9 := hoo9.below hbv32
  replace hoo11 := ownN_below hoo11 hbv32 (Nat.le_refl _)
  replace hoo13 := ownN_below hoo13 hbv32 (Nat.le_refl _)
  replace hoo15 := ownN_below hoo15 hbv32 (Nat.le_refl _)
  replace hoo17 := ownN_below hoo17 hbv32 (Nat.le_refl _)
  replace hoo18 := hoo18.below hbv32
  replace hoo20 := ownN_below hoo20 hbv32 (Nat.le_refl _)
  replace hoo21 := ownN_below hoo21 hbv32 (Nat.le_refl _)
  replace hoo22 := ownN_below hoo22 hbv32 (Nat.le_refl _)
  replace hoo27 := ownN_below hoo27 hbv32 (Nat.le_refl _)
  replace hoo28 := hoo28.below hbv32
  replace hxo1 := blk_bel hxo1 hbv32
  replace hxo2 := blk_bel hxo2 hbv32
  replace hxo3 := blk_bel hxo3 hbv32
  replace hxo4 := blk_bel hxo4 hbv32
  replace hxo12 := blk_bel hxo12 hbv32
  replace hxo14 := blk_bel hxo14 hbv32
  replace hxo16 := blk_bel hxo16 hbv32
  replace hxo19 := blk_bel hxo19 hbv32
  replace hxo23 := blk_bel hxo23 hbv32
  replace HB := HB.trans (hbv32.mono HB.size)
  have hszv32 := hbv32.size
  have qo1_0 := blk_cell hxo1 0 rfl
  have qo1_1 := blk_cell hxo1 1 rfl
  have qo1_2 := blk_cell hxo1 2 rfl
  have hlo1 := blk_lt hxo1
  have qo2_0 := blk_cell hxo2 0 rfl
  have qo2_1 := blk_cell hxo2 1 rfl
  have hlo2 := blk_lt hxo2
  have qo3_0 := blk_cell hxo3 0 rfl
  have qo3_1 := blk_cell hxo3 1 rfl
  have hlo3 := blk_lt hxo3
  have qo4_0 := blk_cell hxo4 0 rfl
  have qo4_1 := blk_cell hxo4 1 rfl
  have qo4_2 := blk_cell hxo4 2 rfl
  have hlo4 := blk_lt hxo4
  have qo12_0 := blk_cell hxo12 0 rfl
  have qo12_1 := blk_cell hxo12 1 rfl
  have qo12_2 := blk_cell hxo12 2 rfl
  have hlo12 := blk_lt hxo12
  have qo14_0 := blk_cell hxo14 0 rfl
  have qo14_1 := blk_cell hxo14 1 rfl
  have hlo14 := blk_lt hxo14
  have qo16_0 := blk_cell hxo16 0 rfl
  have qo16_1 := blk_cell hxo16 1 rfl
  have hlo16 := blk_lt hxo16
  have qo19_0 := blk_cell hxo19 0 rfl
  have qo19_1 := blk_cell hxo19 1 rfl
  have qo19_2 := blk_cell hxo19 2 rfl
  have hlo19 := blk_lt hxo19
  have qo23_0 := blk_cell hxo23 0 rfl
  have qo23_1 := blk_cell hxo23 1 rfl
  have qo23_2 := blk_cell hxo23 2 rfl
  have hlo23 := blk_lt hxo23
  go_wp2_with fail
  go_ret
  first | exact ⟨rfl, HB⟩ | exact ⟨rfl, below_drewN HB⟩
end Go.Proofs.Ytcpkhhammafchaa
