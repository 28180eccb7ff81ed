/- The law on RunCounters. Written by genlaw5.py. -/
import Derived.Test.YtbecofpklndpaaaCntV
namespace Go.Proofs.Ytbecofpklndpaaa
open Go.RowKit
set_option linter.unusedVariables false
set_option linter.unusedSimpArgs false
set_option maxHeartbeats 16000000 in
set_option maxRecDepth 100000 in
theorem lawRunCounters (w : World) (A0 : Option Addr) (n0 c0 : Nat) (x0 : List Int) (hr0 : Rd w A0 (n0 * 4) (ints x0)) (hnn0 : n0 ≤ 9223372036854775807) (x1_0 : Int) (x1_1 : Int) (x1_2 : Int) (x2 : Int) :
    Calls Try.prog 8 #[.slice A0 n0 c0, .agg #[.int .i64 x1_0, .int .i64 x1_1, .int .i64 x1_2], .int .i64 x2] w fun e w' => e = .returned (.bool true) ∧ Below w.heap.size w w' := by
  obtain ⟨ps, rfl, hps⟩ := unflatI n0 x0 (by simpa using hr0.1)
  have HPS := Lib.hid hps; clear hps
  have hS : ∀ (w : World) (A0 : Option Addr) (n0 c0 : Nat) (h0 : Rd w A0 (n0 * 4) (ints (flatI ps))) (hn0 : n0 ≤ 1099511627776) (hcp0 : n0 ≤ c0), Calls Try.prog 41 #[.slice A0 n0 c0, .agg #[.int .i64 x1_0, .int .i64 x1_1, .int .i64 x1_2], .int .i64 x2] w (fun e w' => e = .returned (.tuple #[.agg #[.int .i64 ((runNum ps ⟨x1_0, x1_1, x1_2⟩ x2).1.at_), .int .i64 ((runNum ps ⟨x1_0, x1_1, x1_2⟩ x2).1.a), .int .i64 ((runNum ps ⟨x1_0, x1_1, x1_2⟩ x2).1.b)], .int .i64 ((runNum ps ⟨x1_0, x1_1, x1_2⟩ x2).2.1), .bool ((runNum ps ⟨x1_0, x1_1, x1_2⟩ x2).2.2.1), .int .i64 ((runNum ps ⟨x1_0, x1_1, x1_2⟩ x2).2.2.2)]) ∧ Below w.heap.size w w') := fun w A0 n0 c0 h0 hn0 hcp0 => specRunCounters_any w A0 n0 c0 ps h0 hn0 ⟨x1_0, x1_1, x1_2⟩ x2
  have hI : ∀ (w : World) (A0 : Option Addr) (n0 c0 : Nat) (h0 : Rd w A0 (n0 * 4) (ints (flatI ps))) (hn0 : n0 ≤ 1099511627776) (hcp0 : n0 ≤ c0), Calls Try.prog 42 #[.slice A0 n0 c0, .agg #[.int .i64 x1_0, .int .i64 x1_1, .int .i64 x1_2], .int .i64 x2] w (fun e w' => e = .returned (.tuple #[.agg #[.int .i64 ((runNum ps ⟨x1_0, x1_1, x1_2⟩ x2).1.at_), .int .i64 ((runNum ps ⟨x1_0, x1_1, x1_2⟩ x2).1.a), .int .i64 ((runNum ps ⟨x1_0, x1_1, x1_2⟩ x2).1.b)], .int .i64 ((runNum ps ⟨x1_0, x1_1, x1_2⟩ x2).2.1), .bool ((runNum ps ⟨x1_0, x1_1, x1_2⟩ x2).2.2.1), .int .i64 ((runNum ps ⟨x1_0, x1_1, x1_2⟩ x2).2.2.2)]) ∧ Below w.heap.size w w') := fun w A0 n0 c0 h0 hn0 hcp0 => implRunCounters_any w A0 n0 c0 ps h0 hn0 ⟨x1_0, x1_1, x1_2⟩ x2
  have HS := Lib.hid hS; have HI := Lib.hid hI
  clear hS hI
  generalize (runNum ps ⟨x1_0, x1_1, x1_2⟩ x2).1.at_ = r0 at HS HI 
  generalize (runNum ps ⟨x1_0, x1_1, x1_2⟩ x2).1.a = r1 at HS HI 
  generalize (runNum ps ⟨x1_0, x1_1, x1_2⟩ x2).1.b = r2 at HS HI 
  generalize (runNum ps ⟨x1_0, x1_1, x1_2⟩ x2).2.1 = r3 at HS HI 
  generalize (runNum ps ⟨x1_0, x1_1, x1_2⟩ x2).2.2.1 = r4 at HS HI 
  generalize (runNum ps ⟨x1_0, x1_1, x1_2⟩ x2).2.2.2 = r5 at HS HI 
  have HXL0 : Hid (((flatI ps)).length = n0 * 4) := Lib.hid (by have := hr0.1; simp at this; omega)
  have HB := Below.refl w.heap.size w
  go_enter Try.func8, Try.ntmps8
  go_wp2_with fail
  refine (szInstrS_post _ _ _ _ hnn0 _ (by omega) (by omega)).mono ?_
  rintro e v1 ⟨lfv1, rfl, hqv1, hpv1, hbv1⟩
  (try replace hbv1 := und1 hbv1)
  (try replace hbv1 := undN hbv1)
  obtain ⟨hbv1b, hxo1, hso1⟩ := box_step hbv1
  (try simp only [World.size_alloc] at hxo1 hso1)
  replace HB := HB.trans (hbv1b.mono HB.size)
  have hszv1 := hbv1b.size
  have qo1_0 := blk_cell hxo1 0 rfl
  have qo1_1 := blk_cell hxo1 1 rfl
  have qo1_2 := blk_cell hxo1 2 rfl
  have hlo1 := blk_lt hxo1
  by_cases hzv1 : lfv1 < 0
  · clear hqv1 hpv1
    go_wp2_with fail
    go_ret
    exact ⟨rfl, HB⟩
  replace hqv1 := hqv1 (by omega)
  have hbig0 : n0 ≤ 1048576 := by omega
  have HQv1 := Lib.hid hqv1; clear hqv1
  go_upto_region 5 with fail
  go_cut [8, 9, 10, 11] (fun s8 s9 s10 s11 wx => ∃ (go2 : Nat), s8 = .pointer (some ⟨go2, 0, none⟩) ∧ s9 = .int .i64 r3 ∧ s10 = .bool r4 ∧ s11 = .int .i64 r5 ∧ wx.heap[go2]? = some (.cells #[.int .i64 r0, .int .i64 r1, .int .i64 r2] 57 (0, 0)) ∧ v1.heap.size ≤ go2 ∧ Below v1.heap.size v1 wx)
  case first =>
    have HC := Below.refl v1.heap.size v1
    go_region_held3 (fun w' => w'.cell? ⟨w.heap.size, 0, none⟩ = some (.int .i64 x1_0) ∧ w'.cell? ⟨w.heap.size, 1, none⟩ = some (.int .i64 x1_1) ∧ w'.cell? ⟨w.heap.size, 2, none⟩ = some (.int .i64 x1_2)) (first | exact ⟨qo1_0, qo1_1, qo1_2⟩ | (refine ⟨?_, ?_, ?_⟩ <;> (repeat (refine cell_far ?_ (by omega))) <;> assumption) | go_keep) (first
      | (go_at_call 36
         refine (toInstrS_any _ _ _ _ (flatI ps) (by have h := (hr0.below HB (Nat.le_refl _)); first | exact h | exact h.below (below_new _ _) (Nat.le_refl _) | exact h.below (below_drew1 (below_new _ _)) (Nat.le_refl _)) (by omega)).mono ?_
         rintro e v2 ⟨Ao3, no3, co3, rfl, hoo3, hbv2⟩
         have hno3 : no3 ≤ 1048576 := by have h1 := hoo3.1; simp only [List.length_map] at h1; have h2 := HXL0.out; omega
         have hrgo3 := Lib.hid (rg_row hoo3)
         clear qo1_0 qo1_1 qo1_2 hlo1
         (try replace hbv2 := und1 hbv2)
         (try replace hbv2 := undN hbv2)
         (try clear zo2_0 fo2_0 zo2_1 fo2_1 zo2_2 fo2_2)
         (try (have hq := box_step hbv2; clear hbv2; obtain ⟨hbv2, hxo2, hso2⟩ := hq))
         (try replace hxo2 := blk_bel hxo2 hbv2)
         (try have zo2_0 := blk_cell hxo2 0 rfl)
         (try have fo2_0 := blk_free hxo2 0)
         (try have zo2_1 := blk_cell hxo2 1 rfl)
         (try have fo2_1 := blk_free hxo2 1)
         (try have zo2_2 := blk_cell hxo2 2 rfl)
         (try have fo2_2 := blk_free hxo2 2)
         (try have hlo2 := blk_lt hxo2)
         replace HC := HC.trans (hbv2.mono HC.size)
         replace hxo1 := blk_bel hxo1 hbv2
         replace HB := HB.trans (hbv2.mono HB.size)
         have hszv2 := hbv2.size
         have qo1_0 := blk_cell hxo1 0 rfl
         have qo1_1 := blk_cell hxo1 1 rfl
         have qo1_2 := blk_cell hxo1 2 rfl
         have hlo1 := blk_lt hxo1
         replace hrgo3 := Lib.hid (rg_lo hrgo3.out (lo := v1.heap.size + 0) (hi := v2.heap.size) (by first | exact Nat.le_refl _ | exact le_al1 | (simp; done) | (simp; omega)) (Nat.le_refl _))
         )
      | (go_at_call 37
         refine (toCounters_any _ x1_0 x1_1 x1_2).mono ?_
         rintro e v3 ⟨rfl, hbv3⟩
         clear qo1_0 qo1_1 qo1_2 hlo1
         (try replace hbv3 := und1 hbv3)
         (try replace hbv3 := undN hbv3)
         (try clear zo2_0 fo2_0 zo2_1 fo2_1 zo2_2 fo2_2)
         (try (have hq := box_step hbv3; clear hbv3; obtain ⟨hbv3, hxo2, hso2⟩ := hq))
         (try replace hxo2 := blk_bel hxo2 hbv3)
         (try have zo2_0 := blk_cell hxo2 0 rfl)
         (try have fo2_0 := blk_free hxo2 0)
         (try have zo2_1 := blk_cell hxo2 1 rfl)
         (try have fo2_1 := blk_free hxo2 1)
         (try have zo2_2 := blk_cell hxo2 2 rfl)
         (try have fo2_2 := blk_free hxo2 2)
         (try have hlo2 := blk_lt hxo2)
         replace HC := HC.trans (hbv3.mono HC.size)
         replace hoo3 := ownN_below hoo3 hbv3 (Nat.le_refl _)
         replace hxo1 := blk_bel hxo1 hbv3
         replace HB := HB.trans (hbv3.mono HB.size)
         have hszv3 := hbv3.size
         have qo1_0 := blk_cell hxo1 0 rfl
         have qo1_1 := blk_cell hxo1 1 rfl
         have qo1_2 := blk_cell hxo1 2 rfl
         have hlo1 := blk_lt hxo1
         )
      | (go_at_call 41
         refine (HS.out _ _ _ _ (by have h := (ownN_rd hoo3); first | exact h | exact h.below (below_new _ _) (Nat.le_refl _) | exact h.below (below_drew1 (below_new _ _)) (Nat.le_refl _)) (by omega) (ownN_cap hoo3)).mono ?_
         rintro e v4 ⟨rfl, hbv4⟩
         clear qo1_0 qo1_1 qo1_2 hlo1
         (try replace hbv4 := und1 hbv4)
         (try replace hbv4 := undN hbv4)
         (try clear zo2_0 fo2_0 zo2_1 fo2_1 zo2_2 fo2_2)
         (try (have hq := box_step hbv4; clear hbv4; obtain ⟨hbv4, hxo2, hso2⟩ := hq))
         (try replace hxo2 := blk_bel hxo2 hbv4)
         (try have zo2_0 := blk_cell hxo2 0 rfl)
         (try have fo2_0 := blk_free hxo2 0)
         (try have zo2_1 := blk_cell hxo2 1 rfl)
         (try have fo2_1 := blk_free hxo2 1)
         (try have zo2_2 := blk_cell hxo2 2 rfl)
         (try have fo2_2 := blk_free hxo2 2)
         (try have hlo2 := blk_lt hxo2)
         replace HC := HC.trans (hbv4.mono HC.size)
         replace hoo3 := ownN_below hoo3 hbv4 (Nat.le_refl _)
         replace hxo1 := blk_bel hxo1 hbv4
         replace HB := HB.trans (hbv4.mono HB.size)
         have hszv4 := hbv4.size
         have qo1_0 := blk_cell hxo1 0 rfl
         have qo1_1 := blk_cell hxo1 1 rfl
         have qo1_2 := blk_cell hxo1 2 rfl
         have hlo1 := blk_lt hxo1
         )
      )
    all_goals
      go_wp2_with fail
      go_meet
      exact ⟨_, rfl, rfl, rfl, rfl, (by first | exact box_new _ _ _ | simpa using blk_set (blk_set (blk_set (hxo2) 0 _) 1 _) 2 _), (by first | omega | (simp; omega)), (by first | exact HC.alloc HC.size _ | (refine (((HC).setCell ?_ _).setCell ?_ _).setCell ?_ _ <;> (first | omega | (dsimp only; omega) | (simp; omega))) | exact below_drew1 (HC.alloc HC.size _) | (refine below_drew1 ((((HC).setCell ?_ _).setCell ?_ _).setCell ?_ _) <;> (first | omega | (dsimp only; omega) | (simp; omega))))⟩
  case rest =>
  obtain ⟨go2, rfl, rfl, rfl, rfl, hxo2, hgo2, hbcut⟩ := hcut
  obtain ⟨v5, rfl⟩ : ∃ v, v = wc := ⟨_, rfl⟩
  clear qo1_0 qo1_1 qo1_2 hlo1
  (try replace hbcut := und1 hbcut)
  (try replace hbcut := undN hbcut)
  replace hxo1 := blk_bel hxo1 hbcut
  replace HB := HB.trans (hbcut.mono HB.size)
  have hszv5 := hbcut.size
  have qo1_0 := blk_cell hxo1 0 rfl
  have qo1_1 := blk_cell hxo1 1 rfl
  have qo1_2 := blk_cell hxo1 2 rfl
  have hlo1 := blk_lt hxo1
  clear qo1_0 qo1_1 qo1_2 hlo1
  have qo1_0 := blk_cell hxo1 0 rfl
  have qo1_1 := blk_cell hxo1 1 rfl
  have qo1_2 := blk_cell hxo1 2 rfl
  have hlo1 := blk_lt hxo1
  have qo2_0 := blk_cell hxo2 0 rfl
  have qo2_1 := blk_cell hxo2 1 rfl
  have qo2_2 := blk_cell hxo2 2 rfl
  have hlo2 := blk_lt hxo2
  go_wp2_with fail
  refine (toInstrS_any _ _ _ _ (flatI ps) (hr0.below HB (Nat.le_refl _)) (by omega)).mono ?_
  rintro e v6 ⟨Ao5, no5, co5, rfl, hoo5, hbv6⟩
  have hno5 : no5 ≤ 1048576 := by have h1 := hoo5.1; simp only [List.length_map] at h1; have h2 := HXL0.out; omega
  have hrgo5 := Lib.hid (rg_row hoo5)
  clear qo1_0 qo1_1 qo1_2 qo2_0 qo2_1 qo2_2 hlo1 hlo2
  (try replace hbv6 := und1 hbv6)
  (try replace hbv6 := undN hbv6)
  replace hxo1 := blk_bel hxo1 hbv6
  replace hxo2 := blk_bel hxo2 hbv6
  replace HB := HB.trans (hbv6.mono HB.size)
  have hszv6 := hbv6.size
  have qo1_0 := blk_cell hxo1 0 rfl
  have qo1_1 := blk_cell hxo1 1 rfl
  have qo1_2 := blk_cell hxo1 2 rfl
  have hlo1 := blk_lt hxo1
  have qo2_0 := blk_cell hxo2 0 rfl
  have qo2_1 := blk_cell hxo2 1 rfl
  have qo2_2 := blk_cell hxo2 2 rfl
  have hlo2 := blk_lt hxo2
  replace hrgo5 := Lib.hid (rg_lo hrgo5.out (lo := v5.heap.size + 0) (hi := v6.heap.size) (by first | exact Nat.le_refl _ | exact le_al1 | (simp; done) | (simp; omega)) (Nat.le_refl _))
  go_wp2_with fail
  refine (toCounters_any _ x1_0 x1_1 x1_2).mono ?_
  rintro e v7 ⟨rfl, hbv7⟩
  clear qo1_0 qo1_1 qo1_2 qo2_0 qo2_1 qo2_2 hlo1 hlo2
  (try replace hbv7 := und1 hbv7)
  (try replace hbv7 := undN hbv7)
  replace hoo5 := ownN_below hoo5 hbv7 (Nat.le_refl _)
  replace hxo1 := blk_bel hxo1 hbv7
  replace hxo2 := blk_bel hxo2 hbv7
  replace HB := HB.trans (hbv7.mono HB.size)
  have hszv7 := hbv7.size
  have qo1_0 := blk_cell hxo1 0 rfl
  have qo1_1 := blk_cell hxo1 1 rfl
  have qo1_2 := blk_cell hxo1 2 rfl
  have hlo1 := blk_lt hxo1
  have qo2_0 := blk_cell hxo2 0 rfl
  have qo2_1 := blk_cell hxo2 1 rfl
  have qo2_2 := blk_cell hxo2 2 rfl
  have hlo2 := blk_lt hxo2
  go_wp2_with fail
  refine (HI.out _ _ _ _ (ownN_rd hoo5) (by omega) (ownN_cap hoo5)).mono ?_
  rintro e v8 ⟨rfl, hbv8⟩
  clear qo1_0 qo1_1 qo1_2 qo2_0 qo2_1 qo2_2 hlo1 hlo2
  (try replace hbv8 := und1 hbv8)
  (try replace hbv8 := undN hbv8)
  replace hoo5 := ownN_below hoo5 hbv8 (Nat.le_refl _)
  replace hxo1 := blk_bel hxo1 hbv8
  replace hxo2 := blk_bel hxo2 hbv8
  replace HB := HB.trans (hbv8.mono HB.size)
  have hszv8 := hbv8.size
  have qo1_0 := blk_cell hxo1 0 rfl
  have qo1_1 := blk_cell hxo1 1 rfl
  have qo1_2 := blk_cell hxo1 2 rfl
  have hlo1 := blk_lt hxo1
  have qo2_0 := blk_cell hxo2 0 rfl
  have qo2_1 := blk_cell hxo2 1 rfl
  have qo2_2 := blk_cell hxo2 2 rfl
  have hlo2 := blk_lt hxo2
  go_wp2_with fail
  refine (eqCounters_same _ _ _ _).mono ?_
  rintro e v9 ⟨rfl, hbv9⟩
  clear qo1_0 qo1_1 qo1_2 qo2_0 qo2_1 qo2_2 hlo1 hlo2
  (try replace hbv9 := und1 hbv9)
  (try replace hbv9 := undN hbv9)
  obtain ⟨hbv9b, hxo6, hso6⟩ := box_step hbv9
  (try simp only [World.size_alloc] at hxo6 hso6)
  replace hoo5 := ownN_below hoo5 hbv9b (Nat.le_refl _)
  replace hxo1 := blk_bel hxo1 hbv9b
  replace hxo2 := blk_bel hxo2 hbv9b
  replace HB := HB.trans (hbv9b.mono HB.size)
  have hszv9 := hbv9b.size
  have qo1_0 := blk_cell hxo1 0 rfl
  have qo1_1 := blk_cell hxo1 1 rfl
  have qo1_2 := blk_cell hxo1 2 rfl
  have hlo1 := blk_lt hxo1
  have qo2_0 := blk_cell hxo2 0 rfl
  have qo2_1 := blk_cell hxo2 1 rfl
  have qo2_2 := blk_cell hxo2 2 rfl
  have hlo2 := blk_lt hxo2
  have qo6_0 := blk_cell hxo6 0 rfl
  have qo6_1 := blk_cell hxo6 1 rfl
  have qo6_2 := blk_cell hxo6 2 rfl
  have hlo6 := blk_lt hxo6
  go_wp2_with fail
  refine (toInstrS_any _ _ _ _ (flatI ps) (hr0.below HB (Nat.le_refl _)) (by omega)).mono ?_
  rintro e v10 ⟨Ao7, no7, co7, rfl, hoo7, hbv10⟩
  have hno7 : no7 ≤ 1048576 := by have h1 := hoo7.1; simp only [List.length_map] at h1; have h2 := HXL0.out; omega
  have hrgo7 := Lib.hid (rg_row hoo7)
  clear qo1_0 qo1_1 qo1_2 qo2_0 qo2_1 qo2_2 qo6_0 qo6_1 qo6_2 hlo1 hlo2 hlo6
  (try replace hbv10 := und1 hbv10)
  (try replace hbv10 := undN hbv10)
  replace hoo5 := ownN_below hoo5 hbv10 (Nat.le_refl _)
  replace hxo1 := blk_bel hxo1 hbv10
  replace hxo2 := blk_bel hxo2 hbv10
  replace hxo6 := blk_bel hxo6 hbv10
  replace HB := HB.trans (hbv10.mono HB.size)
  have hszv10 := hbv10.size
  have qo1_0 := blk_cell hxo1 0 rfl
  have qo1_1 := blk_cell hxo1 1 rfl
  have qo1_2 := blk_cell hxo1 2 rfl
  have hlo1 := blk_lt hxo1
  have qo2_0 := blk_cell hxo2 0 rfl
  have qo2_1 := blk_cell hxo2 1 rfl
  have qo2_2 := blk_cell hxo2 2 rfl
  have hlo2 := blk_lt hxo2
  have qo6_0 := blk_cell hxo6 0 rfl
  have qo6_1 := blk_cell hxo6 1 rfl
  have qo6_2 := blk_cell hxo6 2 rfl
  have hlo6 := blk_lt hxo6
  replace hrgo7 := Lib.hid (rg_lo hrgo7.out (lo := v9.heap.size + 0) (hi := v10.heap.size) (by first | exact Nat.le_refl _ | exact le_al1 | (simp; done) | (simp; omega)) (Nat.le_refl _))
  go_wp2_with fail
  refine (eqInstrS_same _ _ _ _ (flatI ps) (ownN_rd hoo5) (by omega) _ _ _ (ownN_rd hoo7)).mono ?_
  rintro e v11 ⟨rfl, hbv11⟩
  clear qo1_0 qo1_1 qo1_2 qo2_0 qo2_1 qo2_2 qo6_0 qo6_1 qo6_2 hlo1 hlo2 hlo6
  (try replace hbv11 := und1 hbv11)
  (try replace hbv11 := undN hbv11)
  replace hoo5 := ownN_below hoo5 hbv11 (Nat.le_refl _)
  replace hoo7 := ownN_below hoo7 hbv11 (Nat.le_refl _)
  replace hxo1 := blk_bel hxo1 hbv11
  replace hxo2 := blk_bel hxo2 hbv11
  replace hxo6 := blk_bel hxo6 hbv11
  replace HB := HB.trans (hbv11.mono HB.size)
  have hszv11 := hbv11.size
  have qo1_0 := blk_cell hxo1 0 rfl
  have qo1_1 := blk_cell hxo1 1 rfl
  have qo1_2 := blk_cell hxo1 2 rfl
  have hlo1 := blk_lt hxo1
  have qo2_0 := blk_cell hxo2 0 rfl
  have qo2_1 := blk_cell hxo2 1 rfl
  have qo2_2 := blk_cell hxo2 2 rfl
  have hlo2 := blk_lt hxo2
  have qo6_0 := blk_cell hxo6 0 rfl
  have qo6_1 := blk_cell hxo6 1 rfl
  have qo6_2 := blk_cell hxo6 2 rfl
  have hlo6 := blk_lt hxo6
  go_wp2_with fail
  go_ret
  first | exact ⟨rfl, HB⟩ | exact ⟨rfl, below_drewN HB⟩
end Go.Proofs.Ytbecofpklndpaaa
