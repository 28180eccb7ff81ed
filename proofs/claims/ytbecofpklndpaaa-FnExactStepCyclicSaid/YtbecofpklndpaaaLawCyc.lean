/- The law on StepCyclic. Written by genlaw5.py. -/
import Derived.Test.YtbecofpklndpaaaCycV
import Derived.Test.YtbecofpklndpaaaLawTurn
import Derived.Test.YtbecofpklndpaaaLawCyclic
namespace Go.Proofs.Ytbecofpklndpaaa
open Go.RowKit
set_option linter.unusedVariables false
set_option linter.unusedSimpArgs false
set_option maxHeartbeats 16000000 in
set_option maxRecDepth 100000 in
theorem lawStepCyclic (w : World) (A0_0 : Option Addr) (n0_0 c0_0 : Nat) (x0_0 : List (List Int)) (hw0_0 : RdW w A0_0 n0_0 x0_0) (hnn0_0 : n0_0 ≤ 9223372036854775807) (x1_0 : Int) (A1_1 : Option Addr) (n1_1 c1_1 : Nat) (x1_1 : List Int) (hr1_1 : Rd w A1_1 n1_1 (ints x1_1)) (hnn1_1 : n1_1 ≤ 9223372036854775807) :
    Calls Try.prog 9 #[.agg #[.slice A0_0 n0_0 c0_0], .agg #[.int .i64 x1_0, .slice A1_1 n1_1 c1_1]] w fun e w' => e = .returned (.bool true) ∧ Below w.heap.size w w' := by
  have hS : ∀ (w : World) (A0_0 : Option Addr) (n0_0 c0_0 : Nat) (h0_0 : RdL w A0_0 n0_0 x0_0) (hn0_0 : n0_0 ≤ 1000000000) (hcp0_0 : n0_0 ≤ c0_0) (A1_1 : Option Addr) (n1_1 c1_1 : Nat) (h1_1 : Rd w A1_1 n1_1 (ints x1_1)) (hn1_1 : n1_1 ≤ 1000000000) (hcp1_1 : n1_1 ≤ c1_1), Calls Try.prog 45 #[.agg #[.slice A0_0 n0_0 c0_0], .agg #[.int .i64 x1_0, .slice A1_1 n1_1 c1_1]] w (fun e w' => ∃ (AR1 : Option Addr) (nR1 cR1 : Nat), e = .returned (.tuple #[.agg #[.int .i64 (cyA x0_0 x1_0 x1_1), .slice AR1 nR1 cR1], .int .i64 (cyC x0_0 x1_0 x1_1)]) ∧ w'.ownsRow w.heap.size 2 1 (.slice AR1 nR1 cR1) nR1 (ints (cyO x0_0 x1_0 x1_1)) ∧ Below w.heap.size w w') := fun w A0_0 n0_0 c0_0 h0_0 hn0_0 hcp0_0 A1_1 n1_1 c1_1 h1_1 hn1_1 hcp1_1 => specStepCyclic_any w A0_0 n0_0 c0_0 x0_0 h0_0 hn0_0 x1_0 A1_1 n1_1 c1_1 x1_1 h1_1 hn1_1 hcp1_1
  have hI : ∀ (w : World) (A0_0 : Option Addr) (n0_0 c0_0 : Nat) (h0_0 : RdL w A0_0 n0_0 x0_0) (hn0_0 : n0_0 ≤ 1000000000) (hcp0_0 : n0_0 ≤ c0_0) (A1_1 : Option Addr) (n1_1 c1_1 : Nat) (h1_1 : Rd w A1_1 n1_1 (ints x1_1)) (hn1_1 : n1_1 ≤ 1000000000) (hcp1_1 : n1_1 ≤ c1_1), Calls Try.prog 48 #[.agg #[.slice A0_0 n0_0 c0_0], .agg #[.int .i64 x1_0, .slice A1_1 n1_1 c1_1]] w (fun e w' => ∃ (AR1 : Option Addr) (nR1 cR1 : Nat), e = .returned (.tuple #[.agg #[.int .i64 (cyA x0_0 x1_0 x1_1), .slice AR1 nR1 cR1], .int .i64 (cyC x0_0 x1_0 x1_1)]) ∧ w'.ownsRow w.heap.size 2 1 (.slice AR1 nR1 cR1) nR1 (ints (cyO x0_0 x1_0 x1_1)) ∧ Below w.heap.size w w') := fun w A0_0 n0_0 c0_0 h0_0 hn0_0 hcp0_0 A1_1 n1_1 c1_1 h1_1 hn1_1 hcp1_1 => implStepCyclic_any w A0_0 n0_0 c0_0 x0_0 h0_0 hn0_0 x1_0 A1_1 n1_1 c1_1 x1_1 h1_1 hn1_1
  have HRLR1 : Hid ((cyO x0_0 x1_0 x1_1).length ≤ 1000000) := Lib.hid (cyO_len _ _ _)
  have HS := Lib.hid hS; have HI := Lib.hid hI
  clear hS hI
  generalize cyA x0_0 x1_0 x1_1 = r0 at HS HI 
  generalize cyO x0_0 x1_0 x1_1 = r1 at HS HI HRLR1
  generalize cyC x0_0 x1_0 x1_1 = r2 at HS HI 
  have HXL0_0 : Hid ((x0_0).length = n0_0) := Lib.hid hw0_0.len
  have HXL1_1 : Hid ((x1_1).length = n1_1 * 1) := Lib.hid (by have := hr1_1.1; simp at this; omega)
  have HB := Below.refl w.heap.size w
  go_enter Try.func9, Try.ntmps9
  go_wp2_with fail
  refine (szCyclic_post _ _ _ _ x0_0 (by have h := hw0_0.below HB (Nat.le_refl _); first | exact h | exact h.below (below_new _ _) (Nat.le_refl _) | exact (h.below (below_new _ _) (Nat.le_refl _)).below (below_new _ _) (Nat.le_refl _) | exact ((h.below (below_new _ _) (Nat.le_refl _)).below (below_new _ _) (Nat.le_refl _)).below (below_new _ _) (Nat.le_refl _)) hnn0_0 _ (by omega) (by omega)).mono ?_
  rintro e v1 ⟨lfv1, rfl, hqv1, hpv1, hbv1⟩
  (try replace hbv1 := und1 hbv1)
  (try replace hbv1 := undN hbv1)
  obtain ⟨hbv1b, hxo2, hso2⟩ := box_step hbv1
  (try simp only [World.size_alloc] at hxo2 hso2)
  obtain ⟨hbv1bb, hxo1, hso1⟩ := box_step hbv1b
  (try simp only [World.size_alloc] at hxo1 hso1)
  replace HB := HB.trans (hbv1bb.mono HB.size)
  have hszv1 := hbv1bb.size
  have qo1_0 := blk_cell hxo1 0 rfl
  have hlo1 := blk_lt hxo1
  have qo2_0 := blk_cell hxo2 0 rfl
  have qo2_1 := blk_cell hxo2 1 rfl
  have hlo2 := blk_lt hxo2
  by_cases hzv1 : lfv1 < 0
  · clear hqv1 hpv1
    go_wp2_with fail
    go_ret
    exact ⟨rfl, HB⟩
  replace hqv1 := hqv1 (by omega)
  have hbig0_0 : n0_0 ≤ 1048576 := by omega
  have HTX0_0 : Hid (tot x0_0 ≤ 1048576) := Lib.hid (by omega)
  have hr0_0 := hw0_0.rdl (by have := HTX0_0.out; omega)
  have HQv1 := Lib.hid hqv1; clear hqv1
  go_wp2_with fail
  refine (szTurn_post _ x1_0 _ _ _ hnn1_1 _ (by omega) (by omega)).mono ?_
  rintro e v2 ⟨lfv2, rfl, hqv2, hpv2, hbv2⟩
  clear qo1_0 qo2_0 qo2_1 hlo1 hlo2
  (try replace hbv2 := und1 hbv2)
  (try replace hbv2 := undN hbv2)
  replace hxo1 := blk_bel hxo1 hbv2
  replace hxo2 := blk_bel hxo2 hbv2
  replace HB := HB.trans (hbv2.mono HB.size)
  have hszv2 := hbv2.size
  have qo1_0 := blk_cell hxo1 0 rfl
  have hlo1 := blk_lt hxo1
  have qo2_0 := blk_cell hxo2 0 rfl
  have qo2_1 := blk_cell hxo2 1 rfl
  have hlo2 := blk_lt hxo2
  by_cases hzv2 : lfv2 < 0
  · clear hqv2 hpv2
    go_wp2_with fail
    go_ret
    exact ⟨rfl, HB⟩
  replace hqv2 := hqv2 (by omega)
  have hbig1_1 : n1_1 ≤ 1048576 := by omega
  have HQv2 := Lib.hid hqv2; clear hqv2
  go_upto_region 8 with fail
  go_cut [6, 7] (fun s6 s7 wx => ∃ (go3 : Nat) (Ao6 : Option Addr) (no6 : Nat) (co6 : Nat), s6 = .pointer (some ⟨go3, 0, none⟩) ∧ s7 = .int .i64 r2 ∧ wx.heap[go3]? = some (.cells #[.int .i64 r0, .slice Ao6 no6 co6] 75 (0, 0)) ∧ v2.heap.size ≤ go3 ∧ wx.ownsRow v2.heap.size 2 1 (.slice Ao6 no6 co6) no6 (ints r1) ∧ (∀ k, Fo (.slice Ao6 no6 co6) k → v2.heap.size ≤ k ∧ k < wx.heap.size) ∧ (¬ Fo (.slice Ao6 no6 co6) go3) ∧ Below v2.heap.size v2 wx)
  case first =>
    have HC := Below.refl v2.heap.size v2
    go_region_held3 (fun w' => w'.cell? ⟨w.heap.size, 0, none⟩ = some (.slice A0_0 n0_0 c0_0) ∧ w'.cell? ⟨w.heap.size + 1, 0, none⟩ = some (.int .i64 x1_0) ∧ w'.cell? ⟨w.heap.size + 1, 1, none⟩ = some (.slice A1_1 n1_1 c1_1)) (first | exact ⟨qo1_0, qo2_0, qo2_1⟩ | (refine ⟨?_, ?_, ?_⟩ <;> (repeat (refine cell_far ?_ (by omega))) <;> assumption) | go_keep) (first
      | (go_at_call 46
         refine (toCyclic_any _ _ _ _ x0_0 (by have h := (hr0_0.below HB (Nat.le_refl _)); first | exact h | exact h.below (below_new _ _) (Nat.le_refl _) | exact h.below (below_drew1 (below_new _ _)) (Nat.le_refl _)) (by omega)).mono ?_
         rintro e v3 ⟨Ao4, no4, co4, Fo4, rfl, hoo4, hFo4, hbv3⟩
         have hno4 : no4 ≤ 1048576 := by have h1 := hoo4.len; have h2 := HXL0_0.out; omega
         have hrgo4 := Lib.hid hFo4; clear hFo4
         clear qo1_0 qo2_0 qo2_1 hlo1 hlo2
         (try replace hbv3 := und1 hbv3)
         (try replace hbv3 := undN hbv3)
         (try clear zo3_0 fo3_0 zo3_1 fo3_1)
         (try (have hq := box_step hbv3; clear hbv3; obtain ⟨hbv3, hxo3, hso3⟩ := hq))
         (try replace hxo3 := blk_bel hxo3 hbv3)
         (try have zo3_0 := blk_cell hxo3 0 rfl)
         (try have fo3_0 := blk_free hxo3 0)
         (try have zo3_1 := blk_cell hxo3 1 rfl)
         (try have fo3_1 := blk_free hxo3 1)
         (try have hlo3 := blk_lt hxo3)
         replace HC := HC.trans (hbv3.mono HC.size)
         replace hxo1 := blk_bel hxo1 hbv3
         replace hxo2 := blk_bel hxo2 hbv3
         replace HB := HB.trans (hbv3.mono HB.size)
         have hszv3 := hbv3.size
         have qo1_0 := blk_cell hxo1 0 rfl
         have hlo1 := blk_lt hxo1
         have qo2_0 := blk_cell hxo2 0 rfl
         have qo2_1 := blk_cell hxo2 1 rfl
         have hlo2 := blk_lt hxo2
         have hrgzo4 := hrgo4
         replace hrgo4 := Lib.hid (rg_lo hrgo4.out (lo := v2.heap.size + 0) (hi := v3.heap.size) (by first | exact Nat.le_refl _ | exact le_al1 | (simp; done) | (simp; omega)) (Nat.le_refl _))
         )
      | (go_at_call 47
         refine (toTurn_any _ x1_0 _ _ _ x1_1 (by have h := (hr1_1.below HB (Nat.le_refl _)); first | exact h | exact h.below (below_new _ _) (Nat.le_refl _) | exact h.below (below_drew1 (below_new _ _)) (Nat.le_refl _)) (by omega)).mono ?_
         rintro e v4 ⟨Ao5, no5, co5, rfl, hoo5, hbv4⟩
         have hno5 : no5 ≤ 1048576 := by have h1 := hoo5.1; simp only [List.length_map] at h1; have h2 := HXL1_1.out; omega
         have hrgo5 := Lib.hid (rg_row hoo5)
         clear qo1_0 qo2_0 qo2_1 hlo1 hlo2
         (try replace hbv4 := und1 hbv4)
         (try replace hbv4 := undN hbv4)
         (try clear zo3_0 fo3_0 zo3_1 fo3_1)
         (try (have hq := box_step hbv4; clear hbv4; obtain ⟨hbv4, hxo3, hso3⟩ := hq))
         (try replace hxo3 := blk_bel hxo3 hbv4)
         (try have zo3_0 := blk_cell hxo3 0 rfl)
         (try have fo3_0 := blk_free hxo3 0)
         (try have zo3_1 := blk_cell hxo3 1 rfl)
         (try have fo3_1 := blk_free hxo3 1)
         (try have hlo3 := blk_lt hxo3)
         replace HC := HC.trans (hbv4.mono HC.size)
         replace hoo4 := hoo4.below hbv4
         replace hxo1 := blk_bel hxo1 hbv4
         replace hxo2 := blk_bel hxo2 hbv4
         replace HB := HB.trans (hbv4.mono HB.size)
         have hszv4 := hbv4.size
         have qo1_0 := blk_cell hxo1 0 rfl
         have hlo1 := blk_lt hxo1
         have qo2_0 := blk_cell hxo2 0 rfl
         have qo2_1 := blk_cell hxo2 1 rfl
         have hlo2 := blk_lt hxo2
         have hrgzo5 := hrgo5
         replace hrgo5 := Lib.hid (rg_lo hrgo5.out (lo := v3.heap.size + 0) (hi := v4.heap.size) (by first | exact Nat.le_refl _ | exact le_al1 | (simp; done) | (simp; omega)) (Nat.le_refl _))
         )
      | (go_at_call 45
         refine (HS.out _ _ _ _ (by have h := hoo4.rdl; first | exact h | exact h.below (below_new _ _) (Nat.le_refl _) | exact h.below (below_drew1 (below_new _ _)) (Nat.le_refl _)) (by omega) hoo4.cap _ _ _ (by have h := (own_rd hoo5); first | exact h | exact h.below (below_new _ _) (Nat.le_refl _) | exact h.below (below_drew1 (below_new _ _)) (Nat.le_refl _)) (by omega) (ownN_cap hoo5)).mono ?_
         rintro e v5 ⟨Ao6, no6, co6, rfl, hoo6, hbv5⟩
         have hno6 : no6 ≤ 1000000 := by have h1 := hoo6.1; simp only [List.length_map] at h1; have h2 := HRLR1.out; omega
         have hrgo6 := Lib.hid (rg_row hoo6)
         clear qo1_0 qo2_0 qo2_1 hlo1 hlo2
         (try replace hbv5 := und1 hbv5)
         (try replace hbv5 := undN hbv5)
         (try clear zo3_0 fo3_0 zo3_1 fo3_1)
         (try (have hq := box_step hbv5; clear hbv5; obtain ⟨hbv5, hxo3, hso3⟩ := hq))
         (try replace hxo3 := blk_bel hxo3 hbv5)
         (try have zo3_0 := blk_cell hxo3 0 rfl)
         (try have fo3_0 := blk_free hxo3 0)
         (try have zo3_1 := blk_cell hxo3 1 rfl)
         (try have fo3_1 := blk_free hxo3 1)
         (try have hlo3 := blk_lt hxo3)
         replace HC := HC.trans (hbv5.mono HC.size)
         replace hoo4 := hoo4.below hbv5
         replace hoo5 := ownN_below hoo5 hbv5 (Nat.le_refl _)
         replace hxo1 := blk_bel hxo1 hbv5
         replace hxo2 := blk_bel hxo2 hbv5
         replace HB := HB.trans (hbv5.mono HB.size)
         have hszv5 := hbv5.size
         have qo1_0 := blk_cell hxo1 0 rfl
         have hlo1 := blk_lt hxo1
         have qo2_0 := blk_cell hxo2 0 rfl
         have qo2_1 := blk_cell hxo2 1 rfl
         have hlo2 := blk_lt hxo2
         have hrgzo6 := hrgo6
         replace hrgo6 := Lib.hid (rg_lo hrgo6.out (lo := v4.heap.size + 0) (hi := v5.heap.size) (by first | exact Nat.le_refl _ | exact le_al1 | (simp; done) | (simp; omega)) (Nat.le_refl _))
         )
      )
    all_goals
      go_wp2_with fail
      go_meet
      exact ⟨_, _, _, _, rfl, rfl, (by first | exact box_new _ _ _ | simpa using blk_set (blk_set (hxo3) 0 _) 1 _), (by first | omega | (simp; omega)), (by first | exact own_ch (ownN_base hoo6 (by first | omega | (simp; omega) | (show _ ≤ (World.alloc _ _).heap.size; simp; omega))) (ch_alloc (fun _ => False) _ _) (fun k h1 h2 => h2) | exact own_ch (ownN_base hoo6 (by first | omega | (simp; omega) | (show _ ≤ (World.alloc _ _).heap.size; simp; omega))) ((ch_set _ _ 0 _).trans (ch_set _ _ 1 _)) (fun k h1 h2 => by have h3 := hrgo6.out k h1; have h4 := (hrgzo6.out k h1).1; first | omega | (simp at h4; omega) | (change (World.alloc _ _).heap.size ≤ _ at h4; simp at h4; omega)) | exact own_ch (ownN_base hoo6 (by first | omega | (simp; omega) | (show _ ≤ (World.alloc _ _).heap.size; simp; omega))) (ch_drew (ch_alloc (fun _ => False) _ _)) (fun k h1 h2 => h2) | exact own_ch (ownN_base hoo6 (by first | omega | (simp; omega) | (show _ ≤ (World.alloc _ _).heap.size; simp; omega))) (ch_drew ((ch_set _ _ 0 _).trans (ch_set _ _ 1 _))) (fun k h1 h2 => by have h3 := hrgo6.out k h1; have h4 := (hrgzo6.out k h1).1; first | omega | (simp at h4; omega) | (change (World.alloc _ _).heap.size ≤ _ at h4; simp at h4; omega))), (fun k hk => by have h1 := hrgo6.out k hk; first | omega | (refine ⟨by omega, ?_⟩; simp; omega) | (refine ⟨by omega, ?_⟩; show k < _; simp only [World.size_setCell, World.size_alloc]; omega) | (trace_state; fail)), (fun hk => by have h1 := hrgo6.out _ hk; have h2 := (hrgzo6.out _ hk).1; first | omega | (simp at h2; omega) | (change (World.alloc _ _).heap.size ≤ _ at h2; simp at h2; omega)), (by first | exact HC.alloc HC.size _ | (refine ((HC).setCell ?_ _).setCell ?_ _ <;> (first | omega | (dsimp only; omega) | (simp; omega))) | exact below_drew1 (HC.alloc HC.size _) | (refine below_drew1 (((HC).setCell ?_ _).setCell ?_ _) <;> (first | omega | (dsimp only; omega) | (simp; omega))))⟩
  case rest =>
  obtain ⟨go3, Ao6, no6, co6, rfl, rfl, hxo3, hgo3, hoo6, hFo6, hnfo6o3, hbcut⟩ := hcut
  have hupo3 := blk_lt hxo3
  obtain ⟨v6, rfl⟩ : ∃ v, v = wc := ⟨_, rfl⟩
  have hrgo6 := Lib.hid hFo6; clear hFo6
  have hno6 : no6 ≤ 1000000 := by have h1 := hoo6.1; simp only [List.length_map] at h1; have h2 := HRLR1.out; omega
  clear qo1_0 qo2_0 qo2_1 hlo1 hlo2
  (try replace hbcut := und1 hbcut)
  (try replace hbcut := undN hbcut)
  replace hxo1 := blk_bel hxo1 hbcut
  replace hxo2 := blk_bel hxo2 hbcut
  replace HB := HB.trans (hbcut.mono HB.size)
  have hszv6 := hbcut.size
  have qo1_0 := blk_cell hxo1 0 rfl
  have hlo1 := blk_lt hxo1
  have qo2_0 := blk_cell hxo2 0 rfl
  have qo2_1 := blk_cell hxo2 1 rfl
  have hlo2 := blk_lt hxo2
  clear qo1_0 qo2_0 qo2_1 hlo1 hlo2
  have qo1_0 := blk_cell hxo1 0 rfl
  have hlo1 := blk_lt hxo1
  have qo2_0 := blk_cell hxo2 0 rfl
  have qo2_1 := blk_cell hxo2 1 rfl
  have hlo2 := blk_lt hxo2
  have qo3_0 := blk_cell hxo3 0 rfl
  have qo3_1 := blk_cell hxo3 1 rfl
  have hlo3 := blk_lt hxo3
  go_wp2_with fail
  refine (toCyclic_any _ _ _ _ x0_0 (hr0_0.below HB (Nat.le_refl _)) (by omega)).mono ?_
  rintro e v7 ⟨Ao8, no8, co8, Fo8, rfl, hoo8, hFo8, hbv7⟩
  have hno8 : no8 ≤ 1048576 := by have h1 := hoo8.len; have h2 := HXL0_0.out; omega
  have hrgo8 := Lib.hid hFo8; clear hFo8
  clear qo1_0 qo2_0 qo2_1 qo3_0 qo3_1 hlo1 hlo2 hlo3
  (try replace hbv7 := und1 hbv7)
  (try replace hbv7 := undN hbv7)
  replace hoo6 := ownN_below hoo6 hbv7 (Nat.le_refl _)
  replace hxo1 := blk_bel hxo1 hbv7
  replace hxo2 := blk_bel hxo2 hbv7
  replace hxo3 := blk_bel hxo3 hbv7
  replace HB := HB.trans (hbv7.mono HB.size)
  have hszv7 := hbv7.size
  have qo1_0 := blk_cell hxo1 0 rfl
  have hlo1 := blk_lt hxo1
  have qo2_0 := blk_cell hxo2 0 rfl
  have qo2_1 := blk_cell hxo2 1 rfl
  have hlo2 := blk_lt hxo2
  have qo3_0 := blk_cell hxo3 0 rfl
  have qo3_1 := blk_cell hxo3 1 rfl
  have hlo3 := blk_lt hxo3
  replace hrgo8 := Lib.hid (rg_lo hrgo8.out (lo := v6.heap.size + 0) (hi := v7.heap.size) (by first | exact Nat.le_refl _ | exact le_al1 | (simp; done) | (simp; omega)) (Nat.le_refl _))
  go_wp2_with fail
  refine (toTurn_any _ x1_0 _ _ _ x1_1 ((hr1_1.below HB (Nat.le_refl _)).below (below_new _ _) (Nat.le_refl _)) (by omega)).mono ?_
  rintro e v8 ⟨Ao10, no10, co10, rfl, hoo10, hbv8⟩
  have hno10 : no10 ≤ 1048576 := by have h1 := hoo10.1; simp only [List.length_map] at h1; have h2 := HXL1_1.out; omega
  have hrgo10 := Lib.hid (rg_row hoo10)
  clear qo1_0 qo2_0 qo2_1 qo3_0 qo3_1 hlo1 hlo2 hlo3
  (try replace hbv8 := und1 hbv8)
  (try replace hbv8 := undN hbv8)
  obtain ⟨hbv8b, hxo9, hso9⟩ := box_step hbv8
  (try simp only [World.size_alloc] at hxo9 hso9)
  replace hoo6 := ownN_below hoo6 hbv8b (Nat.le_refl _)
  replace hoo8 := hoo8.below hbv8b
  replace hxo1 := blk_bel hxo1 hbv8b
  replace hxo2 := blk_bel hxo2 hbv8b
  replace hxo3 := blk_bel hxo3 hbv8b
  replace HB := HB.trans (hbv8b.mono HB.size)
  have hszv8 := hbv8b.size
  have qo1_0 := blk_cell hxo1 0 rfl
  have hlo1 := blk_lt hxo1
  have qo2_0 := blk_cell hxo2 0 rfl
  have qo2_1 := blk_cell hxo2 1 rfl
  have hlo2 := blk_lt hxo2
  have qo3_0 := blk_cell hxo3 0 rfl
  have qo3_1 := blk_cell hxo3 1 rfl
  have hlo3 := blk_lt hxo3
  have qo9_0 := blk_cell hxo9 0 rfl
  have hlo9 := blk_lt hxo9
  replace hrgo10 := Lib.hid (rg_lo hrgo10.out (lo := v7.heap.size + 1) (hi := v8.heap.size) (by first | exact Nat.le_refl _ | exact le_al1 | (simp; done) | (simp; omega)) (Nat.le_refl _))
  go_wp2_with fail
  refine (HI.out _ _ _ _ (hoo8.rdl.below (below_new _ _) (Nat.le_refl _)) (by omega) hoo8.cap _ _ _ ((own_rd hoo10).below (below_new _ _) (Nat.le_refl _)) (by omega) (ownN_cap hoo10)).mono ?_
  rintro e v9 ⟨Ao12, no12, co12, rfl, hoo12, hbv9⟩
  have hno12 : no12 ≤ 1000000 := by have h1 := hoo12.1; simp only [List.length_map] at h1; have h2 := HRLR1.out; omega
  have hrgo12 := Lib.hid (rg_row hoo12)
  clear qo1_0 qo2_0 qo2_1 qo3_0 qo3_1 qo9_0 hlo1 hlo2 hlo3 hlo9
  (try replace hbv9 := und1 hbv9)
  (try replace hbv9 := undN hbv9)
  obtain ⟨hbv9b, hxo11, hso11⟩ := box_step hbv9
  (try simp only [World.size_alloc] at hxo11 hso11)
  replace hoo6 := ownN_below hoo6 hbv9b (Nat.le_refl _)
  replace hoo8 := hoo8.below hbv9b
  replace hoo10 := ownN_below hoo10 hbv9b (Nat.le_refl _)
  replace hxo1 := blk_bel hxo1 hbv9b
  replace hxo2 := blk_bel hxo2 hbv9b
  replace hxo3 := blk_bel hxo3 hbv9b
  replace hxo9 := blk_bel hxo9 hbv9b
  replace HB := HB.trans (hbv9b.mono HB.size)
  have hszv9 := hbv9b.size
  have qo1_0 := blk_cell hxo1 0 rfl
  have hlo1 := blk_lt hxo1
  have qo2_0 := blk_cell hxo2 0 rfl
  have qo2_1 := blk_cell hxo2 1 rfl
  have hlo2 := blk_lt hxo2
  have qo3_0 := blk_cell hxo3 0 rfl
  have qo3_1 := blk_cell hxo3 1 rfl
  have hlo3 := blk_lt hxo3
  have qo9_0 := blk_cell hxo9 0 rfl
  have hlo9 := blk_lt hxo9
  have qo11_0 := blk_cell hxo11 0 rfl
  have qo11_1 := blk_cell hxo11 1 rfl
  have hlo11 := blk_lt hxo11
  replace hrgo12 := Lib.hid (rg_lo hrgo12.out (lo := v8.heap.size + 1) (hi := v9.heap.size) (by first | exact Nat.le_refl _ | exact le_al1 | (simp; done) | (simp; omega)) (Nat.le_refl _))
  go_wp2_with fail
  refine (eqTurn_same _ _ _ _ _ r1 ((own_rd hoo12).below (below_new _ _) (Nat.le_refl _)) (by omega) _ _ _ ((own_rd hoo6).below (below_new _ _) (Nat.le_refl _))).mono ?_
  rintro e v10 ⟨rfl, hbv10⟩
  clear qo1_0 qo2_0 qo2_1 qo3_0 qo3_1 qo9_0 qo11_0 qo11_1 hlo1 hlo2 hlo3 hlo9 hlo11
  (try replace hbv10 := und1 hbv10)
  (try replace hbv10 := undN hbv10)
  obtain ⟨hbv10b, hxo13, hso13⟩ := box_step hbv10
  (try simp only [World.size_alloc] at hxo13 hso13)
  replace hoo6 := ownN_below hoo6 hbv10b (Nat.le_refl _)
  replace hoo8 := hoo8.below hbv10b
  replace hoo10 := ownN_below hoo10 hbv10b (Nat.le_refl _)
  replace hoo12 := ownN_below hoo12 hbv10b (Nat.le_refl _)
  replace hxo1 := blk_bel hxo1 hbv10b
  replace hxo2 := blk_bel hxo2 hbv10b
  replace hxo3 := blk_bel hxo3 hbv10b
  replace hxo9 := blk_bel hxo9 hbv10b
  replace hxo11 := blk_bel hxo11 hbv10b
  replace HB := HB.trans (hbv10b.mono HB.size)
  have hszv10 := hbv10b.size
  have qo1_0 := blk_cell hxo1 0 rfl
  have hlo1 := blk_lt hxo1
  have qo2_0 := blk_cell hxo2 0 rfl
  have qo2_1 := blk_cell hxo2 1 rfl
  have hlo2 := blk_lt hxo2
  have qo3_0 := blk_cell hxo3 0 rfl
  have qo3_1 := blk_cell hxo3 1 rfl
  have hlo3 := blk_lt hxo3
  have qo9_0 := blk_cell hxo9 0 rfl
  have hlo9 := blk_lt hxo9
  have qo11_0 := blk_cell hxo11 0 rfl
  have qo11_1 := blk_cell hxo11 1 rfl
  have hlo11 := blk_lt hxo11
  have qo13_0 := blk_cell hxo13 0 rfl
  have qo13_1 := blk_cell hxo13 1 rfl
  have hlo13 := blk_lt hxo13
  go_wp2_with fail
  go_region_held3 (fun w' => w'.cell? ⟨v7.heap.size, 0, none⟩ = some (.slice Ao8 no8 co8) ∧ w'.cell? ⟨w.heap.size, 0, none⟩ = some (.slice A0_0 n0_0 c0_0)) (first | exact ⟨qo9_0, qo1_0⟩ | go_keep) (first
    | (go_at_call 46
       refine (toCyclic_any _ _ _ _ x0_0 (by have h := (hr0_0.below HB (Nat.le_refl _)); first | exact h | exact h.below (below_new _ _) (Nat.le_refl _) | exact h.below (below_drew1 (below_new _ _)) (Nat.le_refl _)) (by omega)).mono ?_
       rintro e v11 ⟨Ao14, no14, co14, Fo14, rfl, hoo14, hFo14, hbv11⟩
       have hno14 : no14 ≤ 1048576 := by have h1 := hoo14.len; have h2 := HXL0_0.out; omega
       have hrgo14 := Lib.hid hFo14; clear hFo14
       clear qo1_0 qo2_0 qo2_1 qo3_0 qo3_1 qo9_0 qo11_0 qo11_1 qo13_0 qo13_1 hlo1 hlo2 hlo3 hlo9 hlo11 hlo13
       (try replace hbv11 := und1 hbv11)
       (try replace hbv11 := undN hbv11)
       replace hoo6 := ownN_below hoo6 hbv11 (Nat.le_refl _)
       replace hoo8 := hoo8.below hbv11
       replace hoo10 := ownN_below hoo10 hbv11 (Nat.le_refl _)
       replace hoo12 := ownN_below hoo12 hbv11 (Nat.le_refl _)
       replace hxo1 := blk_bel hxo1 hbv11
       replace hxo2 := blk_bel hxo2 hbv11
       replace hxo3 := blk_bel hxo3 hbv11
       replace hxo9 := blk_bel hxo9 hbv11
       replace hxo11 := blk_bel hxo11 hbv11
       replace hxo13 := blk_bel hxo13 hbv11
       replace HB := HB.trans (hbv11.mono HB.size)
       have hszv11 := hbv11.size
       have qo1_0 := blk_cell hxo1 0 rfl
       have hlo1 := blk_lt hxo1
       have qo2_0 := blk_cell hxo2 0 rfl
       have qo2_1 := blk_cell hxo2 1 rfl
       have hlo2 := blk_lt hxo2
       have qo3_0 := blk_cell hxo3 0 rfl
       have qo3_1 := blk_cell hxo3 1 rfl
       have hlo3 := blk_lt hxo3
       have qo9_0 := blk_cell hxo9 0 rfl
       have hlo9 := blk_lt hxo9
       have qo11_0 := blk_cell hxo11 0 rfl
       have qo11_1 := blk_cell hxo11 1 rfl
       have hlo11 := blk_lt hxo11
       have qo13_0 := blk_cell hxo13 0 rfl
       have qo13_1 := blk_cell hxo13 1 rfl
       have hlo13 := blk_lt hxo13
       replace hrgo14 := Lib.hid (rg_lo hrgo14.out (lo := v10.heap.size + 0) (hi := v11.heap.size) (by first | exact Nat.le_refl _ | exact le_al1 | (simp; done) | (simp; omega)) (Nat.le_refl _))
       )
    | (go_at_call 50
       refine (eqCyclic_same _ _ _ _ x0_0 (by have h := hoo8.rdl; first | exact h | exact h.below (below_new _ _) (Nat.le_refl _) | exact h.below (below_drew1 (below_new _ _)) (Nat.le_refl _)) (by omega) _ _ _ (by have h := hoo14.rdl; first | exact h | exact h.below (below_new _ _) (Nat.le_refl _) | exact h.below (below_drew1 (below_new _ _)) (Nat.le_refl _))).mono ?_
       rintro e v12 ⟨rfl, hbv12⟩
       clear qo1_0 qo2_0 qo2_1 qo3_0 qo3_1 qo9_0 qo11_0 qo11_1 qo13_0 qo13_1 hlo1 hlo2 hlo3 hlo9 hlo11 hlo13
       (try replace hbv12 := und1 hbv12)
       (try replace hbv12 := undN hbv12)
       replace hoo6 := ownN_below hoo6 hbv12 (Nat.le_refl _)
       replace hoo8 := hoo8.below hbv12
       replace hoo10 := ownN_below hoo10 hbv12 (Nat.le_refl _)
       replace hoo12 := ownN_below hoo12 hbv12 (Nat.le_refl _)
       replace hoo14 := hoo14.below hbv12
       replace hxo1 := blk_bel hxo1 hbv12
       replace hxo2 := blk_bel hxo2 hbv12
       replace hxo3 := blk_bel hxo3 hbv12
       replace hxo9 := blk_bel hxo9 hbv12
       replace hxo11 := blk_bel hxo11 hbv12
       replace hxo13 := blk_bel hxo13 hbv12
       replace HB := HB.trans (hbv12.mono HB.size)
       have hszv12 := hbv12.size
       have qo1_0 := blk_cell hxo1 0 rfl
       have hlo1 := blk_lt hxo1
       have qo2_0 := blk_cell hxo2 0 rfl
       have qo2_1 := blk_cell hxo2 1 rfl
       have hlo2 := blk_lt hxo2
       have qo3_0 := blk_cell hxo3 0 rfl
       have qo3_1 := blk_cell hxo3 1 rfl
       have hlo3 := blk_lt hxo3
       have qo9_0 := blk_cell hxo9 0 rfl
       have hlo9 := blk_lt hxo9
       have qo11_0 := blk_cell hxo11 0 rfl
       have qo11_1 := blk_cell hxo11 1 rfl
       have hlo11 := blk_lt hxo11
       have qo13_0 := blk_cell hxo13 0 rfl
       have qo13_1 := blk_cell hxo13 1 rfl
       have hlo13 := blk_lt hxo13
       )
    )
  go_wp2_with fail
  go_region_held3 (fun w' => w'.cell? ⟨v8.heap.size, 0, none⟩ = some (.int .i64 x1_0) ∧ w'.cell? ⟨v8.heap.size, 1, none⟩ = some (.slice Ao10 no10 co10) ∧ w'.cell? ⟨w.heap.size + 1, 0, none⟩ = some (.int .i64 x1_0) ∧ w'.cell? ⟨w.heap.size + 1, 1, none⟩ = some (.slice A1_1 n1_1 c1_1)) (first | exact ⟨qo11_0, qo11_1, qo2_0, qo2_1⟩ | go_keep) (first
    | (go_at_call 47
       refine (toTurn_any _ x1_0 _ _ _ x1_1 (by have h := (hr1_1.below HB (Nat.le_refl _)); first | exact h | exact h.below (below_new _ _) (Nat.le_refl _) | exact h.below (below_drew1 (below_new _ _)) (Nat.le_refl _)) (by omega)).mono ?_
       rintro e v13 ⟨Ao15, no15, co15, rfl, hoo15, hbv13⟩
       have hno15 : no15 ≤ 1048576 := by have h1 := hoo15.1; simp only [List.length_map] at h1; have h2 := HXL1_1.out; omega
       have hrgo15 := Lib.hid (rg_row hoo15)
       clear qo1_0 qo2_0 qo2_1 qo3_0 qo3_1 qo9_0 qo11_0 qo11_1 qo13_0 qo13_1 hlo1 hlo2 hlo3 hlo9 hlo11 hlo13
       (try replace hbv13 := und1 hbv13)
       (try replace hbv13 := undN hbv13)
       replace hoo6 := ownN_below hoo6 hbv13 (Nat.le_refl _)
       replace hoo8 := hoo8.below hbv13
       replace hoo10 := ownN_below hoo10 hbv13 (Nat.le_refl _)
       replace hoo12 := ownN_below hoo12 hbv13 (Nat.le_refl _)
       replace hoo14 := hoo14.below hbv13
       replace hxo1 := blk_bel hxo1 hbv13
       replace hxo2 := blk_bel hxo2 hbv13
       replace hxo3 := blk_bel hxo3 hbv13
       replace hxo9 := blk_bel hxo9 hbv13
       replace hxo11 := blk_bel hxo11 hbv13
       replace hxo13 := blk_bel hxo13 hbv13
       replace HB := HB.trans (hbv13.mono HB.size)
       have hszv13 := hbv13.size
       have qo1_0 := blk_cell hxo1 0 rfl
       have hlo1 := blk_lt hxo1
       have qo2_0 := blk_cell hxo2 0 rfl
       have qo2_1 := blk_cell hxo2 1 rfl
       have hlo2 := blk_lt hxo2
       have qo3_0 := blk_cell hxo3 0 rfl
       have qo3_1 := blk_cell hxo3 1 rfl
       have hlo3 := blk_lt hxo3
       have qo9_0 := blk_cell hxo9 0 rfl
       have hlo9 := blk_lt hxo9
       have qo11_0 := blk_cell hxo11 0 rfl
       have qo11_1 := blk_cell hxo11 1 rfl
       have hlo11 := blk_lt hxo11
       have qo13_0 := blk_cell hxo13 0 rfl
       have qo13_1 := blk_cell hxo13 1 rfl
       have hlo13 := blk_lt hxo13
       replace hrgo15 := Lib.hid (rg_lo hrgo15.out (lo := v12.heap.size + 0) (hi := v13.heap.size) (by first | exact Nat.le_refl _ | exact le_al1 | (simp; done) | (simp; omega)) (Nat.le_refl _))
       )
    | (go_at_call 49
       refine (eqTurn_same _ _ _ _ _ x1_1 (by have h := (own_rd hoo10); first | exact h | exact h.below (below_new _ _) (Nat.le_refl _) | exact h.below (below_drew1 (below_new _ _)) (Nat.le_refl _)) (by omega) _ _ _ (by have h := (own_rd hoo15); first | exact h | exact h.below (below_new _ _) (Nat.le_refl _) | exact h.below (below_drew1 (below_new _ _)) (Nat.le_refl _))).mono ?_
       rintro e v14 ⟨rfl, hbv14⟩
       clear qo1_0 qo2_0 qo2_1 qo3_0 qo3_1 qo9_0 qo11_0 qo11_1 qo13_0 qo13_1 hlo1 hlo2 hlo3 hlo9 hlo11 hlo13
       (try replace hbv14 := und1 hbv14)
       (try replace hbv14 := undN hbv14)
       replace hoo6 := ownN_below hoo6 hbv14 (Nat.le_refl _)
       replace hoo8 := hoo8.below hbv14
       replace hoo10 := ownN_below hoo10 hbv14 (Nat.le_refl _)
       replace hoo12 := ownN_below hoo12 hbv14 (Nat.le_refl _)
       replace hoo14 := hoo14.below hbv14
       replace hoo15 := ownN_below hoo15 hbv14 (Nat.le_refl _)
       replace hxo1 := blk_bel hxo1 hbv14
       replace hxo2 := blk_bel hxo2 hbv14
       replace hxo3 := blk_bel hxo3 hbv14
       replace hxo9 := blk_bel hxo9 hbv14
       replace hxo11 := blk_bel hxo11 hbv14
       replace hxo13 := blk_bel hxo13 hbv14
       replace HB := HB.trans (hbv14.mono HB.size)
       have hszv14 := hbv14.size
       have qo1_0 := blk_cell hxo1 0 rfl
       have hlo1 := blk_lt hxo1
       have qo2_0 := blk_cell hxo2 0 rfl
       have qo2_1 := blk_cell hxo2 1 rfl
       have hlo2 := blk_lt hxo2
       have qo3_0 := blk_cell hxo3 0 rfl
       have qo3_1 := blk_cell hxo3 1 rfl
       have hlo3 := blk_lt hxo3
       have qo9_0 := blk_cell hxo9 0 rfl
       have hlo9 := blk_lt hxo9
       have qo11_0 := blk_cell hxo11 0 rfl
       have qo11_1 := blk_cell hxo11 1 rfl
       have hlo11 := blk_lt hxo11
       have qo13_0 := blk_cell hxo13 0 rfl
       have qo13_1 := blk_cell hxo13 1 rfl
       have hlo13 := blk_lt hxo13
       )
    )
  go_wp2_with fail
  have hTv15o8 : tot x0_0 ≤ 1048576 := by have := HTX0_0.out; omega
  refine (markCyclic_any _ _ _ _ _ x0_0 hoo8 (by omega) (by omega)  (1) (by omega) (by omega)).mono ?_
  rintro e v15 ⟨rfl, hmo8, hCv15⟩
  clear qo1_0 qo2_0 qo2_1 qo3_0 qo3_1 qo9_0 qo11_0 qo11_1 qo13_0 qo13_1 hlo1 hlo2 hlo3 hlo9 hlo11 hlo13
  replace hoo6 := own_ch hoo6 hCv15 (fun k h1 h2 => (by have := hrgo6.out k h1; have := hrgo8.out k h2; omega))
  replace hoo10 := own_ch hoo10 hCv15 (fun k h1 h2 => (by have := hrgo10.out k h1; have := hrgo8.out k h2; omega))
  replace hoo12 := own_ch hoo12 hCv15 (fun k h1 h2 => (by have := hrgo12.out k h1; have := hrgo8.out k h2; omega))
  replace hoo14 := hoo14.ch hCv15 (fun k h1 h2 => (by have := hrgo14.out k h1; have := hrgo8.out k h2; omega))
  replace hoo15 := own_ch hoo15 hCv15 (fun k h1 h2 => (by have := hrgo15.out k h1; have := hrgo8.out k h2; omega))
  replace hxo1 := blk_ch hxo1 hCv15 (fun h => by have := hrgo8.out _ h; omega)
  replace hxo2 := blk_ch hxo2 hCv15 (fun h => by have := hrgo8.out _ h; omega)
  replace hxo3 := blk_ch hxo3 hCv15 (fun h => by have := hrgo8.out _ h; omega)
  replace hxo9 := blk_ch hxo9 hCv15 (fun h => by have := hrgo8.out _ h; omega)
  replace hxo11 := blk_ch hxo11 hCv15 (fun h => by have := hrgo8.out _ h; omega)
  replace hxo13 := blk_ch hxo13 hCv15 (fun h => by have := hrgo8.out _ h; omega)
  replace HB := below_ch HB hCv15 (fun k h => by have := hrgo8.out k h; omega) HB.size
  replace hoo8 := hmo8
  have hszv15 := hCv15.size
  have qo1_0 := blk_cell hxo1 0 rfl
  have hlo1 := blk_lt hxo1
  have qo2_0 := blk_cell hxo2 0 rfl
  have qo2_1 := blk_cell hxo2 1 rfl
  have hlo2 := blk_lt hxo2
  have qo3_0 := blk_cell hxo3 0 rfl
  have qo3_1 := blk_cell hxo3 1 rfl
  have hlo3 := blk_lt hxo3
  have qo9_0 := blk_cell hxo9 0 rfl
  have hlo9 := blk_lt hxo9
  have qo11_0 := blk_cell hxo11 0 rfl
  have qo11_1 := blk_cell hxo11 1 rfl
  have hlo11 := blk_lt hxo11
  have qo13_0 := blk_cell hxo13 0 rfl
  have qo13_1 := blk_cell hxo13 1 rfl
  have hlo13 := blk_lt hxo13
  go_wp2_with fail
  refine (markTurn_any _ _ _ _ _ _ _ hoo10 (by omega)  (1 + (tot x0_0 : Int)) (by omega) (by omega)).mono ?_
  rintro e v16 ⟨rfl, hmo10, hCv16⟩
  clear qo1_0 qo2_0 qo2_1 qo3_0 qo3_1 qo9_0 qo11_0 qo11_1 qo13_0 qo13_1 hlo1 hlo2 hlo3 hlo9 hlo11 hlo13
  replace hoo6 := own_ch hoo6 hCv16 (fun k h1 h2 => (by have := hrgo6.out k h1; have := hrgo10.out k h2; omega))
  replace hoo8 := hoo8.ch hCv16 (fun k h1 h2 => (by have := hrgo8.out k h1; have := hrgo10.out k h2; omega))
  replace hoo12 := own_ch hoo12 hCv16 (fun k h1 h2 => (by have := hrgo12.out k h1; have := hrgo10.out k h2; omega))
  replace hoo14 := hoo14.ch hCv16 (fun k h1 h2 => (by have := hrgo14.out k h1; have := hrgo10.out k h2; omega))
  replace hoo15 := own_ch hoo15 hCv16 (fun k h1 h2 => (by have := hrgo15.out k h1; have := hrgo10.out k h2; omega))
  replace hxo1 := blk_ch hxo1 hCv16 (fun h => by have := hrgo10.out _ h; omega)
  replace hxo2 := blk_ch hxo2 hCv16 (fun h => by have := hrgo10.out _ h; omega)
  replace hxo3 := blk_ch hxo3 hCv16 (fun h => by have := hrgo10.out _ h; omega)
  replace hxo9 := blk_ch hxo9 hCv16 (fun h => by have := hrgo10.out _ h; omega)
  replace hxo11 := blk_ch hxo11 hCv16 (fun h => by have := hrgo10.out _ h; omega)
  replace hxo13 := blk_ch hxo13 hCv16 (fun h => by have := hrgo10.out _ h; omega)
  replace HB := below_ch HB hCv16 (fun k h => by have := hrgo10.out k h; omega) HB.size
  replace hoo10 := hmo10
  have hszv16 := hCv16.size
  have qo1_0 := blk_cell hxo1 0 rfl
  have hlo1 := blk_lt hxo1
  have qo2_0 := blk_cell hxo2 0 rfl
  have qo2_1 := blk_cell hxo2 1 rfl
  have hlo2 := blk_lt hxo2
  have qo3_0 := blk_cell hxo3 0 rfl
  have qo3_1 := blk_cell hxo3 1 rfl
  have hlo3 := blk_lt hxo3
  have qo9_0 := blk_cell hxo9 0 rfl
  have hlo9 := blk_lt hxo9
  have qo11_0 := blk_cell hxo11 0 rfl
  have qo11_1 := blk_cell hxo11 1 rfl
  have hlo11 := blk_lt hxo11
  have qo13_0 := blk_cell hxo13 0 rfl
  have qo13_1 := blk_cell hxo13 1 rfl
  have hlo13 := blk_lt hxo13
  go_wp2_with fail
  refine (eqTurn_same _ _ _ _ _ r1 (own_rd hoo12) (by omega) _ _ _ (own_rd hoo6)).mono ?_
  rintro e v17 ⟨rfl, hbv17⟩
  clear qo1_0 qo2_0 qo2_1 qo3_0 qo3_1 qo9_0 qo11_0 qo11_1 qo13_0 qo13_1 hlo1 hlo2 hlo3 hlo9 hlo11 hlo13
  (try replace hbv17 := und1 hbv17)
  (try replace hbv17 := undN hbv17)
  replace hoo6 := ownN_below hoo6 hbv17 (Nat.le_refl _)
  replace hoo8 := hoo8.below hbv17
  replace hoo10 := ownN_below hoo10 hbv17 (Nat.le_refl _)
  replace hoo12 := ownN_below hoo12 hbv17 (Nat.le_refl _)
  replace hoo14 := hoo14.below hbv17
  replace hoo15 := ownN_below hoo15 hbv17 (Nat.le_refl _)
  replace hxo1 := blk_bel hxo1 hbv17
  replace hxo2 := blk_bel hxo2 hbv17
  replace hxo3 := blk_bel hxo3 hbv17
  replace hxo9 := blk_bel hxo9 hbv17
  replace hxo11 := blk_bel hxo11 hbv17
  replace hxo13 := blk_bel hxo13 hbv17
  replace HB := HB.trans (hbv17.mono HB.size)
  have hszv17 := hbv17.size
  have qo1_0 := blk_cell hxo1 0 rfl
  have hlo1 := blk_lt hxo1
  have qo2_0 := blk_cell hxo2 0 rfl
  have qo2_1 := blk_cell hxo2 1 rfl
  have hlo2 := blk_lt hxo2
  have qo3_0 := blk_cell hxo3 0 rfl
  have qo3_1 := blk_cell hxo3 1 rfl
  have hlo3 := blk_lt hxo3
  have qo9_0 := blk_cell hxo9 0 rfl
  have hlo9 := blk_lt hxo9
  have qo11_0 := blk_cell hxo11 0 rfl
  have qo11_1 := blk_cell hxo11 1 rfl
  have hlo11 := blk_lt hxo11
  have qo13_0 := blk_cell hxo13 0 rfl
  have qo13_1 := blk_cell hxo13 1 rfl
  have hlo13 := blk_lt hxo13
  go_wp2_with fail
  refine (markTurn_any _ _ _ _ _ _ _ hoo12 (by omega)  (1) (by omega) (by omega)).mono ?_
  rintro e v18 ⟨rfl, hmo12, hCv18⟩
  clear qo1_0 qo2_0 qo2_1 qo3_0 qo3_1 qo9_0 qo11_0 qo11_1 qo13_0 qo13_1 hlo1 hlo2 hlo3 hlo9 hlo11 hlo13
  replace hoo6 := own_ch hoo6 hCv18 (fun k h1 h2 => (by have := hrgo6.out k h1; have := hrgo12.out k h2; omega))
  replace hoo8 := hoo8.ch hCv18 (fun k h1 h2 => (by have := hrgo8.out k h1; have := hrgo12.out k h2; omega))
  replace hoo10 := own_ch hoo10 hCv18 (fun k h1 h2 => (by have := hrgo10.out k h1; have := hrgo12.out k h2; omega))
  replace hoo14 := hoo14.ch hCv18 (fun k h1 h2 => (by have := hrgo14.out k h1; have := hrgo12.out k h2; omega))
  replace hoo15 := own_ch hoo15 hCv18 (fun k h1 h2 => (by have := hrgo15.out k h1; have := hrgo12.out k h2; omega))
  replace hxo1 := blk_ch hxo1 hCv18 (fun h => by have := hrgo12.out _ h; omega)
  replace hxo2 := blk_ch hxo2 hCv18 (fun h => by have := hrgo12.out _ h; omega)
  replace hxo3 := blk_ch hxo3 hCv18 (fun h => by have := hrgo12.out _ h; omega)
  replace hxo9 := blk_ch hxo9 hCv18 (fun h => by have := hrgo12.out _ h; omega)
  replace hxo11 := blk_ch hxo11 hCv18 (fun h => by have := hrgo12.out _ h; omega)
  replace hxo13 := blk_ch hxo13 hCv18 (fun h => by have := hrgo12.out _ h; omega)
  replace HB := below_ch HB hCv18 (fun k h => by have := hrgo12.out k h; omega) HB.size
  replace hoo12 := hmo12
  have hszv18 := hCv18.size
  have qo1_0 := blk_cell hxo1 0 rfl
  have hlo1 := blk_lt hxo1
  have qo2_0 := blk_cell hxo2 0 rfl
  have qo2_1 := blk_cell hxo2 1 rfl
  have hlo2 := blk_lt hxo2
  have qo3_0 := blk_cell hxo3 0 rfl
  have qo3_1 := blk_cell hxo3 1 rfl
  have hlo3 := blk_lt hxo3
  have qo9_0 := blk_cell hxo9 0 rfl
  have hlo9 := blk_lt hxo9
  have qo11_0 := blk_cell hxo11 0 rfl
  have qo11_1 := blk_cell hxo11 1 rfl
  have hlo11 := blk_lt hxo11
  have qo13_0 := blk_cell hxo13 0 rfl
  have qo13_1 := blk_cell hxo13 1 rfl
  have hlo13 := blk_lt hxo13
  go_wp2_with fail
  refine (heldTurn_any _ _ _ _ _ (1) (own_rd hoo12) (by omega) (by omega) (by omega)).mono ?_
  rintro e v19 ⟨rfl, hbv19⟩
  clear qo1_0 qo2_0 qo2_1 qo3_0 qo3_1 qo9_0 qo11_0 qo11_1 qo13_0 qo13_1 hlo1 hlo2 hlo3 hlo9 hlo11 hlo13
  (try replace hbv19 := und1 hbv19)
  (try replace hbv19 := undN hbv19)
  replace hoo6 := ownN_below hoo6 hbv19 (Nat.le_refl _)
  replace hoo8 := hoo8.below hbv19
  replace hoo10 := ownN_below hoo10 hbv19 (Nat.le_refl _)
  replace hoo12 := ownN_below hoo12 hbv19 (Nat.le_refl _)
  replace hoo14 := hoo14.below hbv19
  replace hoo15 := ownN_below hoo15 hbv19 (Nat.le_refl _)
  replace hxo1 := blk_bel hxo1 hbv19
  replace hxo2 := blk_bel hxo2 hbv19
  replace hxo3 := blk_bel hxo3 hbv19
  replace hxo9 := blk_bel hxo9 hbv19
  replace hxo11 := blk_bel hxo11 hbv19
  replace hxo13 := blk_bel hxo13 hbv19
  replace HB := HB.trans (hbv19.mono HB.size)
  have hszv19 := hbv19.size
  have qo1_0 := blk_cell hxo1 0 rfl
  have hlo1 := blk_lt hxo1
  have qo2_0 := blk_cell hxo2 0 rfl
  have qo2_1 := blk_cell hxo2 1 rfl
  have hlo2 := blk_lt hxo2
  have qo3_0 := blk_cell hxo3 0 rfl
  have qo3_1 := blk_cell hxo3 1 rfl
  have hlo3 := blk_lt hxo3
  have qo9_0 := blk_cell hxo9 0 rfl
  have hlo9 := blk_lt hxo9
  have qo11_0 := blk_cell hxo11 0 rfl
  have qo11_1 := blk_cell hxo11 1 rfl
  have hlo11 := blk_lt hxo11
  have qo13_0 := blk_cell hxo13 0 rfl
  have qo13_1 := blk_cell hxo13 1 rfl
  have hlo13 := blk_lt hxo13
  go_upto_region 31 with fail
  go_cut [15, 16] (fun s15 s16 wx => ∃ (go16 : Nat) (Ao19 : Option Addr) (no19 : Nat) (co19 : Nat), s15 = .pointer (some ⟨go16, 0, none⟩) ∧ s16 = .int .i64 r2 ∧ wx.heap[go16]? = some (.cells #[.int .i64 r0, .slice Ao19 no19 co19] 75 (0, 0)) ∧ v19.heap.size ≤ go16 ∧ wx.ownsRow v19.heap.size 2 1 (.slice Ao19 no19 co19) no19 (ints r1) ∧ (∀ k, Fo (.slice Ao19 no19 co19) k → v19.heap.size ≤ k ∧ k < wx.heap.size) ∧ (¬ Fo (.slice Ao19 no19 co19) go16) ∧ Below v19.heap.size v19 wx)
  case first =>
    have HC := Below.refl v19.heap.size v19
    go_region_held3 (fun w' => w'.cell? ⟨w.heap.size, 0, none⟩ = some (.slice A0_0 n0_0 c0_0) ∧ w'.cell? ⟨w.heap.size + 1, 0, none⟩ = some (.int .i64 x1_0) ∧ w'.cell? ⟨w.heap.size + 1, 1, none⟩ = some (.slice A1_1 n1_1 c1_1)) (first | exact ⟨qo1_0, qo2_0, qo2_1⟩ | (refine ⟨?_, ?_, ?_⟩ <;> (repeat (refine cell_far ?_ (by omega))) <;> assumption) | go_keep) (first
      | (go_at_call 46
         refine (toCyclic_any _ _ _ _ x0_0 (by have h := (hr0_0.below HB (Nat.le_refl _)); first | exact h | exact h.below (below_new _ _) (Nat.le_refl _) | exact h.below (below_drew1 (below_new _ _)) (Nat.le_refl _)) (by omega)).mono ?_
         rintro e v20 ⟨Ao17, no17, co17, Fo17, rfl, hoo17, hFo17, hbv20⟩
         have hno17 : no17 ≤ 1048576 := by have h1 := hoo17.len; have h2 := HXL0_0.out; omega
         have hrgo17 := Lib.hid hFo17; clear hFo17
         clear qo1_0 qo2_0 qo2_1 hlo1 hlo2
         (try replace hbv20 := und1 hbv20)
         (try replace hbv20 := undN hbv20)
         (try clear zo16_0 fo16_0 zo16_1 fo16_1)
         (try (have hq := box_step hbv20; clear hbv20; obtain ⟨hbv20, hxo16, hso16⟩ := hq))
         (try replace hxo16 := blk_bel hxo16 hbv20)
         (try have zo16_0 := blk_cell hxo16 0 rfl)
         (try have fo16_0 := blk_free hxo16 0)
         (try have zo16_1 := blk_cell hxo16 1 rfl)
         (try have fo16_1 := blk_free hxo16 1)
         (try have hlo16 := blk_lt hxo16)
         replace HC := HC.trans (hbv20.mono HC.size)
         replace hxo1 := blk_bel hxo1 hbv20
         replace hxo2 := blk_bel hxo2 hbv20
         replace HB := HB.trans (hbv20.mono HB.size)
         have hszv20 := hbv20.size
         have qo1_0 := blk_cell hxo1 0 rfl
         have hlo1 := blk_lt hxo1
         have qo2_0 := blk_cell hxo2 0 rfl
         have qo2_1 := blk_cell hxo2 1 rfl
         have hlo2 := blk_lt hxo2
         have hrgzo17 := hrgo17
         replace hrgo17 := Lib.hid (rg_lo hrgo17.out (lo := v19.heap.size + 0) (hi := v20.heap.size) (by first | exact Nat.le_refl _ | exact le_al1 | (simp; done) | (simp; omega)) (Nat.le_refl _))
         )
      | (go_at_call 47
         refine (toTurn_any _ x1_0 _ _ _ x1_1 (by have h := (hr1_1.below HB (Nat.le_refl _)); first | exact h | exact h.below (below_new _ _) (Nat.le_refl _) | exact h.below (below_drew1 (below_new _ _)) (Nat.le_refl _)) (by omega)).mono ?_
         rintro e v21 ⟨Ao18, no18, co18, rfl, hoo18, hbv21⟩
         have hno18 : no18 ≤ 1048576 := by have h1 := hoo18.1; simp only [List.length_map] at h1; have h2 := HXL1_1.out; omega
         have hrgo18 := Lib.hid (rg_row hoo18)
         clear qo1_0 qo2_0 qo2_1 hlo1 hlo2
         (try replace hbv21 := und1 hbv21)
         (try replace hbv21 := undN hbv21)
         (try clear zo16_0 fo16_0 zo16_1 fo16_1)
         (try (have hq := box_step hbv21; clear hbv21; obtain ⟨hbv21, hxo16, hso16⟩ := hq))
         (try replace hxo16 := blk_bel hxo16 hbv21)
         (try have zo16_0 := blk_cell hxo16 0 rfl)
         (try have fo16_0 := blk_free hxo16 0)
         (try have zo16_1 := blk_cell hxo16 1 rfl)
         (try have fo16_1 := blk_free hxo16 1)
         (try have hlo16 := blk_lt hxo16)
         replace HC := HC.trans (hbv21.mono HC.size)
         replace hoo17 := hoo17.below hbv21
         replace hxo1 := blk_bel hxo1 hbv21
         replace hxo2 := blk_bel hxo2 hbv21
         replace HB := HB.trans (hbv21.mono HB.size)
         have hszv21 := hbv21.size
         have qo1_0 := blk_cell hxo1 0 rfl
         have hlo1 := blk_lt hxo1
         have qo2_0 := blk_cell hxo2 0 rfl
         have qo2_1 := blk_cell hxo2 1 rfl
         have hlo2 := blk_lt hxo2
         have hrgzo18 := hrgo18
         replace hrgo18 := Lib.hid (rg_lo hrgo18.out (lo := v20.heap.size + 0) (hi := v21.heap.size) (by first | exact Nat.le_refl _ | exact le_al1 | (simp; done) | (simp; omega)) (Nat.le_refl _))
         )
      | (go_at_call 48
         refine (HI.out _ _ _ _ (by have h := hoo17.rdl; first | exact h | exact h.below (below_new _ _) (Nat.le_refl _) | exact h.below (below_drew1 (below_new _ _)) (Nat.le_refl _)) (by omega) hoo17.cap _ _ _ (by have h := (own_rd hoo18); first | exact h | exact h.below (below_new _ _) (Nat.le_refl _) | exact h.below (below_drew1 (below_new _ _)) (Nat.le_refl _)) (by omega) (ownN_cap hoo18)).mono ?_
         rintro e v22 ⟨Ao19, no19, co19, rfl, hoo19, hbv22⟩
         have hno19 : no19 ≤ 1000000 := by have h1 := hoo19.1; simp only [List.length_map] at h1; have h2 := HRLR1.out; omega
         have hrgo19 := Lib.hid (rg_row hoo19)
         clear qo1_0 qo2_0 qo2_1 hlo1 hlo2
         (try replace hbv22 := und1 hbv22)
         (try replace hbv22 := undN hbv22)
         (try clear zo16_0 fo16_0 zo16_1 fo16_1)
         (try (have hq := box_step hbv22; clear hbv22; obtain ⟨hbv22, hxo16, hso16⟩ := hq))
         (try replace hxo16 := blk_bel hxo16 hbv22)
         (try have zo16_0 := blk_cell hxo16 0 rfl)
         (try have fo16_0 := blk_free hxo16 0)
         (try have zo16_1 := blk_cell hxo16 1 rfl)
         (try have fo16_1 := blk_free hxo16 1)
         (try have hlo16 := blk_lt hxo16)
         replace HC := HC.trans (hbv22.mono HC.size)
         replace hoo17 := hoo17.below hbv22
         replace hoo18 := ownN_below hoo18 hbv22 (Nat.le_refl _)
         replace hxo1 := blk_bel hxo1 hbv22
         replace hxo2 := blk_bel hxo2 hbv22
         replace HB := HB.trans (hbv22.mono HB.size)
         have hszv22 := hbv22.size
         have qo1_0 := blk_cell hxo1 0 rfl
         have hlo1 := blk_lt hxo1
         have qo2_0 := blk_cell hxo2 0 rfl
         have qo2_1 := blk_cell hxo2 1 rfl
         have hlo2 := blk_lt hxo2
         have hrgzo19 := hrgo19
         replace hrgo19 := Lib.hid (rg_lo hrgo19.out (lo := v21.heap.size + 0) (hi := v22.heap.size) (by first | exact Nat.le_refl _ | exact le_al1 | (simp; done) | (simp; omega)) (Nat.le_refl _))
         )
      )
    all_goals
      go_wp2_with fail
      go_meet
      exact ⟨_, _, _, _, rfl, rfl, (by first | exact box_new _ _ _ | simpa using blk_set (blk_set (hxo16) 0 _) 1 _), (by first | omega | (simp; omega)), (by first | exact own_ch (ownN_base hoo19 (by first | omega | (simp; omega) | (show _ ≤ (World.alloc _ _).heap.size; simp; omega))) (ch_alloc (fun _ => False) _ _) (fun k h1 h2 => h2) | exact own_ch (ownN_base hoo19 (by first | omega | (simp; omega) | (show _ ≤ (World.alloc _ _).heap.size; simp; omega))) ((ch_set _ _ 0 _).trans (ch_set _ _ 1 _)) (fun k h1 h2 => by have h3 := hrgo19.out k h1; have h4 := (hrgzo19.out k h1).1; first | omega | (simp at h4; omega) | (change (World.alloc _ _).heap.size ≤ _ at h4; simp at h4; omega)) | exact own_ch (ownN_base hoo19 (by first | omega | (simp; omega) | (show _ ≤ (World.alloc _ _).heap.size; simp; omega))) (ch_drew (ch_alloc (fun _ => False) _ _)) (fun k h1 h2 => h2) | exact own_ch (ownN_base hoo19 (by first | omega | (simp; omega) | (show _ ≤ (World.alloc _ _).heap.size; simp; omega))) (ch_drew ((ch_set _ _ 0 _).trans (ch_set _ _ 1 _))) (fun k h1 h2 => by have h3 := hrgo19.out k h1; have h4 := (hrgzo19.out k h1).1; first | omega | (simp at h4; omega) | (change (World.alloc _ _).heap.size ≤ _ at h4; simp at h4; omega))), (fun k hk => by have h1 := hrgo19.out k hk; first | omega | (refine ⟨by omega, ?_⟩; simp; omega) | (refine ⟨by omega, ?_⟩; show k < _; simp only [World.size_setCell, World.size_alloc]; omega) | (trace_state; fail)), (fun hk => by have h1 := hrgo19.out _ hk; have h2 := (hrgzo19.out _ hk).1; first | omega | (simp at h2; omega) | (change (World.alloc _ _).heap.size ≤ _ at h2; simp at h2; omega)), (by first | exact HC.alloc HC.size _ | (refine ((HC).setCell ?_ _).setCell ?_ _ <;> (first | omega | (dsimp only; omega) | (simp; omega))) | exact below_drew1 (HC.alloc HC.size _) | (refine below_drew1 (((HC).setCell ?_ _).setCell ?_ _) <;> (first | omega | (dsimp only; omega) | (simp; omega))))⟩
  case rest =>
  obtain ⟨go16, Ao19, no19, co19, rfl, rfl, hxo16, hgo16, hoo19, hFo19, hnfo19o16, hbcut⟩ := hcut
  have hupo16 := blk_lt hxo16
  obtain ⟨v23, rfl⟩ : ∃ v, v = wc := ⟨_, rfl⟩
  have hrgo19 := Lib.hid hFo19; clear hFo19
  have hno19 : no19 ≤ 1000000 := by have h1 := hoo19.1; simp only [List.length_map] at h1; have h2 := HRLR1.out; omega
  clear qo1_0 qo2_0 qo2_1 qo3_0 qo3_1 qo9_0 qo11_0 qo11_1 qo13_0 qo13_1 hlo1 hlo2 hlo3 hlo9 hlo11 hlo13
  (try replace hbcut := und1 hbcut)
  (try replace hbcut := undN hbcut)
  replace hoo6 := ownN_below hoo6 hbcut (Nat.le_refl _)
  replace hoo8 := hoo8.below hbcut
  replace hoo10 := ownN_below hoo10 hbcut (Nat.le_refl _)
  replace hoo12 := ownN_below hoo12 hbcut (Nat.le_refl _)
  replace hoo14 := hoo14.below hbcut
  replace hoo15 := ownN_below hoo15 hbcut (Nat.le_refl _)
  replace hxo1 := blk_bel hxo1 hbcut
  replace hxo2 := blk_bel hxo2 hbcut
  replace hxo3 := blk_bel hxo3 hbcut
  replace hxo9 := blk_bel hxo9 hbcut
  replace hxo11 := blk_bel hxo11 hbcut
  replace hxo13 := blk_bel hxo13 hbcut
  replace HB := HB.trans (hbcut.mono HB.size)
  have hszv23 := hbcut.size
  have qo1_0 := blk_cell hxo1 0 rfl
  have hlo1 := blk_lt hxo1
  have qo2_0 := blk_cell hxo2 0 rfl
  have qo2_1 := blk_cell hxo2 1 rfl
  have hlo2 := blk_lt hxo2
  have qo3_0 := blk_cell hxo3 0 rfl
  have qo3_1 := blk_cell hxo3 1 rfl
  have hlo3 := blk_lt hxo3
  have qo9_0 := blk_cell hxo9 0 rfl
  have hlo9 := blk_lt hxo9
  have qo11_0 := blk_cell hxo11 0 rfl
  have qo11_1 := blk_cell hxo11 1 rfl
  have hlo11 := blk_lt hxo11
  have qo13_0 := blk_cell hxo13 0 rfl
  have qo13_1 := blk_cell hxo13 1 rfl
  have hlo13 := blk_lt hxo13
  clear qo1_0 qo2_0 qo2_1 qo3_0 qo3_1 qo9_0 qo11_0 qo11_1 qo13_0 qo13_1 hlo1 hlo2 hlo3 hlo9 hlo11 hlo13
  have qo1_0 := blk_cell hxo1 0 rfl
  have hlo1 := blk_lt hxo1
  have qo2_0 := blk_cell hxo2 0 rfl
  have qo2_1 := blk_cell hxo2 1 rfl
  have hlo2 := blk_lt hxo2
  have qo3_0 := blk_cell hxo3 0 rfl
  have qo3_1 := blk_cell hxo3 1 rfl
  have hlo3 := blk_lt hxo3
  have qo9_0 := blk_cell hxo9 0 rfl
  have hlo9 := blk_lt hxo9
  have qo11_0 := blk_cell hxo11 0 rfl
  have qo11_1 := blk_cell hxo11 1 rfl
  have hlo11 := blk_lt hxo11
  have qo13_0 := blk_cell hxo13 0 rfl
  have qo13_1 := blk_cell hxo13 1 rfl
  have hlo13 := blk_lt hxo13
  have qo16_0 := blk_cell hxo16 0 rfl
  have qo16_1 := blk_cell hxo16 1 rfl
  have hlo16 := blk_lt hxo16
  go_wp2_with fail
  refine (eqTurn_same _ _ _ _ _ r1 (own_rd hoo19) (by omega) _ _ _ (own_rd hoo6)).mono ?_
  rintro e v24 ⟨rfl, hbv24⟩
  clear qo1_0 qo2_0 qo2_1 qo3_0 qo3_1 qo9_0 qo11_0 qo11_1 qo13_0 qo13_1 qo16_0 qo16_1 hlo1 hlo2 hlo3 hlo9 hlo11 hlo13 hlo16
  (try replace hbv24 := und1 hbv24)
  (try replace hbv24 := undN hbv24)
  replace hoo6 := ownN_below hoo6 hbv24 (Nat.le_refl _)
  replace hoo8 := hoo8.below hbv24
  replace hoo10 := ownN_below hoo10 hbv24 (Nat.le_refl _)
  replace hoo12 := ownN_below hoo12 hbv24 (Nat.le_refl _)
  replace hoo14 := hoo14.below hbv24
  replace hoo15 := ownN_below hoo15 hbv24 (Nat.le_refl _)
  replace hoo19 := ownN_below hoo19 hbv24 (Nat.le_refl _)
  replace hxo1 := blk_bel hxo1 hbv24
  replace hxo2 := blk_bel hxo2 hbv24
  replace hxo3 := blk_bel hxo3 hbv24
  replace hxo9 := blk_bel hxo9 hbv24
  replace hxo11 := blk_bel hxo11 hbv24
  replace hxo13 := blk_bel hxo13 hbv24
  replace hxo16 := blk_bel hxo16 hbv24
  replace HB := HB.trans (hbv24.mono HB.size)
  have hszv24 := hbv24.size
  have qo1_0 := blk_cell hxo1 0 rfl
  have hlo1 := blk_lt hxo1
  have qo2_0 := blk_cell hxo2 0 rfl
  have qo2_1 := blk_cell hxo2 1 rfl
  have hlo2 := blk_lt hxo2
  have qo3_0 := blk_cell hxo3 0 rfl
  have qo3_1 := blk_cell hxo3 1 rfl
  have hlo3 := blk_lt hxo3
  have qo9_0 := blk_cell hxo9 0 rfl
  have hlo9 := blk_lt hxo9
  have qo11_0 := blk_cell hxo11 0 rfl
  have qo11_1 := blk_cell hxo11 1 rfl
  have hlo11 := blk_lt hxo11
  have qo13_0 := blk_cell hxo13 0 rfl
  have qo13_1 := blk_cell hxo13 1 rfl
  have hlo13 := blk_lt hxo13
  have qo16_0 := blk_cell hxo16 0 rfl
  have qo16_1 := blk_cell hxo16 1 rfl
  have hlo16 := blk_lt hxo16
  go_wp2_with fail
  refine (heldTurn_any _ _ _ _ _ (1) (own_rd hoo12) (by omega) (by omega) (by omega)).mono ?_
  rintro e v25 ⟨rfl, hbv25⟩
  clear qo1_0 qo2_0 qo2_1 qo3_0 qo3_1 qo9_0 qo11_0 qo11_1 qo13_0 qo13_1 qo16_0 qo16_1 hlo1 hlo2 hlo3 hlo9 hlo11 hlo13 hlo16
  (try replace hbv25 := und1 hbv25)
  (try replace hbv25 := undN hbv25)
  replace hoo6 := ownN_below hoo6 hbv25 (Nat.le_refl _)
  replace hoo8 := hoo8.below hbv25
  replace hoo10 := ownN_below hoo10 hbv25 (Nat.le_refl _)
  replace hoo12 := ownN_below hoo12 hbv25 (Nat.le_refl _)
  replace hoo14 := hoo14.below hbv25
  replace hoo15 := ownN_below hoo15 hbv25 (Nat.le_refl _)
  replace hoo19 := ownN_below hoo19 hbv25 (Nat.le_refl _)
  replace hxo1 := blk_bel hxo1 hbv25
  replace hxo2 := blk_bel hxo2 hbv25
  replace hxo3 := blk_bel hxo3 hbv25
  replace hxo9 := blk_bel hxo9 hbv25
  replace hxo11 := blk_bel hxo11 hbv25
  replace hxo13 := blk_bel hxo13 hbv25
  replace hxo16 := blk_bel hxo16 hbv25
  replace HB := HB.trans (hbv25.mono HB.size)
  have hszv25 := hbv25.size
  have qo1_0 := blk_cell hxo1 0 rfl
  have hlo1 := blk_lt hxo1
  have qo2_0 := blk_cell hxo2 0 rfl
  have qo2_1 := blk_cell hxo2 1 rfl
  have hlo2 := blk_lt hxo2
  have qo3_0 := blk_cell hxo3 0 rfl
  have qo3_1 := blk_cell hxo3 1 rfl
  have hlo3 := blk_lt hxo3
  have qo9_0 := blk_cell hxo9 0 rfl
  have hlo9 := blk_lt hxo9
  have qo11_0 := blk_cell hxo11 0 rfl
  have qo11_1 := blk_cell hxo11 1 rfl
  have hlo11 := blk_lt hxo11
  have qo13_0 := blk_cell hxo13 0 rfl
  have qo13_1 := blk_cell hxo13 1 rfl
  have hlo13 := blk_lt hxo13
  have qo16_0 := blk_cell hxo16 0 rfl
  have qo16_1 := blk_cell hxo16 1 rfl
  have hlo16 := blk_lt hxo16
  go_wp2_with fail
  go_ret
  first | exact ⟨rfl, HB⟩ | exact ⟨rfl, below_drewN HB⟩
end Go.Proofs.Ytbecofpklndpaaa
