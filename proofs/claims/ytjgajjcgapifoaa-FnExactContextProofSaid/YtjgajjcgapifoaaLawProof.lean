/- The contracts of the laws' own helpers on Proof. Written by mk_struct.py. -/
import Derived.Test.YtjgajjcgapifoaaFoot
import Derived.Test.YtjgajjcgapifoaaLawP
namespace Go.Proofs.Ytjgajjcgapifoaa
open Go.RowKit
set_option linter.unusedVariables false
set_option linter.unusedSimpArgs false
set_option maxHeartbeats 1600000 in
theorem toProof_any (w : World) (x0 : Int) (A1 : Option Addr) (n1 c1 : Nat) (d1 : List Int) (hr1 : Rd w A1 n1 (ints d1)) (hn1 : n1 ≤ 1099511627776) (A2 : Option Addr) (n2 c2 : Nat) (d2 : List (List Int)) (hr2 : RdL w A2 n2 d2) (hn2 : n2 ≤ 1000000000) : Calls Try.prog 30 #[.agg #[.int .i64 x0, .slice A1 n1 c1, .slice A2 n2 c2]] w (fun e w' => ∃ (A1' : Option Addr) (n1' c1' : Nat) (A2' : Option Addr) (n2' c2' : Nat) (F2 : Nat → Prop), e = .returned (.agg #[.int .i64 x0, .slice A1' n1' c1', .slice A2' n2' c2']) ∧ w'.ownsRow w.heap.size 2 1 (.slice A1' n1' c1') n1' (ints d1) ∧ OwnP w' F2 A2' n2' c2' d2 ∧ (∀ k, F2 k → w.heap.size ≤ k ∧ k < w'.heap.size) ∧ (∀ k, Fo (.slice A1' n1' c1') k → F2 k → False) ∧ Below w.heap.size w w') := by
  go_enter Try.func30, Try.ntmps30
  go_wp2_with fail
  refine (toInt64S_any _ _ _ _ d1 (hr1.below ((((Below.refl _ _).alloc (Nat.le_refl _) _).alloc (by simp) _).alloc (by simp; omega) _) (Nat.le_refl _)) hn1).mono ?_
  rintro e w1 ⟨A1', n1', c1', rfl, ho1, hb0⟩
  have hR1 := Lib.hid (rg_row ho1)
  obtain ⟨hb0a, hx2, hs2⟩ := box_step hb0
  obtain ⟨hb0b, hx1, hs1⟩ := box_step hb0a
  obtain ⟨HB, hx0, hs0⟩ := box_step hb0b
  simp only [World.size_alloc] at hx0 hx1 hx2 hs0 hs1 hs2
  replace hR1 := Lib.hid (rg_lo hR1.out (lo := w.heap.size + 3) (hi := w1.heap.size) (by first | (simp; done) | (simp; omega)) (Nat.le_refl _))
  have p0 := blk_cell hx0 0 rfl; have q0 := blk_cell hx2 0 rfl; have f0 := blk_free hx2 0; have r0 := blk_cell hx1 0 rfl; have g0 := blk_free hx1 0
  have p1 := blk_cell hx0 1 rfl; have q1 := blk_cell hx2 1 rfl; have f1 := blk_free hx2 1; have r1 := blk_cell hx1 1 rfl; have g1 := blk_free hx1 1
  have p2 := blk_cell hx0 2 rfl; have q2 := blk_cell hx2 2 rfl; have f2 := blk_free hx2 2; have r2 := blk_cell hx1 2 rfl; have g2 := blk_free hx1 2
  have l0 := blk_lt hx0; have l1 := blk_lt hx1; have l2 := blk_lt hx2
  have HS1 := HB.setCell (p := ⟨w.heap.size + 2, 1, none⟩) (by first | (simp; done) | (simp; omega)) (.slice A1' n1' c1')
  have HX2 := Lib.hid (blk_set hx2 1 (.slice A1' n1' c1'))
  have HX1 := Lib.hid (blk_ch hx1 (ch_set _ (w.heap.size + 2) 1 (.slice A1' n1' c1')) (by omega))
  have HX0 := Lib.hid (blk_ch hx0 (ch_set _ (w.heap.size + 2) 1 (.slice A1' n1' c1')) (by omega))
  have HO1 := Lib.hid (own_ch ho1 (ch_set _ (w.heap.size + 2) 1 (.slice A1' n1' c1')) (fun k h1 h2 => by have := hR1.out k h1; omega))
  simp at HX2
  clear hx0 hx1 hx2 HB ho1
  go_wp2_with fail
  refine (toInt64SS_any _ _ _ _ d2 (hr2.below HS1 (Nat.le_refl _)) hn2).mono ?_
  rintro e w2 ⟨A2', n2', c2', F2, rfl, ho2, hF2, hb1⟩
  have hR2 := Lib.hid hF2
  have hx2 := blk_bel HX2.out hb1; have hx1 := blk_bel HX1.out hb1; have hx0 := blk_bel HX0.out hb1
  have HB := HS1.trans (hb1.mono (by have := HS1.size; omega))
  replace hR2 := Lib.hid (rg_lo hR2.out (lo := w1.heap.size) (hi := w2.heap.size) (by first | (simp; done) | (simp; omega)) (Nat.le_refl _))
  have ho1 := ownN_below HO1.out hb1 (Nat.le_refl _)
  have hzz1 := hb1.size; simp only [World.size_setCell] at hzz1
  have p0 := blk_cell hx0 0 rfl; have q0 := blk_cell hx2 0 rfl; have f0 := blk_free hx2 0; have r0 := blk_cell hx1 0 rfl; have g0 := blk_free hx1 0
  have p1 := blk_cell hx0 1 rfl; have q1 := blk_cell hx2 1 rfl; have f1 := blk_free hx2 1; have r1 := blk_cell hx1 1 rfl; have g1 := blk_free hx1 1
  have p2 := blk_cell hx0 2 rfl; have q2 := blk_cell hx2 2 rfl; have f2 := blk_free hx2 2; have r2 := blk_cell hx1 2 rfl; have g2 := blk_free hx1 2
  have l0 := blk_lt hx0; have l1 := blk_lt hx1; have l2 := blk_lt hx2
  have HBF := Lib.hid HB
  clear HB
  go_wp2_with fail
  refine bodyPost_ret (v := .agg #[.int .i64 x0, .slice A1' n1' c1', .slice A2' n2' c2']) (by simp [results, Try.results30, go_sem, q0, r0, q1, r1, q2, r2]) rfl ?_
  refine ⟨A1', n1', c1', A2', n2', c2', F2, rfl, own_ch (F := fun k => w.heap.size ≤ k ∧ k < w.heap.size + 3) (ownN_base ho1 (by first | (simp; done) | (simp; omega))) ?_ (fun k h1 h2 => by have := hR1.out k h1; omega), OwnP.ch (G := fun k => w.heap.size ≤ k ∧ k < w.heap.size + 3) ho2 ?_ (fun k h1 h2 => by have := hR2.out k h1; omega), (fun k h => by have := hR2.out k h; simp only [World.size_setCell]; omega), (fun k h1 h2 => by have := hR1.out k h1; have := hR2.out k h2; omega), below_ch (F := fun k => w.heap.size ≤ k ∧ k < w.heap.size + 3) HBF.out ?_ (fun k h => h.1) HBF.out.size⟩
  all_goals
    repeat (refine ch_setF ?_ (by omega))
    exact Ch.refl _ _
set_option maxHeartbeats 1600000 in
theorem eqProof_same (w : World) (x0 : Int) (A1 : Option Addr) (n1 c1 : Nat) (d1 : List Int) (hr1 : Rd w A1 n1 (ints d1)) (hn1 : n1 ≤ 1099511627776) (A1' : Option Addr) (n1' c1' : Nat) (hr1' : Rd w A1' n1' (ints d1)) (A2 : Option Addr) (n2 c2 : Nat) (d2 : List (List Int)) (hr2 : RdL w A2 n2 d2) (hn2 : n2 ≤ 1000000000) (A2' : Option Addr) (n2' c2' : Nat) (hr2' : RdL w A2' n2' d2) : Calls Try.prog 32 #[.agg #[.int .i64 x0, .slice A1 n1 c1, .slice A2 n2 c2], .agg #[.int .i64 x0, .slice A1' n1' c1', .slice A2' n2' c2']] w (RetV w (.bool true)) := by
  have hne0 : (x0 != x0) = false := by simp
  go_enter Try.func32, Try.ntmps32
  go_wp2_with fail
  refine (eqInt64S_same _ _ _ _ d1 (hr1.below (((Below.refl _ _).alloc (Nat.le_refl _) _).alloc (by simp) _) (Nat.le_refl _)) hn1 _ _ _ (hr1'.below (((Below.refl _ _).alloc (Nat.le_refl _) _).alloc (by simp) _) (Nat.le_refl _))).mono ?_
  rintro e w1 ⟨rfl, hb0⟩
  obtain ⟨hb0a, hx1, hs1⟩ := box_step hb0
  obtain ⟨HB, hx0, hs0⟩ := box_step hb0a
  simp only [World.size_alloc] at hx0 hx1 hs0 hs1
  have p0 := blk_cell hx0 0 rfl; have q0 := blk_cell hx1 0 rfl
  have p1 := blk_cell hx0 1 rfl; have q1 := blk_cell hx1 1 rfl
  have p2 := blk_cell hx0 2 rfl; have q2 := blk_cell hx1 2 rfl
  go_wp2_with fail
  refine (eqInt64SS_same _ _ _ _ d2 (hr2.below HB (Nat.le_refl _)) hn2 _ _ _ (hr2'.below HB (Nat.le_refl _))).mono ?_
  rintro e w2 ⟨rfl, hb1⟩
  replace hx1 := blk_bel hx1 hb1; replace hx0 := blk_bel hx0 hb1; replace HB := HB.trans (hb1.mono HB.size)
  clear p0 q0 p1 q1 p2 q2
  have p0 := blk_cell hx0 0 rfl; have q0 := blk_cell hx1 0 rfl
  have p1 := blk_cell hx0 1 rfl; have q1 := blk_cell hx1 1 rfl
  have p2 := blk_cell hx0 2 rfl; have q2 := blk_cell hx1 2 rfl
  go_wp2_with fail
  go_ret
  exact ⟨rfl, HB⟩
set_option maxHeartbeats 1600000 in
theorem szProof_post (w : World) (x0 : Int) (A1 : Option Addr) (n1 c1 : Nat) (hn1 : n1 ≤ 9223372036854775807) (A2 : Option Addr) (n2 c2 : Nat) (d2 : List (List Int)) (hr2 : RdW w A2 n2 d2) (hn2 : n2 ≤ 9223372036854775807) (k : Int) (hk0 : 0 ≤ k) (hk1 : k ≤ 1048576) : Calls Try.prog 28 #[.agg #[.int .i64 x0, .slice A1 n1 c1, .slice A2 n2 c2], .int .i64 k] w (SzPost w k ((n1 : Int) + ((n2 : Int) + tot d2))) := by
  go_enter Try.func28, Try.ntmps28
  go_wp2_with fail
  refine (szInt64S_post _ _ _ _ hn1 _ (by omega) (by omega)).mono ?_
  rintro e w1 ⟨r0, rfl, hq0, hp0, hb0⟩
  obtain ⟨HB, hx0, hs0⟩ := box_step hb0
  have p0 := blk_cell hx0 0 rfl
  have p1 := blk_cell hx0 1 rfl
  have p2 := blk_cell hx0 2 rfl
  by_cases hz0 : r0 < 0
  · clear hq0
    go_wp2_with fail
    go_ret
    exact ⟨-1, rfl, fun h => by omega, by omega, HB⟩
  have HQ0 := Lib.hid (hq0 (by omega)); clear hq0
  go_wp2_with fail
  refine (szInt64SS_post _ _ _ _ d2 (hr2.below HB (Nat.le_refl _)) hn2 _ (by omega) (by omega)).mono ?_
  rintro e w2 ⟨r1, rfl, hq1, hp1, hb1⟩
  replace hx0 := blk_bel hx0 hb1; replace HB := HB.trans (hb1.mono HB.size)
  clear p0 p1 p2
  have p0 := blk_cell hx0 0 rfl
  have p1 := blk_cell hx0 1 rfl
  have p2 := blk_cell hx0 2 rfl
  by_cases hz1 : r1 < 0
  · clear hq1
    go_wp2_with fail
    go_ret
    exact ⟨-1, rfl, fun h => by omega, by omega, HB⟩
  have HQ1 := Lib.hid (hq1 (by omega)); clear hq1
  go_wp2_with fail
  go_ret
  exact ⟨r1, rfl, fun _ => by have h0 := HQ0.out; have h1 := HQ1.out; omega, by omega, HB⟩
set_option maxHeartbeats 1600000 in
theorem markProof_any (w : World) (x0 : Int) (b1 : Nat) (A1 : Option Addr) (n1 c1 : Nat) (d1 : List Int) (ho1 : w.ownsRow b1 2 1 (.slice A1 n1 c1) n1 (ints d1)) (hn1 : n1 ≤ 400000000) (F2 : Nat → Prop) (A2 : Option Addr) (n2 c2 : Nat) (d2 : List (List Int)) (ho2 : OwnP w F2 A2 n2 c2 d2) (hn2 : n2 ≤ 1000000000) (ht2 : tot d2 ≤ 1000000000) (hd12 : ∀ k, Fo (.slice A1 n1 c1) k → F2 k → False) (k : Int) (hk0 : 0 ≤ k) (hk1 : k ≤ 400000000) : Calls Try.prog 39 #[.agg #[.int .i64 x0, .slice A1 n1 c1, .slice A2 n2 c2], .int .i64 k] w fun e w' => e = .returned (.int .i64 (k + (n1 : Int) + (tot d2 : Int))) ∧ w'.ownsRow b1 2 1 (.slice A1 n1 c1) n1 (ints (up (k) n1)) ∧ OwnP w' F2 A2 n2 c2 (ups (k + (n1 : Int)) d2) ∧ Ch (fun k => Fo (.slice A1 n1 c1) k ∨ F2 k) w w' := by
  go_enter Try.func39, Try.ntmps39
  go_wp2_with fail
  refine (markInt64S_any _ _ _ _ _ _ (ho1.alloc _) (by omega) (k) (by omega) (by omega)).mono ?_
  rintro e w1 ⟨rfl, hm1, hC0⟩
  replace hC0 := ch_row hC0
  have hx0 := blk_ch (box_new w _ _) hC0 (fun h => by have := (ho1.lt _ h).2; omega)
  have p0 := blk_cell hx0 0 rfl
  have p1 := blk_cell hx0 1 rfl
  have p2 := blk_cell hx0 2 rfl
  replace ho2 := (ho2.below (below_new _ _)).ch hC0 (fun k h1 h2 => hd12 k h2 h1)
  have HC := Lib.hid (((ch_alloc (fun k => Fo (.slice A1 n1 c1) k ∨ F2 k) w _)).trans (hC0.mono (fun k h => .inl h)))
  go_wp2_with fail
  refine (markInt64SS_any _ _ _ _ _ _ ho2 (by omega) (by omega) (k + (n1 : Int)) (by omega) (by omega)).mono ?_
  rintro e w2 ⟨rfl, hm2, hC1⟩
  replace hm1 := own_ch hm1 hC1 (fun k h1 h2 => hd12 k h1 h2)
  replace HC := Lib.hid (HC.out.trans (hC1.mono (fun k h => .inr h)))
  go_wp2_with fail
  go_ret
  exact ⟨rfl, hm1, hm2, HC.out⟩
set_option maxHeartbeats 1600000 in
theorem heldProof_any (w : World) (x0 : Int) (A1 : Option Addr) (n1 c1 : Nat) (A2 : Option Addr) (n2 c2 : Nat) (d2 : List (List Int)) (k : Int) (hr1 : Rd w A1 n1 (ints (up (k) n1))) (hn1 : n1 ≤ 400000000) (hr2 : RdL w A2 n2 (ups (k + (n1 : Int)) d2)) (hn2 : n2 ≤ 1000000000) (ht2 : tot d2 ≤ 1000000000) (hk0 : 0 ≤ k) (hk1 : k ≤ 400000000) : Calls Try.prog 40 #[.agg #[.int .i64 x0, .slice A1 n1 c1, .slice A2 n2 c2], .int .i64 k] w (RetV w (.int .i64 (k + (n1 : Int) + (tot d2 : Int)))) := by
  go_enter Try.func40, Try.ntmps40
  go_wp2_with fail
  refine (heldInt64S_any _ _ _ _ (k) (hr1.below (below_new _ _) (Nat.le_refl _)) (by omega) (by omega) (by omega)).mono ?_
  rintro e w1 ⟨rfl, hb0⟩
  obtain ⟨HB, hx0, hs0⟩ := box_step hb0
  have p0 := blk_cell hx0 0 rfl
  have p1 := blk_cell hx0 1 rfl
  have p2 := blk_cell hx0 2 rfl
  go_wp2_with fail
  refine (heldInt64SS_any _ _ _ _ d2 (k + (n1 : Int)) (hr2.below HB (Nat.le_refl _)) (by omega) (by omega) (by omega) (by omega)).mono ?_
  rintro e w2 ⟨rfl, hb1⟩
  replace hx0 := blk_bel hx0 hb1; replace HB := HB.trans (hb1.mono HB.size)
  clear p0 p1 p2
  have p0 := blk_cell hx0 0 rfl
  have p1 := blk_cell hx0 1 rfl
  have p2 := blk_cell hx0 2 rfl
  go_wp2_with fail
  go_ret
  exact ⟨rfl, HB⟩
end Go.Proofs.Ytjgajjcgapifoaa
