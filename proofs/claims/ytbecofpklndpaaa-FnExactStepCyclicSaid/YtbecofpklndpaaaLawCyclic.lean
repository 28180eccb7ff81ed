/- The contracts of the laws' own helpers on Cyclic. Written by mk_struct.py. -/
import Derived.Test.YtbecofpklndpaaaFoot
import Derived.Test.YtbecofpklndpaaaLawP
namespace Go.Proofs.Ytbecofpklndpaaa
open Go.RowKit
set_option linter.unusedVariables false
set_option linter.unusedSimpArgs false
set_option maxHeartbeats 1600000 in
theorem toCyclic_any (w : World) (A0 : Option Addr) (n0 c0 : Nat) (d0 : List (List Int)) (hr0 : RdL w A0 n0 d0) (hn0 : n0 ≤ 1000000000) : Calls Try.prog 46 #[.agg #[.slice A0 n0 c0]] w (fun e w' => ∃ (A0' : Option Addr) (n0' c0' : Nat) (F0 : Nat → Prop), e = .returned (.agg #[.slice A0' n0' c0']) ∧ OwnP w' F0 A0' n0' c0' d0 ∧ (∀ k, F0 k → w.heap.size ≤ k ∧ k < w'.heap.size) ∧ Below w.heap.size w w') := by
  go_enter Try.func46, Try.ntmps46
  go_wp2_with fail
  refine (toInt64SS_any _ _ _ _ d0 (hr0.below ((((Below.refl _ _).alloc (Nat.le_refl _) _).alloc (by simp) _).alloc (by simp; omega) _) (Nat.le_refl _)) hn0).mono ?_
  rintro e w1 ⟨A0', n0', c0', F0, rfl, ho0, hF0, hb0⟩
  have hR0 := Lib.hid hF0
  obtain ⟨hb0a, hx2, hs2⟩ := box_step hb0
  obtain ⟨hb0b, hx1, hs1⟩ := box_step hb0a
  obtain ⟨HB, hx0, hs0⟩ := box_step hb0b
  simp only [World.size_alloc] at hx0 hx1 hx2 hs0 hs1 hs2
  replace hR0 := Lib.hid (rg_lo hR0.out (lo := w.heap.size + 3) (hi := w1.heap.size) (by first | (simp; done) | (simp; omega)) (Nat.le_refl _))
  have p0 := blk_cell hx0 0 rfl; have q0 := blk_cell hx2 0 rfl; have f0 := blk_free hx2 0; have r0 := blk_cell hx1 0 rfl; have g0 := blk_free hx1 0
  have l0 := blk_lt hx0; have l1 := blk_lt hx1; have l2 := blk_lt hx2
  have HBF := Lib.hid HB
  clear HB
  go_wp2_with fail
  refine bodyPost_ret (v := .agg #[.slice A0' n0' c0']) (by simp [results, Try.results46, go_sem, q0, r0]) rfl ?_
  refine ⟨A0', n0', c0', F0, rfl, OwnP.ch (G := fun k => w.heap.size ≤ k ∧ k < w.heap.size + 3) ho0 ?_ (fun k h1 h2 => by have := hR0.out k h1; omega), (fun k h => by have := hR0.out k h; simp only [World.size_setCell]; omega), below_ch (F := fun k => w.heap.size ≤ k ∧ k < w.heap.size + 3) HBF.out ?_ (fun k h => h.1) HBF.out.size⟩
  all_goals
    repeat (refine ch_setF ?_ (by omega))
    exact Ch.refl _ _
set_option maxHeartbeats 1600000 in
theorem eqCyclic_same (w : World) (A0 : Option Addr) (n0 c0 : Nat) (d0 : List (List Int)) (hr0 : RdL w A0 n0 d0) (hn0 : n0 ≤ 1000000000) (A0' : Option Addr) (n0' c0' : Nat) (hr0' : RdL w A0' n0' d0) : Calls Try.prog 50 #[.agg #[.slice A0 n0 c0], .agg #[.slice A0' n0' c0']] w (RetV w (.bool true)) := by
  go_enter Try.func50, Try.ntmps50
  go_wp2_with fail
  refine (eqInt64SS_same _ _ _ _ d0 (hr0.below (((Below.refl _ _).alloc (Nat.le_refl _) _).alloc (by simp) _) (Nat.le_refl _)) hn0 _ _ _ (hr0'.below (((Below.refl _ _).alloc (Nat.le_refl _) _).alloc (by simp) _) (Nat.le_refl _))).mono ?_
  rintro e w1 ⟨rfl, hb0⟩
  obtain ⟨hb0a, hx1, hs1⟩ := box_step hb0
  obtain ⟨HB, hx0, hs0⟩ := box_step hb0a
  simp only [World.size_alloc] at hx0 hx1 hs0 hs1
  have p0 := blk_cell hx0 0 rfl; have q0 := blk_cell hx1 0 rfl
  go_wp2_with fail
  go_ret
  exact ⟨rfl, HB⟩
set_option maxHeartbeats 1600000 in
theorem szCyclic_post (w : World) (A0 : Option Addr) (n0 c0 : Nat) (d0 : List (List Int)) (hr0 : RdW w A0 n0 d0) (hn0 : n0 ≤ 9223372036854775807) (k : Int) (hk0 : 0 ≤ k) (hk1 : k ≤ 1048576) : Calls Try.prog 43 #[.agg #[.slice A0 n0 c0], .int .i64 k] w (SzPost w k (((n0 : Int) + tot d0))) := by
  go_enter Try.func43, Try.ntmps43
  go_wp2_with fail
  refine (szInt64SS_post _ _ _ _ d0 (hr0.below (below_new _ _) (Nat.le_refl _)) hn0 _ (by omega) (by omega)).mono ?_
  rintro e w1 ⟨r0, rfl, hq0, hp0, hb0⟩
  obtain ⟨HB, hx0, hs0⟩ := box_step hb0
  have p0 := blk_cell hx0 0 rfl
  by_cases hz0 : r0 < 0
  · clear hq0
    go_wp2_with fail
    go_ret
    exact ⟨-1, rfl, fun h => by omega, by omega, HB⟩
  have HQ0 := Lib.hid (hq0 (by omega)); clear hq0
  go_wp2_with fail
  go_ret
  exact ⟨r0, rfl, fun _ => by have h0 := HQ0.out; omega, by omega, HB⟩
set_option maxHeartbeats 1600000 in
theorem markCyclic_any (w : World) (F0 : Nat → Prop) (A0 : Option Addr) (n0 c0 : Nat) (d0 : List (List Int)) (ho0 : OwnP w F0 A0 n0 c0 d0) (hn0 : n0 ≤ 1000000000) (ht0 : tot d0 ≤ 1000000000) (k : Int) (hk0 : 0 ≤ k) (hk1 : k ≤ 1000000000) : Calls Try.prog 51 #[.agg #[.slice A0 n0 c0], .int .i64 k] w fun e w' => e = .returned (.int .i64 (k + (tot d0 : Int))) ∧ OwnP w' F0 A0 n0 c0 (ups (k) d0) ∧ Ch (F0) w w' := by
  go_enter Try.func51, Try.ntmps51
  go_wp2_with fail
  refine (markInt64SS_any _ _ _ _ _ _ (ho0.below (below_new _ _)) (by omega) (by omega) (k) (by omega) (by omega)).mono ?_
  rintro e w1 ⟨rfl, hm0, hC0⟩
  have hx0 := blk_ch (box_new w _ _) hC0 (fun h => by have := ho0.lt _ h; omega)
  have p0 := blk_cell hx0 0 rfl
  have HC := Lib.hid (((ch_alloc (F0) w _)).trans (hC0.mono (fun k h => h)))
  go_wp2_with fail
  go_ret
  exact ⟨rfl, hm0, HC.out⟩
end Go.Proofs.Ytbecofpklndpaaa
