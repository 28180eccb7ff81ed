/- The contracts of the laws' own helpers on Machine. Written by mk_struct.py. -/
import Derived.Test.YtjgajjcgapifoaaFoot
import Derived.Test.YtjgajjcgapifoaaLawRule
namespace Go.Proofs.Ytjgajjcgapifoaa
open Go.RowKit
set_option linter.unusedVariables false
set_option linter.unusedSimpArgs false
set_option maxHeartbeats 1600000 in
theorem toMachine_any (w : World) (x0 : Int) (x1 : Int) (A2 : Option Addr) (n2 c2 : Nat) (d2 : List Int) (hr2 : Rd w A2 (n2 * 3) (ints d2)) (hn2 : n2 ≤ 1099511627776) : Calls Try.prog 14 #[.agg #[.int .i64 x0, .int .i64 x1, .slice A2 n2 c2]] w (fun e w' => ∃ (A2' : Option Addr) (n2' c2' : Nat), e = .returned (.agg #[.int .i64 x0, .int .i64 x1, .slice A2' n2' c2']) ∧ w'.ownsRow w.heap.size 81 3 (.slice A2' n2' c2') n2' (ints d2) ∧ Below w.heap.size w w') := by
  go_enter Try.func14, Try.ntmps14
  go_wp2_with fail
  refine (toRuleS_any _ _ _ _ d2 (hr2.below ((((Below.refl _ _).alloc (Nat.le_refl _) _).alloc (by simp) _).alloc (by simp; omega) _) (Nat.le_refl _)) hn2).mono ?_
  rintro e w1 ⟨A2', n2', c2', rfl, ho2, hb0⟩
  have hR2 := Lib.hid (rg_row ho2)
  obtain ⟨hb0a, hx2, hs2⟩ := box_step hb0
  obtain ⟨hb0b, hx1, hs1⟩ := box_step hb0a
  obtain ⟨HB, hx0, hs0⟩ := box_step hb0b
  simp only [World.size_alloc] at hx0 hx1 hx2 hs0 hs1 hs2
  replace hR2 := Lib.hid (rg_lo hR2.out (lo := w.heap.size + 3) (hi := w1.heap.size) (by first | (simp; done) | (simp; omega)) (Nat.le_refl _))
  have p0 := blk_cell hx0 0 rfl; have q0 := blk_cell hx2 0 rfl; have f0 := blk_free hx2 0; have r0 := blk_cell hx1 0 rfl; have g0 := blk_free hx1 0
  have p1 := blk_cell hx0 1 rfl; have q1 := blk_cell hx2 1 rfl; have f1 := blk_free hx2 1; have r1 := blk_cell hx1 1 rfl; have g1 := blk_free hx1 1
  have p2 := blk_cell hx0 2 rfl; have q2 := blk_cell hx2 2 rfl; have f2 := blk_free hx2 2; have r2 := blk_cell hx1 2 rfl; have g2 := blk_free hx1 2
  have l0 := blk_lt hx0; have l1 := blk_lt hx1; have l2 := blk_lt hx2
  have HBF := Lib.hid HB
  clear HB
  go_wp2_with fail
  refine bodyPost_ret (v := .agg #[.int .i64 x0, .int .i64 x1, .slice A2' n2' c2']) (by simp [results, Try.results14, go_sem, q0, r0, q1, r1, q2, r2]) rfl ?_
  refine ⟨A2', n2', c2', rfl, own_ch (F := fun k => w.heap.size ≤ k ∧ k < w.heap.size + 3) (ownN_base ho2 (by first | (simp; done) | (simp; omega))) ?_ (fun k h1 h2 => by have := hR2.out k h1; omega), below_ch (F := fun k => w.heap.size ≤ k ∧ k < w.heap.size + 3) HBF.out ?_ (fun k h => h.1) HBF.out.size⟩
  all_goals
    repeat (refine ch_setF ?_ (by omega))
    exact Ch.refl _ _
set_option maxHeartbeats 1600000 in
theorem eqMachine_same (w : World) (x0 : Int) (x1 : Int) (A2 : Option Addr) (n2 c2 : Nat) (d2 : List Int) (hr2 : Rd w A2 (n2 * 3) (ints d2)) (hn2 : n2 ≤ 1099511627776) (A2' : Option Addr) (n2' c2' : Nat) (hr2' : Rd w A2' (n2' * 3) (ints d2)) : Calls Try.prog 18 #[.agg #[.int .i64 x0, .int .i64 x1, .slice A2 n2 c2], .agg #[.int .i64 x0, .int .i64 x1, .slice A2' n2' c2']] w (RetV w (.bool true)) := by
  have hne0 : (x0 != x0) = false := by simp
  have hne1 : (x1 != x1) = false := by simp
  go_enter Try.func18, Try.ntmps18
  go_wp2_with fail
  refine (eqRuleS_same _ _ _ _ d2 (hr2.below (((Below.refl _ _).alloc (Nat.le_refl _) _).alloc (by simp) _) (Nat.le_refl _)) hn2 _ _ _ (hr2'.below (((Below.refl _ _).alloc (Nat.le_refl _) _).alloc (by simp) _) (Nat.le_refl _))).mono ?_
  rintro e w1 ⟨rfl, hb0⟩
  obtain ⟨hb0a, hx1, hs1⟩ := box_step hb0
  obtain ⟨HB, hx0, hs0⟩ := box_step hb0a
  simp only [World.size_alloc] at hx0 hx1 hs0 hs1
  have p0 := blk_cell hx0 0 rfl; have q0 := blk_cell hx1 0 rfl
  have p1 := blk_cell hx0 1 rfl; have q1 := blk_cell hx1 1 rfl
  have p2 := blk_cell hx0 2 rfl; have q2 := blk_cell hx1 2 rfl
  go_wp2_with fail
  go_ret
  exact ⟨rfl, HB⟩
set_option maxHeartbeats 1600000 in
theorem szMachine_post (w : World) (x0 : Int) (x1 : Int) (A2 : Option Addr) (n2 c2 : Nat) (hn2 : n2 ≤ 9223372036854775807) (k : Int) (hk0 : 0 ≤ k) (hk1 : k ≤ 1048576) : Calls Try.prog 12 #[.agg #[.int .i64 x0, .int .i64 x1, .slice A2 n2 c2], .int .i64 k] w (SzPost w k ((n2 : Int))) := by
  go_enter Try.func12, Try.ntmps12
  go_wp2_with fail
  refine (szRuleS_post _ _ _ _ hn2 _ (by omega) (by omega)).mono ?_
  rintro e w1 ⟨r0, rfl, hq0, hp0, hb0⟩
  obtain ⟨HB, hx0, hs0⟩ := box_step hb0
  have p0 := blk_cell hx0 0 rfl
  have p1 := blk_cell hx0 1 rfl
  have p2 := blk_cell hx0 2 rfl
  by_cases hz0 : r0 < 0
  · clear hq0
    go_wp2_with fail
    go_ret
    exact ⟨-1, rfl, fun h => by omega, by omega, HB⟩
  have HQ0 := Lib.hid (hq0 (by omega)); clear hq0
  go_wp2_with fail
  go_ret
  exact ⟨r0, rfl, fun _ => by have h0 := HQ0.out; omega, by omega, HB⟩
set_option maxHeartbeats 1600000 in
theorem markMachine_any (w : World) (x0 : Int) (x1 : Int) (b2 : Nat) (A2 : Option Addr) (n2 c2 : Nat) (d2 : List Int) (ho2 : w.ownsRow b2 81 3 (.slice A2 n2 c2) n2 (ints d2)) (hn2 : n2 ≤ 1000000000) (k : Int) (hk0 : 0 ≤ k) (hk1 : k ≤ 1000000000) : Calls Try.prog 19 #[.agg #[.int .i64 x0, .int .i64 x1, .slice A2 n2 c2], .int .i64 k] w fun e w' => e = .returned (.int .i64 (k + (n2 : Int) * 3)) ∧ w'.ownsRow b2 81 3 (.slice A2 n2 c2) n2 (ints (up (k) (n2 * 3))) ∧ Ch (Fo (.slice A2 n2 c2)) w w' := by
  go_enter Try.func19, Try.ntmps19
  go_wp2_with fail
  refine (markRuleS_any _ _ _ _ _ _ (ho2.alloc _) (by omega) (k) (by omega) (by omega)).mono ?_
  rintro e w1 ⟨rfl, hm2, hC0⟩
  replace hC0 := ch_row hC0
  have hx0 := blk_ch (box_new w _ _) hC0 (fun h => by have := (ho2.lt _ h).2; omega)
  have p0 := blk_cell hx0 0 rfl
  have p1 := blk_cell hx0 1 rfl
  have p2 := blk_cell hx0 2 rfl
  have HC := Lib.hid (((ch_alloc (Fo (.slice A2 n2 c2)) w _)).trans (hC0.mono (fun k h => h)))
  go_wp2_with fail
  go_ret
  exact ⟨rfl, hm2, HC.out⟩
end Go.Proofs.Ytjgajjcgapifoaa
