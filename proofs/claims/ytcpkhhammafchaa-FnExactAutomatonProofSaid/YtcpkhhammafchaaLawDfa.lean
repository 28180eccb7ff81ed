/- The contracts of the laws' own helpers on Dfa. Written by mk_struct.py. -/
import Derived.Test.YtcpkhhammafchaaGA
import Derived.Test.YtcpkhhammafchaaGC
namespace Go.Proofs.Ytcpkhhammafchaa
open Go.RowKit
set_option linter.unusedVariables false
set_option linter.unusedSimpArgs false
set_option maxHeartbeats 1600000 in
theorem toDfa_any (w : World) (x0 : Int) (A1 : Option Addr) (n1 c1 : Nat) (d1 : List Int) (hr1 : Rd w A1 n1 (ints d1)) (hn1 : n1 ≤ 1099511627776) : Calls Try.prog 19 #[.agg #[.int .i64 x0, .slice A1 n1 c1]] w (fun e w' => ∃ (A1' : Option Addr) (n1' c1' : Nat), e = .returned (.agg #[.int .i64 x0, .slice A1' n1' c1']) ∧ w'.ownsRow w.heap.size 2 1 (.slice A1' n1' c1') n1' (ints d1) ∧ Below w.heap.size w w') := by
  go_enter Try.func19, Try.ntmps19
  go_wp2_with fail
  refine (toInt64S_any _ _ _ _ d1 (hr1.below ((((Below.refl _ _).alloc (Nat.le_refl _) _).alloc (by simp) _).alloc (by simp; omega) _) (Nat.le_refl _)) hn1).mono ?_
  rintro e w1 ⟨A1', n1', c1', rfl, ho1, hb0⟩
  have hR1 := Lib.hid (rg_row ho1)
  obtain ⟨hb0a, hx2, hs2⟩ := box_step hb0
  obtain ⟨hb0b, hx1, hs1⟩ := box_step hb0a
  obtain ⟨HB, hx0, hs0⟩ := box_step hb0b
  simp only [World.size_alloc] at hx0 hx1 hx2 hs0 hs1 hs2
  replace hR1 := Lib.hid (rg_lo hR1.out (lo := w.heap.size + 3) (hi := w1.heap.size) (by first | (simp; done) | (simp; omega)) (Nat.le_refl _))
  have p0 := blk_cell hx0 0 rfl; have q0 := blk_cell hx2 0 rfl; have f0 := blk_free hx2 0; have r0 := blk_cell hx1 0 rfl; have g0 := blk_free hx1 0
  have p1 := blk_cell hx0 1 rfl; have q1 := blk_cell hx2 1 rfl; have f1 := blk_free hx2 1; have r1 := blk_cell hx1 1 rfl; have g1 := blk_free hx1 1
  have l0 := blk_lt hx0; have l1 := blk_lt hx1; have l2 := blk_lt hx2
  have HBF := Lib.hid HB
  clear HB
  go_wp2_with fail
  refine bodyPost_ret (v := .agg #[.int .i64 x0, .slice A1' n1' c1']) (by simp [results, Try.results19, go_sem, q0, r0, q1, r1]) rfl ?_
  refine ⟨A1', n1', c1', rfl, own_ch (F := fun k => w.heap.size ≤ k ∧ k < w.heap.size + 3) (ownN_base ho1 (by first | (simp; done) | (simp; omega))) ?_ (fun k h1 h2 => by have := hR1.out k h1; omega), below_ch (F := fun k => w.heap.size ≤ k ∧ k < w.heap.size + 3) HBF.out ?_ (fun k h => h.1) HBF.out.size⟩
  all_goals
    repeat (refine ch_setF ?_ (by omega))
    exact Ch.refl _ _
set_option maxHeartbeats 1600000 in
theorem eqDfa_same (w : World) (x0 : Int) (A1 : Option Addr) (n1 c1 : Nat) (d1 : List Int) (hr1 : Rd w A1 n1 (ints d1)) (hn1 : n1 ≤ 1099511627776) (A1' : Option Addr) (n1' c1' : Nat) (hr1' : Rd w A1' n1' (ints d1)) : Calls Try.prog 23 #[.agg #[.int .i64 x0, .slice A1 n1 c1], .agg #[.int .i64 x0, .slice A1' n1' c1']] w (RetV w (.bool true)) := by
  have hne0 : (x0 != x0) = false := by simp
  go_enter Try.func23, Try.ntmps23
  go_wp2_with fail
  refine (eqInt64S_same _ _ _ _ d1 (hr1.below (((Below.refl _ _).alloc (Nat.le_refl _) _).alloc (by simp) _) (Nat.le_refl _)) hn1 _ _ _ (hr1'.below (((Below.refl _ _).alloc (Nat.le_refl _) _).alloc (by simp) _) (Nat.le_refl _))).mono ?_
  rintro e w1 ⟨rfl, hb0⟩
  obtain ⟨hb0a, hx1, hs1⟩ := box_step hb0
  obtain ⟨HB, hx0, hs0⟩ := box_step hb0a
  simp only [World.size_alloc] at hx0 hx1 hs0 hs1
  have p0 := blk_cell hx0 0 rfl; have q0 := blk_cell hx1 0 rfl
  have p1 := blk_cell hx0 1 rfl; have q1 := blk_cell hx1 1 rfl
  go_wp2_with fail
  go_ret
  exact ⟨rfl, HB⟩
set_option maxHeartbeats 1600000 in
theorem szDfa_post (w : World) (x0 : Int) (A1 : Option Addr) (n1 c1 : Nat) (hn1 : n1 ≤ 9223372036854775807) (k : Int) (hk0 : 0 ≤ k) (hk1 : k ≤ 1048576) : Calls Try.prog 16 #[.agg #[.int .i64 x0, .slice A1 n1 c1], .int .i64 k] w (SzPost w k ((n1 : Int))) := by
  go_enter Try.func16, Try.ntmps16
  go_wp2_with fail
  refine (szInt64S_post _ _ _ _ hn1 _ (by omega) (by omega)).mono ?_
  rintro e w1 ⟨r0, rfl, hq0, hp0, hb0⟩
  obtain ⟨HB, hx0, hs0⟩ := box_step hb0
  have p0 := blk_cell hx0 0 rfl
  have p1 := blk_cell hx0 1 rfl
  by_cases hz0 : r0 < 0
  · clear hq0
    go_wp2_with fail
    go_ret
    exact ⟨-1, rfl, fun h => by omega, by omega, HB⟩
  have HQ0 := Lib.hid (hq0 (by omega)); clear hq0
  go_wp2_with fail
  go_ret
  exact ⟨r0, rfl, fun _ => by have h0 := HQ0.out; omega, by omega, HB⟩
set_option maxHeartbeats 1600000 in
theorem markDfa_any (w : World) (x0 : Int) (b1 : Nat) (A1 : Option Addr) (n1 c1 : Nat) (d1 : List Int) (ho1 : w.ownsRow b1 2 1 (.slice A1 n1 c1) n1 (ints d1)) (hn1 : n1 ≤ 1000000000) (k : Int) (hk0 : 0 ≤ k) (hk1 : k ≤ 1000000000) : Calls Try.prog 25 #[.agg #[.int .i64 x0, .slice A1 n1 c1], .int .i64 k] w fun e w' => e = .returned (.int .i64 (k + (n1 : Int))) ∧ w'.ownsRow b1 2 1 (.slice A1 n1 c1) n1 (ints (up (k) n1)) ∧ Ch (Fo (.slice A1 n1 c1)) w w' := by
  go_enter Try.func25, Try.ntmps25
  go_wp2_with fail
  refine (markInt64S_any _ _ _ _ _ _ (ho1.alloc _) (by omega) (k) (by omega) (by omega)).mono ?_
  rintro e w1 ⟨rfl, hm1, hC0⟩
  replace hC0 := ch_row hC0
  have hx0 := blk_ch (box_new w _ _) hC0 (fun h => by have := (ho1.lt _ h).2; omega)
  have p0 := blk_cell hx0 0 rfl
  have p1 := blk_cell hx0 1 rfl
  have HC := Lib.hid (((ch_alloc (Fo (.slice A1 n1 c1)) w _)).trans (hC0.mono (fun k h => h)))
  go_wp2_with fail
  go_ret
  exact ⟨rfl, hm1, HC.out⟩
end Go.Proofs.Ytcpkhhammafchaa
