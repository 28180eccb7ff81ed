/- Two counters: the program's RunCounters. -/
import Derived.Test.YtbecofpklndpaaaCntU
namespace Go.Proofs.Ytbecofpklndpaaa
open Go.RowKit
set_option linter.unusedSimpArgs false
set_option linter.unusedVariables false
theorem Blk3.ch {w w' : World} {g T : Nat} {F : Nat → Prop} {x y z : Value} (h : Blk3 w g T x y z) (hc : Ch F w w') (hd : ¬ F g) : Blk3 w' g T x y z := blk_ch h hc hd
/-- What is left of a run's answer. -/
theorem run_split {w w' : World} {g : Nat} {o : Option (Cnt × Nat × Bool)} {e : Ending} (h : RunPost w g o e w') : (∃ d n b, o = some (d, n, b) ∧ e = .returned (.tuple #[.int .i64 (n : Int), .bool b, .int .i64 0]) ∧ BC w' g d ∧ Ch (· = g) w w') ∨ (∃ d, o = none ∧ e = .returned (.tuple #[.int .i64 0, .bool false, .int .i64 5]) ∧ BC w' g d ∧ Ch (· = g) w w') := by
  obtain ⟨h1, h2⟩ := h
  rcases o with _ | ⟨d, n, b⟩
  · obtain ⟨h3, d, h4⟩ := h2
    exact .inr ⟨d, rfl, h3, h4, h1⟩
  · exact .inl ⟨d, n, b, rfl, h2.1, h2.2, h1⟩
set_option maxHeartbeats 2000000 in
theorem implRunCounters_any (w : World) (A : Option Addr) (n c : Nat) (ps : List Ins) (hr : Rd w A (n * 4) (ints (flatI ps))) (hn : n ≤ 1099511627776) (x : Cnt) (b : Int) :
    Calls Try.prog 42 #[.slice A n c, cntV x, .int .i64 b] w (RetCIBI w (runNum ps x b)) := by
  have HL : Hid (ps.length = n) := Lib.hid (by have := hr.1; simp [flatI_len] at this; omega)
  have hr2 := (hr.alloc (.cells #[.int .i64 x.at_, .int .i64 x.a, .int .i64 x.b] 57)).alloc (.cells #[.int .i64 0, .int .i64 0, .int .i64 0] 57)
  cases hT : (twoC ps && goodC n x) with
  | false =>
    have HS := Lib.hid (runNum_bad (ps := ps) (c := x) (b := b) (by rw [HL.out]; simpa using hT))
    have HT := Lib.hid hT; clear hT
    go_enter Try.func42, Try.ntmps42
    go_wp2_with (go_at_call 118; refine (counting_any _ _ _ _ ps hr2 hn x).mono ?_; rw [HT.out]; rintro e w1 ⟨rfl, hb1⟩; obtain ⟨b0, b1, HB⟩ := two_boxes w x hb1; obtain ⟨q0, q1, q2⟩ := b1.cells; obtain ⟨f0, f1, f2⟩ := b1.free)
    exact bodyPost_ret (v := .tuple #[cntV c0, .int .i64 0, .bool false, .int .i64 1]) (by simp [results, Try.results42, go_sem, c0, q0, q1, q2]) rfl ⟨by rw [HS.out]; (try rfl), ((HB.setCell (by simp) _).setCell (by simp) _).setCell (by simp) _⟩
  | true =>
    have hTG : twoC ps = true ∧ goodC ps.length x = true := by rw [HL.out]; simpa using hT
    cases hB : inB b 1 20000 with
    | false =>
      have HS := Lib.hid (runNum_rng hTG hB)
      have HT := Lib.hid hT; have HBB := Lib.hid hB; clear hT hTG hB
      go_enter Try.func42, Try.ntmps42
      go_wp2_with (first
        | (go_at_call 118; refine (counting_any _ _ _ _ ps hr2 hn x).mono ?_; rw [HT.out]; rintro e w1 ⟨rfl, hb1⟩; obtain ⟨b0, b1, HB⟩ := two_boxes w x hb1; obtain ⟨q0, q1, q2⟩ := b1.cells; obtain ⟨f0, f1, f2⟩ := b1.free)
        | (go_at_call 124; refine (budgetOk_any _ _).mono ?_; rw [HBB.out]; rintro e w' ⟨rfl, rfl⟩))
      exact bodyPost_ret (v := .tuple #[cntV c0, .int .i64 0, .bool false, .int .i64 2]) (by simp [results, Try.results42, go_sem, c0, q0, q1, q2]) rfl ⟨by rw [HS.out]; (try rfl), ((HB.setCell (by simp) _).setCell (by simp) _).setCell (by simp) _⟩
    | true =>
      have HS := Lib.hid (runNum_go hTG hB)
      have hbb := inB_true.1 hB
      obtain ⟨m, hm⟩ : ∃ m : Nat, b = m := ⟨b.toNat, by omega⟩
      subst hm
      have HBB := Lib.hid hB; have HTG := Lib.hid hTG
      have HT := Lib.hid hT; clear hT hTG hB
      replace HS : Hid (runNum ps x m = if (runV (runC ps m 0 x)).2.2.2 = true then ((runV (runC ps m 0 x)).1, (runV (runC ps m 0 x)).2.1, (runV (runC ps m 0 x)).2.2.1, 0) else (c0, 0, false, 5)) := HS
      go_enter Try.func42, Try.ntmps42
      go_wp2_with (first
        | (go_at_call 118; refine (counting_any _ _ _ _ ps hr2 hn x).mono ?_; rw [HT.out]; rintro e w1 ⟨rfl, hb1⟩; obtain ⟨b0, b1, HB⟩ := two_boxes w x hb1)
        | (go_at_call 124; refine (budgetOk_any _ _).mono ?_; rw [HBB.out]; rintro e w' ⟨rfl, rfl⟩))
      refine (runCounters_any w _ A n c ps hr hn (twoC_ok HTG.out.1) x HTG.out.2 m (by omega) w.heap.size (Nat.le_refl _) HB b0).mono ?_
      intro e w2 hp
      rcases run_split hp with ⟨d, s, h, ho, rfl, b2, hC⟩ | ⟨d, ho, rfl, b2, hC⟩
      · have HS' : Hid (runNum ps x m = (d, (s : Int), h, 0)) := Lib.hid (by rw [HS.out, ho]; rfl)
        clear hp ho
        replace b1 := b1.ch hC (by omega)
        have HB2 := Lib.hid (below_ch HB hC (fun k e => by omega) HB.size)
        obtain ⟨q0, q1, q2⟩ := b1.cells
        obtain ⟨f0, f1, f2⟩ := b1.free
        obtain ⟨p0, p1, p2⟩ := b2.cells
        have hz2 : w.heap.size + 1 < w2.heap.size := b1.lt
        clear hC hb1 b0 HB
        go_wp2_with fail
        exact bodyPost_ret (v := .tuple #[cntV d, .int .i64 s, .bool h, .int .i64 0]) (by simp [results, Try.results42, go_sem, c0, q0, q1, q2]) rfl ⟨by rw [HS'.out]; (try rfl), ((HB2.out.setCell (by simp) _).setCell (by simp) _).setCell (by simp) _⟩
      · have HS' : Hid (runNum ps x m = (c0, 0, false, 5)) := Lib.hid (by rw [HS.out, ho]; rfl)
        clear hp ho
        replace b1 := b1.ch hC (by omega)
        have HB2 := Lib.hid (below_ch HB hC (fun k e => by omega) HB.size)
        obtain ⟨q0, q1, q2⟩ := b1.cells
        obtain ⟨f0, f1, f2⟩ := b1.free
        have hz2 : w.heap.size + 1 < w2.heap.size := b1.lt
        clear hC hb1 b0 HB b2
        go_wp2_with fail
        exact bodyPost_ret (v := .tuple #[cntV c0, .int .i64 0, .bool false, .int .i64 5]) (by simp [results, Try.results42, go_sem, c0, q0, q1, q2]) rfl ⟨by rw [HS'.out]; (try rfl), ((HB2.out.setCell (by simp) _).setCell (by simp) _).setCell (by simp) _⟩
end Go.Proofs.Ytbecofpklndpaaa
