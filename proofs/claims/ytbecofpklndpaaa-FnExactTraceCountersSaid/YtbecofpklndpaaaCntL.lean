/- Two counters: the program's StepCounters. -/
import Derived.Test.YtbecofpklndpaaaCntK
namespace Go.Proofs.Ytbecofpklndpaaa
open Go.RowKit
set_option linter.unusedSimpArgs false
set_option linter.unusedVariables false
theorem below_grownP {B : Nat} {W w w' : World} {g : Nat} (h : Below B W w) (hg : w.grownBy w' (some g)) (hB : B ≤ w.heap.size) (hgB : B ≤ g) : Below B W w' := h.grown hg hB (fun k hk => by cases hk; exact hgB)
theorem Blk3.grown {w w' : World} {g T r : Nat} {x y z : Value} (h : Blk3 w g T x y z) (hg : w.grownBy w' (some r)) (hne : g ≠ r) : Blk3 w' g T x y z := (hg.block g h.lt (by simpa using fun e => hne e)).trans h

set_option maxHeartbeats 400000 in
theorem counting_any (w : World) (A : Option Addr) (n c : Nat) (ps : List Ins) (hr : Rd w A (n * 4) (ints (flatI ps))) (hn : n ≤ 1099511627776) (x : Cnt) : Calls Try.prog 118 #[.slice A n c, cntV x] w (RetV w (.bool (twoC ps && goodC n x))) := by
  have hr1 := hr.alloc (.cells #[.int .i64 x.at_, .int .i64 x.a, .int .i64 x.b] 57)
  obtain ⟨q0, q1, q2⟩ := box3 w 57 (.int .i64 x.at_) (.int .i64 x.a) (.int .i64 x.b)
  cases hP : twoC ps with
  | false =>
    have HP := Lib.hid hP; clear hP
    go_enter Try.func118, Try.ntmps118
    go_wp2_with (go_at_call 200; refine (IsTwoCounter_any _ _ _ _ _ hr1 hn).mono ?_; rw [HP.out]; rintro e w1 ⟨rfl, hb1⟩)
    go_ret
    exact ⟨rfl, (below_new _ _).trans (hb1.mono (by simp))⟩
  | true =>
    have HP := Lib.hid hP; clear hP
    go_enter Try.func118, Try.ntmps118
    go_wp2_with fail
    refine (IsTwoCounter_any _ _ _ _ _ hr1 hn).mono ?_
    rw [HP.out]
    rintro e w1 ⟨rfl, hb1⟩
    replace q0 := (hb1.cell (p := ⟨w.heap.size, 0, none⟩) (by simp)).trans q0
    replace q1 := (hb1.cell (p := ⟨w.heap.size, 1, none⟩) (by simp)).trans q1
    replace q2 := (hb1.cell (p := ⟨w.heap.size, 2, none⟩) (by simp)).trans q2
    go_wp2_with (go_at_call 201; refine (validCounters_any _ _ _ _ hn x).mono ?_; rintro e w2 ⟨rfl, hb2⟩)
    go_ret
    exact ⟨rfl, ((below_new _ _).trans (hb1.mono (by simp))).trans (hb2.mono (by have := hb1.size; simp at this; omega))⟩

/-- The two blocks that the program's functions on counters begin with. -/
theorem two_boxes (w : World) (x : Cnt) {w1 : World} (hb1 : Below ((w.alloc (.cells #[.int .i64 x.at_, .int .i64 x.a, .int .i64 x.b] 57)).alloc (.cells #[.int .i64 0, .int .i64 0, .int .i64 0] 57)).heap.size ((w.alloc (.cells #[.int .i64 x.at_, .int .i64 x.a, .int .i64 x.b] 57)).alloc (.cells #[.int .i64 0, .int .i64 0, .int .i64 0] 57)) w1) :
    BC w1 w.heap.size x ∧ Blk3 w1 (w.heap.size + 1) 57 (.int .i64 0) (.int .i64 0) (.int .i64 0) ∧ Below w.heap.size w w1 := by
  refine ⟨((Blk3.new w 57 (.int .i64 x.at_) (.int .i64 x.a) (.int .i64 x.b)).alloc (.cells #[.int .i64 0, .int .i64 0, .int .i64 0] 57)).below hb1 (by simp; omega), ?_, (((Below.refl _ _).alloc (Nat.le_refl _) _).alloc (by simp) _).trans (hb1.mono (by simp; omega))⟩
  have b1 := (Blk3.new (w.alloc (.cells #[.int .i64 x.at_, .int .i64 x.a, .int .i64 x.b] 57)) 57 (.int .i64 0) (.int .i64 0) (.int .i64 0)).below hb1 (by simp)
  simpa using b1

set_option maxHeartbeats 2000000 in
theorem implStepCounters_any (w : World) (A : Option Addr) (n c : Nat) (ps : List Ins) (hr : Rd w A (n * 4) (ints (flatI ps))) (hn : n ≤ 1099511627776) (x : Cnt) :
    Calls Try.prog 38 #[.slice A n c, cntV x] w (RetCI w (stepNum ps x).1 (stepNum ps x).2) := by
  have HL : Hid (ps.length = n) := Lib.hid (by have := hr.1; simp [flatI_len] at this; omega)
  have hr2 := (hr.alloc (.cells #[.int .i64 x.at_, .int .i64 x.a, .int .i64 x.b] 57)).alloc (.cells #[.int .i64 0, .int .i64 0, .int .i64 0] 57)
  cases hT : (twoC ps && goodC n x) with
  | false =>
    have HS := Lib.hid (step_bad (ps := ps) (c := x) (by rw [HL.out]; simpa using hT))
    have HT := Lib.hid hT; clear hT
    go_enter Try.func38, Try.ntmps38
    go_wp2_with (go_at_call 118; refine (counting_any _ _ _ _ ps hr2 hn x).mono ?_; rw [HT.out]; rintro e w1 ⟨rfl, hb1⟩; obtain ⟨b0, b1, HB⟩ := two_boxes w x hb1; obtain ⟨q0, q1, q2⟩ := b1.cells; obtain ⟨f0, f1, f2⟩ := b1.free)
    exact bodyPost_ret (v := .tuple #[cntV c0, .int .i64 1]) (by simp [results, Try.results38, go_sem, c0, q0, q1, q2]) rfl ⟨by rw [HS.out]; (try rfl), ((HB.setCell (by simp) _).setCell (by simp) _).setCell (by simp) _⟩
  | true =>
    have hTG : twoC ps = true ∧ goodC n x = true := by simpa using hT
    by_cases hE : x.at_ = n
    · have HS := Lib.hid (step_end (ps := ps) (c := x) (by rw [HL.out]; exact hTG) (by rw [HL.out]; exact hE))
      have hee : (x.at_ == (n : Int)) = true := by simpa using hE
      have HT := Lib.hid hT; clear hT hTG hE
      go_enter Try.func38, Try.ntmps38
      go_wp2_with (go_at_call 118; refine (counting_any _ _ _ _ ps hr2 hn x).mono ?_; rw [HT.out]; rintro e w1 ⟨rfl, hb1⟩; obtain ⟨b0, b1, HB⟩ := two_boxes w x hb1; obtain ⟨q0, q1, q2⟩ := b1.cells; obtain ⟨f0, f1, f2⟩ := b1.free; obtain ⟨p0, p1, p2⟩ := b0.cells)
      go_quiet ((go_at_call 119; exact Calls.quiet_of_same ((sizeInstr_any _ _ _ _ hn).mono fun e w' h => ⟨h.1, h.2.symm⟩)))
      go_wp2_with fail
      exact bodyPost_ret (v := .tuple #[cntV c0, .int .i64 6]) (by simp [results, Try.results38, go_sem, c0, q0, q1, q2]) rfl ⟨by rw [HS.out]; (try rfl), below_drewN (((HB.setCell (by simp) _).setCell (by simp) _).setCell (by simp) _)⟩
    · obtain ⟨k, y, hk, hkn, hy, hat⟩ := at_some (ps := ps) (c := x) (by rw [HL.out]; exact hTG.2) (by rw [HL.out]; exact hE)
      have HS := Lib.hid (step_go (ps := ps) (c := x) (by rw [HL.out]; exact hTG) (by rw [HL.out]; exact hE) hat)
      obtain ⟨_, g2, g3⟩ := goodC_parts hTG.2
      have hee : (x.at_ == (n : Int)) = false := by simpa using hE
      have HT := Lib.hid hT; have HY := Lib.hid hy; have HK := Lib.hid hk; clear hT hTG hE hat hy hk
      obtain ⟨d, ok, hq⟩ : ∃ d ok, stepC y x = (d, ok) := ⟨_, _, rfl⟩
      have HST : Hid (∀ w1 : World, Rd w1 A (n * 4) (ints (flatI ps)) → BC w1 w.heap.size x → Calls Try.prog 120 #[.pointer (some ⟨w.heap.size, 0, none⟩), .slice A n c] w1 (StepPost w1 w.heap.size d ok)) := Lib.hid fun w1 hr1 hb1 => by
        have h := step_any w1 A n c ps hr1 hn y k HY.out x.a x.b g2 g3 w.heap.size (by rw [← HK.out]; exact hb1)
        rw [← HK.out] at h
        have e : stepC y ⟨x.at_, x.a, x.b⟩ = (d, ok) := hq
        rw [e] at h
        exact h
      replace HS : Hid (stepNum ps x = if ok = true then (d, 0) else (c0, 5)) := Lib.hid (by rw [HS.out, hq])
      clear hq
      go_enter Try.func38, Try.ntmps38
      go_wp2_with (go_at_call 118; refine (counting_any _ _ _ _ ps hr2 hn x).mono ?_; rw [HT.out]; rintro e w1 ⟨rfl, hb1⟩; obtain ⟨b0, b1, HB⟩ := two_boxes w x hb1; obtain ⟨q0, q1, q2⟩ := b1.cells; obtain ⟨f0, f1, f2⟩ := b1.free; obtain ⟨p0, p1, p2⟩ := b0.cells)
      go_quiet ((go_at_call 119; exact Calls.quiet_of_same ((sizeInstr_any _ _ _ _ hn).mono fun e w' h => ⟨h.1, h.2.symm⟩)))
      go_wp2_with fail
      refine (HST.out _ (hr.below (below_drewN HB) (Nat.le_refl _)) b0).mono ?_
      rintro e w2 ⟨rfl, b0', hg2⟩
      replace b1 := Blk3.grown (w := w1.drewN nq) b1 hg2 (by omega)
      replace HB := Lib.hid (below_grownP (below_drewN (n := nq) HB) hg2 (HB.size) (Nat.le_refl _))
      clear q0 q1 q2 f0 f1 f2 p0 p1 p2
      obtain ⟨q0, q1, q2⟩ := b1.cells
      obtain ⟨f0, f1, f2⟩ := b1.free
      obtain ⟨p0, p1, p2⟩ := b0'.cells
      have hz2 : w.heap.size + 1 < w2.heap.size := b1.lt
      clear hb1 b0 hg2
      cases ok
      · go_wp2_with fail
        exact bodyPost_ret (v := .tuple #[cntV c0, .int .i64 5]) (by simp [results, Try.results38, go_sem, c0, q0, q1, q2]) rfl ⟨by rw [HS.out]; (try rfl), ((HB.out.setCell (by simp) _).setCell (by simp) _).setCell (by simp) _⟩
      · go_wp2_with fail
        exact bodyPost_ret (v := .tuple #[cntV d, .int .i64 0]) (by simp [results, Try.results38, go_sem, c0, q0, q1, q2]) rfl ⟨by rw [HS.out]; (try rfl), ((HB.out.setCell (by simp) _).setCell (by simp) _).setCell (by simp) _⟩
end Go.Proofs.Ytbecofpklndpaaa
