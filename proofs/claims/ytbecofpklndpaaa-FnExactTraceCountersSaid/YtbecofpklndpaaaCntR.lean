/- Two counters: the reference's run. -/
import Derived.Test.YtbecofpklndpaaaCntL
namespace Go.Proofs.Ytbecofpklndpaaa
open Go.RowKit
set_option linter.unusedSimpArgs false
set_option linter.unusedVariables false
def runV (o : Option (Cnt × Nat × Bool)) : Cnt × Int × Bool × Bool := match o with
  | some (d, n, h) => (d, n, h, true)
  | none => (c0, 0, false, false)
/-- Counters, a number and two bools. -/
def RetCIBB (w : World) (r : Cnt × Int × Bool × Bool) (e : Ending) (w' : World) : Prop := e = .returned (.tuple #[cntV r.1, .int .i64 r.2.1, .bool r.2.2.1, .bool r.2.2.2]) ∧ Below w.heap.size w w'
def RetCIBI (w : World) (r : Cnt × Int × Bool × Int) (e : Ending) (w' : World) : Prop := e = .returned (.tuple #[cntV r.1, .int .i64 r.2.1, .bool r.2.2.1, .int .i64 r.2.2.2]) ∧ Below w.heap.size w w'
theorem run_end {ps : List Ins} {l k : Nat} {c : Cnt} (h : c.at_ = ps.length) : runC ps l k c = some (c, k, true) := by unfold runC; rw [if_pos h]
theorem run_zero {ps : List Ins} {k : Nat} {c : Cnt} (h : ¬ c.at_ = ps.length) : runC ps 0 k c = some (c, k, false) := by unfold runC; rw [if_neg h]
theorem run_step {ps : List Ins} {l k : Nat} {c : Cnt} {x : Ins} (h : ¬ c.at_ = ps.length) (hx : atOf ps c = some x) : runC ps (l + 1) k c = if (stepC x c).2 = true then runC ps l (k + 1) (stepC x c).1 else none := by
  rw [runC, if_neg h]; simp only [hx]

set_option maxHeartbeats 2000000 in
theorem l08Run_any (w : World) (A : Option Addr) (n c : Nat) (ps : List Ins) (hr : Rd w A (n * 4) (ints (flatI ps))) (hn : n ≤ 1099511627776) (hP : okProg ps = true) (x : Cnt) (hx : goodC ps.length x = true) (B : Nat) (hB : B ≤ 20000) :
    Calls Try.prog 123 #[.slice A n c, cntV x, .int .i64 B] w (RetCIBB w (runV (runC ps B 0 x))) := by
  have HL : Hid (ps.length = n) := Lib.hid (by have := hr.1; simp [flatI_len] at this; omega)
  have HP := Lib.hid hP
  have HX := Lib.hid hx
  clear hP hx
  go_enter Try.func123, Try.ntmps123
  go_wp2_with fail
  go_loopw [10] (fun q wr => ∃ (k : Nat) (d : Cnt), k ≤ B ∧ q = .int .i64 k ∧ Blk3 wr w.heap.size 57 (.int .i64 d.at_) (.int .i64 d.a) (.int .i64 d.b) ∧ Blk3 wr (w.heap.size + 1) 57 (.int .i64 0) (.int .i64 0) (.int .i64 0) ∧ Hid (goodC ps.length d = true) ∧ Hid (runC ps B 0 x = runC ps (B - k) k d) ∧ Below w.heap.size w wr) (fun q _ => B + 1 - (intOf q).toNat)
  case atStart =>
    refine ⟨0, x, Nat.zero_le _, rfl, (Blk3.new w _ _ _ _).alloc _, ?_, HX, Lib.hid rfl, ((Below.refl _ _).alloc (Nat.le_refl _) _).alloc (by simp) _⟩
    have := Blk3.new (w.alloc (.cells #[.int .i64 x.at_, .int .i64 x.a, .int .i64 x.b] 57)) 57 (.int .i64 0) (.int .i64 0) (.int .i64 0)
    simpa using this
  case round =>
    obtain ⟨k, d, hk, rfl, b0, b1, HG, HR, hb⟩ := hrel
    obtain ⟨q0, q1, q2⟩ := b0.cells
    obtain ⟨f0, f1, f2⟩ := b0.free
    obtain ⟨p0, p1, p2⟩ := b1.cells
    obtain ⟨t0, t1, t2⟩ := b1.free
    have hz1 : w.heap.size + 1 < wr.heap.size := b1.lt
    by_cases hE : d.at_ = n
    · have hee : (d.at_ == (n : Int)) = true := by simpa using hE
      have HS : Hid (runV (runC ps B 0 x) = (d, (k : Int), true, true)) := Lib.hid (by rw [HR.out, run_end (by rw [HL.out]; exact hE)]; rfl)
      clear hE
      go_wp2_with fail
      exact bodyPost_ret (v := .tuple #[cntV d, .int .i64 k, .bool true, .bool true]) (by simp [results, Try.results123, go_sem, p0, p1, p2]) rfl ⟨by rw [HS.out]; (try rfl), ((hb.setCell (by simp) _).setCell (by simp) _).setCell (by simp) _⟩
    · have hee : (d.at_ == (n : Int)) = false := by simpa using hE
      by_cases hK : k = B
      · subst hK
        have hkk : ((k : Int) == (k : Int)) = true := by simp
        have HS : Hid (runV (runC ps k 0 x) = (d, (k : Int), false, true)) := Lib.hid (by rw [HR.out, Nat.sub_self, run_zero (by rw [HL.out]; exact hE)]; rfl)
        clear hE
        go_wp2_with fail
        exact bodyPost_ret (v := .tuple #[cntV d, .int .i64 k, .bool false, .bool true]) (by simp [results, Try.results123, go_sem, p0, p1, p2]) rfl ⟨by rw [HS.out]; (try rfl), ((hb.setCell (by simp) _).setCell (by simp) _).setCell (by simp) _⟩
      · have hkk : ((k : Int) == (B : Int)) = false := by simp; omega
        have hkB : k < B := by omega
        obtain ⟨j, y, hj, hjn, hy, hat⟩ := at_some (ps := ps) (c := d) HG.out (by rw [HL.out]; exact hE)
        obtain ⟨_, g2, g3⟩ := goodC_parts HG.out
        obtain ⟨d2, ok, hq⟩ : ∃ d2 ok, stepC y d = (d2, ok) := ⟨_, _, rfl⟩
        have HS : Hid (runC ps B 0 x = if ok = true then runC ps (B - (k + 1)) (k + 1) d2 else none) := Lib.hid (by
          rw [HR.out, show B - k = (B - (k + 1)) + 1 by omega, run_step (by rw [HL.out]; exact hE) hat, hq])
        have hst : Calls Try.prog 116 #[.slice A n c, cntV d] wr (RetCB wr d2 ok) := by
          have h := l08Step_any wr A n c ps (hr.below hb (Nat.le_refl _)) hn y j hy d.a d.b g2 g3
          rw [← hj] at h
          have e : stepC y ⟨d.at_, d.a, d.b⟩ = (d2, ok) := hq
          rw [e] at h
          exact h
        have HG2 : Hid (ok = true → goodC ps.length d2 = true) := Lib.hid (fun h => by
          have := stepC_good HP.out hy HG.out (by rw [hq]; exact h)
          rwa [hq] at this)
        clear hE hK hj hy hat hq
        go_wp2_with fail
        refine hst.mono ?_
        rintro e w2 ⟨rfl, hb2⟩
        replace b0 := b0.below hb2 b0.lt
        replace b1 := b1.below hb2 b1.lt
        replace hb := hb.trans (hb2.mono hb.size)
        clear q0 q1 q2 f0 f1 f2 p0 p1 p2 t0 t1 t2 hst hb2 hz1
        obtain ⟨q0, q1, q2⟩ := b0.cells
        obtain ⟨f0, f1, f2⟩ := b0.free
        obtain ⟨p0, p1, p2⟩ := b1.cells
        obtain ⟨t0, t1, t2⟩ := b1.free
        have hz2 : w.heap.size + 1 < w2.heap.size := b1.lt
        have hz0 : w.heap.size < w2.heap.size := b0.lt
        cases ok
        · go_wp2_with fail
          have HS' : Hid (runV (runC ps B 0 x) = (c0, 0, false, false)) := Lib.hid (by rw [HS.out]; rfl)
          exact bodyPost_ret (v := .tuple #[cntV c0, .int .i64 0, .bool false, .bool false]) (by simp [results, Try.results123, go_sem, c0, p0, p1, p2, hz2, World.cell?_alloc_lt]) rfl ⟨by rw [HS'.out]; (try rfl), (((hb.setCell (by simp) _).setCell (by simp) _).setCell (by simp) _).alloc (by simpa using hb.size) _⟩
        · go_wp2_with fail
          go_roundw
          case rel =>
            refine ⟨k + 1, d2, by omega, by go_num, ?_, ?_, Lib.hid (by first | exact HG2.out rfl | exact HG2.out trivial), Lib.hid (by rw [HS.out]; first | rfl | simp), (((hb.setCell (by simp) _).setCell (by simp) _).setCell (by simp) _).alloc (by simpa using hb.size) _⟩
            · exact (((b0.set0 _).set1 _).set2 _).alloc _
            · exact (((b1.far (by simp)).far (by simp)).far (by simp)).alloc _
          case measure => simp [intOf]; omega
theorem runNum_bad {ps : List Ins} {c : Cnt} {b : Int} (h : ¬ (twoC ps = true ∧ goodC ps.length c = true)) : runNum ps c b = (c0, 0, false, 1) := by simp only [runNum, if_neg h]
theorem runNum_rng {ps : List Ins} {c : Cnt} {b : Int} (h : twoC ps = true ∧ goodC ps.length c = true) (hb : inB b 1 20000 = false) : runNum ps c b = (c0, 0, false, 2) := by simp only [runNum, if_pos h, hb]; rfl
theorem runNum_go {ps : List Ins} {c : Cnt} {b : Int} (h : twoC ps = true ∧ goodC ps.length c = true) (hb : inB b 1 20000 = true) : runNum ps c b = if (runV (runC ps b.toNat 0 c)).2.2.2 = true then ((runV (runC ps b.toNat 0 c)).1, (runV (runC ps b.toNat 0 c)).2.1, (runV (runC ps b.toNat 0 c)).2.2.1, 0) else (c0, 0, false, 5) := by
  simp only [runNum, if_pos h, hb, if_true]
  rcases runC ps b.toNat 0 c with _ | ⟨d, n, h⟩ <;> simp [runV]
set_option maxHeartbeats 400000 in
theorem l05Budget_any (w : World) (x : Int) : Calls Try.prog 122 #[.int .i64 x] w fun e w' => e = .returned (.bool (inB x 1 20000)) ∧ w = w' := by
  go_enter Try.func122, Try.ntmps122
  go_wp2_with (go_at_call 154; refine (l00In_any _ _ _ _).mono ?_; rintro e w' ⟨rfl, rfl⟩)
  go_ret
  exact ⟨rfl, rfl⟩
set_option maxHeartbeats 400000 in
theorem budgetOk_any (w : World) (x : Int) : Calls Try.prog 124 #[.int .i64 x] w fun e w' => e = .returned (.bool (inB x 1 20000)) ∧ w = w' := by
  go_enter Try.func124, Try.ntmps124
  go_wp2_with (go_at_call 98; refine (within_any _ _ _ _).mono ?_; rintro e w' ⟨rfl, rfl⟩)
  go_ret
  exact ⟨rfl, rfl⟩
set_option maxHeartbeats 2000000 in
theorem specRunCounters_any (w : World) (A : Option Addr) (n c : Nat) (ps : List Ins) (hr : Rd w A (n * 4) (ints (flatI ps))) (hn : n ≤ 1099511627776) (x : Cnt) (b : Int) :
    Calls Try.prog 41 #[.slice A n c, cntV x, .int .i64 b] w (RetCIBI w (runNum ps x b)) := by
  have HL : Hid (ps.length = n) := Lib.hid (by have := hr.1; simp [flatI_len] at this; omega)
  have hr2 := (hr.alloc (.cells #[.int .i64 x.at_, .int .i64 x.a, .int .i64 x.b] 57)).alloc (.cells #[.int .i64 0, .int .i64 0, .int .i64 0] 57)
  cases hT : twoC ps with
  | false =>
    have HS := Lib.hid (runNum_bad (ps := ps) (c := x) (b := b) (by simp [hT]))
    have HT := Lib.hid hT; clear hT
    go_enter Try.func41, Try.ntmps41
    go_wp2_with (go_at_call 114; refine (l08Two_any _ _ _ _ ps hr2 hn).mono ?_; rw [HT.out]; rintro e w1 ⟨rfl, hb1⟩; obtain ⟨b0, b1, HB⟩ := two_boxes w x hb1; obtain ⟨q0, q1, q2⟩ := b1.cells; obtain ⟨f0, f1, f2⟩ := b1.free)
    exact bodyPost_ret (v := .tuple #[cntV c0, .int .i64 0, .bool false, .int .i64 1]) (by simp [results, Try.results41, go_sem, c0, q0, q1, q2]) rfl ⟨by rw [HS.out]; (try rfl), ((HB.setCell (by simp) _).setCell (by simp) _).setCell (by simp) _⟩
  | true =>
    cases hG : goodC n x with
    | false =>
      have HS := Lib.hid (runNum_bad (ps := ps) (c := x) (b := b) (by rw [HL.out]; simp [hG]))
      have HT := Lib.hid hT; have HG := Lib.hid hG; clear hT hG
      go_enter Try.func41, Try.ntmps41
      go_wp2_with (first
        | (go_at_call 114; refine (l08Two_any _ _ _ _ ps hr2 hn).mono ?_; rw [HT.out]; rintro e w1 ⟨rfl, hb1⟩; obtain ⟨b0, b1, HB⟩ := two_boxes w x hb1; obtain ⟨q0, q1, q2⟩ := b1.cells; obtain ⟨f0, f1, f2⟩ := b1.free)
        | (go_at_call 115; refine (l08Good_any _ _ _ _ hn _ x b0.cells).mono ?_; rw [HG.out]; rintro e w' ⟨rfl, rfl⟩))
      exact bodyPost_ret (v := .tuple #[cntV c0, .int .i64 0, .bool false, .int .i64 1]) (by simp [results, Try.results41, go_sem, c0, q0, q1, q2]) rfl ⟨by rw [HS.out]; (try rfl), ((HB.setCell (by simp) _).setCell (by simp) _).setCell (by simp) _⟩
    | true =>
      have hTG : twoC ps = true ∧ goodC ps.length x = true := by rw [HL.out]; exact ⟨hT, hG⟩
      cases hB : inB b 1 20000 with
      | false =>
        have HS := Lib.hid (runNum_rng hTG hB)
        have HT := Lib.hid hT; have HG := Lib.hid hG; have HBB := Lib.hid hB; clear hT hG hTG hB
        go_enter Try.func41, Try.ntmps41
        go_wp2_with (first
          | (go_at_call 114; refine (l08Two_any _ _ _ _ ps hr2 hn).mono ?_; rw [HT.out]; rintro e w1 ⟨rfl, hb1⟩; obtain ⟨b0, b1, HB⟩ := two_boxes w x hb1; obtain ⟨q0, q1, q2⟩ := b1.cells; obtain ⟨f0, f1, f2⟩ := b1.free)
          | (go_at_call 115; refine (l08Good_any _ _ _ _ hn _ x b0.cells).mono ?_; rw [HG.out]; rintro e w' ⟨rfl, rfl⟩)
          | (go_at_call 122; refine (l05Budget_any _ _).mono ?_; rw [HBB.out]; rintro e w' ⟨rfl, rfl⟩))
        exact bodyPost_ret (v := .tuple #[cntV c0, .int .i64 0, .bool false, .int .i64 2]) (by simp [results, Try.results41, go_sem, c0, q0, q1, q2]) rfl ⟨by rw [HS.out]; (try rfl), ((HB.setCell (by simp) _).setCell (by simp) _).setCell (by simp) _⟩
      | true =>
        have HS := Lib.hid (runNum_go hTG hB)
        have hbb := inB_true.1 hB
        obtain ⟨m, hm⟩ : ∃ m : Nat, b = m := ⟨b.toNat, by omega⟩
        subst hm
        have HBB := Lib.hid hB; have HTG := Lib.hid hTG
        have HT := Lib.hid hT; have HG := Lib.hid hG; clear hT hG hTG hB
        replace HS : Hid (runNum ps x m = if (runV (runC ps m 0 x)).2.2.2 = true then ((runV (runC ps m 0 x)).1, (runV (runC ps m 0 x)).2.1, (runV (runC ps m 0 x)).2.2.1, 0) else (c0, 0, false, 5)) := HS
        have HRUN := Lib.hid fun (w1 : World) (h1 : Rd w1 A (n * 4) (ints (flatI ps))) => l08Run_any w1 A n c ps h1 hn (twoC_ok HTG.out.1) x HTG.out.2 m (by omega)
        generalize runV (runC ps m 0 x) = r at HS HRUN
        obtain ⟨d, s, h, ok⟩ := r
        replace HS : Hid (runNum ps x m = if ok = true then (d, s, h, 0) else (c0, 0, false, 5)) := HS
        cases ok
        · go_enter Try.func41, Try.ntmps41
          go_wp2_with (first
            | (go_at_call 114; refine (l08Two_any _ _ _ _ ps hr2 hn).mono ?_; rw [HT.out]; rintro e w1 ⟨rfl, hb1⟩; obtain ⟨b0, b1, HB⟩ := two_boxes w x hb1; obtain ⟨p0, p1, p2⟩ := b0.cells)
            | (go_at_call 115; refine (l08Good_any _ _ _ _ hn _ x b0.cells).mono ?_; rw [HG.out]; rintro e w' ⟨rfl, rfl⟩)
            | (go_at_call 122; refine (l05Budget_any _ _).mono ?_; rw [HBB.out]; rintro e w' ⟨rfl, rfl⟩)
            | (go_at_call 123; refine (HRUN.out _ (hr.below HB (Nat.le_refl _))).mono ?_; rintro e w2 ⟨rfl, hb2⟩; replace b1 := b1.below hb2 b1.lt; replace HB := HB.trans (hb2.mono HB.size); obtain ⟨q0, q1, q2⟩ := b1.cells; obtain ⟨f0, f1, f2⟩ := b1.free; have hz2 : w.heap.size + 1 < w2.heap.size := b1.lt))
          exact bodyPost_ret (v := .tuple #[cntV c0, .int .i64 0, .bool false, .int .i64 5]) (by simp [results, Try.results41, go_sem, c0, q0, q1, q2, hz2, World.cell?_alloc_lt]) rfl ⟨by rw [HS.out]; (try rfl), (((HB.setCell (by simp) _).setCell (by simp) _).setCell (by simp) _).alloc (by simpa using HB.size) _⟩
        · go_enter Try.func41, Try.ntmps41
          go_wp2_with (first
            | (go_at_call 114; refine (l08Two_any _ _ _ _ ps hr2 hn).mono ?_; rw [HT.out]; rintro e w1 ⟨rfl, hb1⟩; obtain ⟨b0, b1, HB⟩ := two_boxes w x hb1; obtain ⟨p0, p1, p2⟩ := b0.cells)
            | (go_at_call 115; refine (l08Good_any _ _ _ _ hn _ x b0.cells).mono ?_; rw [HG.out]; rintro e w' ⟨rfl, rfl⟩)
            | (go_at_call 122; refine (l05Budget_any _ _).mono ?_; rw [HBB.out]; rintro e w' ⟨rfl, rfl⟩)
            | (go_at_call 123; refine (HRUN.out _ (hr.below HB (Nat.le_refl _))).mono ?_; rintro e w2 ⟨rfl, hb2⟩; replace b1 := b1.below hb2 b1.lt; replace HB := HB.trans (hb2.mono HB.size); obtain ⟨q0, q1, q2⟩ := b1.cells; obtain ⟨f0, f1, f2⟩ := b1.free; have hz2 : w.heap.size + 1 < w2.heap.size := b1.lt))
          exact bodyPost_ret (v := .tuple #[cntV d, .int .i64 s, .bool h, .int .i64 0]) (by simp [results, Try.results41, go_sem, c0, q0, q1, q2, hz2, World.cell?_alloc_lt]) rfl ⟨by rw [HS.out]; (try rfl), (((HB.setCell (by simp) _).setCell (by simp) _).setCell (by simp) _).alloc (by simpa using HB.size) _⟩
end Go.Proofs.Ytbecofpklndpaaa
