/- Two counters: the reference's TraceCounters. -/
import Derived.Test.YtbecofpklndpaaaCntX
namespace Go.Proofs.Ytbecofpklndpaaa
open Go.RowKit
set_option linter.unusedSimpArgs false
set_option linter.unusedVariables false
set_option maxHeartbeats 4000000 in
theorem specTraceCounters_any (w : World) (A : Option Addr) (n c : Nat) (ps : List Ins) (hr : Rd w A (n * 4) (ints (flatI ps))) (hn : n ≤ 1099511627776) (x : Cnt) (b : Int) :
    Calls Try.prog 62 #[.slice A n c, cntV x, .int .i64 b] w (RetNI w 57 3 (ints (traceNum ps x b).1) (traceNum ps x b).2) := by
  have HL : Hid (ps.length = n) := Lib.hid (by have := hr.1; simp [flatI_len] at this; omega)
  have hr2 := hr.alloc (.cells #[.int .i64 x.at_, .int .i64 x.a, .int .i64 x.b] 57)
  cases hT : twoC ps with
  | false =>
    have HS := Lib.hid (traceNum_bad (ps := ps) (c := x) (b := b) (by simp [hT]))
    have HT := Lib.hid hT; clear hT
    go_enter Try.func62, Try.ntmps62
    go_wp2_with (go_at_call 114; refine (l08Two_any _ _ _ _ ps hr2 hn).mono ?_; rw [HT.out]; rintro e w1 ⟨rfl, hb1⟩; obtain ⟨b0, HB⟩ := one_box w x hb1)
    go_ret2
    refine ⟨none, 0, 0, by rw [HS.out]; rfl, ?_, HB⟩
    rw [HS.out]; exact ownN_nil _ _ _ _
  | true =>
    cases hG : goodC n x with
    | false =>
      have HS := Lib.hid (traceNum_bad (ps := ps) (c := x) (b := b) (by rw [HL.out]; simp [hG]))
      have HT := Lib.hid hT; have HG := Lib.hid hG; clear hT hG
      go_enter Try.func62, Try.ntmps62
      go_wp2_with (first
        | (go_at_call 114; refine (l08Two_any _ _ _ _ ps hr2 hn).mono ?_; rw [HT.out]; rintro e w1 ⟨rfl, hb1⟩; obtain ⟨b0, HB⟩ := one_box w x hb1)
        | (go_at_call 115; refine (l08Good_any _ _ _ _ hn _ x b0.cells).mono ?_; rw [HG.out]; rintro e w' ⟨rfl, rfl⟩))
      go_ret2
      refine ⟨none, 0, 0, by rw [HS.out]; rfl, ?_, HB⟩
      rw [HS.out]; exact ownN_nil _ _ _ _
    | true =>
      have hTG : twoC ps = true ∧ goodC ps.length x = true := by rw [HL.out]; exact ⟨hT, hG⟩
      cases hB : inB b 0 60 with
      | false =>
        have HS := Lib.hid (traceNum_rng hTG hB)
        have HT := Lib.hid hT; have HG := Lib.hid hG; have HBB := Lib.hid hB; clear hT hG hTG hB
        go_enter Try.func62, Try.ntmps62
        go_wp2_with (first
          | (go_at_call 114; refine (l08Two_any _ _ _ _ ps hr2 hn).mono ?_; rw [HT.out]; rintro e w1 ⟨rfl, hb1⟩; obtain ⟨b0, HB⟩ := one_box w x hb1)
          | (go_at_call 115; refine (l08Good_any _ _ _ _ hn _ x b0.cells).mono ?_; rw [HG.out]; rintro e w' ⟨rfl, rfl⟩)
          | (go_at_call 154; refine (l00In_any _ _ _ _).mono ?_; rw [HBB.out]; rintro e w' ⟨rfl, rfl⟩))
        go_ret2
        refine ⟨none, 0, 0, by rw [HS.out]; rfl, ?_, HB⟩
        rw [HS.out]; exact ownN_nil _ _ _ _
      | true =>
        have hbb := inB_true.1 hB
        obtain ⟨m, hm⟩ : ∃ m : Nat, b = m := ⟨b.toNat, by omega⟩
        subst hm
        have HBB := Lib.hid hB; have HTG := Lib.hid hTG
        have HT := Lib.hid hT; have HG := Lib.hid hG; clear hT hTG hB hG
        go_enter Try.func62, Try.ntmps62
        go_wp2_with (first
          | (go_at_call 114; refine (l08Two_any _ _ _ _ ps hr2 hn).mono ?_; rw [HT.out]; rintro e w1 ⟨rfl, hb1⟩; obtain ⟨b0, HB⟩ := one_box w x hb1; obtain ⟨q0, q1, q2⟩ := b0.cells)
          | (go_at_call 115; refine (l08Good_any _ _ _ _ hn _ x b0.cells).mono ?_; rw [HG.out]; rintro e w' ⟨rfl, rfl⟩)
          | (go_at_call 154; refine (l00In_any _ _ _ _).mono ?_; rw [HBB.out]; rintro e w' ⟨rfl, rfl⟩))
        have hlt : w.heap.size < w1.heap.size := b0.lt
        go_loopw [2, 8] (fun q v wr => ∃ (left : Nat) (d : Cnt) (pre : List Cnt) (A1 : Option Addr) (k c1 : Nat), left ≤ m ∧ k ≤ m ∧ left + k = m ∧ q = .int .i64 left ∧ v = .slice A1 (k + 1) c1 ∧ BC wr w.heap.size d ∧ Hid (goodC ps.length d = true) ∧ Hid (traceC ps m x = (traceC ps left d).map (pre ++ ·)) ∧ wr.ownsRow w1.heap.size 57 3 (.slice A1 (k + 1) c1) (k + 1) (ints (flatC (pre ++ [d]))) ∧ w1.heap.size ≤ wr.heap.size ∧ Below w.heap.size w wr) (fun q _ _ => (intOf q).toNat)
        case atStart =>
          refine ⟨m, x, [], _, 0, 1, Nat.le_refl _, Nat.zero_le _, by omega, rfl, rfl, b0.alloc _, Lib.hid HTG.out.2, Lib.hid (by simp), ?_, by simp, HB.alloc HB.size _⟩
          exact ownN_lit w1 #[.int .i64 x.at_, .int .i64 x.a, .int .i64 x.b] 1 3 57 rfl (by omega)
        case round =>
          clear b0 HB q0 q1 q2
          obtain ⟨left, d, pre, A1, k, c1, hl, hk, hlk, rfl, rfl, b0, HGD, HR, hown, hw1, hb⟩ := hrel
          have HLK := Lib.hid hlk; clear hlk
          obtain ⟨q0, q1, q2⟩ := b0.cells
          obtain ⟨f0, f1, f2⟩ := b0.free
          obtain ⟨hat1, g2, g3⟩ := goodC_parts HGD.out
          rcases left with _ | l
          · have HS := Lib.hid (traceNum_some (l := pre ++ [d]) HTG.out HBB.out (by show traceC ps m x = _; rw [HR.out, trace_zero]; rfl))
            have hd0 : decide ((0 : Int) < ((0 : Nat) : Int)) = false := by simp
            go_wp2_with fail
            go_ret2
            refine ⟨A1, k + 1, c1, by rw [HS.out]; rfl, ?_, hb⟩
            rw [HS.out]; exact ownN_base hown (by have := hb1.size; simp at this; omega)
          · have hd0 : decide ((0 : Int) < ((l + 1 : Nat) : Int)) = true := decide_eq_true (by omega)
            have hd1 : decide ((0 : Int) < (l : Int) + 1) = true := decide_eq_true (by omega)
            by_cases hE : d.at_ = n
            · have HS := Lib.hid (traceNum_some (l := pre ++ [d]) HTG.out HBB.out (by show traceC ps m x = _; rw [HR.out, trace_end (by rw [HL.out]; exact hE)]; rfl))
              have hee : decide (d.at_ < (n : Int)) = false := by simp; omega
              clear hE hat1
              go_wp2_with fail
              go_ret2
              refine ⟨A1, k + 1, c1, by rw [HS.out]; rfl, ?_, hb⟩
              rw [HS.out]; exact ownN_base hown (by have := hb1.size; simp at this; omega)
            · have hee : decide (d.at_ < (n : Int)) = true := by simp; have := HL.out; omega
              obtain ⟨j, y, hj, hjn, hy, hat⟩ := at_some (ps := ps) (c := d) HGD.out (by rw [HL.out]; exact hE)
              obtain ⟨d2, ok, hq⟩ : ∃ d2 ok, stepC y d = (d2, ok) := ⟨_, _, rfl⟩
              have HS : Hid (traceC ps m x = if ok = true then (traceC ps l d2).map ((pre ++ [d]) ++ ·) else none) := Lib.hid (by
                rw [HR.out, trace_step (by rw [HL.out]; exact hE) hat, hq]
                cases ok
                · rfl
                · simp only [if_true, map_snoc])
              have hst : Calls Try.prog 116 #[.slice A n c, cntV d] wr (RetCB wr d2 ok) := by
                have h := l08Step_any wr A n c ps (hr.below hb (Nat.le_refl _)) hn y j hy d.a d.b g2 g3
                rw [← hj] at h
                have e : stepC y ⟨d.at_, d.a, d.b⟩ = (d2, ok) := hq
                rw [e] at h
                exact h
              have HG2 : Hid (ok = true → goodC ps.length d2 = true) := Lib.hid (fun h => by
                have := stepC_good (twoC_ok HTG.out.1) hy HGD.out (by rw [hq]; exact h)
                rwa [hq] at this)
              clear hE hj hy hat hq hat1 g2 g3
              go_wp2_with fail
              refine hst.mono ?_
              rintro e w2 ⟨rfl, hb2⟩
              replace b0 := b0.below hb2 b0.lt
              replace hb := hb.trans (hb2.mono hb.size)
              replace hown := ownN_below hown hb2 (Nat.le_refl _)
              have hw2 : w1.heap.size ≤ w2.heap.size := Nat.le_trans hw1 hb2.size
              clear q0 q1 q2 f0 f1 f2 hst hb2 hw1
              obtain ⟨q0, q1, q2⟩ := b0.cells
              obtain ⟨f0, f1, f2⟩ := b0.free
              have hz0 : w.heap.size < w2.heap.size := b0.lt
              cases ok
              · have HS' := Lib.hid (traceNum_none HTG.out HBB.out (by show traceC ps m x = _; rw [HS.out]; rfl))
                go_wp2_with fail
                go_ret2
                refine ⟨none, 0, 0, by rw [HS'.out]; rfl, ?_, hb.alloc hb.size _⟩
                rw [HS'.out]; exact ownN_nil _ _ _ _
              · have hC1 : Ch (· = w.heap.size) w2 (((w2.setCell ⟨w.heap.size, 0, none⟩ (.int .i64 d2.at_)).setCell ⟨w.heap.size, 1, none⟩ (.int .i64 d2.a)).setCell ⟨w.heap.size, 2, none⟩ (.int .i64 d2.b)) := ((ch_set _ _ _ _).trans (ch_set _ _ _ _)).trans (ch_set _ _ _ _)
                have HO2 := Lib.hid ((own_ch hown hC1 (fun k h1 h2 => by have := fo_ge hown h1; omega)).alloc (.cells #[.int .i64 d2.at_, .int .i64 d2.a, .int .i64 d2.b] 57))
                have B2 := Lib.hid ((((Blk3.set0 b0 (.int .i64 d2.at_)).set1 (.int .i64 d2.a)).set2 (.int .i64 d2.b)).alloc (.cells #[.int .i64 d2.at_, .int .i64 d2.a, .int .i64 d2.b] 57))
                have HBW := Lib.hid (((((hb.setCell (by simp) _).setCell (by simp) _).setCell (by simp) _).alloc (by simpa using hb.size) _) : Below w.heap.size w ((((w2.setCell ⟨w.heap.size, 0, none⟩ (.int .i64 d2.at_)).setCell ⟨w.heap.size, 1, none⟩ (.int .i64 d2.a)).setCell ⟨w.heap.size, 2, none⟩ (.int .i64 d2.b)).alloc (.cells #[.int .i64 d2.at_, .int .i64 d2.a, .int .i64 d2.b] 57)))
                clear hown hC1
                go_wp2_with (at_builtin; refine wpList_app1N eltC (by rfl) _ _ (by rfl) ((((w2.setCell ⟨w.heap.size, 0, none⟩ (.int .i64 d2.at_)).setCell ⟨w.heap.size, 1, none⟩ (.int .i64 d2.a)).setCell ⟨w.heap.size, 2, none⟩ (.int .i64 d2.b)).alloc (.cells #[.int .i64 d2.at_, .int .i64 d2.a, .int .i64 d2.b] 57)) w1.heap.size _ (k + 1) _ (by rfl) HO2.out #[.int .i64 d2.at_, .int .i64 d2.a, .int .i64 d2.b] (by rfl) (by intro y hy; simp at hy; rcases hy with rfl | rfl | rfl <;> rfl) (by simp [World.size_alloc]; rfl) (by simp; omega) (by omega) ?_; rintro A' c' w3 hown3 hb3 hg3; have H3 := Lib.hid hown3; have HB3 := Lib.hid hb3; clear hown3 hb3 hg3)
                go_roundw
                case rel =>
                  refine ⟨l, d2, pre ++ [d], A', k + 1, c', by omega, by have := HLK.out; omega, by have := HLK.out; omega, by go_num, rfl, Blk3.below B2.out HB3.out hlt, Lib.hid (by first | exact HG2.out rfl | exact HG2.out trivial), Lib.hid (by rw [HS.out]; first | rfl | simp), ?_, by have := HB3.out.size; simp at this; omega, HBW.out.trans (HB3.out.mono (by omega))⟩
                  rw [← ints_snocC]; exact H3.out
                case measure => simp [intOf]
end Go.Proofs.Ytbecofpklndpaaa
