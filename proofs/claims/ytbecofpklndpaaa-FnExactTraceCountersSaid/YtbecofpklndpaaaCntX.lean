/- Two counters: the program's TraceCounters. -/
import Derived.Test.YtbecofpklndpaaaCntW
namespace Go.Proofs.Ytbecofpklndpaaa
open Go.RowKit
set_option linter.unusedSimpArgs false
set_option linter.unusedVariables false
theorem trace_end {ps : List Ins} {l : Nat} {c : Cnt} (h : c.at_ = ps.length) : traceC ps l c = some [c] := by unfold traceC; rw [if_pos h]
theorem trace_zero {ps : List Ins} {c : Cnt} : traceC ps 0 c = some [c] := by
  unfold traceC
  split <;> rfl
theorem trace_step {ps : List Ins} {l : Nat} {c : Cnt} {x : Ins} (h : ¬ c.at_ = ps.length) (hx : atOf ps c = some x) : traceC ps (l + 1) c = if (stepC x c).2 = true then (traceC ps l (stepC x c).1).map (c :: ·) else none := by
  rw [traceC, if_neg h]; simp only [hx]
theorem map_snoc (o : Option (List Cnt)) (p : List Cnt) (d : Cnt) : (o.map (d :: ·)).map (p ++ ·) = o.map ((p ++ [d]) ++ ·) := by cases o <;> simp
def TraceRun (w0 : World) (L b : Nat) (o : Option (List Cnt)) (e : Ending) (w' : World) : Prop :=
  Below w0.heap.size w0 w' ∧ match o with
    | some l => ∃ (s : Int) (h : Bool) (A : Option Addr) (n c : Nat), e = .returned (.tuple #[.int .i64 s, .bool h, .int .i64 0]) ∧ w'.heap[L]? = some (.cells #[.slice A n c] 100 (0, 0)) ∧ w'.ownsRow b 57 3 (.slice A n c) n (ints (flatC l))
    | none => e = .returned (.tuple #[.int .i64 0, .bool false, .int .i64 5])
theorem TraceRun.some_ {w0 w' : World} {L b n c : Nat} {o : Option (List Cnt)} {l : List Cnt} {s : Int} {h : Bool} {A : Option Addr} {e : Ending} (ho : o = some l) (h1 : e = .returned (.tuple #[.int .i64 s, .bool h, .int .i64 0])) (h2 : w'.heap[L]? = some (.cells #[.slice A n c] 100 (0, 0))) (h3 : w'.ownsRow b 57 3 (.slice A n c) n (ints (flatC l))) (hb : Below w0.heap.size w0 w') : TraceRun w0 L b o e w' := by
  subst ho; exact ⟨hb, s, h, A, n, c, h1, h2, h3⟩
theorem TraceRun.none_ {w0 w' : World} {L b : Nat} {o : Option (List Cnt)} {e : Ending} (ho : o = none) (h1 : e = .returned (.tuple #[.int .i64 0, .bool false, .int .i64 5])) (hb : Below w0.heap.size w0 w') : TraceRun w0 L b o e w' := by
  subst ho; exact ⟨hb, h1⟩
theorem own_drewN {w : World} {b e s n m : Nat} {v : Value} {vs : List Value} (h : w.ownsRow b e s v n vs) : (w.drewN m).ownsRow b e s v n vs := ⟨h.1, h.2⟩
set_option maxHeartbeats 4000000 in
theorem runCountersT_any (w0 w : World) (A : Option Addr) (n c : Nat) (ps : List Ins) (hr : Rd w0 A (n * 4) (ints (flatI ps))) (hn : n ≤ 1099511627776) (hP : okProg ps = true) (x : Cnt) (hx : goodC ps.length x = true) (m : Nat) (hm : m ≤ 60)
    (g : Nat) (hg0 : w0.heap.size ≤ g) (hb0 : Below w0.heap.size w0 w) (hbc : BC w g x) (L b : Nat) (hLg : g < L) (hbg : g < b) (hbw : b ≤ w.heap.size) (A1 : Option Addr) (c1 : Nat) (hL : w.heap[L]? = some (.cells #[.slice A1 0 c1] 100 (0, 0))) (hown : w.ownsRow b 57 3 (.slice A1 0 c1) 0 (ints (flatC []))) :
    Calls Try.prog 125 #[.slice A n c, .pointer (some ⟨g, 0, none⟩), .int .i64 m, .func (.func 155) #[] #[.pointer (some ⟨L, 0, none⟩)]] w (TraceRun w0 L b (traceC ps m x)) := by
  have HL : Hid (ps.length = n) := Lib.hid (by have := hr.1; simp [flatI_len] at this; omega)
  have HP := Lib.hid hP
  have HX := Lib.hid hx
  clear hP hx
  go_enter Try.func125, Try.ntmps125
  go_wp2_with fail
  go_loopw [11] (fun q wr => ∃ (k : Nat) (d : Cnt) (pre : List Cnt) (A1 : Option Addr) (c1 : Nat), k ≤ m ∧ q = .int .i64 k ∧ BC wr g d ∧ Hid (goodC ps.length d = true) ∧ Hid (traceC ps m x = (traceC ps (m - k) d).map (pre ++ ·)) ∧ wr.heap[L]? = some (.cells #[.slice A1 k c1] 100 (0, 0)) ∧ wr.ownsRow b 57 3 (.slice A1 k c1) k (ints (flatC pre)) ∧ b ≤ wr.heap.size ∧ Below w0.heap.size w0 wr) (fun q _ => m + 1 - (intOf q).toNat)
  case atStart => exact ⟨0, x, [], A1, c1, Nat.zero_le _, rfl, hbc, HX, Lib.hid (by simp), hL, hown, hbw, hb0⟩
  case round =>
    clear hbc hb0 hL hown hbw
    obtain ⟨k, d, pre, A1, c1, hk, rfl, b0, HG, HR, hL, hown, hbw, hb⟩ := hrel
    obtain ⟨q0, q1, q2⟩ := b0.cells
    have HB0 := Lib.hid b0; have HLL := Lib.hid hL; have HO := Lib.hid hown
    clear hL hown
    go_wp2_with fail
    refine (trace1_any _ d L b k c1 A1 pre HLL.out HO.out hbw (by omega)).mono ?_
    rintro e w1 ⟨rfl, A2, c2, hL2, hown2, hC⟩
    replace b0 : BC w1 g d := blk_ch HB0.out hC (by omega)
    have hbw1 : b ≤ w1.heap.size := Nat.le_trans hbw hC.size
    replace hb := below_ch hb hC (fun k e => by omega) hb.size
    have HL2 := Lib.hid hL2; have HO2 := Lib.hid hown2
    clear q0 q1 q2 HB0 HLL HO hL2 hown2 hC hbw
    obtain ⟨q0, q1, q2⟩ := b0.cells
    by_cases hE : d.at_ = n
    · have hee : (d.at_ == (n : Int)) = true := by simpa using hE
      have HS : Hid (traceC ps m x = some (pre ++ [d])) := Lib.hid (by rw [HR.out, trace_end (by rw [HL.out]; exact hE)]; rfl)
      clear hE
      go_wp2_with fail
      go_quiet ((go_at_call 119; exact Calls.quiet_of_same ((sizeInstr_any _ _ _ _ hn).mono fun e w' h => ⟨h.1, h.2.symm⟩)))
      go_wp2_with fail
      go_quiet ((go_at_call 119; exact quiet_more (sizeInstr_any _ _ _ _ hn)))
      go_wp2_with fail
      go_ret3
      exact TraceRun.some_ HS.out rfl HL2.out (by first | exact own_drewN HO2.out | exact own_drewN (own_drewN HO2.out)) (by first | exact below_drewN hb | exact below_drewN (below_drewN hb))
    · have hee : (d.at_ == (n : Int)) = false := by simpa using hE
      by_cases hK : k = m
      · subst hK
        have hkk : ((k : Int) == (k : Int)) = true := by simp
        have HS : Hid (traceC ps k x = some (pre ++ [d])) := Lib.hid (by rw [HR.out, Nat.sub_self, trace_zero]; rfl)
        clear hE
        go_wp2_with fail
        go_quiet ((go_at_call 119; exact Calls.quiet_of_same ((sizeInstr_any _ _ _ _ hn).mono fun e w' h => ⟨h.1, h.2.symm⟩)))
        go_wp2_with fail
        go_quiet ((go_at_call 119; exact quiet_more (sizeInstr_any _ _ _ _ hn)))
        go_wp2_with fail
        go_ret3
        exact TraceRun.some_ HS.out rfl HL2.out (by first | exact own_drewN HO2.out | exact own_drewN (own_drewN HO2.out)) (by first | exact below_drewN hb | exact below_drewN (below_drewN hb))
      · have hkk : ((k : Int) == (m : Int)) = false := by simp; omega
        have hkm : k < m := by omega
        obtain ⟨j, y, hj, hjn, hy, hat⟩ := at_some (ps := ps) (c := d) HG.out (by rw [HL.out]; exact hE)
        obtain ⟨_, g2, g3⟩ := goodC_parts HG.out
        obtain ⟨d2, ok, hq⟩ : ∃ d2 ok, stepC y d = (d2, ok) := ⟨_, _, rfl⟩
        have HS : Hid (traceC ps m x = if ok = true then (traceC ps (m - (k + 1)) d2).map ((pre ++ [d]) ++ ·) else none) := Lib.hid (by
          rw [HR.out, show m - k = (m - (k + 1)) + 1 by omega, trace_step (by rw [HL.out]; exact hE) hat, hq]
          cases ok
          · rfl
          · simp only [if_true, map_snoc])
        have HST : Hid (∀ w1 : World, Rd w1 A (n * 4) (ints (flatI ps)) → BC w1 g d → Calls Try.prog 120 #[.pointer (some ⟨g, 0, none⟩), .slice A n c] w1 (StepPost w1 g d2 ok)) := Lib.hid fun w1 hr1 hb1 => by
          have h := step_any w1 A n c ps hr1 hn y j hy d.a d.b g2 g3 g (by rw [← hj]; exact hb1)
          rw [← hj] at h
          have e : stepC y ⟨d.at_, d.a, d.b⟩ = (d2, ok) := hq
          rw [e] at h
          exact h
        have HG2 : Hid (ok = true → goodC ps.length d2 = true) := Lib.hid (fun h => by
          have := stepC_good HP.out hy HG.out (by rw [hq]; exact h)
          rwa [hq] at this)
        clear hE hK hj hy hat hq
        go_wp2_with fail
        go_quiet ((go_at_call 119; exact Calls.quiet_of_same ((sizeInstr_any _ _ _ _ hn).mono fun e w' h => ⟨h.1, h.2.symm⟩)))
        go_wp2_with fail
        refine (HST.out _ (hr.below (below_drewN hb) (Nat.le_refl _)) b0).mono ?_
        rintro e w2 ⟨rfl, b2, hg2⟩
        have hC2 : Ch (· = g) (w1.drewN nq) w2 := ch_grown hg2 (fun k e => by simpa using e.symm)
        have HL3 := Lib.hid (blk_ch (w := w1.drewN nq) HL2.out hC2 (by omega))
        have HO3 := Lib.hid (own_ch (own_drewN (m := nq) HO2.out) hC2 (fun k h1 h2 => by have := fo_ge HO2.out h1; omega))
        have hbw2 : b ≤ w2.heap.size := Nat.le_trans hbw1 hC2.size
        replace hb := Lib.hid (below_grownP (below_drewN (n := nq) hb) hg2 hb.size hg0)
        clear q0 q1 q2 b0 hg2 hC2
        cases ok
        · have HS' : Hid (traceC ps m x = none) := Lib.hid (by rw [HS.out]; rfl)
          go_wp2_with fail
          go_ret3
          exact TraceRun.none_ HS'.out rfl hb.out
        · go_wp2_with fail
          go_roundw
          case rel => exact ⟨k + 1, d2, pre ++ [d], A2, c2, by omega, by go_num, b2, Lib.hid (by first | exact HG2.out rfl | exact HG2.out trivial), Lib.hid (by rw [HS.out]; first | rfl | simp), HL3.out, HO3.out, hbw2, hb.out⟩
          case measure => simp [intOf]; omega
theorem traceNum_bad {ps : List Ins} {c : Cnt} {b : Int} (h : ¬ (twoC ps = true ∧ goodC ps.length c = true)) : traceNum ps c b = ([], 1) := by simp only [traceNum, if_neg h]
theorem traceNum_rng {ps : List Ins} {c : Cnt} {b : Int} (h : twoC ps = true ∧ goodC ps.length c = true) (hb : inB b 0 60 = false) : traceNum ps c b = ([], 2) := by simp only [traceNum, if_pos h, hb]; rfl
theorem traceNum_some {ps : List Ins} {c : Cnt} {b : Int} {l : List Cnt} (h : twoC ps = true ∧ goodC ps.length c = true) (hb : inB b 0 60 = true) (hl : traceC ps b.toNat c = some l) : traceNum ps c b = (flatC l, 0) := by simp only [traceNum, if_pos h, hb, if_true, hl]
theorem traceNum_none {ps : List Ins} {c : Cnt} {b : Int} (h : twoC ps = true ∧ goodC ps.length c = true) (hb : inB b 0 60 = true) (hl : traceC ps b.toNat c = none) : traceNum ps c b = ([], 5) := by simp only [traceNum, if_pos h, hb, if_true, hl]
theorem trace_split {w0 w' : World} {L b : Nat} {o : Option (List Cnt)} {e : Ending} (h : TraceRun w0 L b o e w') : (∃ (l : List Cnt) (s : Int) (q : Bool) (A : Option Addr) (n c : Nat), o = some l ∧ e = .returned (.tuple #[.int .i64 s, .bool q, .int .i64 0]) ∧ w'.heap[L]? = some (.cells #[.slice A n c] 100 (0, 0)) ∧ w'.ownsRow b 57 3 (.slice A n c) n (ints (flatC l)) ∧ Below w0.heap.size w0 w') ∨ (o = none ∧ e = .returned (.tuple #[.int .i64 0, .bool false, .int .i64 5]) ∧ Below w0.heap.size w0 w') := by
  obtain ⟨h1, h2⟩ := h
  rcases o with _ | l
  · exact .inr ⟨rfl, h2, h1⟩
  · obtain ⟨s, q, A, n, c, h3, h4, h5⟩ := h2
    exact .inl ⟨l, s, q, A, n, c, rfl, h3, h4, h5, h1⟩
/-- The box that the functions on traces begin with. -/
theorem one_box (w : World) (x : Cnt) {w1 : World} (hb1 : Below (w.alloc (.cells #[.int .i64 x.at_, .int .i64 x.a, .int .i64 x.b] 57)).heap.size (w.alloc (.cells #[.int .i64 x.at_, .int .i64 x.a, .int .i64 x.b] 57)) w1) :
    BC w1 w.heap.size x ∧ Below w.heap.size w w1 := by
  obtain ⟨h1, h2, _⟩ := box_step hb1
  exact ⟨h2, h1⟩
set_option maxHeartbeats 2000000 in
theorem implTraceCounters_any (w : World) (A : Option Addr) (n c : Nat) (ps : List Ins) (hr : Rd w A (n * 4) (ints (flatI ps))) (hn : n ≤ 1099511627776) (x : Cnt) (b : Int) :
    Calls Try.prog 63 #[.slice A n c, cntV x, .int .i64 b] w (RetNI w 57 3 (ints (traceNum ps x b).1) (traceNum ps x b).2) := by
  have HL : Hid (ps.length = n) := Lib.hid (by have := hr.1; simp [flatI_len] at this; omega)
  have hr2 := hr.alloc (.cells #[.int .i64 x.at_, .int .i64 x.a, .int .i64 x.b] 57)
  cases hT : (twoC ps && goodC n x) with
  | false =>
    have HS := Lib.hid (traceNum_bad (ps := ps) (c := x) (b := b) (by rw [HL.out]; simpa using hT))
    have HT := Lib.hid hT; clear hT
    go_enter Try.func63, Try.ntmps63
    go_wp2_with (go_at_call 118; refine (counting_any _ _ _ _ ps hr2 hn x).mono ?_; rw [HT.out]; rintro e w1 ⟨rfl, hb1⟩; obtain ⟨b0, HB⟩ := one_box w x hb1)
    go_ret2
    refine ⟨none, 0, 0, by rw [HS.out]; rfl, ?_, HB⟩
    rw [HS.out]; exact ownN_nil _ _ _ _
  | true =>
    have hTG : twoC ps = true ∧ goodC ps.length x = true := by rw [HL.out]; simpa using hT
    cases hB : inB b 0 60 with
    | false =>
      have HS := Lib.hid (traceNum_rng hTG hB)
      have HT := Lib.hid hT; have HBB := Lib.hid hB; clear hT hTG hB
      go_enter Try.func63, Try.ntmps63
      go_wp2_with (first
        | (go_at_call 118; refine (counting_any _ _ _ _ ps hr2 hn x).mono ?_; rw [HT.out]; rintro e w1 ⟨rfl, hb1⟩; obtain ⟨b0, HB⟩ := one_box w x hb1)
        | (go_at_call 98; refine (within_any _ _ _ _).mono ?_; rw [HBB.out]; rintro e w' ⟨rfl, rfl⟩))
      go_ret2
      refine ⟨none, 0, 0, by rw [HS.out]; rfl, ?_, HB⟩
      rw [HS.out]; exact ownN_nil _ _ _ _
    | true =>
      have hbb := inB_true.1 hB
      obtain ⟨m, hm⟩ : ∃ m : Nat, b = m := ⟨b.toNat, by omega⟩
      subst hm
      have HBB := Lib.hid hB; have HTG := Lib.hid hTG
      have HT := Lib.hid hT; clear hT hTG hB
      go_enter Try.func63, Try.ntmps63
      go_wp2_with (first
        | (go_at_call 118; refine (counting_any _ _ _ _ ps hr2 hn x).mono ?_; rw [HT.out]; rintro e w1 ⟨rfl, hb1⟩; obtain ⟨b0, HB⟩ := one_box w x hb1; have hlt := b0.lt)
        | (go_at_call 98; refine (within_any _ _ _ _).mono ?_; rw [HBB.out]; rintro e w' ⟨rfl, rfl⟩))
      have hL0 : ((w1.alloc (.cells #[] 57)).alloc (.cells #[.slice (some ⟨w1.heap.size, 0, none⟩) 0 0] 100)).heap[w1.heap.size + 1]? = some (.cells #[.slice (some ⟨w1.heap.size, 0, none⟩) 0 0] 100 (0, 0)) := by
        have := box_new (w1.alloc (.cells #[] 57)) #[.slice (some ⟨w1.heap.size, 0, none⟩) 0 0] 100
        simpa using this
      have hO0 := (ownN_lit w1 #[] 0 3 57 rfl (by omega)).alloc (.cells #[.slice (some ⟨w1.heap.size, 0, none⟩) 0 0] 100)
      refine (runCountersT_any w _ A n c ps hr hn (twoC_ok HTG.out.1) x HTG.out.2 m (by omega) w.heap.size (Nat.le_refl _) ((HB.alloc HB.size _).alloc (by have := HB.size; simp; omega) _) ((b0.alloc _).alloc _) (w1.heap.size + 1) w1.heap.size (by omega) hlt (by simp; omega) _ _ hL0 hO0).mono ?_
      intro e w2 hp
      rcases trace_split hp with ⟨l, s, q, A3, n3, c3, ho, rfl, hL3, hO3, hB3⟩ | ⟨ho, rfl, hB3⟩
      · have HS' := Lib.hid (traceNum_some HTG.out HBB.out ho)
        have hc3 := blk_cell hL3 0 (v := .slice A3 n3 c3) rfl
        have HO3 := Lib.hid (ownN_base hO3 HB.size)
        have HB3 := Lib.hid hB3
        clear hp ho hL3 hO3 hB3 hL0 hO0
        go_wp2_with fail
        go_ret2
        refine ⟨A3, n3, c3, by rw [HS'.out]; rfl, ?_, HB3.out⟩
        rw [HS'.out]; exact HO3.out
      · have HS' := Lib.hid (traceNum_none HTG.out HBB.out ho)
        have HB3 := Lib.hid hB3
        clear hp ho hB3 hL0 hO0
        go_wp2_with fail
        go_ret2
        refine ⟨none, 0, 0, by rw [HS'.out]; rfl, ?_, HB3.out⟩
        rw [HS'.out]; exact ownN_nil _ _ _ _
end Go.Proofs.Ytbecofpklndpaaa
