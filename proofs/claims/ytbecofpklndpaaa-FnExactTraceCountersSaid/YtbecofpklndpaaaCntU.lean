/- Two counters: the program's run, with a function that is called with all counters. Written by mk_cntu.py. -/
import Derived.Test.YtbecofpklndpaaaCntR
import Derived.Deep.Draws
namespace Go.Proofs.Ytbecofpklndpaaa
open Go.RowKit
set_option linter.unusedSimpArgs false
set_option linter.unusedVariables false
/-- A call that leaves the world alone, behind draws that have been joined. -/
theorem quiet_more {P : Program} {f : FuncId} {args : Array Value} {w : World} {a b : Nat} {v : Value} (h : Calls P f args (w.drewN (a + b)) fun e w' => e = .returned v ∧ w.drewN (a + b) = w') :
    Calls P f args (w.drewN (a + b)) fun e w' => e = .returned v ∧ ∃ c, w' = w.drewN (a + c) := h.mono fun _ _ ⟨h1, h2⟩ => ⟨h1, b, h2.symm⟩
set_option maxHeartbeats 400000 in
theorem runCounters1_any (w : World) (x : Cnt) : Calls Try.prog 126 #[cntV x] w fun e w' => e = .returned (.tuple #[]) ∧ Below w.heap.size w w' := by
  go_enter Try.func126, Try.ntmps126
  go_wp2_with fail
  go_end0
  exact ⟨rfl, below_new _ _⟩
/-- What the program's run leaves: its numbers, and the counters behind the pointer. -/
def RunPost (w : World) (g : Nat) (o : Option (Cnt × Nat × Bool)) (e : Ending) (w' : World) : Prop :=
  Ch (· = g) w w' ∧ match o with
    | some (d, n, h) => e = .returned (.tuple #[.int .i64 n, .bool h, .int .i64 0]) ∧ BC w' g d
    | none => e = .returned (.tuple #[.int .i64 0, .bool false, .int .i64 5]) ∧ ∃ d, BC w' g d
theorem RunPost.some_ {w w' : World} {g n : Nat} {o : Option (Cnt × Nat × Bool)} {d : Cnt} {h : Bool} {e : Ending} (ho : o = some (d, n, h)) (h1 : e = .returned (.tuple #[.int .i64 n, .bool h, .int .i64 0])) (h2 : BC w' g d) (h3 : Ch (· = g) w w') : RunPost w g o e w' := by
  subst ho; exact ⟨h3, h1, h2⟩
theorem RunPost.none_ {w w' : World} {g : Nat} {o : Option (Cnt × Nat × Bool)} {d : Cnt} {e : Ending} (ho : o = none) (h1 : e = .returned (.tuple #[.int .i64 0, .bool false, .int .i64 5])) (h2 : BC w' g d) (h3 : Ch (· = g) w w') : RunPost w g o e w' := by
  subst ho; exact ⟨h3, h1, d, h2⟩
theorem BC.below {w w' : World} {g B : Nat} {c : Cnt} (h : BC w g c) (hb : Below B w w') (hg : g < B) : BC w' g c := Blk3.below h hb hg
theorem BC.lt {w : World} {g : Nat} {c : Cnt} (h : BC w g c) : g < w.heap.size := Blk3.lt h

set_option maxHeartbeats 4000000 in
theorem runCounters_any (w0 w : World) (A : Option Addr) (n c : Nat) (ps : List Ins) (hr : Rd w0 A (n * 4) (ints (flatI ps))) (hn : n ≤ 1099511627776) (hP : okProg ps = true) (x : Cnt) (hx : goodC ps.length x = true) (m : Nat) (hm : m ≤ 20000)
    (g : Nat) (hg0 : w0.heap.size ≤ g) (hb0 : Below w0.heap.size w0 w) (hbc : BC w g x) :
    Calls Try.prog 125 #[.slice A n c, .pointer (some ⟨g, 0, none⟩), .int .i64 m, .func (.func 126) #[] #[]] w (RunPost w g (runC ps m 0 x)) := by
  have HL : Hid (ps.length = n) := Lib.hid (by have := hr.1; simp [flatI_len] at this; omega)
  have HP := Lib.hid hP
  have HX := Lib.hid hx
  clear hP hx
  go_enter Try.func125, Try.ntmps125
  go_wp2_with fail
  go_loopw [11] (fun q wr => ∃ (k : Nat) (d : Cnt), k ≤ m ∧ q = .int .i64 k ∧ BC wr g d ∧ Hid (goodC ps.length d = true) ∧ Hid (runC ps m 0 x = runC ps (m - k) k d) ∧ Ch (· = g) w wr ∧ Below w0.heap.size w0 wr) (fun q _ => m + 1 - (intOf q).toNat)
  case atStart => exact ⟨0, x, Nat.zero_le _, rfl, hbc, HX, Lib.hid rfl, Ch.refl _ _, hb0⟩
  case round =>
    obtain ⟨k, d, hk, rfl, b0, HG, HR, hC, hb⟩ := hrel
    clear hbc hb0
    obtain ⟨q0, q1, q2⟩ := b0.cells
    have HB0 := Lib.hid b0
    go_wp2_with fail
    refine (runCounters1_any _ d).mono ?_
    rintro e w1 ⟨rfl, hb1⟩
    replace b0 := HB0.out.below hb1 HB0.out.lt
    replace hC := hC.trans (ch_below hb1)
    replace hb := hb.trans (hb1.mono hb.size)
    clear q0 q1 q2 hb1 HB0
    obtain ⟨q0, q1, q2⟩ := b0.cells
    by_cases hE : d.at_ = n
    · have hee : (d.at_ == (n : Int)) = true := by simpa using hE
      have HS : Hid (runC ps m 0 x = some (d, k, true)) := Lib.hid (by rw [HR.out, run_end (by rw [HL.out]; exact hE)])
      clear hE
      go_wp2_with fail
      go_quiet ((go_at_call 119; exact Calls.quiet_of_same ((sizeInstr_any _ _ _ _ hn).mono fun e w' h => ⟨h.1, h.2.symm⟩)))
      go_wp2_with fail
      go_quiet ((go_at_call 119; exact quiet_more (sizeInstr_any _ _ _ _ hn)))
      go_wp2_with fail
      go_ret3
      exact RunPost.some_ HS.out rfl b0 (by first | exact ch_drewN hC | exact ch_drewN (ch_drewN hC))
    · have hee : (d.at_ == (n : Int)) = false := by simpa using hE
      by_cases hK : k = m
      · subst hK
        have hkk : ((k : Int) == (k : Int)) = true := by simp
        have HS : Hid (runC ps k 0 x = some (d, k, false)) := Lib.hid (by rw [HR.out, Nat.sub_self, run_zero (by rw [HL.out]; exact hE)])
        clear hE
        go_wp2_with fail
        go_quiet ((go_at_call 119; exact Calls.quiet_of_same ((sizeInstr_any _ _ _ _ hn).mono fun e w' h => ⟨h.1, h.2.symm⟩)))
        go_wp2_with fail
        go_quiet ((go_at_call 119; exact quiet_more (sizeInstr_any _ _ _ _ hn)))
        go_wp2_with fail
        go_ret3
        exact RunPost.some_ HS.out rfl b0 (by first | exact ch_drewN hC | exact ch_drewN (ch_drewN hC))
      · have hkk : ((k : Int) == (m : Int)) = false := by simp; omega
        have hkm : k < m := by omega
        obtain ⟨j, y, hj, hjn, hy, hat⟩ := at_some (ps := ps) (c := d) HG.out (by rw [HL.out]; exact hE)
        obtain ⟨_, g2, g3⟩ := goodC_parts HG.out
        obtain ⟨d2, ok, hq⟩ : ∃ d2 ok, stepC y d = (d2, ok) := ⟨_, _, rfl⟩
        have HS : Hid (runC ps m 0 x = if ok = true then runC ps (m - (k + 1)) (k + 1) d2 else none) := Lib.hid (by
          rw [HR.out, show m - k = (m - (k + 1)) + 1 by omega, run_step (by rw [HL.out]; exact hE) hat, hq])
        have HST : Hid (∀ w1 : World, Rd w1 A (n * 4) (ints (flatI ps)) → BC w1 g d → Calls Try.prog 120 #[.pointer (some ⟨g, 0, none⟩), .slice A n c] w1 (StepPost w1 g d2 ok)) := Lib.hid fun w1 hr1 hb1 => by
          have h := step_any w1 A n c ps hr1 hn y j hy d.a d.b g2 g3 g (by rw [← hj]; exact hb1)
          rw [← hj] at h
          have e : stepC y ⟨d.at_, d.a, d.b⟩ = (d2, ok) := hq
          rw [e] at h
          exact h
        have HG2 : Hid (ok = true → goodC ps.length d2 = true) := Lib.hid (fun h => by
          have := stepC_good HP.out hy HG.out (by rw [hq]; exact h)
          rwa [hq] at this)
        clear hE hK hj hy hat hq
        go_wp2_with fail
        go_quiet ((go_at_call 119; exact Calls.quiet_of_same ((sizeInstr_any _ _ _ _ hn).mono fun e w' h => ⟨h.1, h.2.symm⟩)))
        go_wp2_with fail
        refine (HST.out _ (hr.below (below_drewN hb) (Nat.le_refl _)) b0).mono ?_
        rintro e w2 ⟨rfl, b2, hg2⟩
        replace hC := (ch_drewN (n := nq) hC).trans (ch_grown hg2 (fun k e => by simpa using e.symm))
        replace hb := Lib.hid (below_grownP (below_drewN (n := nq) hb) hg2 hb.size hg0)
        clear q0 q1 q2 b0 hg2
        cases ok
        · have HS' : Hid (runC ps m 0 x = none) := Lib.hid (by rw [HS.out]; rfl)
          go_wp2_with fail
          go_ret3
          exact RunPost.none_ HS'.out rfl b2 hC
        · go_wp2_with fail
          go_roundw
          case rel => exact ⟨k + 1, d2, by omega, by go_num, b2, Lib.hid (by first | exact HG2.out rfl | exact HG2.out trivial), Lib.hid (by rw [HS.out]; first | rfl | simp), hC, hb.out⟩
          case measure => simp [intOf]; omega
end Go.Proofs.Ytbecofpklndpaaa
