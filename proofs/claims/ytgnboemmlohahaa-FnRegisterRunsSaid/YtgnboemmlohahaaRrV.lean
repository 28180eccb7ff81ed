/- Programs are valid (program). -/
import Derived.Test.YtgnboemmlohahaaSmw
import Derived.Test.YtgnboemmlohahaaGA
namespace Go.Proofs.Ytgnboemmlohahaa
open Go.RowKit
set_option linter.unusedVariables false
set_option linter.unusedSimpArgs false
abbrev insV (x : Ins) : Value := .agg #[.int .i64 x.kind, .int .i64 x.reg, .int .i64 x.thn, .int .i64 x.els]
set_option maxHeartbeats 400000 in
theorem isRegister_any (w : World) (x : Int) : Calls Try.prog 38 #[.int .i64 x] w fun e w' => e = .returned (.bool (inB x 0 23)) ∧ w = w' := by
  go_enter Try.func38, Try.ntmps38
  go_wp2_with (go_at_call 36; refine (within_any _ _ _ _).mono ?_; rintro e w' ⟨rfl, rfl⟩)
  go_ret
  exact ⟨rfl, rfl⟩
set_option maxHeartbeats 400000 in
theorem sizeInstr_any (w : World) (A : Option Addr) (n c : Nat) (hn : n ≤ 1099511627776) : Calls Try.prog 21 #[.slice A n c] w fun e w' => e = .returned (.int .i64 n) ∧ w = w' := by
  go_enter Try.func21, Try.ntmps21
  go_wp2_with fail
  go_ret
  exact ⟨rfl, rfl⟩
set_option maxHeartbeats 1000000 in
theorem validInstr_any (w : World) (x : Ins) (n : Int) : Calls Try.prog 20 #[insV x, .int .i64 n] w fun e w' => e = .returned (.bool (okIns n x)) ∧ Below w.heap.size w w' := by
  obtain ⟨kd, rg, th, el⟩ := x
  cases hok : okIns n ⟨kd, rg, th, el⟩ with
  | true =>
    obtain ⟨h1, h2, h3⟩ := okIns_true hok
    clear hok
    rcases h3 with ⟨rfl, rfl⟩ | ⟨rfl, h3⟩
    all_goals
      go_enter Try.func20, Try.ntmps20
      go_wp2_with (first
        | (go_at_call 38; refine (isRegister_any _ _).mono ?_; rintro e w' ⟨rfl, rfl⟩)
        | (go_at_call 36; refine (within_any _ _ _ _).mono ?_; rintro e w' ⟨rfl, rfl⟩))
      go_ret
      exact ⟨rfl, below_new _ _⟩
  | false =>
    rcases okIns_false hok with h1 | ⟨h1, h2⟩ | ⟨h1, h2, ⟨rfl, h3⟩ | ⟨rfl, h3⟩ | ⟨h3, h4⟩⟩
    all_goals
      clear hok
      (try have h5 : (el != 0) = true := by simpa using h3)
      go_enter Try.func20, Try.ntmps20
      go_wp2_with (first
        | (go_at_call 38; refine (isRegister_any _ _).mono ?_; rintro e w' ⟨rfl, rfl⟩)
        | (go_at_call 36; refine (within_any _ _ _ _).mono ?_; rintro e w' ⟨rfl, rfl⟩))
      go_ret
      exact ⟨rfl, below_new _ _⟩

theorem box4 (w : World) (T : Nat) (a b c d : Value) : ((w.alloc (.cells #[a, b, c, d] T)).cell? ⟨w.heap.size, 0, none⟩ = some a ∧ (w.alloc (.cells #[a, b, c, d] T)).cell? ⟨w.heap.size, 1, none⟩ = some b ∧ (w.alloc (.cells #[a, b, c, d] T)).cell? ⟨w.heap.size, 2, none⟩ = some c ∧ (w.alloc (.cells #[a, b, c, d] T)).cell? ⟨w.heap.size, 3, none⟩ = some d) := by
  refine ⟨?_, ?_, ?_, ?_⟩ <;> rw [cell_of_row _ w.heap.size _ _ T (0, 0) (heap_alloc_new w _)] <;> rfl

set_option maxHeartbeats 1000000 in
theorem validProgram1_any (w : World) (x : Ins) (g : Nat) (A : Option Addr) (n c : Nat) (hg : g < w.heap.size) (hc : w.cell? ⟨g, 0, none⟩ = some (.slice A n c)) (hn : n ≤ 1099511627776) :
    Calls Try.prog 19 #[insV x, .pointer (some ⟨g, 0, none⟩)] w fun e w' => e = .returned (.bool (!okIns n x)) ∧ Below w.heap.size w w' := by
  have hc' := (below_new w (.cells #[.int .i64 x.kind, .int .i64 x.reg, .int .i64 x.thn, .int .i64 x.els] 49)).cell (p := ⟨g, 0, none⟩) hg |>.trans hc
  clear hc
  obtain ⟨q0, q1, q2, q3⟩ := box4 w 49 (.int .i64 x.kind) (.int .i64 x.reg) (.int .i64 x.thn) (.int .i64 x.els)
  go_enter Try.func19, Try.ntmps19
  go_wp2_with fail
  go_region_held3 (fun w' => w'.cell? ⟨g, 0, none⟩ = some (.slice A n c) ∧ w'.cell? ⟨w.heap.size, 0, none⟩ = some (.int .i64 x.kind) ∧ w'.cell? ⟨w.heap.size, 1, none⟩ = some (.int .i64 x.reg) ∧ w'.cell? ⟨w.heap.size, 2, none⟩ = some (.int .i64 x.thn) ∧ w'.cell? ⟨w.heap.size, 3, none⟩ = some (.int .i64 x.els)) (first | exact ⟨hc', q0, q1, q2, q3⟩ | go_keep) (first
    | (go_at_call 21; refine (sizeInstr_any _ _ _ _ hn).mono ?_; rintro e w' ⟨rfl, rfl⟩)
    | (go_at_call 20
       refine (validInstr_any _ x _).mono ?_
       rintro e w' ⟨rfl, hb2⟩
       (try replace hb2 := below_undrew hb2)
       (try replace hb2 := below_undrewN hb2)
       have hc' := (hb2.cell (p := ⟨g, 0, none⟩) (by simp; omega)).trans hc'
       have q0 := (hb2.cell (p := ⟨w.heap.size, 0, none⟩) (by simp)).trans q0
       have q1 := (hb2.cell (p := ⟨w.heap.size, 1, none⟩) (by simp)).trans q1
       have q2 := (hb2.cell (p := ⟨w.heap.size, 2, none⟩) (by simp)).trans q2
       have q3 := (hb2.cell (p := ⟨w.heap.size, 3, none⟩) (by simp)).trans q3))
  all_goals
    go_wp2_with fail
    go_ret
    exact ⟨rfl, (below_new _ _).trans (hb2.mono (by simp))⟩
/-- The index that a search returns: not negative just where something was found. -/
def FoundN (w : World) (bad : Bool) (e : Ending) (w' : World) : Prop := ∃ i : Int, e = .returned (.int .i64 i) ∧ decide (0 ≤ i) = bad ∧ Below w.heap.size w w'
set_option maxHeartbeats 1000000 in
theorem indexFuncVP (w : World) (A : Option Addr) (n c : Nat) (ps : List Ins) (hr : Rd w A (n * 4) (ints (flatI ps))) (hn : n ≤ 1099511627776) (g c2 : Nat) (hg : g < w.heap.size) (hcg : w.cell? ⟨g, 0, none⟩ = some (.slice A n c2)) :
    Calls Try.prog 37 #[.slice A n c, .func (.func 19) #[] #[.pointer (some ⟨g, 0, none⟩)]] w (FoundN w (!ps.all (okIns n))) := by
  have HL : Hid (ps.length = n) := Lib.hid (by have := hr.1; simp [flatI_len] at this; omega)
  go_enter Try.func37, Try.ntmps37
  go_wp2_with fail
  go_loopw [8] (fun q wr => ∃ k : Nat, k ≤ n ∧ q = .int .i64 k ∧ Hid ((ps.take k).all (okIns n) = true) ∧ Below w.heap.size w wr) (fun q _ => n - (intOf q).toNat)
  case atStart => exact ⟨0, Nat.zero_le _, rfl, Lib.hid (by simp), Below.refl _ _⟩
  case round =>
    obtain ⟨k, hk, rfl, hall, hb⟩ := hrel
    by_cases h1 : k < n
    · obtain ⟨x, hx⟩ := get_some (xs := ps) (k := k) (by rw [HL.out]; omega)
      obtain ⟨b, off, rfl, hbs, q0, q1, q2, q3⟩ := rdI hr hx
      replace q0 := (hb.cell (p := ⟨b, off + k * 4, none⟩) hbs).trans q0
      replace q1 := (hb.cell (p := ⟨b, off + k * 4 + 1, none⟩) hbs).trans q1
      replace q2 := (hb.cell (p := ⟨b, off + k * 4 + 2, none⟩) hbs).trans q2
      replace q3 := (hb.cell (p := ⟨b, off + k * 4 + 3, none⟩) hbs).trans q3
      have HX := Lib.hid hx
      clear hx
      by_cases hin : (okIns n) x = true
      · go_wp2_with (go_at_call 19; refine (validProgram1_any _ x g _ n c2 (Nat.lt_of_lt_of_le hg hb.size) ((hb.cell (p := ⟨g, 0, none⟩) hg).trans hcg) hn).mono ?_; rintro e w' ⟨rfl, hb2⟩)
        go_roundw
        case rel => exact ⟨k + 1, by omega, by go_num, Lib.hid (all_step hall.out HX.out hin), hb.trans (hb2.mono hb.size)⟩
        case measure => simp [intOf]; omega
      · have hin' : (okIns n) x = false := by simpa using hin
        clear hin
        go_wp2_with (go_at_call 19; refine (validProgram1_any _ x g _ n c2 (Nat.lt_of_lt_of_le hg hb.size) ((hb.cell (p := ⟨g, 0, none⟩) hg).trans hcg) hn).mono ?_; rintro e w' ⟨rfl, hb2⟩)
        go_ret
        exact ⟨k, rfl, by rw [all_out HX.out hin']; simp, hb.trans (hb2.mono hb.size)⟩
    · go_wp2_with fail
      go_ret
      have h := hall.out
      rw [List.take_of_length_le (by rw [HL.out]; omega)] at h
      exact ⟨-1, rfl, by rw [h]; rfl, hb⟩
set_option maxHeartbeats 400000 in
theorem containsFuncVP (w : World) (A : Option Addr) (n c : Nat) (ps : List Ins) (hr : Rd w A (n * 4) (ints (flatI ps))) (hn : n ≤ 1099511627776) (g c2 : Nat) (hg : g < w.heap.size) (hcg : w.cell? ⟨g, 0, none⟩ = some (.slice A n c2)) :
    Calls Try.prog 18 #[.slice A n c, .func (.func 19) #[] #[.pointer (some ⟨g, 0, none⟩)]] w (RetV w (.bool (!ps.all (okIns n)))) := by
  go_enter Try.func18, Try.ntmps18
  go_wp2_with fail
  refine (indexFuncVP _ _ _ _ _ hr hn g c2 hg hcg).mono ?_
  rintro e w' ⟨i, rfl, hi, hb⟩
  have HI := Lib.hid hi; clear hi
  go_wp2_with fail
  go_ret
  exact ⟨by rw [← HI.out]; rfl, hb⟩

set_option maxHeartbeats 1000000 in
theorem ValidProgram_any (w : World) (A : Option Addr) (n c : Nat) (ps : List Ins) (hr : Rd w A (n * 4) (ints (flatI ps))) (hn : n ≤ 1099511627776) : Calls Try.prog 8 #[.slice A n c] w (RetV w (.bool (okProg ps))) := by
  have HL : Hid (ps.length = n) := Lib.hid (by have := hr.1; simp [flatI_len] at this; omega)
  by_cases h4 : n ≤ 400
  · have hd : decide ((n : Int) ≤ 400) = true := by simp; omega
    have HO : Hid (okProg ps = ps.all (okIns n)) := Lib.hid (by rw [okProg, HL.out]; simp [h4])
    have hc0 : (w.alloc (.cells #[.slice A n c] 24)).cell? ⟨w.heap.size, 0, none⟩ = some (.slice A n c) := by
      rw [cell_of_row _ w.heap.size _ _ _ (0, 0) (heap_alloc_new w _)]; rfl
    have HC := Lib.hid hc0; clear hc0
    have hr1 := hr.alloc (.cells #[.slice A n c] 24)
    go_enter Try.func8, Try.ntmps8
    go_wp2_with (go_at_call 18; refine (containsFuncVP _ _ _ _ _ hr1 hn w.heap.size c (by simp) HC.out).mono ?_; rintro e w' ⟨rfl, hb2⟩)
    go_ret
    exact ⟨by rw [HO.out]; simp, (below_new _ _).trans (hb2.mono (by simp))⟩
  · have hd : decide ((n : Int) ≤ 400) = false := by simp; omega
    have HO : Hid (okProg ps = false) := Lib.hid (by rw [okProg, HL.out]; simp; omega)
    go_enter Try.func8, Try.ntmps8
    go_wp2_with fail
    go_ret
    exact ⟨by rw [HO.out]; rfl, below_new _ _⟩

end Go.Proofs.Ytgnboemmlohahaa
