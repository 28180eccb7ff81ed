/- Two counters: the program's own tests. -/
import Derived.Test.YtbecofpklndpaaaCntT
namespace Go.Proofs.Ytbecofpklndpaaa
open Go.RowKit
set_option linter.unusedSimpArgs false
set_option linter.unusedVariables false

abbrev insV (x : Ins) : Value := .agg #[.int .i64 x.kind, .int .i64 x.reg, .int .i64 x.thn, .int .i64 x.els]
set_option maxHeartbeats 400000 in
theorem isRegister_any (w : World) (x : Int) : Calls Try.prog 234 #[.int .i64 x] w fun e w' => e = .returned (.bool (inB x 0 23)) ∧ w = w' := by
  go_enter Try.func234, Try.ntmps234
  go_wp2_with (go_at_call 98; refine (within_any _ _ _ _).mono ?_; rintro e w' ⟨rfl, rfl⟩)
  go_ret
  exact ⟨rfl, rfl⟩
set_option maxHeartbeats 400000 in
theorem sizeInstr_any (w : World) (A : Option Addr) (n c : Nat) (hn : n ≤ 1099511627776) : Calls Try.prog 119 #[.slice A n c] w fun e w' => e = .returned (.int .i64 n) ∧ w = w' := by
  go_enter Try.func119, Try.ntmps119
  go_wp2_with fail
  go_ret
  exact ⟨rfl, rfl⟩
set_option maxHeartbeats 1000000 in
theorem validInstr_any (w : World) (x : Ins) (n : Int) : Calls Try.prog 175 #[insV x, .int .i64 n] w fun e w' => e = .returned (.bool (okIns n x)) ∧ Below w.heap.size w w' := by
  obtain ⟨kd, rg, th, el⟩ := x
  cases hok : okIns n ⟨kd, rg, th, el⟩ with
  | true =>
    obtain ⟨h1, h2, h3⟩ := okIns_true hok
    clear hok
    rcases h3 with ⟨rfl, rfl⟩ | ⟨rfl, h3⟩
    all_goals
      go_enter Try.func175, Try.ntmps175
      go_wp2_with (first
        | (go_at_call 234; refine (isRegister_any _ _).mono ?_; rintro e w' ⟨rfl, rfl⟩)
        | (go_at_call 98; refine (within_any _ _ _ _).mono ?_; rintro e w' ⟨rfl, rfl⟩))
      go_ret
      exact ⟨rfl, below_new _ _⟩
  | false =>
    rcases okIns_false hok with h1 | ⟨h1, h2⟩ | ⟨h1, h2, ⟨rfl, h3⟩ | ⟨rfl, h3⟩ | ⟨h3, h4⟩⟩
    all_goals
      clear hok
      (try have h5 : (el != 0) = true := by simpa using h3)
      go_enter Try.func175, Try.ntmps175
      go_wp2_with (first
        | (go_at_call 234; refine (isRegister_any _ _).mono ?_; rintro e w' ⟨rfl, rfl⟩)
        | (go_at_call 98; refine (within_any _ _ _ _).mono ?_; rintro e w' ⟨rfl, rfl⟩))
      go_ret
      exact ⟨rfl, below_new _ _⟩

theorem box4 (w : World) (T : Nat) (a b c d : Value) : ((w.alloc (.cells #[a, b, c, d] T)).cell? ⟨w.heap.size, 0, none⟩ = some a ∧ (w.alloc (.cells #[a, b, c, d] T)).cell? ⟨w.heap.size, 1, none⟩ = some b ∧ (w.alloc (.cells #[a, b, c, d] T)).cell? ⟨w.heap.size, 2, none⟩ = some c ∧ (w.alloc (.cells #[a, b, c, d] T)).cell? ⟨w.heap.size, 3, none⟩ = some d) := by
  refine ⟨?_, ?_, ?_, ?_⟩ <;> rw [cell_of_row _ w.heap.size _ _ T (0, 0) (heap_alloc_new w _)] <;> rfl

set_option maxHeartbeats 1000000 in
theorem validProgram1_any (w : World) (x : Ins) (g : Nat) (A : Option Addr) (n c : Nat) (hg : g < w.heap.size) (hc : w.cell? ⟨g, 0, none⟩ = some (.slice A n c)) (hn : n ≤ 1099511627776) :
    Calls Try.prog 174 #[insV x, .pointer (some ⟨g, 0, none⟩)] w fun e w' => e = .returned (.bool (!okIns n x)) ∧ Below w.heap.size w w' := by
  have hc' := (below_new w (.cells #[.int .i64 x.kind, .int .i64 x.reg, .int .i64 x.thn, .int .i64 x.els] 156)).cell (p := ⟨g, 0, none⟩) hg |>.trans hc
  clear hc
  obtain ⟨q0, q1, q2, q3⟩ := box4 w 156 (.int .i64 x.kind) (.int .i64 x.reg) (.int .i64 x.thn) (.int .i64 x.els)
  go_enter Try.func174, Try.ntmps174
  go_wp2_with fail
  go_region_held3 (fun w' => w'.cell? ⟨g, 0, none⟩ = some (.slice A n c) ∧ w'.cell? ⟨w.heap.size, 0, none⟩ = some (.int .i64 x.kind) ∧ w'.cell? ⟨w.heap.size, 1, none⟩ = some (.int .i64 x.reg) ∧ w'.cell? ⟨w.heap.size, 2, none⟩ = some (.int .i64 x.thn) ∧ w'.cell? ⟨w.heap.size, 3, none⟩ = some (.int .i64 x.els)) (first | exact ⟨hc', q0, q1, q2, q3⟩ | go_keep) (first
    | (go_at_call 119; refine (sizeInstr_any _ _ _ _ hn).mono ?_; rintro e w' ⟨rfl, rfl⟩)
    | (go_at_call 175
       refine (validInstr_any _ x _).mono ?_
       rintro e w' ⟨rfl, hb2⟩
       (try replace hb2 := below_undrew hb2)
       (try replace hb2 := below_undrewN hb2)
       have hc' := (hb2.cell (p := ⟨g, 0, none⟩) (by simp; omega)).trans hc'
       have q0 := (hb2.cell (p := ⟨w.heap.size, 0, none⟩) (by simp)).trans q0
       have q1 := (hb2.cell (p := ⟨w.heap.size, 1, none⟩) (by simp)).trans q1
       have q2 := (hb2.cell (p := ⟨w.heap.size, 2, none⟩) (by simp)).trans q2
       have q3 := (hb2.cell (p := ⟨w.heap.size, 3, none⟩) (by simp)).trans q3))
  all_goals
    go_wp2_with fail
    go_ret
    exact ⟨rfl, (below_new _ _).trans (hb2.mono (by simp))⟩
end Go.Proofs.Ytbecofpklndpaaa
