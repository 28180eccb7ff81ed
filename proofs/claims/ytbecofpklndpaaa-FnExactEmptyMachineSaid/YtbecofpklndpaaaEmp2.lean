/- EmptyMachine of both sides. -/
import Derived.Test.YtbecofpklndpaaaEmp
namespace Go.Proofs.Ytbecofpklndpaaa
open Go.RowKit
set_option linter.unusedVariables false
set_option linter.unusedSimpArgs false
def szOk (a s : Int) : Bool := inB a 1 6 && inB s 2 6
def repI (n : Nat) : List Int := (List.replicate n [0, 0, -1]).flatten
theorem repI_R (n : Nat) : ints (repI n) = repR n := by simp [repI, repR, rRow, ints, List.map_flatten]
def emC (a s : Int) : Int := if szOk a s = true then 0 else 2
def emS (a s : Int) : Int := if szOk a s = true then s else 0
def emA (a s : Int) : Int := if szOk a s = true then a else 0
def emR (a s : Int) : List Int := if szOk a s = true then repI (a.toNat * s.toNat) else []
theorem emR_len (a s : Int) : (emR a s).length ≤ 1000000 := by
  unfold emR
  split
  · rename_i h
    simp only [szOk, Bool.and_eq_true] at h
    have h1 := inB_true.1 h.1
    have h2 := inB_true.1 h.2
    have : a.toNat * s.toNat ≤ 36 := prod_le (by omega) (by omega)
    simp [repI]
    omega
  · simp
def RetM (w : World) (s a : Int) (rs : List Int) (code : Int) (e : Ending) (w' : World) : Prop := ∃ (A : Option Addr) (n c : Nat), e = .returned (.tuple #[machV s a A n c, .int .i64 code]) ∧ w'.ownsRow w.heap.size 214 3 (.slice A n c) n (ints rs) ∧ Below w.heap.size w w'
theorem em_no {a s : Int} (h : szOk a s = false) : emC a s = 2 ∧ emS a s = 0 ∧ emA a s = 0 ∧ emR a s = [] := by simp [emC, emS, emA, emR, h]
theorem em_yes {a s : Nat} (h : szOk a s = true) : emC a s = 0 ∧ emS a s = s ∧ emA a s = a ∧ ints (emR a s) = repR (a * s) := by
  refine ⟨by simp [emC, h], by simp [emS, h], by simp [emA, h], ?_⟩
  rw [emR, if_pos h, repI_R]
  simp
theorem sz_nat {a s : Int} (h : szOk a s = true) : ∃ a' s' : Nat, a = a' ∧ s = s' ∧ 1 ≤ a' ∧ a' ≤ 6 ∧ 2 ≤ s' ∧ s' ≤ 6 := by
  simp only [szOk, Bool.and_eq_true] at h
  have h1 := inB_true.1 h.1
  have h2 := inB_true.1 h.2
  exact ⟨a.toNat, s.toNat, by omega, by omega, by omega, by omega, by omega, by omega⟩
theorem sz_cases (a s : Int) : (inB a 1 6 = false ∧ szOk a s = false) ∨ (inB a 1 6 = true ∧ szOk a s = inB s 2 6) := by
  unfold szOk
  cases inB a 1 6 <;> simp
set_option maxHeartbeats 400000 in
theorem l30Size_any (w : World) (a s : Int) : Calls Try.prog 101 #[.int .i64 a, .int .i64 s] w fun e w' => e = .returned (.bool (szOk a s)) ∧ w = w' := by
  rcases sz_cases a s with ⟨h, hO⟩ | ⟨h, hO⟩
  all_goals
    have HO := Lib.hid hO; clear hO
    go_enter Try.func101, Try.ntmps101
    go_wp2_with (go_at_call 154; refine (l00In_any _ _ _ _).mono ?_; rintro e w' ⟨rfl, rfl⟩)
    go_ret
    exact ⟨by rw [HO.out]; rfl, rfl⟩
set_option maxHeartbeats 400000 in
theorem symbolsOk_any (w : World) (s : Int) : Calls Try.prog 187 #[.int .i64 s] w fun e w' => e = .returned (.bool (inB s 2 6)) ∧ w = w' := by
  go_enter Try.func187, Try.ntmps187
  go_wp2_with (go_at_call 98; refine (within_any _ _ _ _).mono ?_; rintro e w' ⟨rfl, rfl⟩)
  go_ret
  exact ⟨rfl, rfl⟩
set_option maxHeartbeats 400000 in
theorem budgetOk_one (w : World) : Calls Try.prog 124 #[.int .i64 1] w fun e w' => e = .returned (.bool true) ∧ w = w' := by
  have HB : Hid (inB 1 1 20000 = true) := Lib.hid (by decide)
  go_enter Try.func124, Try.ntmps124
  go_wp2_with (go_at_call 98; refine (within_any _ _ _ _).mono ?_; rw [HB.out]; rintro e w' ⟨rfl, rfl⟩)
  go_ret
  exact ⟨rfl, rfl⟩
set_option maxHeartbeats 1000000 in
theorem sizesCode_any (w : World) (a s : Int) : Calls Try.prog 103 #[.int .i64 a, .int .i64 s, .int .i64 1] w fun e w' => e = .returned (.int .i64 (emC a s)) ∧ w = w' := by
  rcases sz_cases a s with ⟨h, hO⟩ | ⟨h, hO⟩
  · have HO : Hid (emC a s = 2) := Lib.hid (em_no hO).1
    clear hO
    go_enter Try.func103, Try.ntmps103
    go_wp2_with (first
      | (go_at_call 98; refine (within_any _ _ _ _).mono ?_; rw [h]; rintro e w' ⟨rfl, rfl⟩))
    go_ret
    exact ⟨by rw [HO.out]; rfl, rfl⟩
  · cases h2 : inB s 2 6
    all_goals
      have HO : Hid (emC a s = if inB s 2 6 = true then 0 else 2) := Lib.hid (by rw [emC, hO])
      rw [h2] at HO
      have H2 := Lib.hid h2; have H1 := Lib.hid h
      clear h2 h hO
      go_enter Try.func103, Try.ntmps103
      go_wp2_with (first
        | (go_at_call 98; refine (within_any _ _ _ _).mono ?_; rw [H1.out]; rintro e w' ⟨rfl, rfl⟩)
        | (go_at_call 187; refine (symbolsOk_any _ _).mono ?_; rw [H2.out]; rintro e w' ⟨rfl, rfl⟩)
        | (go_at_call 124; refine (budgetOk_one _).mono ?_; rintro e w' ⟨rfl, rfl⟩))
      go_ret
      exact ⟨by rw [HO.out]; rfl, rfl⟩
set_option maxHeartbeats 1000000 in
theorem specEmptyMachine_any (w : World) (a s : Int) : Calls Try.prog 25 #[.int .i64 a, .int .i64 s] w (RetM w (emS a s) (emA a s) (emR a s) (emC a s)) := by
  have hx0 := box_new w #[.int .i64 0, .int .i64 0, .slice none 0 0] 39
  have hb0 := below_new w (.cells #[.int .i64 0, .int .i64 0, .slice none 0 0] 39)
  cases hok : szOk a s with
  | false =>
    have HE := Lib.hid (em_no hok); have HOK := Lib.hid hok; clear hok
    go_enter Try.func25, Try.ntmps25
    go_wp2_with (go_at_call 101; refine (l30Size_any _ _ _).mono ?_; rw [HOK.out]; rintro e w' ⟨rfl, rfl⟩)
    refine bodyPost_ret (v := .tuple #[machV 0 0 none 0 0, .int .i64 2]) (by simp [results, Try.results25, go_sem]) rfl ?_
    obtain ⟨e1, e2, e3, e4⟩ := HE.out
    rw [e1, e2, e3, e4]
    exact ⟨none, 0, 0, rfl, ownN_nil _ _ _ _, hb0⟩
  | true =>
    obtain ⟨a, s, rfl, rfl, ha, ha6, hs, hs6⟩ := sz_nat hok
    have HE := Lib.hid (em_yes hok); have HOK := Lib.hid hok; clear hok
    go_enter Try.func25, Try.ntmps25
    go_wp2_with fail
    refine (l30Size_any _ _ _).mono ?_
    rw [HOK.out]
    rintro e w' ⟨rfl, rfl⟩
    go_wp2_with fail
    refine (l30Empty_any _ a s ha ha6 hs hs6).mono ?_
    rintro e w1 ⟨A, c, rfl, ho, hb1⟩
    obtain ⟨hB, hx, hl⟩ := box_step hb1
    have z0 := blk_cell hx 0 rfl
    have z1 := blk_cell hx 1 rfl
    have z2 := blk_cell hx 2 rfl
    have f0 := blk_free hx 0
    have f1 := blk_free hx 1
    have f2 := blk_free hx 2
    go_wp2_with fail
    have hZ := blk_set (blk_set (blk_set hx 0 (.int .i64 (s : Int))) 1 (.int .i64 (a : Int))) 2 (.slice A (a * s) c)
    refine bodyPost_ret (v := .tuple #[machV s a A (a * s) c, .int .i64 0]) (by simp [results, Try.results25, go_sem, blk_cell hZ 0 rfl, blk_cell hZ 1 rfl, blk_cell hZ 2 rfl]) rfl ?_
    obtain ⟨e1, e2, e3, e4⟩ := HE.out
    rw [e1, e2, e3]
    refine ⟨A, a * s, c, rfl, ?_, ((hB.setCell (Nat.le_refl _) _).setCell (Nat.le_refl _) _).setCell (Nat.le_refl _) _⟩
    rw [e4]
    exact own_ch (F := (· = w.heap.size)) (ownN_base ho (by simp)) (((ch_set _ w.heap.size 0 _).trans (ch_set _ w.heap.size 1 _)).trans (ch_set _ w.heap.size 2 _)) (fun k h1 h2 => by have h3 := (ho.lt k h1).1; simp at h3; omega)
set_option maxHeartbeats 1000000 in
theorem implEmptyMachine_any (w : World) (a s : Int) : Calls Try.prog 26 #[.int .i64 a, .int .i64 s] w (RetM w (emS a s) (emA a s) (emR a s) (emC a s)) := by
  have hx0 := box_new w #[.int .i64 0, .int .i64 0, .slice none 0 0] 39
  have hb0 := below_new w (.cells #[.int .i64 0, .int .i64 0, .slice none 0 0] 39)
  cases hok : szOk a s with
  | false =>
    have HE := Lib.hid (em_no hok); clear hok
    go_enter Try.func26, Try.ntmps26
    go_wp2_with (go_at_call 103; refine (sizesCode_any _ _ _).mono ?_; rw [HE.out.1]; rintro e w' ⟨rfl, rfl⟩)
    refine bodyPost_ret (v := .tuple #[machV 0 0 none 0 0, .int .i64 2]) (by simp [results, Try.results26, go_sem]) rfl ?_
    obtain ⟨e1, e2, e3, e4⟩ := HE.out
    rw [e1, e2, e3, e4]
    exact ⟨none, 0, 0, rfl, ownN_nil _ _ _ _, hb0⟩
  | true =>
    obtain ⟨a, s, rfl, rfl, ha, ha6, hs, hs6⟩ := sz_nat hok
    have HE := Lib.hid (em_yes hok); clear hok
    go_enter Try.func26, Try.ntmps26
    go_wp2_with fail
    refine (sizesCode_any _ _ _).mono ?_
    rw [HE.out.1]
    rintro e w' ⟨rfl, rfl⟩
    go_wp2_with fail
    refine (emptyMachine_any _ a s ha ha6 hs hs6).mono ?_
    rintro e w1 ⟨A, c, rfl, ho, hb1⟩
    obtain ⟨hB, hx, hl⟩ := box_step hb1
    have z0 := blk_cell hx 0 rfl
    have z1 := blk_cell hx 1 rfl
    have z2 := blk_cell hx 2 rfl
    have f0 := blk_free hx 0
    have f1 := blk_free hx 1
    have f2 := blk_free hx 2
    go_wp2_with fail
    have hZ := blk_set (blk_set (blk_set hx 0 (.int .i64 (s : Int))) 1 (.int .i64 (a : Int))) 2 (.slice A (a * s) c)
    refine bodyPost_ret (v := .tuple #[machV s a A (a * s) c, .int .i64 0]) (by simp [results, Try.results26, go_sem, blk_cell hZ 0 rfl, blk_cell hZ 1 rfl, blk_cell hZ 2 rfl]) rfl ?_
    obtain ⟨e1, e2, e3, e4⟩ := HE.out
    rw [e1, e2, e3]
    refine ⟨A, a * s, c, rfl, ?_, ((hB.setCell (Nat.le_refl _) _).setCell (Nat.le_refl _) _).setCell (Nat.le_refl _) _⟩
    rw [e4]
    exact own_ch (F := (· = w.heap.size)) (ownN_base ho (by simp)) (((ch_set _ w.heap.size 0 _).trans (ch_set _ w.heap.size 1 _)).trans (ch_set _ w.heap.size 2 _)) (fun k h1 h2 => by have h3 := (ho.lt k h1).1; simp at h3; omega)
end Go.Proofs.Ytbecofpklndpaaa
