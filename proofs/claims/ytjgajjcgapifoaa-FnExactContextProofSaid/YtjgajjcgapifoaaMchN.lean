/- Machines: the tests of rules and machines, the reference's and the program's. Written by mk_mchn.py. -/
import Derived.Test.YtjgajjcgapifoaaMchM
import Derived.IntWalk
namespace Go.Proofs.Ytjgajjcgapifoaa
open Go.RowKit
set_option linter.unusedVariables false
set_option linter.unusedSimpArgs false
/-- The index that a search returns: not negative just where something was found. -/
def FoundN (w : World) (bad : Bool) (e : Ending) (w' : World) : Prop := ∃ i : Int, e = .returned (.int .i64 i) ∧ decide (0 ≤ i) = bad ∧ Below w.heap.size w w'

theorem okR_no {a b : Int} {r : Rul} (h : isR r = false) : okR a b r = true := by simp [okR, h]
/-- How a rule that is none is tested. -/
theorem okR_cases {s t a b c : Int} (h : isR ⟨a, b, c⟩ = true) : (inB a 0 (s - 1) = false ∧ okR s t ⟨a, b, c⟩ = false) ∨ (inB a 0 (s - 1) = true ∧ b = 1 ∧ okR s t ⟨a, b, c⟩ = inB c 0 (t - 1)) ∨ (inB a 0 (s - 1) = true ∧ b = -1 ∧ okR s t ⟨a, b, c⟩ = inB c 0 (t - 1)) ∨ (inB a 0 (s - 1) = true ∧ (b == 1) = false ∧ (b == -1) = false ∧ okR s t ⟨a, b, c⟩ = false) := by
  unfold okR
  rw [h]
  cases h1 : inB a 0 (s - 1)
  · left; simp
  · right
    by_cases h2 : b = 1
    · subst h2; left; simp
    · by_cases h3 : b = -1
      · subst h3; right; left; simp
      · right; right; simp [h2, h3]
set_option maxHeartbeats 4000000 in
theorem l05Rule_any (w : World) (x : Rul) (s t : Int) (hs : 2 ≤ s ∧ s ≤ 6) (ht : 1 ≤ t ∧ t ≤ 1000) : Calls Try.prog 113 #[rulV x, .int .i64 s, .int .i64 t] w (RetV w (.bool (okR s t x))) := by
  obtain ⟨hs1, hs2⟩ := hs
  obtain ⟨ht1, ht2⟩ := ht
  obtain ⟨a, b, c⟩ := x
  rcases isR_cases a b c with ⟨h1, hR⟩ | ⟨rfl, h1, hR⟩ | ⟨rfl, rfl, h1, hR⟩ | ⟨rfl, rfl, rfl, hR⟩
  · rcases okR_cases (s := s) (t := t) hR with ⟨g1, hO⟩ | ⟨g1, rfl, hO⟩ | ⟨g1, rfl, hO⟩ | ⟨g1, g2, g3, hO⟩
    · obtain ⟨q0, q1, q2⟩ := box3 w 81 (.int .i64 a) (.int .i64 b) (.int .i64 c)
      have HO := Lib.hid hO
      clear hR hO
      go_enter Try.func113, Try.ntmps113
      go_wp2_with fail
      go_region_held3 (fun w' => w'.cell? ⟨w.heap.size, 0, none⟩ = some (.int .i64 a) ∧ w'.cell? ⟨w.heap.size, 1, none⟩ = some (.int .i64 b) ∧ w'.cell? ⟨w.heap.size, 2, none⟩ = some (.int .i64 c)) (first | exact ⟨q0, q1, q2⟩ | go_keep) (first
        | (go_at_call 105
           refine (l05None_any _).mono ?_
           rintro e w2 ⟨rfl, hb2⟩
           (try replace hb2 := und1 hb2)
           (try replace hb2 := undN hb2)
           have q0 := (hb2.cell (p := ⟨w.heap.size, 0, none⟩) (by simp)).trans q0
           have q1 := (hb2.cell (p := ⟨w.heap.size, 1, none⟩) (by simp)).trans q1
           have q2 := (hb2.cell (p := ⟨w.heap.size, 2, none⟩) (by simp)).trans q2))
      all_goals
        go_wp2_with (go_at_call 74; refine (l00In_any _ _ _ _).mono ?_; rintro e w' ⟨rfl, rfl⟩)
        go_ret
        exact ⟨by rw [HO.out]; first | rfl | simp_all, (below_new _ _).trans (hb2.mono (by simp))⟩
    · obtain ⟨q0, q1, q2⟩ := box3 w 81 (.int .i64 a) (.int .i64 1) (.int .i64 c)
      have HO := Lib.hid hO
      clear hR hO
      go_enter Try.func113, Try.ntmps113
      go_wp2_with fail
      go_region_held3 (fun w' => w'.cell? ⟨w.heap.size, 0, none⟩ = some (.int .i64 a) ∧ w'.cell? ⟨w.heap.size, 1, none⟩ = some (.int .i64 1) ∧ w'.cell? ⟨w.heap.size, 2, none⟩ = some (.int .i64 c)) (first | exact ⟨q0, q1, q2⟩ | go_keep) (first
        | (go_at_call 105
           refine (l05None_any _).mono ?_
           rintro e w2 ⟨rfl, hb2⟩
           (try replace hb2 := und1 hb2)
           (try replace hb2 := undN hb2)
           have q0 := (hb2.cell (p := ⟨w.heap.size, 0, none⟩) (by simp)).trans q0
           have q1 := (hb2.cell (p := ⟨w.heap.size, 1, none⟩) (by simp)).trans q1
           have q2 := (hb2.cell (p := ⟨w.heap.size, 2, none⟩) (by simp)).trans q2))
      all_goals
        go_wp2_with (go_at_call 74; refine (l00In_any _ _ _ _).mono ?_; rintro e w' ⟨rfl, rfl⟩)
        go_ret
        exact ⟨by rw [HO.out]; first | rfl | simp_all, (below_new _ _).trans (hb2.mono (by simp))⟩
    · obtain ⟨q0, q1, q2⟩ := box3 w 81 (.int .i64 a) (.int .i64 (-1)) (.int .i64 c)
      have HO := Lib.hid hO
      clear hR hO
      go_enter Try.func113, Try.ntmps113
      go_wp2_with fail
      go_region_held3 (fun w' => w'.cell? ⟨w.heap.size, 0, none⟩ = some (.int .i64 a) ∧ w'.cell? ⟨w.heap.size, 1, none⟩ = some (.int .i64 (-1)) ∧ w'.cell? ⟨w.heap.size, 2, none⟩ = some (.int .i64 c)) (first | exact ⟨q0, q1, q2⟩ | go_keep) (first
        | (go_at_call 105
           refine (l05None_any _).mono ?_
           rintro e w2 ⟨rfl, hb2⟩
           (try replace hb2 := und1 hb2)
           (try replace hb2 := undN hb2)
           have q0 := (hb2.cell (p := ⟨w.heap.size, 0, none⟩) (by simp)).trans q0
           have q1 := (hb2.cell (p := ⟨w.heap.size, 1, none⟩) (by simp)).trans q1
           have q2 := (hb2.cell (p := ⟨w.heap.size, 2, none⟩) (by simp)).trans q2))
      all_goals
        go_wp2_with (go_at_call 74; refine (l00In_any _ _ _ _).mono ?_; rintro e w' ⟨rfl, rfl⟩)
        go_ret
        exact ⟨by rw [HO.out]; first | rfl | simp_all, (below_new _ _).trans (hb2.mono (by simp))⟩
    · obtain ⟨q0, q1, q2⟩ := box3 w 81 (.int .i64 a) (.int .i64 b) (.int .i64 c)
      have HO := Lib.hid hO
      clear hR hO
      go_enter Try.func113, Try.ntmps113
      go_wp2_with fail
      go_region_held3 (fun w' => w'.cell? ⟨w.heap.size, 0, none⟩ = some (.int .i64 a) ∧ w'.cell? ⟨w.heap.size, 1, none⟩ = some (.int .i64 b) ∧ w'.cell? ⟨w.heap.size, 2, none⟩ = some (.int .i64 c)) (first | exact ⟨q0, q1, q2⟩ | go_keep) (first
        | (go_at_call 105
           refine (l05None_any _).mono ?_
           rintro e w2 ⟨rfl, hb2⟩
           (try replace hb2 := und1 hb2)
           (try replace hb2 := undN hb2)
           have q0 := (hb2.cell (p := ⟨w.heap.size, 0, none⟩) (by simp)).trans q0
           have q1 := (hb2.cell (p := ⟨w.heap.size, 1, none⟩) (by simp)).trans q1
           have q2 := (hb2.cell (p := ⟨w.heap.size, 2, none⟩) (by simp)).trans q2))
      all_goals
        go_wp2_with (go_at_call 74; refine (l00In_any _ _ _ _).mono ?_; rintro e w' ⟨rfl, rfl⟩)
        go_ret
        exact ⟨by rw [HO.out]; first | rfl | simp_all, (below_new _ _).trans (hb2.mono (by simp))⟩
  · rcases okR_cases (s := s) (t := t) hR with ⟨g1, hO⟩ | ⟨g1, rfl, hO⟩ | ⟨g1, rfl, hO⟩ | ⟨g1, g2, g3, hO⟩
    · obtain ⟨q0, q1, q2⟩ := box3 w 81 (.int .i64 0) (.int .i64 b) (.int .i64 c)
      have HO := Lib.hid hO
      clear hR hO
      go_enter Try.func113, Try.ntmps113
      go_wp2_with fail
      go_region_held3 (fun w' => w'.cell? ⟨w.heap.size, 0, none⟩ = some (.int .i64 0) ∧ w'.cell? ⟨w.heap.size, 1, none⟩ = some (.int .i64 b) ∧ w'.cell? ⟨w.heap.size, 2, none⟩ = some (.int .i64 c)) (first | exact ⟨q0, q1, q2⟩ | go_keep) (first
        | (go_at_call 105
           refine (l05None_any _).mono ?_
           rintro e w2 ⟨rfl, hb2⟩
           (try replace hb2 := und1 hb2)
           (try replace hb2 := undN hb2)
           have q0 := (hb2.cell (p := ⟨w.heap.size, 0, none⟩) (by simp)).trans q0
           have q1 := (hb2.cell (p := ⟨w.heap.size, 1, none⟩) (by simp)).trans q1
           have q2 := (hb2.cell (p := ⟨w.heap.size, 2, none⟩) (by simp)).trans q2))
      all_goals
        go_wp2_with (go_at_call 74; refine (l00In_any _ _ _ _).mono ?_; rintro e w' ⟨rfl, rfl⟩)
        go_ret
        exact ⟨by rw [HO.out]; first | rfl | simp_all, (below_new _ _).trans (hb2.mono (by simp))⟩
    · obtain ⟨q0, q1, q2⟩ := box3 w 81 (.int .i64 0) (.int .i64 1) (.int .i64 c)
      have HO := Lib.hid hO
      clear hR hO
      go_enter Try.func113, Try.ntmps113
      go_wp2_with fail
      go_region_held3 (fun w' => w'.cell? ⟨w.heap.size, 0, none⟩ = some (.int .i64 0) ∧ w'.cell? ⟨w.heap.size, 1, none⟩ = some (.int .i64 1) ∧ w'.cell? ⟨w.heap.size, 2, none⟩ = some (.int .i64 c)) (first | exact ⟨q0, q1, q2⟩ | go_keep) (first
        | (go_at_call 105
           refine (l05None_any _).mono ?_
           rintro e w2 ⟨rfl, hb2⟩
           (try replace hb2 := und1 hb2)
           (try replace hb2 := undN hb2)
           have q0 := (hb2.cell (p := ⟨w.heap.size, 0, none⟩) (by simp)).trans q0
           have q1 := (hb2.cell (p := ⟨w.heap.size, 1, none⟩) (by simp)).trans q1
           have q2 := (hb2.cell (p := ⟨w.heap.size, 2, none⟩) (by simp)).trans q2))
      all_goals
        go_wp2_with (go_at_call 74; refine (l00In_any _ _ _ _).mono ?_; rintro e w' ⟨rfl, rfl⟩)
        go_ret
        exact ⟨by rw [HO.out]; first | rfl | simp_all, (below_new _ _).trans (hb2.mono (by simp))⟩
    · obtain ⟨q0, q1, q2⟩ := box3 w 81 (.int .i64 0) (.int .i64 (-1)) (.int .i64 c)
      have HO := Lib.hid hO
      clear hR hO
      go_enter Try.func113, Try.ntmps113
      go_wp2_with fail
      go_region_held3 (fun w' => w'.cell? ⟨w.heap.size, 0, none⟩ = some (.int .i64 0) ∧ w'.cell? ⟨w.heap.size, 1, none⟩ = some (.int .i64 (-1)) ∧ w'.cell? ⟨w.heap.size, 2, none⟩ = some (.int .i64 c)) (first | exact ⟨q0, q1, q2⟩ | go_keep) (first
        | (go_at_call 105
           refine (l05None_any _).mono ?_
           rintro e w2 ⟨rfl, hb2⟩
           (try replace hb2 := und1 hb2)
           (try replace hb2 := undN hb2)
           have q0 := (hb2.cell (p := ⟨w.heap.size, 0, none⟩) (by simp)).trans q0
           have q1 := (hb2.cell (p := ⟨w.heap.size, 1, none⟩) (by simp)).trans q1
           have q2 := (hb2.cell (p := ⟨w.heap.size, 2, none⟩) (by simp)).trans q2))
      all_goals
        go_wp2_with (go_at_call 74; refine (l00In_any _ _ _ _).mono ?_; rintro e w' ⟨rfl, rfl⟩)
        go_ret
        exact ⟨by rw [HO.out]; first | rfl | simp_all, (below_new _ _).trans (hb2.mono (by simp))⟩
    · obtain ⟨q0, q1, q2⟩ := box3 w 81 (.int .i64 0) (.int .i64 b) (.int .i64 c)
      have HO := Lib.hid hO
      clear hR hO
      go_enter Try.func113, Try.ntmps113
      go_wp2_with fail
      go_region_held3 (fun w' => w'.cell? ⟨w.heap.size, 0, none⟩ = some (.int .i64 0) ∧ w'.cell? ⟨w.heap.size, 1, none⟩ = some (.int .i64 b) ∧ w'.cell? ⟨w.heap.size, 2, none⟩ = some (.int .i64 c)) (first | exact ⟨q0, q1, q2⟩ | go_keep) (first
        | (go_at_call 105
           refine (l05None_any _).mono ?_
           rintro e w2 ⟨rfl, hb2⟩
           (try replace hb2 := und1 hb2)
           (try replace hb2 := undN hb2)
           have q0 := (hb2.cell (p := ⟨w.heap.size, 0, none⟩) (by simp)).trans q0
           have q1 := (hb2.cell (p := ⟨w.heap.size, 1, none⟩) (by simp)).trans q1
           have q2 := (hb2.cell (p := ⟨w.heap.size, 2, none⟩) (by simp)).trans q2))
      all_goals
        go_wp2_with (go_at_call 74; refine (l00In_any _ _ _ _).mono ?_; rintro e w' ⟨rfl, rfl⟩)
        go_ret
        exact ⟨by rw [HO.out]; first | rfl | simp_all, (below_new _ _).trans (hb2.mono (by simp))⟩
  · rcases okR_cases (s := s) (t := t) hR with ⟨g1, hO⟩ | ⟨g1, gx, hO⟩ | ⟨g1, gx, hO⟩ | ⟨g1, g2, g3, hO⟩
    · obtain ⟨q0, q1, q2⟩ := box3 w 81 (.int .i64 0) (.int .i64 0) (.int .i64 c)
      have HO := Lib.hid hO
      clear hR hO
      go_enter Try.func113, Try.ntmps113
      go_wp2_with fail
      go_region_held3 (fun w' => w'.cell? ⟨w.heap.size, 0, none⟩ = some (.int .i64 0) ∧ w'.cell? ⟨w.heap.size, 1, none⟩ = some (.int .i64 0) ∧ w'.cell? ⟨w.heap.size, 2, none⟩ = some (.int .i64 c)) (first | exact ⟨q0, q1, q2⟩ | go_keep) (first
        | (go_at_call 105
           refine (l05None_any _).mono ?_
           rintro e w2 ⟨rfl, hb2⟩
           (try replace hb2 := und1 hb2)
           (try replace hb2 := undN hb2)
           have q0 := (hb2.cell (p := ⟨w.heap.size, 0, none⟩) (by simp)).trans q0
           have q1 := (hb2.cell (p := ⟨w.heap.size, 1, none⟩) (by simp)).trans q1
           have q2 := (hb2.cell (p := ⟨w.heap.size, 2, none⟩) (by simp)).trans q2))
      all_goals
        go_wp2_with (go_at_call 74; refine (l00In_any _ _ _ _).mono ?_; rintro e w' ⟨rfl, rfl⟩)
        go_ret
        exact ⟨by rw [HO.out]; first | rfl | simp_all, (below_new _ _).trans (hb2.mono (by simp))⟩
    · exact absurd gx (by decide)
    · exact absurd gx (by decide)
    · obtain ⟨q0, q1, q2⟩ := box3 w 81 (.int .i64 0) (.int .i64 0) (.int .i64 c)
      have HO := Lib.hid hO
      clear hR hO
      go_enter Try.func113, Try.ntmps113
      go_wp2_with fail
      go_region_held3 (fun w' => w'.cell? ⟨w.heap.size, 0, none⟩ = some (.int .i64 0) ∧ w'.cell? ⟨w.heap.size, 1, none⟩ = some (.int .i64 0) ∧ w'.cell? ⟨w.heap.size, 2, none⟩ = some (.int .i64 c)) (first | exact ⟨q0, q1, q2⟩ | go_keep) (first
        | (go_at_call 105
           refine (l05None_any _).mono ?_
           rintro e w2 ⟨rfl, hb2⟩
           (try replace hb2 := und1 hb2)
           (try replace hb2 := undN hb2)
           have q0 := (hb2.cell (p := ⟨w.heap.size, 0, none⟩) (by simp)).trans q0
           have q1 := (hb2.cell (p := ⟨w.heap.size, 1, none⟩) (by simp)).trans q1
           have q2 := (hb2.cell (p := ⟨w.heap.size, 2, none⟩) (by simp)).trans q2))
      all_goals
        go_wp2_with (go_at_call 74; refine (l00In_any _ _ _ _).mono ?_; rintro e w' ⟨rfl, rfl⟩)
        go_ret
        exact ⟨by rw [HO.out]; first | rfl | simp_all, (below_new _ _).trans (hb2.mono (by simp))⟩
  · obtain ⟨q0, q1, q2⟩ := box3 w 81 (.int .i64 0) (.int .i64 0) (.int .i64 (-1))
    have HO : Hid (okR s t ⟨0, 0, -1⟩ = true) := Lib.hid (okR_no hR)
    clear hR
    go_enter Try.func113, Try.ntmps113
    go_wp2_with fail
    go_region_held3 (fun w' => w'.cell? ⟨w.heap.size, 0, none⟩ = some (.int .i64 0) ∧ w'.cell? ⟨w.heap.size, 1, none⟩ = some (.int .i64 0) ∧ w'.cell? ⟨w.heap.size, 2, none⟩ = some (.int .i64 (-1))) (first | exact ⟨q0, q1, q2⟩ | go_keep) (first
      | (go_at_call 105
         refine (l05None_any _).mono ?_
         rintro e w2 ⟨rfl, hb2⟩
         (try replace hb2 := und1 hb2)
         (try replace hb2 := undN hb2)
         have q0 := (hb2.cell (p := ⟨w.heap.size, 0, none⟩) (by simp)).trans q0
         have q1 := (hb2.cell (p := ⟨w.heap.size, 1, none⟩) (by simp)).trans q1
         have q2 := (hb2.cell (p := ⟨w.heap.size, 2, none⟩) (by simp)).trans q2))
    all_goals
      go_wp2_with fail
      go_ret
      exact ⟨by rw [HO.out]; rfl, (below_new _ _).trans (hb2.mono (by simp))⟩
abbrev mchV (a b : Int) (A : Option Addr) (n c : Nat) : Value := .agg #[.int .i64 a, .int .i64 b, .slice A n c]
set_option maxHeartbeats 4000000 in
theorem validRule_any (w : World) (x : Rul) (s t : Int) (A : Option Addr) (n c : Nat) (hs : 2 ≤ s ∧ s ≤ 6) (ht : 1 ≤ t ∧ t ≤ 1000) : Calls Try.prog 134 #[mchV s t A n c, rulV x] w (RetV w (.bool (okR s t x))) := by
  obtain ⟨hs1, hs2⟩ := hs
  obtain ⟨ht1, ht2⟩ := ht
  obtain ⟨a, b, d⟩ := x
  cases hR : isR ⟨a, b, d⟩ with
  | false =>
    have HO := Lib.hid (okR_no (a := s) (b := t) hR)
    have HR := Lib.hid hR; clear hR
    go_enter Try.func134, Try.ntmps134
    go_wp2_with (go_at_call 110; refine (isRule_any _ ⟨a, b, d⟩).mono ?_; rw [HR.out]; rintro e w1 ⟨rfl, hb1⟩)
    go_ret
    exact ⟨by rw [HO.out]; rfl, (((Below.refl _ _).alloc (Nat.le_refl _) _).alloc (by simp) _).trans (hb1.mono (by simp; omega))⟩
  | true =>
    rcases okR_cases (s := s) (t := t) hR with ⟨g1, hO⟩ | ⟨g1, rfl, hO⟩ | ⟨g1, rfl, hO⟩ | ⟨g1, g2, g3, hO⟩
    · have HO := Lib.hid hO; have HR := Lib.hid hR; clear hO hR
      go_enter Try.func134, Try.ntmps134
      go_wp2_with fail
      refine (isRule_any _ ⟨a, b, d⟩).mono ?_
      rw [HR.out]
      rintro e w1 ⟨rfl, hb1⟩
      obtain ⟨hb0, hx1, hs1'⟩ := box_step hb1
      obtain ⟨HB, hx0, hs0⟩ := box_step hb0
      simp only [World.size_alloc] at hx0 hx1
      have p0 := blk_cell hx0 0 rfl; have p1 := blk_cell hx0 1 rfl; have p2 := blk_cell hx0 2 rfl
      have q0 := blk_cell hx1 0 rfl; have q1 := blk_cell hx1 1 rfl; have q2 := blk_cell hx1 2 rfl
      go_wp2_with (go_at_call 109; refine (within_any _ _ _ _).mono ?_; rintro e w' ⟨rfl, rfl⟩)
      go_ret
      exact ⟨by rw [HO.out]; first | rfl | simp_all, HB⟩
    · have HO := Lib.hid hO; have HR := Lib.hid hR; clear hO hR
      go_enter Try.func134, Try.ntmps134
      go_wp2_with fail
      refine (isRule_any _ ⟨a, 1, d⟩).mono ?_
      rw [HR.out]
      rintro e w1 ⟨rfl, hb1⟩
      obtain ⟨hb0, hx1, hs1'⟩ := box_step hb1
      obtain ⟨HB, hx0, hs0⟩ := box_step hb0
      simp only [World.size_alloc] at hx0 hx1
      have p0 := blk_cell hx0 0 rfl; have p1 := blk_cell hx0 1 rfl; have p2 := blk_cell hx0 2 rfl
      have q0 := blk_cell hx1 0 rfl; have q1 := blk_cell hx1 1 rfl; have q2 := blk_cell hx1 2 rfl
      go_wp2_with (go_at_call 109; refine (within_any _ _ _ _).mono ?_; rintro e w' ⟨rfl, rfl⟩)
      go_ret
      exact ⟨by rw [HO.out]; first | rfl | simp_all, HB⟩
    · have HO := Lib.hid hO; have HR := Lib.hid hR; clear hO hR
      go_enter Try.func134, Try.ntmps134
      go_wp2_with fail
      refine (isRule_any _ ⟨a, (-1), d⟩).mono ?_
      rw [HR.out]
      rintro e w1 ⟨rfl, hb1⟩
      obtain ⟨hb0, hx1, hs1'⟩ := box_step hb1
      obtain ⟨HB, hx0, hs0⟩ := box_step hb0
      simp only [World.size_alloc] at hx0 hx1
      have p0 := blk_cell hx0 0 rfl; have p1 := blk_cell hx0 1 rfl; have p2 := blk_cell hx0 2 rfl
      have q0 := blk_cell hx1 0 rfl; have q1 := blk_cell hx1 1 rfl; have q2 := blk_cell hx1 2 rfl
      go_wp2_with (go_at_call 109; refine (within_any _ _ _ _).mono ?_; rintro e w' ⟨rfl, rfl⟩)
      go_ret
      exact ⟨by rw [HO.out]; first | rfl | simp_all, HB⟩
    · have HO := Lib.hid hO; have HR := Lib.hid hR; clear hO hR
      go_enter Try.func134, Try.ntmps134
      go_wp2_with fail
      refine (isRule_any _ ⟨a, b, d⟩).mono ?_
      rw [HR.out]
      rintro e w1 ⟨rfl, hb1⟩
      obtain ⟨hb0, hx1, hs1'⟩ := box_step hb1
      obtain ⟨HB, hx0, hs0⟩ := box_step hb0
      simp only [World.size_alloc] at hx0 hx1
      have p0 := blk_cell hx0 0 rfl; have p1 := blk_cell hx0 1 rfl; have p2 := blk_cell hx0 2 rfl
      have q0 := blk_cell hx1 0 rfl; have q1 := blk_cell hx1 1 rfl; have q2 := blk_cell hx1 2 rfl
      go_wp2_with (go_at_call 109; refine (within_any _ _ _ _).mono ?_; rintro e w' ⟨rfl, rfl⟩)
      go_ret
      exact ⟨by rw [HO.out]; first | rfl | simp_all, HB⟩

set_option maxHeartbeats 1000000 in
theorem validMachine1_any (w : World) (x : Rul) (g : Nat) (s t : Int) (A : Option Addr) (n c T : Nat) (hg : w.heap[g]? = some (.cells #[.int .i64 s, .int .i64 t, .slice A n c] T (0, 0))) (hs : 2 ≤ s ∧ s ≤ 6) (ht : 1 ≤ t ∧ t ≤ 1000) :
    Calls Try.prog 133 #[rulV x, .pointer (some ⟨g, 0, none⟩)] w fun e w' => e = .returned (.bool (!okR s t x)) ∧ Below w.heap.size w w' := by
  have hg1 := blk_bel hg (below_new w (.cells #[.int .i64 x.wr, .int .i64 x.mv, .int .i64 x.nx] 81))
  have p0 := blk_cell hg1 0 rfl; have p1 := blk_cell hg1 1 rfl; have p2 := blk_cell hg1 2 rfl
  clear hg hg1
  go_enter Try.func133, Try.ntmps133
  go_wp2_with (go_at_call 134; refine (validRule_any _ x s t A n c hs ht).mono ?_; rintro e w2 ⟨rfl, hb2⟩)
  go_ret
  exact ⟨rfl, (below_new _ _).trans (hb2.mono (by simp))⟩
set_option maxHeartbeats 1000000 in
theorem indexFuncVM (w : World) (A : Option Addr) (n c : Nat) (ps : List Rul) (hr : Rd w A (n * 3) (ints (flatR ps))) (hn : n ≤ 1099511627776) (g c2 T : Nat) (s t : Int) (hg : w.heap[g]? = some (.cells #[.int .i64 s, .int .i64 t, .slice A n c2] T (0, 0))) (hs : 2 ≤ s ∧ s ≤ 6) (ht : 1 ≤ t ∧ t ≤ 1000) :
    Calls Try.prog 150 #[.slice A n c, .func (.func 133) #[] #[.pointer (some ⟨g, 0, none⟩)]] w (FoundN w (!ps.all (okR s t))) := by
  have HL : Hid (ps.length = n) := Lib.hid (by have := hr.1; simp [flatR_len] at this; omega)
  go_enter Try.func150, Try.ntmps150
  go_wp2_with fail
  go_loopw [8] (fun q wr => ∃ k : Nat, k ≤ n ∧ q = .int .i64 k ∧ Hid ((ps.take k).all (okR s t) = true) ∧ Below w.heap.size w wr) (fun q _ => n - (intOf q).toNat)
  case atStart => exact ⟨0, Nat.zero_le _, rfl, Lib.hid (by simp), Below.refl _ _⟩
  case round =>
    obtain ⟨k, hk, rfl, hall, hb⟩ := hrel
    by_cases h1 : k < n
    · obtain ⟨x, hx⟩ := get_some (xs := ps) (k := k) (by rw [HL.out]; omega)
      obtain ⟨b, off, rfl, hbs, q0, q1, q2⟩ := rdR hr hx
      replace q0 := (hb.cell (p := ⟨b, off + k * 3, none⟩) hbs).trans q0
      replace q1 := (hb.cell (p := ⟨b, off + k * 3 + 1, none⟩) hbs).trans q1
      replace q2 := (hb.cell (p := ⟨b, off + k * 3 + 2, none⟩) hbs).trans q2
      have HX := Lib.hid hx
      clear hx
      by_cases hin : (okR s t) x = true
      · go_wp2_with (go_at_call 133; refine (validMachine1_any _ x g s t _ n c2 T (blk_below hg hb (blk_lt hg)) hs ht).mono ?_; rintro e w' ⟨rfl, hb2⟩)
        go_roundw
        case rel => exact ⟨k + 1, by omega, by go_num, Lib.hid (all_step hall.out HX.out hin), hb.trans (hb2.mono hb.size)⟩
        case measure => simp [intOf]; omega
      · have hin' : (okR s t) x = false := by simpa using hin
        clear hin
        go_wp2_with (go_at_call 133; refine (validMachine1_any _ x g s t _ n c2 T (blk_below hg hb (blk_lt hg)) hs ht).mono ?_; rintro e w' ⟨rfl, hb2⟩)
        go_ret
        exact ⟨k, rfl, by rw [all_out HX.out hin']; simp, hb.trans (hb2.mono hb.size)⟩
    · go_wp2_with fail
      go_ret
      have h := hall.out
      rw [List.take_of_length_le (by rw [HL.out]; omega)] at h
      exact ⟨-1, rfl, by rw [h]; rfl, hb⟩
set_option maxHeartbeats 400000 in
theorem containsFuncVM (w : World) (A : Option Addr) (n c : Nat) (ps : List Rul) (hr : Rd w A (n * 3) (ints (flatR ps))) (hn : n ≤ 1099511627776) (g c2 T : Nat) (s t : Int) (hg : w.heap[g]? = some (.cells #[.int .i64 s, .int .i64 t, .slice A n c2] T (0, 0))) (hs : 2 ≤ s ∧ s ≤ 6) (ht : 1 ≤ t ∧ t ≤ 1000) :
    Calls Try.prog 132 #[.slice A n c, .func (.func 133) #[] #[.pointer (some ⟨g, 0, none⟩)]] w (RetV w (.bool (!ps.all (okR s t)))) := by
  go_enter Try.func132, Try.ntmps132
  go_wp2_with fail
  refine (indexFuncVM _ _ _ _ _ hr hn g c2 T s t hg hs ht).mono ?_
  rintro e w' ⟨i, rfl, hi, hb⟩
  have HI := Lib.hid hi; clear hi
  go_wp2_with fail
  go_ret
  exact ⟨by rw [← HI.out]; rfl, hb⟩

set_option maxHeartbeats 400000 in
theorem sizeRule_any (w : World) (A : Option Addr) (n c : Nat) (hn : n ≤ 1099511627776) : Calls Try.prog 131 #[.slice A n c] w fun e w' => e = .returned (.int .i64 n) ∧ w = w' := by
  go_enter Try.func131, Try.ntmps131
  go_wp2_with fail
  go_ret
  exact ⟨rfl, rfl⟩
theorem prod_in {s t : Int} (hs : 2 ≤ s ∧ s ≤ 6) (ht : 1 ≤ t ∧ t ≤ 1000) : 0 ≤ s * t ∧ s * t ≤ 6000 := by
  obtain ⟨h1, h2⟩ := hs
  obtain ⟨h3, h4⟩ := ht
  refine ⟨Int.mul_nonneg (by omega) (by omega), ?_⟩
  have e1 : s * t ≤ 6 * t := Int.mul_le_mul_of_nonneg_right h2 (by omega)
  omega
theorem okM_cases (s t : Int) (rs : List Rul) (n : Nat) (hn : rs.length = n) : (inB s 2 6 = false ∧ okM s t rs = false) ∨ (inB s 2 6 = true ∧ inB t 1 1000 = false ∧ okM s t rs = false) ∨ (inB s 2 6 = true ∧ inB t 1 1000 = true ∧ ¬ (n : Int) = s * t ∧ okM s t rs = false) ∨ (inB s 2 6 = true ∧ inB t 1 1000 = true ∧ (n : Int) = s * t ∧ okM s t rs = rs.all (okR s t)) := by
  subst hn
  unfold okM
  cases inB s 2 6 <;> cases inB t 1 1000 <;> simp
  by_cases h : (rs.length : Int) = s * t <;> simp [h]
set_option maxHeartbeats 2000000 in
theorem ValidMachine_any (w : World) (s t : Int) (A : Option Addr) (n c : Nat) (rs : List Rul) (hr : Rd w A (n * 3) (ints (flatR rs))) (hn : n ≤ 1099511627776) : Calls Try.prog 89 #[mchV s t A n c] w (RetV w (.bool (okM s t rs))) := by
  have hl : rs.length = n := by have := hr.1; simp [flatR_len] at this; omega
  obtain ⟨q0, q1, q2⟩ := box3 w 31 (.int .i64 s) (.int .i64 t) (.slice A n c)
  rcases okM_cases s t rs n hl with ⟨h1, hO⟩ | ⟨h1, h2, hO⟩ | ⟨h1, h2, h3, hO⟩ | ⟨h1, h2, h3, hO⟩
  · have HO := Lib.hid hO; have HL := Lib.hid hl; clear hO hl
    go_enter Try.func89, Try.ntmps89
    go_wp2_with fail
    go_quiet ((first | (go_at_call 109; exact Calls.quiet_of_same ((within_any _ _ _ _).mono fun e w' h => ⟨h.1, h.2.symm⟩)) | (go_at_call 131; exact Calls.quiet_of_same ((sizeRule_any _ _ _ _ hn).mono fun e w' h => ⟨h.1, h.2.symm⟩))))
    go_wp2_with fail
    go_ret
    exact ⟨by rw [HO.out]; rfl, below_drewN (below_new _ _)⟩
  · have HO := Lib.hid hO; have HL := Lib.hid hl; clear hO hl
    go_enter Try.func89, Try.ntmps89
    go_wp2_with fail
    go_quiet ((first | (go_at_call 109; exact Calls.quiet_of_same ((within_any _ _ _ _).mono fun e w' h => ⟨h.1, h.2.symm⟩)) | (go_at_call 131; exact Calls.quiet_of_same ((sizeRule_any _ _ _ _ hn).mono fun e w' h => ⟨h.1, h.2.symm⟩))))
    go_wp2_with fail
    go_ret
    exact ⟨by rw [HO.out]; rfl, below_drewN (below_new _ _)⟩
  · have hp := prod_in (inB_true.1 h1) (inB_true.1 h2)
    have hw : IntKind.i64.wrap (t * s) = t * s := IntWalk.i64_in _ (by rw [Int.mul_comm]; omega)
    have hne : ((n : Int) != t * s) = true := by rw [Int.mul_comm]; simpa using h3
    have HO := Lib.hid hO; have HL := Lib.hid hl; clear hO hl hp h3
    go_enter Try.func89, Try.ntmps89
    go_wp2_with fail
    go_quiet ((first | (go_at_call 109; exact Calls.quiet_of_same ((within_any _ _ _ _).mono fun e w' h => ⟨h.1, h.2.symm⟩)) | (go_at_call 131; exact Calls.quiet_of_same ((sizeRule_any _ _ _ _ hn).mono fun e w' h => ⟨h.1, h.2.symm⟩))))
    go_wp2_with fail
    go_ret
    exact ⟨by rw [HO.out]; rfl, below_drewN (below_new _ _)⟩
  · have hp := prod_in (inB_true.1 h1) (inB_true.1 h2)
    have hw : IntKind.i64.wrap (t * s) = t * s := IntWalk.i64_in _ (by rw [Int.mul_comm]; omega)
    have hne : ((n : Int) != t * s) = false := by rw [Int.mul_comm]; simpa using h3
    have HO := Lib.hid hO; have HL := Lib.hid hl; clear hO hl hp h3
    have hbx := Lib.hid (box_new w #[.int .i64 s, .int .i64 t, .slice A n c] 31)
    go_enter Try.func89, Try.ntmps89
    go_wp2_with fail
    go_quiet ((first | (go_at_call 109; exact Calls.quiet_of_same ((within_any _ _ _ _).mono fun e w' h => ⟨h.1, h.2.symm⟩)) | (go_at_call 131; exact Calls.quiet_of_same ((sizeRule_any _ _ _ _ hn).mono fun e w' h => ⟨h.1, h.2.symm⟩))))
    go_wp2_with (go_at_call 132; refine (containsFuncVM _ _ _ _ _ ((hr.alloc _).below (below_drewN (Below.refl _ _)) (Nat.le_refl _)) hn w.heap.size c 31 s t hbx.out (inB_true.1 h1) (inB_true.1 h2)).mono ?_; rintro e w2 ⟨rfl, hb2⟩)
    go_ret
    exact ⟨by rw [HO.out]; simp, (below_new _ _).trans ((undN hb2).mono (by simp))⟩
end Go.Proofs.Ytjgajjcgapifoaa
