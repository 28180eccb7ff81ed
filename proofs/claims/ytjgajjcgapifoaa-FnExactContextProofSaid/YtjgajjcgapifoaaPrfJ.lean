/- Proofs by contexts: valid proofs, rising parts (program). -/
import Derived.Test.YtjgajjcgapifoaaPrfI
import Derived.Test.YtjgajjcgapifoaaCtxI
namespace Go.Proofs.Ytjgajjcgapifoaa
open Go.RowKit
set_option linter.unusedVariables false
set_option linter.unusedSimpArgs false
abbrev prfV (k : Int) (A1 : Option Addr) (n1 c1 : Nat) (A2 : Option Addr) (n2 c2 : Nat) : Value := .agg #[.int .i64 k, .slice A1 n1 c1, .slice A2 n2 c2]
abbrev csV (m : Int) (A1 : Option Addr) (n1 c1 : Nat) (A2 : Option Addr) (n2 c2 : Nat) (A3 : Option Addr) (n3 c3 : Nat) : Value := .agg #[.int .i64 m, .slice A1 n1 c1, .slice A2 n2 c2, .slice A3 n3 c3]
set_option maxHeartbeats 400000 in
theorem sizeL_any (w : World) (A : Option Addr) (n c : Nat) : Calls Try.prog 72 #[.slice A n c] w fun e w' => e = .returned (.int .i64 n) ∧ w = w' := by
  go_enter Try.func72, Try.ntmps72
  go_wp2_with fail
  go_ret
  exact ⟨rfl, rfl⟩
set_option maxHeartbeats 2000000 in
theorem increasing_any (w : World) (m : Int) (A1 : Option Addr) (n1 c1 : Nat) (x1 : List (List Int)) (hr1 : RdL w A1 n1 x1) (hn1 : n1 ≤ 1000000000) (A2 : Option Addr) (n2 c2 : Nat) (x2 : List (List Int)) (hr2 : RdL w A2 n2 x2) (hn2 : n2 ≤ 1000000000) (A3 : Option Addr) (n3 c3 : Nat) (x3 : List (List Int)) (hr3 : RdL w A3 n3 x3) (hn3 : n3 ≤ 1000000000) :
    Calls Try.prog 80 #[csV m A1 n1 c1 A2 n2 c2 A3 n3 c3] w (RetV w (.bool (rises x1 && rises x2 && rises x3))) := by
  obtain ⟨w0, hw0⟩ : ∃ w0, w0 = w.alloc (.cells #[.int .i64 m, .slice A1 n1 c1, .slice A2 n2 c2, .slice A3 n3 c3] 106) := ⟨_, rfl⟩
  have hB : Below w.heap.size w w0 := by rw [hw0]; exact below_new w _
  have hx0 : w0.heap[w.heap.size]? = some (.cells #[.int .i64 m, .slice A1 n1 c1, .slice A2 n2 c2, .slice A3 n3 c3] 106 (0, 0)) := by rw [hw0]; exact box_new w _ _
  have q1 := blk_cell hx0 1 rfl
  have HX0 := Lib.hid hx0
  have HR1 := Lib.hid (hr1.below hB (Nat.le_refl _))
  have HR2 := Lib.hid (hr2.below hB (Nat.le_refl _))
  have HR3 := Lib.hid (hr3.below hB (Nat.le_refl _))
  have HB := Lib.hid hB
  clear hB hx0
  generalize hg1 : rises x1 = b1
  generalize hg2 : rises x2 = b2
  generalize hg3 : rises x3 = b3
  have HG1 := Lib.hid hg1; have HG2 := Lib.hid hg2; have HG3 := Lib.hid hg3
  clear hg1 hg2 hg3
  cases b1 with
  | false =>
    go_enter Try.func80, Try.ntmps80
    go_wp2_with fail
    rw [← hw0]
    clear hw0
    refine (risingLists_any _ A1 n1 c1 x1 HR1.out hn1).mono ?_
    rw [HG1.out]
    rintro e w2 ⟨rfl, hb2⟩
    go_wp2_with fail
    go_ret
    exact ⟨by simp, HB.out.trans (hb2.mono HB.out.size)⟩
  | true =>
    cases b2 with
    | false =>
      go_enter Try.func80, Try.ntmps80
      go_wp2_with fail
      rw [← hw0]
      clear hw0
      refine (risingLists_any _ A1 n1 c1 x1 HR1.out hn1).mono ?_
      rw [HG1.out]
      rintro e w2 ⟨rfl, hb2⟩
      have hx2 := blk_bel HX0.out hb2
      have y2 := blk_cell hx2 2 rfl
      clear q1
      go_wp2_with fail
      refine (risingLists_any _ A2 n2 c2 x2 (HR2.out.below hb2 (Nat.le_refl _)) hn2).mono ?_
      rw [HG2.out]
      rintro e w3 ⟨rfl, hb3⟩
      go_wp2_with fail
      go_ret
      have hz := HB.out.trans (hb2.mono HB.out.size)
      exact ⟨by simp, hz.trans (hb3.mono hz.size)⟩
    | true =>
      go_enter Try.func80, Try.ntmps80
      go_wp2_with fail
      rw [← hw0]
      clear hw0
      refine (risingLists_any _ A1 n1 c1 x1 HR1.out hn1).mono ?_
      rw [HG1.out]
      rintro e w2 ⟨rfl, hb2⟩
      have hx2 := blk_bel HX0.out hb2
      have y2 := blk_cell hx2 2 rfl
      clear q1
      go_wp2_with fail
      refine (risingLists_any _ A2 n2 c2 x2 (HR2.out.below hb2 (Nat.le_refl _)) hn2).mono ?_
      rw [HG2.out]
      rintro e w3 ⟨rfl, hb3⟩
      have hx3 := blk_bel hx2 hb3
      have y3 := blk_cell hx3 3 rfl
      clear y2
      go_wp2_with fail
      refine (risingLists_any _ A3 n3 c3 x3 ((HR3.out.below hb2 (Nat.le_refl _)).below hb3 (Nat.le_refl _)) hn3).mono ?_
      rw [HG3.out]
      rintro e w4 ⟨rfl, hb4⟩
      go_wp2_with fail
      go_ret
      have hz := HB.out.trans (hb2.mono HB.out.size)
      have hz3 := hz.trans (hb3.mono hz.size)
      exact ⟨by simp, hz3.trans (hb4.mono hz3.size)⟩
theorem okP_cases (k : Int) (ns : List Int) (ws : List (List Int)) (n1 n2 : Nat) (h1 : ns.length = n1) (h2 : ws.length = n2) :
    (inB k 1 8 = false ∧ okP k ns ws = false) ∨ (inB k 1 8 = true ∧ 300 < n1 ∧ okP k ns ws = false) ∨ (inB k 1 8 = true ∧ ¬ 300 < n1 ∧ 300 < n2 ∧ okP k ns ws = false) ∨ (inB k 1 8 = true ∧ ¬ 300 < n1 ∧ ¬ 300 < n2 ∧ okP k ns ws = (allIn ns (-1000000000000) 1000000000000 && ws.all wordB)) := by
  subst h1 h2
  unfold okP
  cases inB k 1 8
  · left; simp
  · right
    by_cases h1 : ns.length ≤ 300
    · right
      by_cases h2 : ws.length ≤ 300
      · right; refine ⟨rfl, by omega, by omega, by simp [h1, h2]⟩
      · left; refine ⟨rfl, by omega, by omega, by simp [h2]⟩
    · left; refine ⟨rfl, by omega, by simp [h1]⟩
set_option maxHeartbeats 2000000 in
theorem ValidProof_any (w : World) (k : Int) (A1 : Option Addr) (n1 c1 : Nat) (ns : List Int) (hr1 : Rd w A1 n1 (ints ns)) (hn1 : n1 ≤ 1000000000) (A2 : Option Addr) (n2 c2 : Nat) (ws : List (List Int)) (hr2 : RdL w A2 n2 ws) (hn2 : n2 ≤ 1000000000) :
    Calls Try.prog 100 #[prfV k A1 n1 c1 A2 n2 c2] w (RetV w (.bool (okP k ns ws))) := by
  obtain ⟨w0, hw0⟩ : ∃ w0, w0 = w.alloc (.cells #[.int .i64 k, .slice A1 n1 c1, .slice A2 n2 c2] 55) := ⟨_, rfl⟩
  have hB : Below w.heap.size w w0 := by rw [hw0]; exact below_new w _
  have hx0 : w0.heap[w.heap.size]? = some (.cells #[.int .i64 k, .slice A1 n1 c1, .slice A2 n2 c2] 55 (0, 0)) := by rw [hw0]; exact box_new w _ _
  have q0 := blk_cell hx0 0 rfl
  have q1 := blk_cell hx0 1 rfl
  have q2 := blk_cell hx0 2 rfl
  have HR1 := Lib.hid (hr1.below hB (Nat.le_refl _))
  have HR2 := Lib.hid (hr2.below hB (Nat.le_refl _))
  have HB := Lib.hid hB
  clear hB hx0
  rcases okP_cases k ns ws n1 n2 (by simpa using hr1.1) hr2.len with ⟨h1, hO⟩ | ⟨h1, h2, hO⟩ | ⟨h1, h2, h3, hO⟩ | ⟨h1, h2, h3, hO⟩
  · have HO := Lib.hid hO; have H1 := Lib.hid h1; clear hO h1
    go_enter Try.func100, Try.ntmps100
    go_wp2_with fail
    rw [← hw0]
    clear hw0
    refine (within_any _ _ _ _).mono ?_
    rw [H1.out]
    rintro e w2 ⟨rfl, rfl⟩
    go_wp2_with fail
    go_ret
    exact ⟨by rw [HO.out]; rfl, HB.out⟩
  · have HO := Lib.hid hO; have H1 := Lib.hid h1; clear hO h1
    have d1 : (300 : Int) < (n1 : Int) := by omega
    go_enter Try.func100, Try.ntmps100
    go_wp2_with fail
    rw [← hw0]
    clear hw0
    refine (within_any _ _ _ _).mono ?_
    rw [H1.out]
    rintro e w2 ⟨rfl, rfl⟩
    go_wp2_with fail
    go_ret
    exact ⟨by rw [HO.out]; rfl, HB.out⟩
  · have HO := Lib.hid hO; have H1 := Lib.hid h1; clear hO h1
    have d1 : ¬ (300 : Int) < (n1 : Int) := by omega
    have d2 : (300 : Int) < (n2 : Int) := by omega
    go_enter Try.func100, Try.ntmps100
    go_wp2_with fail
    rw [← hw0]
    clear hw0
    refine (within_any _ _ _ _).mono ?_
    rw [H1.out]
    rintro e w2 ⟨rfl, rfl⟩
    go_wp2_with fail
    go_ret
    exact ⟨by rw [HO.out]; rfl, HB.out⟩
  · have HO := Lib.hid hO; have H1 := Lib.hid h1; clear hO h1
    have d1 : ¬ (300 : Int) < (n1 : Int) := by omega
    have d2 : ¬ (300 : Int) < (n2 : Int) := by omega
    cases ha : allIn ns (-1000000000000) 1000000000000 with
    | false =>
      have HA := Lib.hid ha
      have HO2 : Hid (okP k ns ws = false) := Lib.hid (by rw [HO.out, ha]; rfl)
      clear ha
      go_enter Try.func100, Try.ntmps100
      go_wp2_with fail
      rw [← hw0]
      clear hw0
      refine (within_any _ _ _ _).mono ?_
      rw [H1.out]
      rintro e w2 ⟨rfl, rfl⟩
      go_wp2_with fail
      refine (allWithin_any _ _ _ _ ns HR1.out (by omega) _ _).mono ?_
      rw [HA.out]
      rintro e w2 ⟨rfl, rfl⟩
      go_wp2_with fail
      go_ret
      exact ⟨by rw [HO2.out]; rfl, HB.out⟩
    | true =>
      have HA := Lib.hid ha
      have HO2 : Hid (okP k ns ws = ws.all wordB) := Lib.hid (by rw [HO.out, ha]; rfl)
      clear ha
      go_enter Try.func100, Try.ntmps100
      go_wp2_with fail
      rw [← hw0]
      clear hw0
      refine (within_any _ _ _ _).mono ?_
      rw [H1.out]
      rintro e w2 ⟨rfl, rfl⟩
      go_wp2_with fail
      refine (allWithin_any _ _ _ _ ns HR1.out (by omega) _ _).mono ?_
      rw [HA.out]
      rintro e w2 ⟨rfl, rfl⟩
      go_wp2_with fail
      refine (areWords_any _ _ _ _ ws HR2.out hn2).mono ?_
      rw [← HO2.out]
      rintro e w3 ⟨rfl, hb3⟩
      go_wp2_with fail
      go_ret
      exact ⟨rfl, HB.out.trans (hb3.mono HB.out.size)⟩
end Go.Proofs.Ytjgajjcgapifoaa
