/- Cyclic tag systems: the program's ValidTurn and one step. -/
import Derived.Test.YtbecofpklndpaaaCycI
namespace Go.Proofs.Ytbecofpklndpaaa
open Go.RowKit
set_option linter.unusedVariables false
set_option linter.unusedSimpArgs false
theorem two_box (w : World) (c1 c2 : Array Value) (T1 T2 : Nat) : Below w.heap.size w ((w.alloc (.cells c1 T1)).alloc (.cells c2 T2)) ∧ ((w.alloc (.cells c1 T1)).alloc (.cells c2 T2)).heap[w.heap.size]? = some (.cells c1 T1 (0, 0)) ∧ ((w.alloc (.cells c1 T1)).alloc (.cells c2 T2)).heap[w.heap.size + 1]? = some (.cells c2 T2 (0, 0)) := by
  refine ⟨(below_new _ _).trans ((below_new _ _).mono (by simp)), blk_alloc (box_new _ _ _) _, ?_⟩
  have := box_new (w.alloc (.cells c1 T1)) c2 T2
  simpa using this
theorem three_box (w : World) (c1 c2 c3 : Array Value) (T1 T2 T3 : Nat) : Below w.heap.size w (((w.alloc (.cells c1 T1)).alloc (.cells c2 T2)).alloc (.cells c3 T3)) ∧ (((w.alloc (.cells c1 T1)).alloc (.cells c2 T2)).alloc (.cells c3 T3)).heap[w.heap.size]? = some (.cells c1 T1 (0, 0)) ∧ (((w.alloc (.cells c1 T1)).alloc (.cells c2 T2)).alloc (.cells c3 T3)).heap[w.heap.size + 1]? = some (.cells c2 T2 (0, 0)) ∧ (((w.alloc (.cells c1 T1)).alloc (.cells c2 T2)).alloc (.cells c3 T3)).heap[w.heap.size + 2]? = some (.cells c3 T3 (0, 0)) := by
  obtain ⟨h1, h2, h3⟩ := two_box w c1 c2 T1 T2
  refine ⟨h1.trans ((below_new _ _).mono (by simp; omega)), blk_alloc h2 _, blk_alloc h3 _, ?_⟩
  have := box_new ((w.alloc (.cells c1 T1)).alloc (.cells c2 T2)) c3 T3
  simpa using this
theorem okCT_cases (xss : List (List Int)) (n : Nat) (hn : xss.length = n) (a : Int) (xs : List Int) : (okC xss = false ∧ okCT xss a xs = false) ∨ (okC xss = true ∧ inB a 0 ((n : Int) - 1) = false ∧ okCT xss a xs = false) ∨ (okC xss = true ∧ inB a 0 ((n : Int) - 1) = true ∧ okCT xss a xs = okW xs) := by
  unfold okCT
  cases h1 : okC xss
  · left; simp
  · right
    rcases okT_cases xss n hn a xs with ⟨h2, h3⟩ | ⟨h2, h3⟩
    · left; simp [h2, h3]
    · right; simp [h2, h3]
set_option maxHeartbeats 4000000 in
set_option maxRecDepth 100000 in
theorem ValidTurn_any (w : World) (A : Option Addr) (n c : Nat) (xss : List (List Int)) (hr : RdL w A n xss) (hn : n ≤ 1000000000) (a : Int) (A2 : Option Addr) (n2 c2 : Nat) (xs : List Int) (hr2 : Rd w A2 n2 (ints xs)) (hn2 : n2 ≤ 1000000000) :
    Calls Try.prog 133 #[.agg #[.slice A n c], turV a A2 n2 c2] w (RetV w (.bool (okCT xss a xs))) := by
  have hw : IntKind.i64.wrap ((n : Int) - 1) = (n : Int) - 1 := IntWalk.i64_in _ (by omega)
  rcases okCT_cases xss n hr.len a xs with ⟨h1, hO⟩ | ⟨h1, h2, hO⟩ | ⟨h1, h2, hO⟩
  · have HO := Lib.hid hO; clear hO
    have H1 := Lib.hid h1; clear h1
    go_enter Try.func133, Try.ntmps133
    go_wp2_with fail
    obtain ⟨hb0, hx1, hx2⟩ := two_box w #[.slice A n c] #[.int .i64 a, .slice A2 n2 c2] 78 75
    generalize (w.alloc (.cells #[.slice A n c] 78)).alloc (.cells #[.int .i64 a, .slice A2 n2 c2] 75) = w0 at *
    have q0 := blk_cell hx1 0 rfl
    have q1 := blk_cell hx2 0 rfl
    have q2 := blk_cell hx2 1 rfl
    have hr0 := hr.below hb0 (Nat.le_refl _)
    have hr20 := hr2.below hb0 (Nat.le_refl _)
    (first | (go_region_with (first
      | (go_at_call 205; refine (ValidCyclic_any _ _ _ _ xss (by exact hr0) hn).mono ?_; rw [H1.out]; rintro e w2 ⟨rfl, hb2⟩; (replace hb2 := und1 hb2); have p0 := blk_cell (blk_bel hx1 hb2) 0 rfl; have p1 := blk_cell (blk_bel hx2 hb2) 0 rfl; have p2 := blk_cell (blk_bel hx2 hb2) 1 rfl; have hr22 := hr20.below hb2 (Nat.le_refl _))
      | (go_at_call 93; refine (sizeSS_any _ _ _ _ (by omega)).mono ?_; rintro e w' ⟨rfl, rfl⟩)
      | (go_at_call 98; refine (within_any _ _ _ _).mono ?_; rintro e w' ⟨rfl, rfl⟩)
      | (go_at_call 206; refine (isTagWord_any _ _ _ _ xs (by exact hr22) (by omega)).mono ?_; rintro e w' ⟨rfl, rfl⟩))) | fail)
    all_goals
      go_wp2_with fail
      go_ret
      exact ⟨by rw [HO.out]; rfl, hb0.trans (hb2.mono hb0.size)⟩
  · have HO := Lib.hid hO; clear hO
    have H1 := Lib.hid h1; clear h1
    go_enter Try.func133, Try.ntmps133
    go_wp2_with fail
    obtain ⟨hb0, hx1, hx2⟩ := two_box w #[.slice A n c] #[.int .i64 a, .slice A2 n2 c2] 78 75
    generalize (w.alloc (.cells #[.slice A n c] 78)).alloc (.cells #[.int .i64 a, .slice A2 n2 c2] 75) = w0 at *
    have q0 := blk_cell hx1 0 rfl
    have q1 := blk_cell hx2 0 rfl
    have q2 := blk_cell hx2 1 rfl
    have hr0 := hr.below hb0 (Nat.le_refl _)
    have hr20 := hr2.below hb0 (Nat.le_refl _)
    (first | (go_region_with (first
      | (go_at_call 205; refine (ValidCyclic_any _ _ _ _ xss (by exact hr0) hn).mono ?_; rw [H1.out]; rintro e w2 ⟨rfl, hb2⟩; (replace hb2 := und1 hb2); have p0 := blk_cell (blk_bel hx1 hb2) 0 rfl; have p1 := blk_cell (blk_bel hx2 hb2) 0 rfl; have p2 := blk_cell (blk_bel hx2 hb2) 1 rfl; have hr22 := hr20.below hb2 (Nat.le_refl _))
      | (go_at_call 93; refine (sizeSS_any _ _ _ _ (by omega)).mono ?_; rintro e w' ⟨rfl, rfl⟩)
      | (go_at_call 98; refine (within_any _ _ _ _).mono ?_; rintro e w' ⟨rfl, rfl⟩)
      | (go_at_call 206; refine (isTagWord_any _ _ _ _ xs (by exact hr22) (by omega)).mono ?_; rintro e w' ⟨rfl, rfl⟩))) | fail)
    all_goals
      go_wp2_with fail
      go_ret
      exact ⟨by rw [HO.out]; rfl, hb0.trans (hb2.mono hb0.size)⟩
  · have HO := Lib.hid hO; clear hO
    have H1 := Lib.hid h1; clear h1
    go_enter Try.func133, Try.ntmps133
    go_wp2_with fail
    obtain ⟨hb0, hx1, hx2⟩ := two_box w #[.slice A n c] #[.int .i64 a, .slice A2 n2 c2] 78 75
    generalize (w.alloc (.cells #[.slice A n c] 78)).alloc (.cells #[.int .i64 a, .slice A2 n2 c2] 75) = w0 at *
    have q0 := blk_cell hx1 0 rfl
    have q1 := blk_cell hx2 0 rfl
    have q2 := blk_cell hx2 1 rfl
    have hr0 := hr.below hb0 (Nat.le_refl _)
    have hr20 := hr2.below hb0 (Nat.le_refl _)
    (first | (go_region_held3 (fun w' => w'.cell? ⟨w.heap.size, 0, none⟩ = some (.slice A n c) ∧ w'.cell? ⟨w.heap.size + 1, 0, none⟩ = some (.int .i64 a) ∧ w'.cell? ⟨w.heap.size + 1, 1, none⟩ = some (.slice A2 n2 c2)) (first | exact ⟨q0, q1, q2⟩ | exact ⟨p0, p1, p2⟩ | go_keep) (first
      | (go_at_call 205; refine (ValidCyclic_any _ _ _ _ xss (by exact hr0) hn).mono ?_; rw [H1.out]; rintro e w2 ⟨rfl, hb2⟩; (replace hb2 := und1 hb2); have p0 := blk_cell (blk_bel hx1 hb2) 0 rfl; have p1 := blk_cell (blk_bel hx2 hb2) 0 rfl; have p2 := blk_cell (blk_bel hx2 hb2) 1 rfl; have hr22 := hr20.below hb2 (Nat.le_refl _))
      | (go_at_call 93; refine (sizeSS_any _ _ _ _ (by omega)).mono ?_; rintro e w' ⟨rfl, rfl⟩)
      | (go_at_call 98; refine (within_any _ _ _ _).mono ?_; rintro e w' ⟨rfl, rfl⟩)
      | (go_at_call 206; refine (isTagWord_any _ _ _ _ xs (by exact hr22) (by omega)).mono ?_; rintro e w' ⟨rfl, rfl⟩))) | fail)
    all_goals
      go_wp2_with fail
      go_ret
      exact ⟨by rw [HO.out]; rfl, hb0.trans (hb2.mono hb0.size)⟩
set_option maxHeartbeats 4000000 in
set_option maxRecDepth 100000 in
theorem cyclicRunOf_any (w : World) (A : Option Addr) (n c : Nat) (a : Int) (A2 : Option Addr) (n2 c2 : Nat) (xs : List Int) (hr2 : Rd w A2 n2 (ints xs)) (hn2 : n2 ≤ 1000000000) :
    Calls Try.prog 134 #[.agg #[.slice A n c], turV a A2 n2 c2] w fun e w' => ∃ g Aq nq cq, e = .returned (.pointer (some ⟨g, 0, none⟩)) ∧ w'.heap[g]? = some (.cells #[.slice A n c, .int .i64 a, .slice Aq nq cq] 231 (0, 0)) ∧ w.heap.size ≤ g ∧ w'.ownsRow w.heap.size 2 1 (.slice Aq nq cq) nq (ints xs) ∧ Below w.heap.size w w' := by
  go_enter Try.func134, Try.ntmps134
  go_wp2_with fail
  obtain ⟨hb0, hx1, hx2⟩ := two_box w #[.slice A n c] #[.int .i64 a, .slice A2 n2 c2] 78 75
  generalize (w.alloc (.cells #[.slice A n c] 78)).alloc (.cells #[.int .i64 a, .slice A2 n2 c2] 75) = w0 at *
  have q0 := blk_cell hx1 0 rfl
  have q1 := blk_cell hx2 0 rfl
  have q2 := blk_cell hx2 1 rfl
  have hr20 := hr2.below hb0 (Nat.le_refl _)
  go_region_held3 (fun w' => w'.cell? ⟨w.heap.size, 0, none⟩ = some (.slice A n c) ∧ w'.cell? ⟨w.heap.size + 1, 0, none⟩ = some (.int .i64 a) ∧ w'.cell? ⟨w.heap.size + 1, 1, none⟩ = some (.slice A2 n2 c2)) (first | exact ⟨q0, q1, q2⟩ | exact ⟨p0, p1, p2⟩ | exact ⟨blk_cell (blk_alloc (blk_bel hx1 hb2) _) 0 rfl, blk_cell (blk_alloc (blk_bel hx2 hb2) _) 0 rfl, blk_cell (blk_alloc (blk_bel hx2 hb2) _) 1 rfl⟩ | go_keep) (first
    | (go_at_call 161; refine (clone_any _ _ _ _ xs (by exact hr20) (by omega)).mono ?_; rintro e w2 ⟨Aq, nq, cq, rfl, ho2, hb2⟩; (replace hb2 := und1 hb2); have p0 := blk_cell (blk_bel hx1 hb2) 0 rfl; have p1 := blk_cell (blk_bel hx2 hb2) 0 rfl; have p2 := blk_cell (blk_bel hx2 hb2) 1 rfl))
  all_goals
    go_wp2_with fail
    go_ret
    refine ⟨w2.heap.size, Aq, nq, cq, rfl, box_new _ _ _, Nat.le_trans hb0.size hb2.size, (ownN_base ho2 hb0.size).alloc _, (hb0.trans (hb2.mono hb0.size)).alloc (Nat.le_trans hb0.size hb2.size) _⟩
set_option maxHeartbeats 4000000 in
set_option maxRecDepth 100000 in
theorem cycTurn_any (w : World) (g : Nat) (v : Value) (a : Int) (A2 : Option Addr) (n2 c2 : Nat) (hg : w.heap[g]? = some (.cells #[v, .int .i64 a, .slice A2 n2 c2] 231 (0, 0))) (xs : List Int) (hr2 : Rd w A2 n2 (ints xs)) (hn2 : n2 ≤ 1000000000) :
    Calls Try.prog 137 #[.pointer (some ⟨g, 0, none⟩)] w fun e w' => ∃ A' n' c', e = .returned (turV a A' n' c') ∧ w'.ownsRow w.heap.size 2 1 (.slice A' n' c') n' (ints xs) ∧ Below w.heap.size w w' := by
  go_enter Try.func137, Try.ntmps137
  go_wp2_with fail
  have hb0 := below_new w (.cells #[.int .i64 0, .slice none 0 0] 75)
  have hx0 := box_new w #[.int .i64 0, .slice none 0 0] 75
  generalize w.alloc (.cells #[.int .i64 0, .slice none 0 0] 75) = w0 at *
  have hgl := blk_lt hg
  have hG := blk_bel hg hb0
  have q1 := blk_cell hG 1 rfl
  have q2 := blk_cell hG 2 rfl
  have hl0 := blk_lt hx0
  have hr20 := hr2.below hb0 (Nat.le_refl _)
  go_region_held3 (fun w' => w'.cell? ⟨g, 1, none⟩ = some (.int .i64 a) ∧ w'.cell? ⟨g, 2, none⟩ = some (.slice A2 n2 c2)) (first | exact ⟨q1, q2⟩ | exact ⟨p1, p2⟩ | (refine ⟨?_, ?_⟩ <;> (repeat (refine cell_far ?_ (by omega))) <;> assumption) | go_keep) (first
    | (go_at_call 161; refine (clone_any _ _ _ _ xs (by exact hr20) (by omega)).mono ?_; rintro e w2 ⟨Aq, nq, cq, rfl, ho2, hb2⟩; (replace hb2 := und1 hb2); have p1 := blk_cell (blk_bel hG hb2) 1 rfl; have p2 := blk_cell (blk_bel hG hb2) 2 rfl; have hx2 := blk_bel hx0 hb2; have z0 := blk_cell hx2 0 rfl; have z1 := blk_cell hx2 1 rfl; have f0 := blk_free hx2 0; have f1 := blk_free hx2 1))
  have s0 : ((w2.setCell ⟨w.heap.size, 0, none⟩ (.int .i64 a)).setCell ⟨w.heap.size, 1, none⟩ (.slice Aq nq cq)).cell? ⟨w.heap.size, 0, none⟩ = some (.int .i64 a) := blk_cell (blk_set (blk_set hx2 0 _) 1 _) 0 rfl
  have s1 : ((w2.setCell ⟨w.heap.size, 0, none⟩ (.int .i64 a)).setCell ⟨w.heap.size, 1, none⟩ (.slice Aq nq cq)).cell? ⟨w.heap.size, 1, none⟩ = some (.slice Aq nq cq) := blk_cell (blk_set (blk_set hx2 0 _) 1 _) 1 rfl
  go_wp2_with fail
  refine bodyPost_ret (v := turV a Aq nq cq) (by simp [results, Try.results137, go_sem, s0, s1]) rfl ?_
  refine ⟨Aq, nq, cq, rfl, own_ch (ownN_base ho2 hb0.size) ((ch_set w2 w.heap.size 0 _).trans (ch_set _ w.heap.size 1 _)) (fun k h1 h2 => by have h3 := (ho2.lt k h1).1; change w0.heap.size ≤ k at h3; omega), ?_⟩
  exact ((hb0.trans (hb2.mono hb0.size)).setCell (Nat.le_refl _) _).setCell (Nat.le_refl _) _
set_option maxHeartbeats 400000 in
theorem cycHalts_any (w : World) (g : Nat) (v u : Value) (A2 : Option Addr) (n2 c2 : Nat) (hg : w.heap[g]? = some (.cells #[v, u, .slice A2 n2 c2] 231 (0, 0))) :
    Calls Try.prog 135 #[.pointer (some ⟨g, 0, none⟩)] w fun e w' => e = .returned (.bool (decide (n2 = 0))) ∧ w = w' := by
  have q2 := blk_cell hg 2 rfl
  rcases Nat.eq_zero_or_pos n2 with h | h
  · subst h
    go_enter Try.func135, Try.ntmps135
    go_wp2_with fail
    go_ret
    exact ⟨rfl, rfl⟩
  · have h1 : ((n2 : Int) == 0) = false := beq_eq_false_iff_ne.2 (by omega)
    have h2 : ¬ n2 = 0 := by omega
    go_enter Try.func135, Try.ntmps135
    go_wp2_with fail
    go_ret
    exact ⟨by simp [h2], rfl⟩
end Go.Proofs.Ytbecofpklndpaaa
