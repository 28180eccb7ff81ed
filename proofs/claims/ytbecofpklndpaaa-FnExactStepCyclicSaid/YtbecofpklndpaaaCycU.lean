/- Cyclic tag systems: the program's step, StepCyclic of both sides. -/
import Derived.Test.YtbecofpklndpaaaCycT
namespace Go.Proofs.Ytbecofpklndpaaa
open Go.RowKit
set_option linter.unusedVariables false
set_option linter.unusedSimpArgs false
theorem ownA_not {w : World} {e n c g T : Nat} {A : Option Addr} {vs : List Value} {cs : Array Value} (hg : w.heap[g]? = some (.cells cs T (0, 0))) (hT : T ≠ e) (h : OwnA w e A n c vs) : ¬ Fo (.slice A n c) g := fun hf => by
  rcases h.2 with ⟨rfl, _⟩ | ⟨g', off, cur, rfl, hgg, _⟩
  · simp [Fo, Value.ownBlock] at hf
  · obtain rfl : g' = g := by simpa [Fo, Value.ownBlock] using hf
    exact blk_ne hg hgg hT rfl
set_option maxHeartbeats 4000000 in
set_option maxRecDepth 100000 in
theorem cycStep_any (w0 w : World) (g : Nat) (A : Option Addr) (n c a gq off n2 c2 : Nat) (hg : w.heap[g]? = some (.cells #[.slice A n c, .int .i64 a, .slice (some ⟨gq, off, none⟩) (n2 + 1) c2] 231 (0, 0))) (x : Int) (xs : List Int) (hok : OwnA w 2 (some ⟨gq, off, none⟩) (n2 + 1) c2 (ints (x :: xs))) (hn2 : n2 ≤ 1000000000)
    (xss : List (List Int)) (hrl : RdL w0 A n xss) (hB : Below w0.heap.size w0 w) (hgB : w0.heap.size ≤ g) (hqB : w0.heap.size ≤ gq) (hn : n ≤ 1000000000) (ha : a < n) (ws : List Int) (hws : xss[a]? = some ws) :
    Calls Try.prog 136 #[.pointer (some ⟨g, 0, none⟩)] w fun e w' => ∃ (A7 : Option Addr) (n7 c7 : Nat), e = .returned (.bool (decide ((n7 : Int) ≤ 1000))) ∧ w'.heap[g]? = some (.cells #[.slice A n c, .int .i64 (((a : Int) + 1) % n), .slice A7 n7 c7] 231 (0, 0)) ∧ OwnA w' 2 A7 n7 c7 (ints (nxtW x xs ws)) ∧ Below w0.heap.size w0 w' := by
  have hw : IntKind.i64.wrap ((a : Int) + 1) = (a : Int) + 1 := IntWalk.i64_in _ (by omega)
  have hnz : ¬ n = 0 := by omega
  have hcap := hok.cap
  obtain ⟨off', c', hsl, hokT⟩ : ∃ off' c', (∀ w, (Instr.slice 25 (.slice (some ⟨gq, off, none⟩) (n2 + 1) c2) (some (.int .i64 1)) none none).run Try.prog w = .ok (.slice (some ⟨gq, off', none⟩) n2 c') w) ∧ OwnA w 2 (some ⟨gq, off', none⟩) n2 c' (ints xs) := by
    by_cases hcc : 1 < c2
    · exact ⟨off + 1, c2 - 1, fun w => by simpa using run_cut Try.underlying25 Try.szI w gq off (n2 + 1) c2 1 1 .i64 rfl (by omega) hcc, by simpa using hok.tail hcc (by omega)⟩
    · obtain rfl : n2 = 0 := by omega
      obtain rfl : c2 = 1 := by omega
      exact ⟨off, 0, fun w => by simpa using run_cut0 Try.underlying25 Try.szI w (some ⟨gq, off, none⟩) (0 + 1) 1 1 1 .i64 rfl (by omega) (by omega), by have h := hok.tail0 (by simpa using hok.1); simpa using h⟩
  have hmod : (((a : Int) + 1).tmod n) = ((a : Int) + 1) % n := Int.tmod_eq_emod_of_nonneg (by omega)
  have hmw : IntKind.i64.wrap (((a : Int) + 1) % n) = ((a : Int) + 1) % n := IntWalk.i64_in _ (by have := Int.emod_lt_of_pos ((a : Int) + 1) (show (0 : Int) < n by omega); have := Int.emod_nonneg ((a : Int) + 1) (show (n : Int) ≠ 0 by omega); omega)
  have hi1 : (0 : Int) ≤ (n2 : Int) := by omega
  have hia : (0 : Int) ≤ (a : Int) := by omega
  have hian : (a : Int) < (n : Int) := by omega
  obtain ⟨b3, off3, A3, n3, c3, rfl, hb3s, hc3, hn3, hr3⟩ := hrl.at_ hws
  obtain ⟨_, _, hbA, hbb, hcx⟩ := hok.rd.at_ (k := 0) (u := .int .i64 x) rfl
  injection hbA with hbA
  injection hbA with hbA1 hbA2
  subst hbA1 hbA2
  have hcx1 : w.cell? ⟨gq, off, none⟩ = some (.int .i64 x) := by simpa using hcx
  have hgl := blk_lt hg
  have q0 := blk_cell hg 0 rfl
  have q1 := blk_cell hg 1 rfl
  have q2 := blk_cell hg 2 rfl
  have f2 := blk_free hg 2
  have hxg := blk_set hg 2 (.slice (some ⟨gq, off', none⟩) n2 c')
  have HN := Lib.hid (ownA_not hg (by decide) hokT)
  have HK1 : Hid (OwnA (w.setCell ⟨g, 2, none⟩ (.slice (some ⟨gq, off', none⟩) n2 c')) 2 (some ⟨gq, off', none⟩) n2 c' (ints xs)) := Lib.hid (hokT.ch (ch_set w g 2 _) (fun k h1 h2 => by subst h2; exact HN.out h1))
  have HB1 : Hid (Below w0.heap.size w0 (w.setCell ⟨g, 2, none⟩ (.slice (some ⟨gq, off', none⟩) n2 c'))) := Lib.hid (hB.setCell hgB _)
  have hg3 : g ≠ b3 := by omega
  go_enter Try.func136, Try.ntmps136
  by_cases hx1 : x = 1
  · subst hx1
    go_wp2_with fail
    generalize w.setCell ⟨g, 2, none⟩ (.slice (some ⟨gq, off', none⟩) n2 c') = w1 at *
    simp at hxg
    clear q0 q1 q2 f2 hcx1
    have q0 := blk_cell hxg 0 rfl
    have q1 := blk_cell hxg 1 rfl
    have q2 := blk_cell hxg 2 rfl
    have hc31 := (HB1.out.cell (p := ⟨b3, off3 + a, none⟩) hb3s).trans hc3
    have hr31 := hr3.below HB1.out (Nat.le_refl _)
    have HNN := Lib.hid (ownA_not hxg (by decide) HK1.out)
    (first | (go_region_law (first
      | (refine step_appA Try.eltI (by rfl) _ _ (by rfl) _ (some ⟨gq, off', none⟩) A3 n2 c' n3 c3 (ints xs) (ints ws) (by rfl) (by exact HK1.out) (by rfl) (by exact hr31) ints_one (by omega) ?_
         intro A7 c7 w7 ho7 hch7 hfo7
         replace hch7 := ch_und hch7
         have hx7 := blk_ch hxg hch7 HNN.out
         have z2 := blk_cell hx7 2 rfl
         have e2 := blk_free hx7 2))) | fail)
    all_goals
      go_wp2_with fail
      obtain ⟨wc, hwc⟩ : ∃ wc, wc = w7.setCell ⟨g, 2, none⟩ (.slice A7 (n2 + n3) c7) := ⟨_, rfl⟩
      obtain ⟨n7, hn7⟩ : ∃ n7, n7 = n2 + n3 := ⟨_, rfl⟩
      have hx8 : wc.heap[g]? = some (.cells #[.slice (some ⟨b3, off3, none⟩) n c, .int .i64 a, .slice A7 n7 c7] 231 (0, 0)) := by rw [hwc, hn7]; simpa using blk_set hx7 2 (.slice A7 (n2 + n3) c7)
      have HO7 : Hid (OwnA wc 2 A7 n7 c7 (ints (nxtW 1 xs ws))) := Lib.hid (by
        rw [hwc, hn7, nxtW, if_pos rfl, ints_app]
        exact ho7.ch (ch_set w7 g 2 _) (fun k h1 h2 => by subst h2; exact ownA_not hx7 (by decide) ho7 h1))
      have hB7 : Below w0.heap.size w0 wc := by
        rw [hwc]
        exact (below_ch HB1.out hch7 (fun k h => by have : gq = k := (by simpa [Fo, Value.ownBlock] using h); omega) HB1.out.size).setCell hgB _
      rw [← hwc]
      clear hwc hn7 hx7 z2 e2 ho7 hch7 hfo7 q0 q1 q2 hc31 hr31
      have q0 := blk_cell hx8 0 rfl
      have q1 := blk_cell hx8 1 rfl
      have q2 := blk_cell hx8 2 rfl
      have f1 := blk_free hx8 1
      refine wp_region_still_tail 15 (by kernel_rfl) (by kernel_rfl) ?_
      simp only [List.take_succ_cons, List.take_zero, List.drop_succ_cons, List.drop_zero]
      repeat still_step
      still_call ((sizeSS_any _ _ _ _ (by omega)).mono fun e w' h => ⟨h.1, h.2.symm⟩)
      repeat still_step
      try refine wpStill_nil ?_
      change wpList _ _ _ _ _ wc.drew
      have hx9 := blk_set hx8 1 (.int .i64 (((a : Int) + 1) % n))
      have s2 : ((wc.setCell ⟨g, 1, none⟩ (.int .i64 (((a : Int) + 1) % n))).cell? ⟨g, 2, none⟩) = some (.slice A7 n7 c7) := blk_cell hx9 2 rfl
      go_wp2_with fail
      go_ret
      exact ⟨A7, n7, c7, rfl, (by simpa using hx9 : (wc.setCell ⟨g, 1, none⟩ (.int .i64 (((a : Int) + 1) % n))).heap[g]? = _), HO7.out.ch (ch_drew (ch_set wc g 1 _)) (fun k h1 h2 => by subst h2; exact ownA_not hx8 (by decide) HO7.out h1), below_drew1 (hB7.setCell hgB _)⟩
  · have hxb : (x == 1) = false := beq_eq_false_iff_ne.2 hx1
    go_wp2_with fail
    obtain ⟨wc, hwc⟩ : ∃ wc, wc = w.setCell ⟨g, 2, none⟩ (.slice (some ⟨gq, off', none⟩) n2 c') := ⟨_, rfl⟩
    obtain ⟨A7, hA7⟩ : ∃ A7 : Option Addr, A7 = some ⟨gq, off', none⟩ := ⟨_, rfl⟩
    obtain ⟨n7, hn7⟩ : ∃ n7, n7 = n2 := ⟨_, rfl⟩
    obtain ⟨c7, hc7⟩ : ∃ c7, c7 = c' := ⟨_, rfl⟩
    have hx8 : wc.heap[g]? = some (.cells #[.slice (some ⟨b3, off3, none⟩) n c, .int .i64 a, .slice A7 n7 c7] 231 (0, 0)) := by rw [hwc, hA7, hn7, hc7]; simpa using hxg
    have HO7 : Hid (OwnA wc 2 A7 n7 c7 (ints (nxtW x xs ws))) := Lib.hid (by rw [hwc, hA7, hn7, hc7, nxtW, if_neg hx1]; exact HK1.out)
    have hB7 : Below w0.heap.size w0 wc := by rw [hwc]; exact HB1.out
    rw [← hwc]
    clear hwc hA7 hn7 hc7 q0 q1 q2 f2 hcx1 hxg HK1 HB1
    have q0 := blk_cell hx8 0 rfl
    have q1 := blk_cell hx8 1 rfl
    have q2 := blk_cell hx8 2 rfl
    have f1 := blk_free hx8 1
    refine wp_region_still_tail 15 (by kernel_rfl) (by kernel_rfl) ?_
    simp only [List.take_succ_cons, List.take_zero, List.drop_succ_cons, List.drop_zero]
    repeat still_step
    still_call ((sizeSS_any _ _ _ _ (by omega)).mono fun e w' h => ⟨h.1, h.2.symm⟩)
    repeat still_step
    try refine wpStill_nil ?_
    change wpList _ _ _ _ _ wc.drew
    have hx9 := blk_set hx8 1 (.int .i64 (((a : Int) + 1) % n))
    have s2 : ((wc.setCell ⟨g, 1, none⟩ (.int .i64 (((a : Int) + 1) % n))).cell? ⟨g, 2, none⟩) = some (.slice A7 n7 c7) := blk_cell hx9 2 rfl
    go_wp2_with fail
    go_ret
    exact ⟨A7, n7, c7, rfl, (by simpa using hx9 : (wc.setCell ⟨g, 1, none⟩ (.int .i64 (((a : Int) + 1) % n))).heap[g]? = _), HO7.out.ch (ch_drew (ch_set wc g 1 _)) (fun k h1 h2 => by subst h2; exact ownA_not hx8 (by decide) HO7.out h1), below_drew1 (hB7.setCell hgB _)⟩
end Go.Proofs.Ytbecofpklndpaaa
