/- Cyclic tag systems: one step, both sides. -/
import Derived.Test.YtbecofpklndpaaaCycM
import Derived.Test.YtbecofpklndpaaaCpy
import Derived.Test.YtbecofpklndpaaaApp
import Derived.StillTailTactics
namespace Go.Proofs.Ytbecofpklndpaaa
open Go.RowKit
set_option linter.unusedVariables false
set_option linter.unusedSimpArgs false
abbrev turV (a : Int) (A : Option Addr) (n c : Nat) : Value := .agg #[.int .i64 a, .slice A n c]
def okCT (xss : List (List Int)) (a : Int) (xs : List Int) : Bool := okC xss && okT xss a xs
theorem ch_und {F : Nat → Prop} {w w' : World} (h : Ch F w.drew w') : Ch F w w' := ⟨h.os, h.tape, h.output, h.size, h.block⟩
theorem ch_cell {F : Nat → Prop} {w w' : World} (h : Ch F w w') {p : Addr} (hp : p.block < w.heap.size) (hn : ¬ F p.block) : w'.cell? p = w.cell? p := by
  unfold World.cell?
  rw [h.block _ hp hn]
theorem own_blk_not {w : World} {base e s n g T : Nat} {v : Value} {vs : List Value} {cs : Array Value} (hg : w.heap[g]? = some (.cells cs T (0, 0))) (hT : T ≠ e) (h : w.ownsRow base e s v n vs) : ¬ Fo v g := fun hf => by
  rcases h.2 with ⟨rfl, _⟩ | ⟨g', cap, cur, rfl, _, hgg, _⟩
  · simp [Fo, Value.ownBlock] at hf
  · obtain rfl : g' = g := by simpa [Fo, Value.ownBlock] using hf
    exact blk_ne hg hgg hT rfl
theorem ints_app (xs ys : List Int) : ints (xs ++ ys) = ints xs ++ ints ys := List.map_append
/-- The word behind a step. -/
def nxtW (x : Int) (r ws : List Int) : List Int := if x = 1 then r ++ ws else r
set_option maxHeartbeats 4000000 in
set_option maxRecDepth 100000 in
theorem l09Next_any (w : World) (g g2 : Nat) (A : Option Addr) (n c b off n2 c2 : Nat) (a : Nat) (hg : w.heap[g]? = some (.cells #[.slice A n c] 78 (0, 0))) (hg2 : w.heap[g2]? = some (.cells #[.int .i64 a, .slice (some ⟨b, off, none⟩) (n2 + 1) c2] 75 (0, 0)))
    (xss : List (List Int)) (hrl : RdL w A n xss) (hn : n ≤ 1000000000) (x : Int) (xs : List Int) (hr : Rd w (some ⟨b, off, none⟩) (n2 + 1) (ints (x :: xs))) (hn2 : n2 ≤ 1000000000) (hc2 : n2 + 1 ≤ c2) (ha : a < n) (ws : List Int) (hws : xss[a]? = some ws) :
    Calls Try.prog 130 #[.pointer (some ⟨g, 0, none⟩), .pointer (some ⟨g2, 0, none⟩)] w fun e w' => ∃ A' n' c', e = .returned (.tuple #[turV (((a : Int) + 1) % n) A' n' c', .bool (decide ((n' : Int) ≤ 1000))]) ∧ w'.ownsRow w.heap.size 2 1 (.slice A' n' c') n' (ints (nxtW x xs ws)) ∧ Below w.heap.size w w' := by
  have q0 := blk_cell hg 0 (v := .slice A n c) rfl
  have p0 := blk_cell hg2 0 (v := .int .i64 a) rfl
  have p1 := blk_cell hg2 1 (v := .slice (some ⟨b, off, none⟩) (n2 + 1) c2) rfl
  have hw : IntKind.i64.wrap ((a : Int) + 1) = (a : Int) + 1 := IntWalk.i64_in _ (by omega)
  have hnz : ¬ n = 0 := by omega
  have hi1 : (0 : Int) ≤ (n2 : Int) := by omega
  obtain ⟨off', c', hsl, hrt⟩ : ∃ off' c', (∀ w, (Instr.slice 25 (.slice (some ⟨b, off, none⟩) (n2 + 1) c2) (some (.int .i64 1)) none none).run Try.prog w = .ok (.slice (some ⟨b, off', none⟩) n2 c') w) ∧ Rd w (some ⟨b, off', none⟩) n2 (ints xs) := by
    by_cases hcc : 1 < c2
    · exact ⟨off + 1, c2 - 1, fun w => by simpa using run_cut Try.underlying25 Try.szI w b off (n2 + 1) c2 1 1 .i64 rfl (by omega) hcc, by simpa using hr.tail 1 (by omega)⟩
    · obtain rfl : n2 = 0 := by omega
      exact ⟨off, c2 - 1, fun w => by simpa using run_cut0 Try.underlying25 Try.szI w (some ⟨b, off, none⟩) (0 + 1) c2 1 1 .i64 rfl (by omega) (by omega), by have h := (hr.tail 1 (by omega)).any (A' := some ⟨b, off, none⟩); simpa using h⟩
  have hmod : (((a : Int) + 1).tmod n) = ((a : Int) + 1) % n := Int.tmod_eq_emod_of_nonneg (by omega)
  have hmw : IntKind.i64.wrap (((a : Int) + 1) % n) = ((a : Int) + 1) % n := IntWalk.i64_in _ (by have := Int.emod_lt_of_pos ((a : Int) + 1) (show (0 : Int) < n by omega); have := Int.emod_nonneg ((a : Int) + 1) (show (n : Int) ≠ 0 by omega); omega)
  go_enter Try.func130, Try.ntmps130
  go_upto_region 1 with fail
  obtain ⟨w0, hw0⟩ : ∃ w0, w0 = w.alloc (.cells #[.int .i64 0, .slice none 0 0] 75) := ⟨_, rfl⟩
  rw [← hw0]
  have hb0 : Below w.heap.size w w0 := by rw [hw0]; exact below_new _ _
  have hx0 : w0.heap[w.heap.size]? = some (.cells #[.int .i64 0, .slice none 0 0] 75 (0, 0)) := by rw [hw0]; exact box_new _ _ _
  have hl0 := blk_lt hx0
  clear hw0
  replace hg := blk_bel hg hb0
  replace hg2 := blk_bel hg2 hb0
  replace hrt := hrt.below hb0 (Nat.le_refl _)
  replace hr := hr.below hb0 (Nat.le_refl _)
  replace hrl := hrl.below hb0 (Nat.le_refl _)
  clear q0 p0 p1
  have q0 := blk_cell hg 0 (v := .slice A n c) rfl
  have p0 := blk_cell hg2 0 (v := .int .i64 a) rfl
  have p1 := blk_cell hg2 1 (v := .slice (some ⟨b, off, none⟩) (n2 + 1) c2) rfl
  go_cut [6] (fun s6 wx => ∃ (g6 : Nat) (A1 : Option Addr) (n1 c1 : Nat), s6 = .pointer (some ⟨g6, 0, none⟩) ∧ wx.heap[g6]? = some (.cells #[.int .i64 (((a : Int) + 1) % n), .slice A1 n1 c1] 75 (0, 0)) ∧ w0.heap.size ≤ g6 ∧ wx.ownsRow w0.heap.size 2 1 (.slice A1 n1 c1) n1 (ints xs) ∧ Below w0.heap.size w0 wx)
  case first =>
    go_region_held3 (fun w' => w'.cell? ⟨g, 0, none⟩ = some (.slice A n c) ∧ w'.cell? ⟨g2, 0, none⟩ = some (.int .i64 a) ∧ w'.cell? ⟨g2, 1, none⟩ = some (.slice (some ⟨b, off, none⟩) (n2 + 1) c2)) (first | exact ⟨q0, p0, p1⟩ | exact ⟨Q0, P0, P1⟩ | exact ⟨blk_cell (blk_alloc hg _) 0 rfl, blk_cell (blk_alloc hg2 _) 0 rfl, blk_cell (blk_alloc hg2 _) 1 rfl⟩ | exact ⟨blk_cell (blk_alloc hG _) 0 rfl, blk_cell (blk_alloc hG2 _) 0 rfl, blk_cell (blk_alloc hG2 _) 1 rfl⟩ | (refine ⟨?_, ?_, ?_⟩ <;> (repeat (refine cell_far ?_ (by have := blk_lt hg; have := blk_lt hg2; omega))) <;> assumption) | go_keep) (first
      | (go_at_call 204
         refine (l00Own_any _ _ _ _ xs (by have h := hrt; first | exact h | exact h.below (below_new _ _) (Nat.le_refl _) | exact h.below (below_drew1 (below_new _ _)) (Nat.le_refl _)) (by omega)).mono ?_
         rintro e v1 ⟨A1, n1, c1, rfl, ho1, hb1⟩
         (try replace hb1 := und1 hb1)
         (try replace hb1 := undN hb1)
         (try (have hq := box_step hb1; clear hb1; obtain ⟨hb1, hx6, hs6⟩ := hq))
         (try simp only [World.size_alloc] at hx6 hs6)
         have hG := blk_bel hg hb1
         have hG2 := blk_bel hg2 hb1
         have Q0 := blk_cell hG 0 rfl
         have P0 := blk_cell hG2 0 rfl
         have P1 := blk_cell hG2 1 rfl
         (try have z0 := blk_cell hx6 0 rfl)
         (try have z1 := blk_cell hx6 1 rfl)
         (try have f0 := blk_free hx6 0)
         (try have f1 := blk_free hx6 1)
         (try have hl6 := blk_lt hx6)))
    all_goals
      go_wp2_with fail
      go_meet
      refine ⟨_, A1, n1, c1, rfl, (by first | exact box_new _ _ _ | simpa using blk_set (blk_set hx6 0 _) 1 _), (by first | omega | exact hb1.size), ?_, ?_⟩
      · first
          | exact ho1.alloc _
          | exact own_ch (ownN_base ho1 (by simp)) ((ch_set v1 w0.heap.size 0 _).trans (ch_set _ w0.heap.size 1 _)) (fun k h1 h2 => by have := (ho1.lt k h1).1; simp at this; omega)
      · first
          | exact below_drew1 (hb1.alloc hb1.size _)
          | exact hb1.alloc hb1.size _
          | (refine below_drew1 ((hb1.setCell ?_ _).setCell ?_ _) <;> (first | omega | (dsimp only; omega) | (simp; done) | (simp; omega)))
          | (refine (hb1.setCell ?_ _).setCell ?_ _ <;> (first | omega | (dsimp only; omega) | (simp; done) | (simp; omega)))
  case rest =>
    obtain ⟨g6, A1, n1, c1, rfl, hx6, hg6, ho1, hb1⟩ := hcut
    have hB := Lib.hid (hb0.trans (hb1.mono hb0.size))
    clear q0 p0 p1
    have hl6 := blk_lt hx6
    have q0 := blk_cell (blk_bel hg hb1) 0 rfl
    have hG2 := blk_bel hg2 hb1
    have p0 := blk_cell hG2 0 rfl
    have p1 := blk_cell hG2 1 rfl
    have hr4 := blk_bel hx0 hb1
    have r0 := blk_cell hr4 0 rfl
    have r1 := blk_cell hr4 1 rfl
    have e0 := blk_free hr4 0
    have e1 := blk_free hr4 1
    have y0 := blk_cell hx6 0 rfl
    have y1 := blk_cell hx6 1 rfl
    have d0 := blk_free hx6 0
    have d1 := blk_free hx6 1
    obtain ⟨_, _, hbA, hbb, hcx⟩ := hr.at_ (k := 0) (u := .int .i64 x) rfl
    injection hbA with hbA
    injection hbA with hbA1 hbA2
    subst hbA1 hbA2
    have hcx1 : wc.cell? ⟨b, off, none⟩ = some (.int .i64 x) := (hb1.cell (p := ⟨b, off, none⟩) hbb).trans (by simpa using hcx)
    obtain ⟨b3, off3, A3, n3, c3, rfl, hb3s, hc3, hn3, hr3⟩ := hrl.at_ hws
    replace hc3 := (hb1.cell (p := ⟨b3, off3 + a, none⟩) hb3s).trans hc3
    replace hr3 := hr3.below hb1 (Nat.le_refl _)
    have HB3 := Lib.hid hb3s
    replace hb3s : b3 < wc.heap.size := Nat.lt_of_lt_of_le hb3s hb1.size
    have hia : (0 : Int) ≤ (a : Int) := by omega
    have hian : (a : Int) < (n : Int) := by omega
    have hn1 : n1 ≤ 1000000000 := by have h1 := ho1.1; have h2 := hr.1; simp at h1 h2; omega
    have hd6 : ¬ Fo (.slice A1 n1 c1) g6 := own_blk_not hx6 (by decide) ho1
    have HD6 := Lib.hid hd6
    by_cases hx1 : x = 1
    · subst hx1
      go_wp2_with fail
      go_still_tail 12, (by kernel_rfl)
      change wpList _ _ _ _ _ wc.drew
      go_wp2_with ((refine wpList_appSg Try.eltI rfl _ _ rfl _ w0.heap.size _ n1 (ints xs) (by rfl) (by exact ho1) A3 n3 c3 (ints ws) (by rfl) (by exact hr3) ints_one (by exact hb1.size) (by omega) ?_); intro A7 c7 w7 ho7 hb7 hgr7; have hch7 := ch_und (ch_row hgr7); have hx7 := blk_ch hx6 hch7 HD6.out; have hr7 := blk_ch hr4 hch7 (fun h => by have h1 := (ho1.lt _ h).1; omega); have z1 := blk_cell hx7 1 rfl; have f1 := blk_free hx7 1)
      have hx8 := blk_set hx7 1 (.slice A7 (n1 + n3) c7)
      have hr8 := blk_far (p := ⟨g6, 1, none⟩) (u := .slice A7 (n1 + n3) c7) hr7 (by simp only; omega)
      obtain ⟨w8, hw8⟩ : ∃ w8, w8 = w7.setCell ⟨g6, 1, none⟩ (.slice A7 (n1 + n3) c7) := ⟨_, rfl⟩
      have hC8 : Hid (Ch (fun k => Fo (.slice A1 n1 c1) k ∨ k = g6) wc w8) := Lib.hid (by rw [hw8]; exact (hch7.mono (fun k h => .inl h)).trans ((ch_set w7 g6 1 _).mono (fun k h => .inr h)))
      have ho8 : Hid (w8.ownsRow w0.heap.size 2 1 (.slice A7 (n1 + n3) c7) (n1 + n3) (ints xs ++ ints ws)) := Lib.hid (by
        rw [hw8]
        refine own_ch ho7 (ch_set w7 g6 1 _) (fun k h1 h2 => ?_)
        subst h2
        exact own_blk_not hx7 (by decide) ho7 h1)
      rw [← hw8] at hx8 hr8 ⊢
      clear z1 f1 hw8 ho7 hch7 hb7 hgr7 hx7 hr7 r0 r1 e0 e1 y0 y1 d0 d1 q0 p0 p1 hcx1
      have y0 := blk_cell hx8 0 rfl
      have y1 := blk_cell hx8 1 rfl
      have r0 := blk_cell hr8 0 rfl
      have r1 := blk_cell hr8 1 rfl
      have e0 := blk_free hr8 0
      have e1 := blk_free hr8 1
      simp at hx8 y0 y1
      go_wp2_with fail
      go_region_held3 (fun w' => w'.cell? ⟨g6, 0, none⟩ = some (.int .i64 (((a : Int) + 1) % n)) ∧ w'.cell? ⟨g6, 1, none⟩ = some (.slice A7 (n1 + n3) c7)) (first | exact ⟨y0, y1⟩ | (refine ⟨?_, ?_⟩ <;> (repeat (refine cell_far ?_ (by omega))) <;> assumption) | go_keep) (fail)
      have s0 : ((w8.setCell ⟨w.heap.size, 0, none⟩ (.int .i64 (((a : Int) + 1) % n))).setCell ⟨w.heap.size, 1, none⟩ (.slice A7 (n1 + n3) c7)).cell? ⟨w.heap.size, 0, none⟩ = some (.int .i64 (((a : Int) + 1) % n)) := blk_cell (blk_set (blk_set hr8 0 _) 1 _) 0 rfl
      have s1 : ((w8.setCell ⟨w.heap.size, 0, none⟩ (.int .i64 (((a : Int) + 1) % n))).setCell ⟨w.heap.size, 1, none⟩ (.slice A7 (n1 + n3) c7)).cell? ⟨w.heap.size, 1, none⟩ = some (.slice A7 (n1 + n3) c7) := blk_cell (blk_set (blk_set hr8 0 _) 1 _) 1 rfl
      all_goals
        go_wp2_with fail
        refine bodyPost_ret (v := .tuple #[turV (((a : Int) + 1) % n) A7 (n1 + n3) c7, .bool (decide (((n1 + n3 : Nat) : Int) ≤ 1000))]) (by simp [results, Try.results130, go_sem, s0, s1]) rfl ?_
        refine ⟨A7, n1 + n3, c7, rfl, ?_, ?_⟩
        · rw [nxtW, if_pos rfl]
          rw [ints_app]
          exact own_ch (ownN_base ho8.out hb0.size) (ch_drew ((ch_set w8 w.heap.size 0 _).trans (ch_set _ w.heap.size 1 _))) (fun k h1 h2 => by have := (ho8.out.lt k h1).1; omega)
        · exact below_drew1 ((((below_ch hB.out hC8.out (fun k h => h.elim (fun h => by have := (ho1.lt k h).1; omega) (fun h => by omega)) hB.out.size)).setCell (Nat.le_refl _) _).setCell (Nat.le_refl _) _)
    · have hxb : (x == 1) = false := beq_eq_false_iff_ne.2 hx1
      go_wp2_with fail
      go_region_held3 (fun w' => w'.cell? ⟨g6, 0, none⟩ = some (.int .i64 (((a : Int) + 1) % n)) ∧ w'.cell? ⟨g6, 1, none⟩ = some (.slice A1 n1 c1)) (first | exact ⟨y0, y1⟩ | (refine ⟨?_, ?_⟩ <;> (repeat (refine cell_far ?_ (by omega))) <;> assumption) | go_keep) (fail)
      have s0 : ((wc.setCell ⟨w.heap.size, 0, none⟩ (.int .i64 (((a : Int) + 1) % n))).setCell ⟨w.heap.size, 1, none⟩ (.slice A1 n1 c1)).cell? ⟨w.heap.size, 0, none⟩ = some (.int .i64 (((a : Int) + 1) % n)) := blk_cell (blk_set (blk_set hr4 0 _) 1 _) 0 rfl
      have s1 : ((wc.setCell ⟨w.heap.size, 0, none⟩ (.int .i64 (((a : Int) + 1) % n))).setCell ⟨w.heap.size, 1, none⟩ (.slice A1 n1 c1)).cell? ⟨w.heap.size, 1, none⟩ = some (.slice A1 n1 c1) := blk_cell (blk_set (blk_set hr4 0 _) 1 _) 1 rfl
      all_goals
        go_wp2_with fail
        refine bodyPost_ret (v := .tuple #[turV (((a : Int) + 1) % n) A1 n1 c1, .bool (decide ((n1 : Int) ≤ 1000))]) (by simp [results, Try.results130, go_sem, s0, s1]) rfl ?_
        refine ⟨A1, n1, c1, rfl, ?_, ?_⟩
        · rw [nxtW, if_neg hx1]
          exact own_ch (ownN_base ho1 hb0.size) (ch_drew ((ch_set wc w.heap.size 0 _).trans (ch_set _ w.heap.size 1 _))) (fun k h1 h2 => by have := (ho1.lt k h1).1; omega)
        · exact below_drew1 (((hB.out).setCell (Nat.le_refl _) _).setCell (Nat.le_refl _) _)
end Go.Proofs.Ytbecofpklndpaaa
