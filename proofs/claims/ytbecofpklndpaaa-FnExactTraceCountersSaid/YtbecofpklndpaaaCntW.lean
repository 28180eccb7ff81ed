/- Two counters: traces; the reference's and the program's. -/
import Derived.Test.YtbecofpklndpaaaCntV
import Derived.Laws.EntriesVeiled
namespace Go.Proofs.Ytbecofpklndpaaa
open Go.RowKit
set_option linter.unusedSimpArgs false
set_option linter.unusedVariables false
theorem eltC : EltN Try.prog 100 57 (.agg #[.int .i64 0, .int .i64 0, .int .i64 0]) 3 := EltN.mk_ (b := 24) Try.underlying100 (by kernel_rfl) rfl (by omega) (by omega)
theorem flatC_one (x : Cnt) : ints (flatC [x]) = [.int .i64 x.at_, .int .i64 x.a, .int .i64 x.b] := rfl
theorem ints_snocC (cs : List Cnt) (x : Cnt) : ints (flatC cs) ++ [.int .i64 x.at_, .int .i64 x.a, .int .i64 x.b] = ints (flatC (cs ++ [x])) := by rw [flatC_append, ← flatC_one, ints, ints, ints, List.map_append]
theorem own_blkN {w : World} {base e n c g s : Nat} {vs : List Value} (h : w.ownsRow base e s (.slice (some ⟨g, 0, none⟩) n c) n vs) : ∃ cs, w.heap[g]? = some (.cells cs e (0, 0)) := by
  rcases h.2 with ⟨h', _⟩ | ⟨g', cap, cur, h', _, hg, _⟩
  · simp at h'
  · injection h' with h1
    injection h1 with h1
    injection h1 with h1
    subst h1
    exact ⟨cur, hg⟩
/-- A row is no block of another type. -/
theorem fo_type {w : World} {base e n s L T k : Nat} {v : Value} {vs : List Value} {cs : Array Value} (h : w.ownsRow base e s v n vs) (hL : w.heap[L]? = some (.cells cs T (0, 0))) (hT : T ≠ e) (hk : Fo v k) : k ≠ L := by
  rcases h.2 with ⟨rfl, _⟩ | ⟨g, cap, cur, rfl, _, hg, _⟩
  · simp [Fo, Value.ownBlock] at hk
  · obtain rfl : g = k := by simpa [Fo, Value.ownBlock] using hk
    exact fun e1 => by subst e1; rw [hg] at hL; injection hL with hL; injection hL with _ h2; exact hT h2.symm
theorem fo_ge {w : World} {base e n s k : Nat} {v : Value} {vs : List Value} (h : w.ownsRow base e s v n vs) (hk : Fo v k) : base ≤ k := (h.lt k hk).1

def TracePost (w : World) (L b n : Nat) (cs : List Cnt) (e : Ending) (w' : World) : Prop :=
  e = .returned (.tuple #[]) ∧ ∃ A' c', w'.heap[L]? = some (.cells #[.slice A' (n + 1) c'] 100 (0, 0)) ∧ w'.ownsRow b 57 3 (.slice A' (n + 1) c') (n + 1) (ints (flatC cs)) ∧ Ch (fun k => k = L ∨ b ≤ k) w w'
set_option maxHeartbeats 1000000 in
theorem trace1_any (w : World) (x : Cnt) (L b n c : Nat) (A : Option Addr) (cs : List Cnt) (hL : w.heap[L]? = some (.cells #[.slice A n c] 100 (0, 0))) (hown : w.ownsRow b 57 3 (.slice A n c) n (ints (flatC cs))) (hb : b ≤ w.heap.size) (hn : n ≤ 100000) :
    Calls Try.prog 155 #[cntV x, .pointer (some ⟨L, 0, none⟩)] w (TracePost w L b n (cs ++ [x])) := by
  have hLl : L < w.heap.size := blk_lt hL
  have hL1 := blk_alloc hL (.cells #[.int .i64 x.at_, .int .i64 x.a, .int .i64 x.b] 57)
  have hc1 := blk_cell hL1 0 (v := .slice A n c) rfl
  have hown1 := hown.alloc (.cells #[.int .i64 x.at_, .int .i64 x.a, .int .i64 x.b] 57)
  have HO := Lib.hid hown1; have HL := Lib.hid hL1
  clear hL hown hL1 hown1
  go_enter Try.func155, Try.ntmps155
  go_wp2_with (at_builtin; refine wpList_app1N eltC (by rfl) _ _ (by rfl) (w.alloc (.cells #[.int .i64 x.at_, .int .i64 x.a, .int .i64 x.b] 57)) b _ n _ (by rfl) HO.out #[.int .i64 x.at_, .int .i64 x.a, .int .i64 x.b] (by rfl) (by intro y hy; simp at hy; rcases hy with rfl | rfl | rfl <;> rfl) (by rw [World.size_alloc]; rfl) (by simp; omega) (by omega) ?_; rintro A' c' w2 hown2 hb2 hg2; have hL2 := blk_ch HL.out (ch_row hg2) (fun h => fo_type HO.out HL.out (by decide) h rfl); have hc2 := blk_cell hL2 0 (v := .slice A n c) rfl; have hf2 := blk_free hL2 0; have H2 := Lib.hid hown2; have HL2 := Lib.hid hL2; have HG := Lib.hid (ch_row hg2); clear hown2 hb2 hg2 hL2)
  go_end0
  refine ⟨rfl, A', c', by simpa using blk_set HL2.out 0 _, ?_, ?_⟩
  · have h := own_ch H2.out (ch_set w2 L 0 (.slice A' (n + 1) c')) (fun k h1 h2 => fo_type H2.out HL2.out (by decide) h1 h2)
    have e := ints_snocC cs x
    rw [← e]
    exact h
  · refine ((ch_alloc _ w _).trans (HG.out.mono (fun k hk => .inr (fo_ge HO.out hk)))).trans ((ch_set w2 L 0 _).mono (fun k hk => .inl hk))
end Go.Proofs.Ytbecofpklndpaaa
