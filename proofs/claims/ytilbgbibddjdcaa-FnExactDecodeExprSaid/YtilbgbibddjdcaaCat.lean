/- slices.Grow of nil and slices.Concat on slices of elements. -/
import Derived.Test.YtilbgbibddjdcaaBackM
import Derived.Test.YtilbgbibddjdcaaAppN
import Derived.Lib.AppendZerosOnto
import Derived.Lib.SliceRun
namespace Go.Proofs.Ytilbgbibddjdcaa
open Go.RowKit
set_option linter.unusedVariables false
set_option linter.unusedSimpArgs false
def GrP (w : World) (e : Ending) (w' : World) : Prop := ∃ A c, e = .returned (.slice A 0 c) ∧ w'.ownsRow w.heap.size 89 2 (.slice A 0 c) 0 [] ∧ Below w.heap.size w w'
set_option maxHeartbeats 4000000 in
set_option maxRecDepth 100000 in
theorem growE_any (w : World) (n : Nat) (hn : n ≤ 1000000000) : Calls Try.prog 147 #[.slice none 0 0, .int .i64 n] w (GrP w) := by
  rcases Nat.eq_zero_or_pos n with h0 | h0
  · subst h0
    go_enter Try.func147, Try.ntmps147
    go_wp2_with fail
    go_ret
    exact ⟨none, 0, rfl, ownN_nil _ _ _ _, Below.refl _ _⟩
  · have h1 : ¬ ((n : Int) < 0) := by omega
    have h4 : (0 : Int) < (n : Int) := by omega
    obtain ⟨i, hi, hz, hs, hb⟩ := info_parts infoEl
    have hrz : ∀ ty, (Builtin.append_ #[41, 3] ty #[.slice none 0 0, .int .i64 (n : Int)]).run Try.prog w = .ok (.slice (some ⟨w.heap.size, 0, none⟩) n (grownCap w n 0 89)) (w.drew.alloc (.cells (Builtin.zeroCells (Value.agg #[.int .i64 0, .int .i64 0]).cells n ++ Builtin.zeroCells (Value.agg #[.int .i64 0, .int .i64 0]).cells (grownCap w n 0 89 - n)) 89)) := fun ty =>
      Lib.run_append_nil_zeros w 41 3 ty 89 i _ .i64 .i64 Try.underlying41 Try.underlying3 hi hz n h0 (by rw [hs]; decide) (by omega) (by rw [hb]; omega)
    have hge : n ≤ grownCap w n 0 89 := grownCap_ge w _ _ _
    have hmx := grownCap_le_maxLen w n 0 89 (by unfold maxLen; omega)
    have HZ : Hid ((Builtin.zeroCells (Value.agg #[.int .i64 0, .int .i64 0]).cells n ++ Builtin.zeroCells (Value.agg #[.int .i64 0, .int .i64 0]).cells (grownCap w n 0 89 - n)).size = grownCap w n 0 89 * 2) := Lib.hid (by
      rw [Array.size_append, size_zeroCells, size_zeroCells]
      show n * 2 + (grownCap w n 0 89 - n) * 2 = _
      omega)
    generalize grownCap w n 0 89 = G at *
    generalize Builtin.zeroCells (Value.agg #[.int .i64 0, .int .i64 0]).cells n ++ Builtin.zeroCells (Value.agg #[.int .i64 0, .int .i64 0]).cells (G - n) = cs at *
    have HH : Hid ((w.drew.alloc (.cells cs 89)).heap[w.heap.size]? = some (.cells cs 89 (0, 0))) := Lib.hid (box_new w.drew cs _)
    have HBW : Hid (Below w.heap.size w (w.drew.alloc (.cells cs 89))) := Lib.hid (below_undrew (below_new w.drew (.cells cs 89)))
    have HMX := Lib.hid hmx
    have hG9 : G ≤ 9223372036854775807 := by unfold maxLen at hmx; omega
    clear hi hz hs hb hmx
    go_enter Try.func147, Try.ntmps147
    go_wp2_with (at_builtin; go_must (refine Lib.wpList_append_run _ rfl _ _ _ _ rfl _ _ (by rfl) (by rfl) _ _ (hrz _) ?_))
    go_ret
    exact ⟨_, G, rfl, ⟨rfl, .inr ⟨w.heap.size, G, cs, rfl, Nat.le_refl _, HH.out, Nat.zero_le _, HMX.out, HZ.out, by simp⟩⟩, HBW.out⟩
theorem app_nums' (xs ys : List El) : ints (eNums xs) ++ ints (eNums ys) = ints (eNums (xs ++ ys)) := by simp [eNums_append]
/-- A slice of slices of elements that reads as lists. -/
def RdX (w : World) (A : Option Addr) (n : Nat) (pss : List (List El)) : Prop :=
  ∃ vs : List Value, Rd w A n vs ∧ vs.length = pss.length ∧ ∀ (j : Nat) (v : Value) (ys : List El), vs[j]? = some v → pss[j]? = some ys → ∃ A' m c', v = .slice A' m c' ∧ RdE w A' m ys
theorem RdX.len {w : World} {A : Option Addr} {n : Nat} {pss : List (List El)} (h : RdX w A n pss) : pss.length = n := by
  obtain ⟨vs, h1, h2, _⟩ := h; rw [← h2, h1.1]
theorem RdX.at_ {w : World} {A : Option Addr} {n k : Nat} {pss : List (List El)} {ys : List El} (h : RdX w A n pss) (hx : pss[k]? = some ys) :
    ∃ b off A' n' c', A = some ⟨b, off, none⟩ ∧ b < w.heap.size ∧ w.cell? ⟨b, off + k, none⟩ = some (.slice A' n' c') ∧ RdE w A' n' ys := by
  obtain ⟨vs, h1, h2, h3⟩ := h
  have hk : k < vs.length := by rw [h2]; exact (List.getElem?_eq_some_iff.1 hx).1
  obtain ⟨v, hv⟩ := get_some hk
  obtain ⟨A', n', c', rfl, hr'⟩ := h3 k v ys hv hx
  obtain ⟨b, off, e, hb, hc⟩ := h1.at_ hv
  exact ⟨b, off, A', n', c', e, hb, hc, hr'⟩
def totX (pss : List (List El)) : Nat := pss.flatten.length
theorem totX_step {pss : List (List El)} {k : Nat} {ys : List El} (h : pss[k]? = some ys) : (pss.take (k + 1)).flatten = (pss.take k).flatten ++ ys := by
  rw [List.take_add_one, h]; simp
theorem totX_le (pss : List (List El)) (k : Nat) : (pss.take k).flatten.length ≤ totX pss := by
  have h : (pss.take k ++ pss.drop k).flatten.length = (pss.take k).flatten.length + (pss.drop k).flatten.length := by rw [List.flatten_append, List.length_append]
  rw [List.take_append_drop] at h
  unfold totX
  omega
set_option maxHeartbeats 4000000 in
set_option maxRecDepth 100000 in
theorem concatE_any (w : World) (A : Option Addr) (n c : Nat) (pss : List (List El)) (hr : RdX w A n pss) (hn : n ≤ 1000000) (ht : totX pss ≤ 1000000000) : Calls Try.prog 132 #[.slice A n c] w (RetN w 89 2 (ints (eNums pss.flatten))) := by
  have HL : Hid (pss.length = n) := Lib.hid hr.len
  go_enter Try.func132, Try.ntmps132
  go_wp2_with fail
  go_loop [3, 11] (fun q i => ∃ k : Nat, k ≤ n ∧ i = .int .i64 k ∧ q = .int .i64 (((pss.take k).flatten.length : Nat) : Int)) (fun _ i => n - (intOf i).toNat)
  case atStart => exact ⟨0, by omega, rfl, rfl⟩
  case round =>
    obtain ⟨k, hk, rfl, rfl⟩ := hrel
    by_cases hlt : k < n
    · have hlt' : (k : Int) < (n : Int) := by omega
      obtain ⟨ys, hy⟩ := get_some (xs := pss) (k := k) (by rw [HL.out]; exact hlt)
      obtain ⟨b, off, A', n', c', rfl, hbs, hc, hrr⟩ := hr.at_ hy
      have hn' := rdE_len hrr
      have HS : Hid ((pss.take (k + 1)).flatten.length = (pss.take k).flatten.length + n') := Lib.hid (by rw [totX_step hy, List.length_append, hn'])
      have hle := totX_le pss (k + 1)
      rw [HS.out] at hle
      clear hy hn' hrr
      generalize (pss.take k).flatten.length = S at *
      have hS : ¬ (((S : Int) + (n' : Int)) < 0) := by omega
      go_wp2_with fail
      go_round
      case rel => exact ⟨k + 1, by omega, by go_num, by rw [HS.out]; go_num⟩
      case measure => simp [intOf]; omega
    · obtain rfl : k = n := by omega
      have HT : Hid ((pss.take k).flatten.length = totX pss) := Lib.hid (by rw [List.take_of_length_le (by rw [HL.out]; omega)]; rfl)
      rw [HT.out]
      generalize totX pss = TT at *
      go_wp2_with fail
      refine (growE_any _ TT ht).mono ?_
      rintro e w2 ⟨A2, c2, rfl, ho2, hb2⟩
      go_wp2_with fail
      go_loopw [6, 27] (fun q i wr => ∃ (j : Nat) (A3 : Option Addr) (c3 m : Nat), j ≤ k ∧ i = .int .i64 j ∧ q = .slice A3 m c3 ∧ Hid (m = (pss.take j).flatten.length) ∧ wr.ownsRow w.heap.size 89 2 (.slice A3 m c3) m (ints (eNums (pss.take j).flatten)) ∧ Below w.heap.size w wr) (fun _ i _ => k - (intOf i).toNat)
      case atStart => exact ⟨0, A2, c2, 0, by omega, rfl, rfl, Lib.hid rfl, ho2, hb2⟩
      case round =>
        clear ho2 hb2
        obtain ⟨j, A3, c3, m, hj, rfl, rfl, HM, ho3, hb3⟩ := hrel
        by_cases hlt : j < k
        · have hlt' : (j : Int) < (k : Int) := by omega
          obtain ⟨ys, hy⟩ := get_some (xs := pss) (k := j) (by rw [HL.out]; exact hlt)
          obtain ⟨b, off, A', n', c', rfl, hbs, hc, hrr⟩ := hr.at_ hy
          have hc' := (hb3.cell (p := ⟨b, off + j, none⟩) hbs).trans hc
          have HS : Hid ((pss.take (j + 1)).flatten = (pss.take j).flatten ++ ys) := Lib.hid (totX_step hy)
          have hle := totX_le pss (j + 1)
          have hn' := rdE_len hrr
          rw [HS.out, List.length_append, ← HM.out, hn'] at hle
          have HLE : Hid (totX pss = TT) := Lib.hid (by rw [← HT.out, List.take_of_length_le (by rw [HL.out]; omega)]; rfl)
          rw [HLE.out] at hle
          have HR := Lib.hid (hrr.below hb3 (Nat.le_refl _))
          have HN := Lib.hid hn'
          clear hy hc hrr hn'
          go_wp2_with (at_builtin; go_must (refine wpList_appSN eltEl rfl _ _ rfl wr w.heap.size _ m _ (by rfl) ho3 A' n' c' (ints (eNums ys)) (by rfl) (by exact HR.out) (ints_one1 _) hb3.size (by omega) ?_); rintro A4 c4 w4 ho4 hb4 hg4)
          rw [app_nums', ← HS.out] at ho4
          go_roundw
          case rel => exact ⟨j + 1, A4, c4, m + n', by omega, by go_num, rfl, Lib.hid (by rw [HS.out, List.length_append, ← HM.out, HN.out]), ho4, hb3.trans hb4⟩
          case measure => simp [intOf]; omega
        · obtain rfl : j = k := by omega
          have HE : Hid (pss.take j = pss) := Lib.hid (List.take_of_length_le (by rw [HL.out]; omega))
          go_wp2_with fail
          go_ret
          rw [HE.out] at ho3
          exact ⟨A3, m, c3, rfl, ho3, hb3⟩
end Go.Proofs.Ytilbgbibddjdcaa
