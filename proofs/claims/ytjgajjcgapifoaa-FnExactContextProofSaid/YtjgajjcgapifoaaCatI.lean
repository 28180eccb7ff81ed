/- slices.Grow of nil and slices.Concat on rows of numbers. -/
import Derived.Test.YtjgajjcgapifoaaCpy
import Derived.Test.YtjgajjcgapifoaaLawP
import Derived.Lib.AppendZerosOnto
import Derived.Lib.SliceRun
namespace Go.Proofs.Ytjgajjcgapifoaa
open Go.RowKit
set_option linter.unusedVariables false
set_option linter.unusedSimpArgs false
def GrIP (w : World) (e : Ending) (w' : World) : Prop := ∃ A c, e = .returned (.slice A 0 c) ∧ w'.ownsRow w.heap.size 2 1 (.slice A 0 c) 0 [] ∧ Below w.heap.size w w'
set_option maxHeartbeats 4000000 in
set_option maxRecDepth 100000 in
theorem growI_any (w : World) (n : Nat) (hn : n ≤ 1000000000) : Calls Try.prog 157 #[.slice none 0 0, .int .i64 n] w (GrIP w) := by
  rcases Nat.eq_zero_or_pos n with h0 | h0
  · subst h0
    go_enter Try.func157, Try.ntmps157
    go_wp2_with fail
    go_ret
    exact ⟨none, 0, rfl, own_nil _ _ _, Below.refl _ _⟩
  · have h1 : ¬ ((n : Int) < 0) := by omega
    have h4 : (0 : Int) < (n : Int) := by omega
    obtain ⟨_, hzc, i, hi, hz, hs, hb⟩ := Try.eltI
    have hrz : ∀ ty, (Builtin.append_ #[25, 3] ty #[.slice none 0 0, .int .i64 (n : Int)]).run Try.prog w = .ok (.slice (some ⟨w.heap.size, 0, none⟩) n (grownCap w n 0 2)) (w.drew.alloc (.cells (Builtin.zeroCells (Value.int .i64 0).cells n ++ Builtin.zeroCells (Value.int .i64 0).cells (grownCap w n 0 2 - n)) 2)) := fun ty =>
      Lib.run_append_nil_zeros w 25 3 ty 2 i _ .i64 .i64 Try.underlying25 Try.underlying3 hi hz n h0 (by rw [hs]; decide) (by omega) (by have h9 := Nat.mul_le_mul_left n hb; omega)
    have hge : n ≤ grownCap w n 0 2 := grownCap_ge w _ _ _
    have hmx := grownCap_le_maxLen w n 0 2 (by unfold maxLen; omega)
    have HZ : Hid ((Builtin.zeroCells (Value.int .i64 0).cells n ++ Builtin.zeroCells (Value.int .i64 0).cells (grownCap w n 0 2 - n)).size = grownCap w n 0 2 * 1) := Lib.hid (by
      rw [Array.size_append, size_zeroCells, size_zeroCells]
      show n * 1 + (grownCap w n 0 2 - n) * 1 = _
      omega)
    generalize grownCap w n 0 2 = G at *
    generalize Builtin.zeroCells (Value.int .i64 0).cells n ++ Builtin.zeroCells (Value.int .i64 0).cells (G - n) = cs at *
    have HH : Hid ((w.drew.alloc (.cells cs 2)).heap[w.heap.size]? = some (.cells cs 2 (0, 0))) := Lib.hid (box_new w.drew cs _)
    have HBW : Hid (Below w.heap.size w (w.drew.alloc (.cells cs 2))) := Lib.hid (below_undrew (below_new w.drew (.cells cs 2)))
    have HMX := Lib.hid hmx
    have hG9 : G ≤ 9223372036854775807 := by unfold maxLen at hmx; omega
    clear hi hz hs hb hmx hzc
    go_enter Try.func157, Try.ntmps157
    go_wp2_with (at_builtin; go_must (refine Lib.wpList_append_run _ rfl _ _ _ _ rfl _ _ (by rfl) (by rfl) _ _ (hrz _) ?_))
    go_ret
    exact ⟨_, G, rfl, ⟨rfl, .inr ⟨w.heap.size, G, cs, rfl, Nat.le_refl _, HH.out, Nat.zero_le _, HMX.out, HZ.out, by simp⟩⟩, HBW.out⟩
theorem flat_step {pss : List (List Int)} {k : Nat} {ys : List Int} (h : pss[k]? = some ys) : (pss.take (k + 1)).flatten = (pss.take k).flatten ++ ys := by
  rw [List.take_add_one, h]; simp
theorem flat_le (pss : List (List Int)) (k : Nat) : (pss.take k).flatten.length ≤ pss.flatten.length := by
  have h : (pss.take k ++ pss.drop k).flatten.length = (pss.take k).flatten.length + (pss.drop k).flatten.length := by rw [List.flatten_append, List.length_append]
  rw [List.take_append_drop] at h
  omega
theorem ints_append' (xs ys : List Int) : ints xs ++ ints ys = ints (xs ++ ys) := by simp
set_option maxHeartbeats 4000000 in
set_option maxRecDepth 100000 in
theorem concatI_any (w : World) (A : Option Addr) (n c : Nat) (pss : List (List Int)) (hr : RdL w A n pss) (hn : n ≤ 1000000) (ht : pss.flatten.length ≤ 1000000000) : Calls Try.prog 146 #[.slice A n c] w (RetS w 2 (ints pss.flatten)) := by
  have HL : Hid (pss.length = n) := Lib.hid hr.len
  go_enter Try.func146, Try.ntmps146
  go_wp2_with fail
  go_loop [3, 11] (fun q i => ∃ k : Nat, k ≤ n ∧ i = .int .i64 k ∧ q = .int .i64 (((pss.take k).flatten.length : Nat) : Int)) (fun _ i => n - (intOf i).toNat)
  case atStart => exact ⟨0, by omega, rfl, rfl⟩
  case round =>
    obtain ⟨k, hk, rfl, rfl⟩ := hrel
    by_cases hlt : k < n
    · have hlt' : (k : Int) < (n : Int) := by omega
      obtain ⟨ys, hy⟩ := get_some (xs := pss) (k := k) (by rw [HL.out]; exact hlt)
      obtain ⟨b, off, A', n', c', rfl, hbs, hc, hn9, hrr⟩ := hr.at_ hy
      have hn' : ys.length = n' := by simpa using hrr.1
      have HS : Hid ((pss.take (k + 1)).flatten.length = (pss.take k).flatten.length + n') := Lib.hid (by rw [flat_step hy, List.length_append, hn'])
      have hle := flat_le pss (k + 1)
      rw [HS.out] at hle
      clear hy hn' hrr
      generalize (pss.take k).flatten.length = S at *
      have hS : ¬ (((S : Int) + (n' : Int)) < 0) := by omega
      go_wp2_with fail
      go_round
      case rel => exact ⟨k + 1, by omega, by go_num, by rw [HS.out]; go_num⟩
      case measure => simp [intOf]; omega
    · obtain rfl : k = n := by omega
      have HT : Hid ((pss.take k).flatten.length = pss.flatten.length) := Lib.hid (by rw [List.take_of_length_le (by rw [HL.out]; omega)])
      rw [HT.out]
      generalize hTT : pss.flatten.length = TT at *
      have HTT := Lib.hid hTT
      clear hTT
      go_wp2_with fail
      refine (growI_any _ TT ht).mono ?_
      rintro e w2 ⟨A2, c2, rfl, ho2, hb2⟩
      go_wp2_with fail
      go_loopw [6, 27] (fun q i wr => ∃ (j : Nat) (A3 : Option Addr) (c3 m : Nat), j ≤ k ∧ i = .int .i64 j ∧ q = .slice A3 m c3 ∧ Hid (m = (pss.take j).flatten.length) ∧ wr.ownsRow w.heap.size 2 1 (.slice A3 m c3) m (ints (pss.take j).flatten) ∧ Below w.heap.size w wr) (fun _ i _ => k - (intOf i).toNat)
      case atStart => exact ⟨0, A2, c2, 0, by omega, rfl, rfl, Lib.hid rfl, ho2, hb2⟩
      case round =>
        clear ho2 hb2
        obtain ⟨j, A3, c3, m, hj, rfl, rfl, HM, ho3, hb3⟩ := hrel
        by_cases hlt : j < k
        · have hlt' : (j : Int) < (k : Int) := by omega
          obtain ⟨ys, hy⟩ := get_some (xs := pss) (k := j) (by rw [HL.out]; exact hlt)
          obtain ⟨b, off, A', n', c', rfl, hbs, hc, hn9, hrr⟩ := hr.at_ hy
          have hc' := (hb3.cell (p := ⟨b, off + j, none⟩) hbs).trans hc
          have HS : Hid ((pss.take (j + 1)).flatten = (pss.take j).flatten ++ ys) := Lib.hid (flat_step hy)
          have hle := flat_le pss (j + 1)
          have hn' : ys.length = n' := by simpa using hrr.1
          rw [HS.out, List.length_append, ← HM.out, hn', HTT.out] at hle
          have HR := Lib.hid (hrr.below hb3 (Nat.le_refl _))
          have HN := Lib.hid hn'
          clear hy hc hrr hn'
          go_wp2_with (at_builtin; go_must (refine wpList_appSg Try.eltI rfl _ _ rfl wr w.heap.size _ m _ (by rfl) ho3 A' n' c' (ints ys) (by rfl) (by exact HR.out) ints_one hb3.size (by omega) ?_); rintro A4 c4 w4 ho4 hb4 hg4)
          rw [ints_append', ← HS.out] at ho4
          go_roundw
          case rel => exact ⟨j + 1, A4, c4, m + n', by omega, by go_num, rfl, Lib.hid (by rw [HS.out, List.length_append, ← HM.out, HN.out]), ho4, hb3.trans hb4⟩
          case measure => simp [intOf]; omega
        · obtain rfl : j = k := by omega
          have HE : Hid (pss.take j = pss) := Lib.hid (List.take_of_length_le (by rw [HL.out]; omega))
          go_wp2_with fail
          go_ret
          rw [HE.out] at ho3
          exact ⟨A3, m, c3, rfl, ho3, hb3⟩
end Go.Proofs.Ytjgajjcgapifoaa
