/- slices.Grow of nil and slices.Concat on slices of commands. -/
import Derived.Test.YtaadobggenbbdaaGreatDoorGH
import Derived.Lib.AppendZerosOnto
import Derived.Lib.SliceRun
namespace Go.Proofs.YtaadobggenbbdaaGreatDoor
open Go.RowKit
set_option linter.unusedVariables false
set_option linter.unusedSimpArgs false
def GrC (w : World) (e : Ending) (w' : World) : Prop := ∃ A c, e = .returned (.slice A 0 c) ∧ w'.ownsRow w.heap.size 53 4 (.slice A 0 c) 0 [] ∧ Below w.heap.size w w'
set_option maxHeartbeats 4000000 in
set_option maxRecDepth 100000 in
theorem growC_any (w : World) (n : Nat) (hn : n ≤ 1000000000) : Calls Tryz.prog 88 #[.slice none 0 0, .int .i64 n] w (GrC w) := by
  rcases Nat.eq_zero_or_pos n with h0 | h0
  · subst h0
    go_enter Tryz.func88, Tryz.ntmps88
    go_wp2_with fail
    go_ret
    exact ⟨none, 0, rfl, ownN_nil _ _ _ _, Below.refl _ _⟩
  · have h1 : ¬ ((n : Int) < 0) := by omega
    have h4 : (0 : Int) < (n : Int) := by omega
    obtain ⟨i, hi, hz, hs, hb⟩ := info_parts infoCm
    have hrz : ∀ ty, (Builtin.append_ #[31, 3] ty #[.slice none 0 0, .int .i64 (n : Int)]).run Tryz.prog w = .ok (.slice (some ⟨w.heap.size, 0, none⟩) n (grownCap w n 0 53)) (w.drew.alloc (.cells (Builtin.zeroCells (Value.agg #[.int .i64 0, .int .i64 0, .int .i64 0, .slice none 0 0]).cells n ++ Builtin.zeroCells (Value.agg #[.int .i64 0, .int .i64 0, .int .i64 0, .slice none 0 0]).cells (grownCap w n 0 53 - n)) 53)) := fun ty =>
      Lib.run_append_nil_zeros w 31 3 ty 53 i _ .i64 .i64 Tryz.underlying31 Tryz.underlying3 hi hz n h0 (by rw [hs]; decide) (by omega) (by rw [hb]; omega)
    have hge : n ≤ grownCap w n 0 53 := grownCap_ge w _ _ _
    have hmx := grownCap_le_maxLen w n 0 53 (by unfold maxLen; omega)
    have HZ : Hid ((Builtin.zeroCells (Value.agg #[.int .i64 0, .int .i64 0, .int .i64 0, .slice none 0 0]).cells n ++ Builtin.zeroCells (Value.agg #[.int .i64 0, .int .i64 0, .int .i64 0, .slice none 0 0]).cells (grownCap w n 0 53 - n)).size = grownCap w n 0 53 * 4) := Lib.hid (by
      rw [Array.size_append, size_zeroCells, size_zeroCells]
      show n * 4 + (grownCap w n 0 53 - n) * 4 = _
      omega)
    generalize grownCap w n 0 53 = G at *
    generalize Builtin.zeroCells (Value.agg #[.int .i64 0, .int .i64 0, .int .i64 0, .slice none 0 0]).cells n ++ Builtin.zeroCells (Value.agg #[.int .i64 0, .int .i64 0, .int .i64 0, .slice none 0 0]).cells (G - n) = cs at *
    have HH : Hid ((w.drew.alloc (.cells cs 53)).heap[w.heap.size]? = some (.cells cs 53 (0, 0))) := Lib.hid (box_new w.drew cs _)
    have HBW : Hid (Below w.heap.size w (w.drew.alloc (.cells cs 53))) := Lib.hid (below_undrew (below_new w.drew (.cells cs 53)))
    have HMX := Lib.hid hmx
    have hG9 : G ≤ 9223372036854775807 := by unfold maxLen at hmx; omega
    clear hi hz hs hb hmx
    go_enter Tryz.func88, Tryz.ntmps88
    go_wp2_with (at_builtin; go_must (refine Lib.wpList_append_run _ rfl _ _ _ _ rfl _ _ (by rfl) (by rfl) _ _ (hrz _) ?_))
    go_ret
    exact ⟨_, G, rfl, ⟨rfl, .inr ⟨w.heap.size, G, cs, rfl, Nat.le_refl _, HH.out, Nat.zero_le _, HMX.out, HZ.out, by simp⟩⟩, HBW.out⟩
/-- A slice of slices of commands that reads as lists of cells. -/
def RdV (w : World) (A : Option Addr) (n : Nat) (pss : List (Nat × List Value)) : Prop :=
  ∃ vs : List Value, Rd w A n vs ∧ vs.length = pss.length ∧ ∀ (j : Nat) (v : Value) (y : Nat × List Value), vs[j]? = some v → pss[j]? = some y → ∃ A' c', v = .slice A' y.1 c' ∧ Rd w A' (y.1 * 4) y.2 ∧ ∀ u ∈ y.2, u.oneCell' = true
theorem RdV.len {w : World} {A : Option Addr} {n : Nat} {pss : List (Nat × List Value)} (h : RdV w A n pss) : pss.length = n := by
  obtain ⟨vs, h1, h2, _⟩ := h; rw [← h2, h1.1]
theorem RdV.at_ {w : World} {A : Option Addr} {n k : Nat} {pss : List (Nat × List Value)} {y : Nat × List Value} (h : RdV w A n pss) (hx : pss[k]? = some y) :
    ∃ b off A' c', A = some ⟨b, off, none⟩ ∧ b < w.heap.size ∧ w.cell? ⟨b, off + k, none⟩ = some (.slice A' y.1 c') ∧ Rd w A' (y.1 * 4) y.2 ∧ ∀ u ∈ y.2, u.oneCell' = true := by
  obtain ⟨vs, h1, h2, h3⟩ := h
  have hk : k < vs.length := by rw [h2]; exact (List.getElem?_eq_some_iff.1 hx).1
  obtain ⟨v, hv⟩ := get_some hk
  obtain ⟨A', c', rfl, hr', ho'⟩ := h3 k v y hv hx
  obtain ⟨b, off, e, hb, hc⟩ := h1.at_ hv
  exact ⟨b, off, A', c', e, hb, hc, hr', ho'⟩
def sumN : List (Nat × List Value) → Nat
  | [] => 0
  | y :: r => y.1 + sumN r
def catV (pss : List (Nat × List Value)) : List Value := (pss.map Prod.snd).flatten
theorem sumN_app : ∀ a b : List (Nat × List Value), sumN (a ++ b) = sumN a + sumN b
  | [], b => by simp [sumN]
  | y :: r, b => by simp only [List.cons_append, sumN, sumN_app r b]; omega
theorem sumN_step {pss : List (Nat × List Value)} {k : Nat} {y : Nat × List Value} (h : pss[k]? = some y) : sumN (pss.take (k + 1)) = sumN (pss.take k) + y.1 := by
  rw [List.take_add_one, h, sumN_app]; simp [sumN]
theorem catV_step {pss : List (Nat × List Value)} {k : Nat} {y : Nat × List Value} (h : pss[k]? = some y) : catV (pss.take (k + 1)) = catV (pss.take k) ++ y.2 := by
  rw [List.take_add_one, h]; simp [catV]
theorem sumN_le (pss : List (Nat × List Value)) (k : Nat) : sumN (pss.take k) ≤ sumN pss := by
  have h : sumN (pss.take k ++ pss.drop k) = sumN (pss.take k) + sumN (pss.drop k) := sumN_app _ _
  rw [List.take_append_drop] at h
  omega
set_option maxHeartbeats 4000000 in
set_option maxRecDepth 100000 in
theorem concatC_any (w : World) (A : Option Addr) (n c : Nat) (pss : List (Nat × List Value)) (hr : RdV w A n pss) (hn : n ≤ 1000000) (ht : sumN pss ≤ 1000000000) : Calls Tryz.prog 60 #[.slice A n c] w (fun e w' => ∃ A' c', e = .returned (.slice A' (sumN pss) c') ∧ w'.ownsRow w.heap.size 53 4 (.slice A' (sumN pss) c') (sumN pss) (catV pss) ∧ Below w.heap.size w w') := by
  have HL : Hid (pss.length = n) := Lib.hid hr.len
  have HSL := Lib.hid (sumN_le pss)
  obtain ⟨TT, hTT⟩ : ∃ T, T = sumN pss := ⟨_, rfl⟩
  rw [← hTT] at ht HSL ⊢
  have HTT := Lib.hid hTT
  clear hTT
  go_enter Tryz.func60, Tryz.ntmps60
  go_wp2_with fail
  go_loop [3, 11] (fun q i => ∃ k S : Nat, k ≤ n ∧ i = .int .i64 k ∧ q = .int .i64 (S : Int) ∧ Hid (S = sumN (pss.take k))) (fun _ i => n - (intOf i).toNat)
  case atStart => exact ⟨0, 0, by omega, rfl, rfl, Lib.hid rfl⟩
  case round =>
    obtain ⟨k, S, hk, rfl, rfl, HSS⟩ := hrel
    by_cases hlt : k < n
    · have hlt' : (k : Int) < (n : Int) := by omega
      obtain ⟨y, hy⟩ := get_some (xs := pss) (k := k) (by rw [HL.out]; exact hlt)
      obtain ⟨b, off, A', c', rfl, hbs, hc, hrr, hoo⟩ := hr.at_ hy
      have HS : Hid (sumN (pss.take (k + 1)) = S + y.1) := Lib.hid (by rw [sumN_step hy, HSS.out])
      have hle := HSL.out (k + 1)
      rw [HS.out] at hle
      clear hy hrr hoo
      obtain ⟨n', ys⟩ := y
      simp only at hc hle HS
      have hS : ¬ (((S : Int) + (n' : Int)) < 0) := by omega
      go_wp2_with fail
      go_round
      case rel => exact ⟨k + 1, S + n', by omega, by go_num, by go_num, Lib.hid HS.out.symm⟩
      case measure => simp [intOf]; omega
    · obtain rfl : k = n := by omega
      have HT : Hid (S = TT) := Lib.hid (by rw [HSS.out, HTT.out, List.take_of_length_le (by rw [HL.out]; omega)])
      rw [HT.out]
      clear HSS
      go_wp2_with fail
      refine (growC_any _ TT ht).mono ?_
      rintro e w2 ⟨A2, c2, rfl, ho2, hb2⟩
      go_wp2_with fail
      go_loopw [6, 27] (fun q i wr => ∃ (j : Nat) (A3 : Option Addr) (c3 m : Nat), j ≤ k ∧ i = .int .i64 j ∧ q = .slice A3 m c3 ∧ Hid (m = sumN (pss.take j)) ∧ wr.ownsRow w.heap.size 53 4 (.slice A3 m c3) m (catV (pss.take j)) ∧ Below w.heap.size w wr) (fun _ i _ => k - (intOf i).toNat)
      case atStart => exact ⟨0, A2, c2, 0, by omega, rfl, rfl, Lib.hid rfl, ho2, hb2⟩
      case round =>
        clear ho2 hb2
        obtain ⟨j, A3, c3, m, hj, rfl, rfl, HM, ho3, hb3⟩ := hrel
        by_cases hlt : j < k
        · have hlt' : (j : Int) < (k : Int) := by omega
          obtain ⟨y, hy⟩ := get_some (xs := pss) (k := j) (by rw [HL.out]; exact hlt)
          obtain ⟨b, off, A', c', rfl, hbs, hc, hrr, hoo⟩ := hr.at_ hy
          have hc' := (hb3.cell (p := ⟨b, off + j, none⟩) hbs).trans hc
          have HS : Hid (catV (pss.take (j + 1)) = catV (pss.take j) ++ y.2) := Lib.hid (catV_step hy)
          have HS2 : Hid (sumN (pss.take (j + 1)) = m + y.1) := Lib.hid (by rw [sumN_step hy, HM.out])
          have hle := HSL.out (j + 1)
          rw [HS2.out] at hle
          have HR := Lib.hid (hrr.below hb3 (Nat.le_refl _))
          have HOO := Lib.hid hoo
          clear hy hc hrr hoo
          obtain ⟨n', ys⟩ := y
          simp only at hc' hle HS HS2 HR HOO
          go_wp2_with (at_builtin; go_must (refine wpList_appSN eltCm rfl _ _ rfl wr w.heap.size _ m _ (by rfl) ho3 A' n' c' ys (by rfl) (by exact HR.out) HOO.out hb3.size (by omega) ?_); rintro A4 c4 w4 ho4 hb4 hg4)
          rw [← HS.out] at ho4
          go_roundw
          case rel => exact ⟨j + 1, A4, c4, m + n', by omega, by go_num, rfl, Lib.hid HS2.out.symm, ho4, hb3.trans hb4⟩
          case measure => simp [intOf]; omega
        · obtain rfl : j = k := by omega
          have HE : Hid (pss.take j = pss) := Lib.hid (List.take_of_length_le (by rw [HL.out]; omega))
          go_wp2_with fail
          go_ret
          have hm : m = TT := by rw [HM.out, HE.out, HTT.out]
          subst hm
          rw [HE.out] at ho3
          exact ⟨A3, c3, rfl, ho3, hb3⟩
end Go.Proofs.YtaadobggenbbdaaGreatDoor
