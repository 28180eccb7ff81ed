/- Texts in one file: CtxI, CtxS, CatI, CfgM, CfgI, CfgJ, CfgS. -/
import Derived.Test.YtcpkhhammafchaaGB
import Derived.Test.YtcpkhhammafchaaGA
import Derived.Test.YtcpkhhammafchaaGC
import Derived.Lib.AppendZerosOnto
import Derived.Lib.SliceRun
/- LostWindow: the program's functions. -/
namespace Go.Proofs.Ytcpkhhammafchaa
open Go.RowKit
set_option linter.unusedVariables false
set_option linter.unusedSimpArgs false
set_option maxHeartbeats 400000 in
theorem contextSizeOk_any (w : World) (n : Int) : Calls Try.prog 124 #[.int .i64 n] w fun e w' => e = .returned (.bool (inB n 1 4)) ∧ w = w' := by
  go_enter Try.func124, Try.ntmps124
  go_wp2_with (go_at_call 96; refine (within_any _ _ _ _).mono ?_; rintro e w' ⟨rfl, rfl⟩)
  go_ret
  exact ⟨rfl, rfl⟩
set_option maxHeartbeats 400000 in
theorem sizeI_any (w : World) (A : Option Addr) (n c : Nat) : Calls Try.prog 126 #[.slice A n c] w fun e w' => e = .returned (.int .i64 n) ∧ w = w' := by
  go_enter Try.func126, Try.ntmps126
  go_wp2_with fail
  go_ret
  exact ⟨rfl, rfl⟩
end Go.Proofs.Ytcpkhhammafchaa
/- LostWindow: the reference's functions. -/
namespace Go.Proofs.Ytcpkhhammafchaa
open Go.RowKit
set_option linter.unusedVariables false
set_option linter.unusedSimpArgs false
set_option maxHeartbeats 400000 in
theorem l29Size_any (w : World) (n : Int) : Calls Try.prog 116 #[.int .i64 n] w fun e w' => e = .returned (.bool (inB n 1 4)) ∧ w = w' := by
  go_enter Try.func116, Try.ntmps116
  go_wp2_with (go_at_call 110; refine (l00In_any _ _ _ _).mono ?_; rintro e w' ⟨rfl, rfl⟩)
  go_ret
  exact ⟨rfl, rfl⟩
end Go.Proofs.Ytcpkhhammafchaa
/- slices.Grow of nil and slices.Concat on rows of numbers. -/
namespace Go.Proofs.Ytcpkhhammafchaa
open Go.RowKit
set_option linter.unusedVariables false
set_option linter.unusedSimpArgs false
def GrIP (w : World) (e : Ending) (w' : World) : Prop := ∃ A c, e = .returned (.slice A 0 c) ∧ w'.ownsRow w.heap.size 2 1 (.slice A 0 c) 0 [] ∧ Below w.heap.size w w'
set_option maxHeartbeats 4000000 in
set_option maxRecDepth 100000 in
theorem growI_any (w : World) (n : Nat) (hn : n ≤ 1000000000) : Calls Try.prog 169 #[.slice none 0 0, .int .i64 n] w (GrIP w) := by
  rcases Nat.eq_zero_or_pos n with h0 | h0
  · subst h0
    go_enter Try.func169, Try.ntmps169
    go_wp2_with fail
    go_ret
    exact ⟨none, 0, rfl, own_nil _ _ _, Below.refl _ _⟩
  · have h1 : ¬ ((n : Int) < 0) := by omega
    have h4 : (0 : Int) < (n : Int) := by omega
    obtain ⟨_, hzc, i, hi, hz, hs, hb⟩ := Try.eltI
    have hrz : ∀ ty, (Builtin.append_ #[25, 3] ty #[.slice none 0 0, .int .i64 (n : Int)]).run Try.prog w = .ok (.slice (some ⟨w.heap.size, 0, none⟩) n (grownCap w n 0 2)) (w.drew.alloc (.cells (Builtin.zeroCells (Value.int .i64 0).cells n ++ Builtin.zeroCells (Value.int .i64 0).cells (grownCap w n 0 2 - n)) 2)) := fun ty =>
      Lib.run_append_nil_zeros w 25 3 ty 2 i _ .i64 .i64 Try.underlying25 Try.underlying3 hi hz n h0 (by rw [hs]; decide) (by omega) (by have h9 := Nat.mul_le_mul_left n hb; omega)
    have hge : n ≤ grownCap w n 0 2 := grownCap_ge w _ _ _
    have hmx := grownCap_le_maxLen w n 0 2 (by unfold maxLen; omega)
    have HZ : Hid ((Builtin.zeroCells (Value.int .i64 0).cells n ++ Builtin.zeroCells (Value.int .i64 0).cells (grownCap w n 0 2 - n)).size = grownCap w n 0 2 * 1) := Lib.hid (by
      rw [Array.size_append, size_zeroCells, size_zeroCells]
      show n * 1 + (grownCap w n 0 2 - n) * 1 = _
      omega)
    generalize grownCap w n 0 2 = G at *
    generalize Builtin.zeroCells (Value.int .i64 0).cells n ++ Builtin.zeroCells (Value.int .i64 0).cells (G - n) = cs at *
    have HH : Hid ((w.drew.alloc (.cells cs 2)).heap[w.heap.size]? = some (.cells cs 2 (0, 0))) := Lib.hid (box_new w.drew cs _)
    have HBW : Hid (Below w.heap.size w (w.drew.alloc (.cells cs 2))) := Lib.hid (below_undrew (below_new w.drew (.cells cs 2)))
    have HMX := Lib.hid hmx
    have hG9 : G ≤ 9223372036854775807 := by unfold maxLen at hmx; omega
    clear hi hz hs hb hmx hzc
    go_enter Try.func169, Try.ntmps169
    go_wp2_with (at_builtin; go_must (refine Lib.wpList_append_run _ rfl _ _ _ _ rfl _ _ (by rfl) (by rfl) _ _ (hrz _) ?_))
    go_ret
    exact ⟨_, G, rfl, ⟨rfl, .inr ⟨w.heap.size, G, cs, rfl, Nat.le_refl _, HH.out, Nat.zero_le _, HMX.out, HZ.out, by simp⟩⟩, HBW.out⟩
theorem flat_step {pss : List (List Int)} {k : Nat} {ys : List Int} (h : pss[k]? = some ys) : (pss.take (k + 1)).flatten = (pss.take k).flatten ++ ys := by
  rw [List.take_add_one, h]; simp
theorem flat_le (pss : List (List Int)) (k : Nat) : (pss.take k).flatten.length ≤ pss.flatten.length := by
  have h : (pss.take k ++ pss.drop k).flatten.length = (pss.take k).flatten.length + (pss.drop k).flatten.length := by rw [List.flatten_append, List.length_append]
  rw [List.take_append_drop] at h
  omega
theorem ints_append' (xs ys : List Int) : ints xs ++ ints ys = ints (xs ++ ys) := by simp
set_option maxHeartbeats 4000000 in
set_option maxRecDepth 100000 in
theorem concatI_any (w : World) (A : Option Addr) (n c : Nat) (pss : List (List Int)) (hr : RdL w A n pss) (hn : n ≤ 1000000) (ht : pss.flatten.length ≤ 1000000000) : Calls Try.prog 149 #[.slice A n c] w (RetS w 2 (ints pss.flatten)) := by
  have HL : Hid (pss.length = n) := Lib.hid hr.len
  go_enter Try.func149, Try.ntmps149
  go_wp2_with fail
  go_loop [3, 11] (fun q i => ∃ k : Nat, k ≤ n ∧ i = .int .i64 k ∧ q = .int .i64 (((pss.take k).flatten.length : Nat) : Int)) (fun _ i => n - (intOf i).toNat)
  case atStart => exact ⟨0, by omega, rfl, rfl⟩
  case round =>
    obtain ⟨k, hk, rfl, rfl⟩ := hrel
    by_cases hlt : k < n
    · have hlt' : (k : Int) < (n : Int) := by omega
      obtain ⟨ys, hy⟩ := get_some (xs := pss) (k := k) (by rw [HL.out]; exact hlt)
      obtain ⟨b, off, A', n', c', rfl, hbs, hc, hn9, hrr⟩ := hr.at_ hy
      have hn' : ys.length = n' := by simpa using hrr.1
      have HS : Hid ((pss.take (k + 1)).flatten.length = (pss.take k).flatten.length + n') := Lib.hid (by rw [flat_step hy, List.length_append, hn'])
      have hle := flat_le pss (k + 1)
      rw [HS.out] at hle
      clear hy hn' hrr
      generalize (pss.take k).flatten.length = S at *
      have hS : ¬ (((S : Int) + (n' : Int)) < 0) := by omega
      go_wp2_with fail
      go_round
      case rel => exact ⟨k + 1, by omega, by go_num, by rw [HS.out]; go_num⟩
      case measure => simp [intOf]; omega
    · obtain rfl : k = n := by omega
      have HT : Hid ((pss.take k).flatten.length = pss.flatten.length) := Lib.hid (by rw [List.take_of_length_le (by rw [HL.out]; omega)])
      rw [HT.out]
      generalize hTT : pss.flatten.length = TT at *
      have HTT := Lib.hid hTT
      clear hTT
      go_wp2_with fail
      refine (growI_any _ TT ht).mono ?_
      rintro e w2 ⟨A2, c2, rfl, ho2, hb2⟩
      go_wp2_with fail
      go_loopw [6, 27] (fun q i wr => ∃ (j : Nat) (A3 : Option Addr) (c3 m : Nat), j ≤ k ∧ i = .int .i64 j ∧ q = .slice A3 m c3 ∧ Hid (m = (pss.take j).flatten.length) ∧ wr.ownsRow w.heap.size 2 1 (.slice A3 m c3) m (ints (pss.take j).flatten) ∧ Below w.heap.size w wr) (fun _ i _ => k - (intOf i).toNat)
      case atStart => exact ⟨0, A2, c2, 0, by omega, rfl, rfl, Lib.hid rfl, ho2, hb2⟩
      case round =>
        clear ho2 hb2
        obtain ⟨j, A3, c3, m, hj, rfl, rfl, HM, ho3, hb3⟩ := hrel
        by_cases hlt : j < k
        · have hlt' : (j : Int) < (k : Int) := by omega
          obtain ⟨ys, hy⟩ := get_some (xs := pss) (k := j) (by rw [HL.out]; exact hlt)
          obtain ⟨b, off, A', n', c', rfl, hbs, hc, hn9, hrr⟩ := hr.at_ hy
          have hc' := (hb3.cell (p := ⟨b, off + j, none⟩) hbs).trans hc
          have HS : Hid ((pss.take (j + 1)).flatten = (pss.take j).flatten ++ ys) := Lib.hid (flat_step hy)
          have hle := flat_le pss (j + 1)
          have hn' : ys.length = n' := by simpa using hrr.1
          rw [HS.out, List.length_append, ← HM.out, hn', HTT.out] at hle
          have HR := Lib.hid (hrr.below hb3 (Nat.le_refl _))
          have HN := Lib.hid hn'
          clear hy hc hrr hn'
          go_wp2_with (at_builtin; go_must (refine wpList_appSg Try.eltI rfl _ _ rfl wr w.heap.size _ m _ (by rfl) ho3 A' n' c' (ints ys) (by rfl) (by exact HR.out) ints_one hb3.size (by omega) ?_); rintro A4 c4 w4 ho4 hb4 hg4)
          rw [ints_append', ← HS.out] at ho4
          go_roundw
          case rel => exact ⟨j + 1, A4, c4, m + n', by omega, by go_num, rfl, Lib.hid (by rw [HS.out, List.length_append, ← HM.out, HN.out]), ho4, hb3.trans hb4⟩
          case measure => simp [intOf]; omega
        · obtain rfl : j = k := by omega
          have HE : Hid (pss.take j = pss) := Lib.hid (List.take_of_length_le (by rw [HL.out]; omega))
          go_wp2_with fail
          go_ret
          rw [HE.out] at ho3
          exact ⟨A3, m, c3, rfl, ho3, hb3⟩
end Go.Proofs.Ytcpkhhammafchaa
/- Configurations of a machine and contexts of configurations, in plain Lean. -/
namespace Go.Proofs.Ytcpkhhammafchaa
open Go.RowKit
set_option linter.unusedVariables false
set_option linter.unusedSimpArgs false
def okS (s : Int) (xs : List Int) : Bool := decide (xs.length ≤ 200) && allIn xs 0 (s - 1) && (xs.getLast? != some 0)
def okCf (s t st : Int) (ls rs : List Int) : Bool := inB st 0 (t - 1) && okS s ls && okS s rs
theorem okS_len {s : Int} {xs : List Int} (h : ¬ xs.length ≤ 200) : okS s xs = false := by simp [okS, h]
theorem okS_all {s : Int} {xs : List Int} (h : allIn xs 0 (s - 1) = false) : okS s xs = false := by simp [okS, h]
theorem okS_nil (s : Int) : okS s [] = true := by simp [okS, allIn]
theorem okS_last {s x : Int} {xs : List Int} {m : Nat} (h1 : xs.length = m + 1) (h2 : xs.length ≤ 200) (h3 : allIn xs 0 (s - 1) = true) (hx : xs[m]? = some x) : okS s xs = (x != 0) := by
  have e : xs.getLast? = some x := by rw [List.getLast?_eq_getElem?, h1]; simpa using hx
  simp only [okS, h2, h3, e]
  simp [bne]
theorem okS_bd {s : Int} {xs : List Int} (h : okS s xs = true) : xs.length ≤ 200 := by
  simp only [okS, Bool.and_eq_true, decide_eq_true_eq] at h
  exact h.1.1
theorem okCf_s {s t st : Int} {ls rs : List Int} (h : inB st 0 (t - 1) = false) : okCf s t st ls rs = false := by simp [okCf, h]
theorem okCf_l {s t st : Int} {ls rs : List Int} (h : okS s ls = false) : okCf s t st ls rs = false := by simp [okCf, h]
theorem okCf_r {s t st : Int} {ls rs : List Int} (h : inB st 0 (t - 1) = true) (h1 : okS s ls = true) : okCf s t st ls rs = okS s rs := by simp [okCf, h, h1]
theorem okCf_bd {s t st : Int} {ls rs : List Int} (h : okCf s t st ls rs = true) : ls.length ≤ 200 ∧ rs.length ≤ 200 := by
  simp only [okCf, Bool.and_eq_true] at h
  exact ⟨okS_bd h.1.2, okS_bd h.2⟩
def cellsF (xs : List Int) (f n : Nat) : List Int := (List.range n).map fun k => xs.getD (f + k) 0
theorem cellsF_len (xs : List Int) (f n : Nat) : (cellsF xs f n).length = n := by simp [cellsF]
theorem cellsF_step (xs : List Int) (f n : Nat) : cellsF xs f (n + 1) = cellsF xs f n ++ [xs.getD (f + n) 0] := by simp [cellsF, List.range_succ]
def ctxOf (ls rs : List Int) (h : Nat) : List Int := cellsF ls 0 h ++ cellsF rs 0 (h + 1)
theorem ctxOf_len (ls rs : List Int) (h : Nat) : (ctxOf ls rs h).length = 2 * h + 1 := by simp [ctxOf, cellsF_len]; omega
/-- What ContextOf answers. -/
def coP (s t : Int) (ps : List Rul) (st : Int) (ls rs : List Int) (n : Int) : List Int × Int :=
  if okM s t ps && okCf s t st ls rs then (if inB n 1 4 then (ctxOf ls rs n.toNat, 0) else ([], 2)) else ([], 1)
theorem co_bad {s t st n : Int} {ps : List Rul} {ls rs : List Int} (h : (okM s t ps && okCf s t st ls rs) = false) : coP s t ps st ls rs n = ([], 1) := by simp only [coP, h]; simp
theorem co_n {s t st n : Int} {ps : List Rul} {ls rs : List Int} (h : (okM s t ps && okCf s t st ls rs) = true) (h2 : inB n 1 4 = false) : coP s t ps st ls rs n = ([], 2) := by simp only [coP, h, h2]; simp
theorem co_ok {s t st n : Int} {ps : List Rul} {ls rs : List Int} (h : (okM s t ps && okCf s t st ls rs) = true) (h2 : inB n 1 4 = true) : coP s t ps st ls rs n = (ctxOf ls rs n.toNat, 0) := by simp only [coP, h, h2]; simp
theorem co_len (s t : Int) (ps : List Rul) (st : Int) (ls rs : List Int) (n : Int) : (coP s t ps st ls rs n).1.length ≤ 1000000 := by
  unfold coP
  split
  · split
    · rename_i h
      have h1 := inB_true.1 h
      simp only [ctxOf_len]; omega
    · simp
  · simp
end Go.Proofs.Ytcpkhhammafchaa
/- Configurations of a machine, and contexts: the program's functions. -/
namespace Go.Proofs.Ytcpkhhammafchaa
open Go.RowKit
set_option linter.unusedVariables false
set_option linter.unusedSimpArgs false
set_option maxHeartbeats 1000000 in
theorem validSide_any (w : World) (A : Option Addr) (n c : Nat) (xs : List Int) (hr : Rd w A n (ints xs)) (hn : n ≤ 1099511627776) (s : Int) (hs : 2 ≤ s ∧ s ≤ 6) :
    Calls Try.prog 185 #[.slice A n c, .int .i64 s, .int .i64 200] w fun e w' => e = .returned (.bool (okS s xs)) ∧ w = w' := by
  have HL : Hid (xs.length = n) := Lib.hid (by simpa using hr.1)
  by_cases h1 : n ≤ 200
  · have d1 : decide ((n : Int) ≤ 200) = true := decide_eq_true (by omega)
    have d1' : decide (n ≤ 200) = true := decide_eq_true (by omega)
    cases hal : allIn xs 0 (s - 1) with
    | false =>
      have HA := Lib.hid hal
      have HO := Lib.hid (okS_all hal)
      clear hal
      go_enter Try.func185, Try.ntmps185
      go_wp2_with (first
        | (go_at_call 126; go_must (refine (sizeI_any _ _ _ _).mono ?_; rintro e w' ⟨rfl, rfl⟩))
        | (go_at_call 39; go_must (refine (allWithin_any _ _ _ _ xs hr hn _ _).mono ?_; rw [HA.out]; rintro e w' ⟨rfl, rfl⟩)))
      go_ret
      exact ⟨by rw [HO.out]; rfl, rfl⟩
    | true =>
      have HA := Lib.hid hal
      rcases Nat.eq_zero_or_pos n with h0 | h0
      · have hx : xs = [] := List.eq_nil_of_length_eq_zero (by rw [HL.out]; exact h0)
        have HO : Hid (okS s xs = true) := Lib.hid (by rw [hx]; exact okS_nil s)
        subst h0
        clear hal hx
        go_enter Try.func185, Try.ntmps185
        go_wp2_with (first
          | (go_at_call 126; go_must (refine (sizeI_any _ _ _ _).mono ?_; rintro e w' ⟨rfl, rfl⟩))
          | (go_at_call 39; go_must (refine (allWithin_any _ _ _ _ xs hr hn _ _).mono ?_; rw [HA.out]; rintro e w' ⟨rfl, rfl⟩)))
        go_ret
        exact ⟨by rw [HO.out]; rfl, rfl⟩
      · obtain ⟨m, hm⟩ : ∃ m, n = m + 1 := ⟨n - 1, by omega⟩
        obtain ⟨x, hx⟩ := get_some (xs := xs) (k := m) (by rw [HL.out]; omega)
        have HO := Lib.hid (okS_last (by rw [HL.out]; exact hm) (by rw [HL.out]; exact h1) hal hx)
        obtain ⟨b, off, rfl, hbs, q0⟩ := hr.at_ (ints_get hx)
        have hz : ((n : Int) == 0) = false := beq_eq_false_iff_ne.2 (by omega)
        have hz2 : ¬ (n = 0) := by omega
        have i0 : (0 : Int) ≤ (m : Int) := by omega
        have i1 : (m : Int) < (n : Int) := by omega
        have i2 : m < n := by omega
        have hm1 : (n : Int) - 1 = (m : Int) := by omega
        clear hal hx hm h0
        go_enter Try.func185, Try.ntmps185
        go_wp2_with (first
          | (go_at_call 126; go_must (refine (sizeI_any _ _ _ _).mono ?_; rintro e w' ⟨rfl, rfl⟩))
          | (go_at_call 39; go_must (refine (allWithin_any _ _ _ _ xs hr hn _ _).mono ?_; rw [HA.out]; rintro e w' ⟨rfl, rfl⟩)))
        go_ret
        exact ⟨by rw [HO.out]; rfl, rfl⟩
  · have d1 : decide ((n : Int) ≤ 200) = false := decide_eq_false (by omega)
    have d1' : decide (n ≤ 200) = false := decide_eq_false (by omega)
    have HO : Hid (okS s xs = false) := Lib.hid (okS_len (by rw [HL.out]; exact h1))
    go_enter Try.func185, Try.ntmps185
    go_wp2_with (go_at_call 126; go_must (refine (sizeI_any _ _ _ _).mono ?_; rintro e w' ⟨rfl, rfl⟩))
    go_ret
    exact ⟨by rw [HO.out]; rfl, rfl⟩
abbrev cfgV (st : Int) (A1 : Option Addr) (n1 c1 : Nat) (A2 : Option Addr) (n2 c2 : Nat) : Value := .agg #[.int .i64 st, .slice A1 n1 c1, .slice A2 n2 c2]
set_option maxHeartbeats 1000000 in
theorem configOf_any (w : World) (s t : Int) (hs : 2 ≤ s ∧ s ≤ 6) (ht : 1 ≤ t ∧ t ≤ 1000) (A : Option Addr) (n c : Nat) (st : Int) (A1 : Option Addr) (n1 c1 : Nat) (ls : List Int) (hr1 : Rd w A1 n1 (ints ls)) (hn1 : n1 ≤ 1099511627776) (A2 : Option Addr) (n2 c2 : Nat) (rs : List Int) (hr2 : Rd w A2 n2 (ints rs)) (hn2 : n2 ≤ 1099511627776) :
    Calls Try.prog 170 #[mchV s t A n c, cfgV st A1 n1 c1 A2 n2 c2] w (RetV w (.bool (okCf s t st ls rs))) := by
  obtain ⟨hs1, hs2⟩ := hs
  obtain ⟨ht1, ht2⟩ := ht
  obtain ⟨w0, hw0⟩ : ∃ w0, w0 = (w.alloc (.cells #[.int .i64 s, .int .i64 t, .slice A n c] 53)).alloc (.cells #[.int .i64 st, .slice A1 n1 c1, .slice A2 n2 c2] 170) := ⟨_, rfl⟩
  have hB : Below w.heap.size w w0 := by rw [hw0]; exact (below_new w _).trans ((below_new _ _).mono (by simp))
  have hx0 : w0.heap[w.heap.size]? = some (.cells #[.int .i64 s, .int .i64 t, .slice A n c] 53 (0, 0)) := by rw [hw0]; exact blk_alloc (box_new w _ _) _
  have hx1 : w0.heap[w.heap.size + 1]? = some (.cells #[.int .i64 st, .slice A1 n1 c1, .slice A2 n2 c2] 170 (0, 0)) := by rw [hw0]; have h := box_new (w.alloc (.cells #[.int .i64 s, .int .i64 t, .slice A n c] 53)) #[.int .i64 st, .slice A1 n1 c1, .slice A2 n2 c2] 170; simpa using h
  have z0 := blk_cell hx0 0 rfl
  have z1 := blk_cell hx0 1 rfl
  have z2 := blk_cell hx0 2 rfl
  have y0 := blk_cell hx1 0 rfl
  have y1 := blk_cell hx1 1 rfl
  have y2 := blk_cell hx1 2 rfl
  have HR1 := Lib.hid (hr1.below hB (Nat.le_refl _))
  have HR2 := Lib.hid (hr2.below hB (Nat.le_refl _))
  have HB := Lib.hid hB
  clear hB hx0 hx1
  cases hi : inB st 0 (t - 1) with
  | false =>
    have HI := Lib.hid hi
    have HO := Lib.hid (okCf_s (s := s) (ls := ls) (rs := rs) hi)
    clear hi
    go_enter Try.func170, Try.ntmps170
    go_wp2_with fail
    rw [← hw0]
    clear hw0
    refine (within_any _ _ _ _).mono ?_
    rw [HI.out]
    rintro e w' ⟨rfl, rfl⟩
    go_wp2_with fail
    go_ret
    exact ⟨by rw [HO.out]; rfl, HB.out⟩
  | true =>
    have HI := Lib.hid hi
    cases hl : okS s ls with
    | false =>
      have HO := Lib.hid (okCf_l (t := t) (st := st) (rs := rs) hl)
      have HL := Lib.hid hl
      clear hi hl
      go_enter Try.func170, Try.ntmps170
      go_wp2_with fail
      rw [← hw0]
      clear hw0
      refine (within_any _ _ _ _).mono ?_
      rw [HI.out]
      rintro e w' ⟨rfl, rfl⟩
      go_wp2_with fail
      refine (validSide_any _ A1 n1 _ ls (by exact HR1.out) hn1 _ ⟨hs1, hs2⟩).mono ?_
      rw [HL.out]
      rintro e w' ⟨rfl, rfl⟩
      go_wp2_with fail
      go_ret
      exact ⟨by rw [HO.out]; rfl, HB.out⟩
    | true =>
      have HO := Lib.hid (okCf_r (rs := rs) hi hl)
      have HL := Lib.hid hl
      clear hi hl
      go_enter Try.func170, Try.ntmps170
      go_wp2_with fail
      rw [← hw0]
      clear hw0
      refine (within_any _ _ _ _).mono ?_
      rw [HI.out]
      rintro e w' ⟨rfl, rfl⟩
      go_wp2_with fail
      refine (validSide_any _ A1 n1 _ ls (by exact HR1.out) hn1 _ ⟨hs1, hs2⟩).mono ?_
      rw [HL.out]
      rintro e w' ⟨rfl, rfl⟩
      go_wp2_with fail
      refine (validSide_any _ A2 n2 _ rs (by exact HR2.out) hn2 _ ⟨hs1, hs2⟩).mono ?_
      rintro e w' ⟨rfl, rfl⟩
      go_wp2_with fail
      go_ret
      exact ⟨by rw [HO.out]; rfl, HB.out⟩
set_option maxHeartbeats 4000000 in
theorem ValidConfig_any (w : World) (s t : Int) (A : Option Addr) (n c : Nat) (ps : List Rul) (hr : Rd w A (n * 3) (ints (flatR ps))) (hn : n ≤ 1099511627776) (st : Int) (A1 : Option Addr) (n1 c1 : Nat) (ls : List Int) (hr1 : Rd w A1 n1 (ints ls)) (hn1 : n1 ≤ 1099511627776) (A2 : Option Addr) (n2 c2 : Nat) (rs : List Int) (hr2 : Rd w A2 n2 (ints rs)) (hn2 : n2 ≤ 1099511627776) :
    Calls Try.prog 150 #[mchV s t A n c, cfgV st A1 n1 c1 A2 n2 c2] w (RetV w (.bool (okM s t ps && okCf s t st ls rs))) := by
  obtain ⟨w0, hw0⟩ : ∃ w0, w0 = (w.alloc (.cells #[.int .i64 s, .int .i64 t, .slice A n c] 53)).alloc (.cells #[.int .i64 st, .slice A1 n1 c1, .slice A2 n2 c2] 170) := ⟨_, rfl⟩
  have hB : Below w.heap.size w w0 := by rw [hw0]; exact (below_new w _).trans ((below_new _ _).mono (by simp))
  have hx0 : w0.heap[w.heap.size]? = some (.cells #[.int .i64 s, .int .i64 t, .slice A n c] 53 (0, 0)) := by rw [hw0]; exact blk_alloc (box_new w _ _) _
  have hx1 : w0.heap[w.heap.size + 1]? = some (.cells #[.int .i64 st, .slice A1 n1 c1, .slice A2 n2 c2] 170 (0, 0)) := by rw [hw0]; have h := box_new (w.alloc (.cells #[.int .i64 s, .int .i64 t, .slice A n c] 53)) #[.int .i64 st, .slice A1 n1 c1, .slice A2 n2 c2] 170; simpa using h
  have z0 := blk_cell hx0 0 rfl
  have z1 := blk_cell hx0 1 rfl
  have z2 := blk_cell hx0 2 rfl
  have y0 := blk_cell hx1 0 rfl
  have y1 := blk_cell hx1 1 rfl
  have y2 := blk_cell hx1 2 rfl
  have HX0 := Lib.hid hx0
  have HX1 := Lib.hid hx1
  have HR := Lib.hid (hr.below hB (Nat.le_refl _))
  have HR1 := Lib.hid (hr1.below hB (Nat.le_refl _))
  have HR2 := Lib.hid (hr2.below hB (Nat.le_refl _))
  have HB := Lib.hid hB
  clear hB hx0 hx1
  cases hm : okM s t ps with
  | false =>
    have HM := Lib.hid hm
    clear hm
    go_enter Try.func150, Try.ntmps150
    go_wp2_with fail
    rw [← hw0]
    clear hw0
    refine (ValidMachine_any _ s t A n c ps HR.out hn).mono ?_
    rw [HM.out]
    rintro e w2 ⟨rfl, hb2⟩
    go_wp2_with fail
    go_ret
    exact ⟨rfl, HB.out.trans (hb2.mono HB.out.size)⟩
  | true =>
    obtain ⟨hs, ht, _, _⟩ := okM_all hm
    have HM := Lib.hid hm
    clear hm
    go_enter Try.func150, Try.ntmps150
    go_wp2_with fail
    rw [← hw0]
    clear hw0
    refine (ValidMachine_any _ s t A n c ps HR.out hn).mono ?_
    rw [HM.out]
    rintro e w2 ⟨rfl, hb2⟩
    have hx0 := blk_bel HX0.out hb2
    have hx1 := blk_bel HX1.out hb2
    clear z0 z1 z2 y0 y1 y2
    have z0 := blk_cell hx0 0 rfl
    have z1 := blk_cell hx0 1 rfl
    have z2 := blk_cell hx0 2 rfl
    have y0 := blk_cell hx1 0 rfl
    have y1 := blk_cell hx1 1 rfl
    have y2 := blk_cell hx1 2 rfl
    clear hx0 hx1
    have HB2 := Lib.hid hb2
    clear hb2
    go_wp2_with fail
    refine (configOf_any _ s t hs ht A n c st A1 n1 c1 ls (HR1.out.below HB2.out (Nat.le_refl _)) hn1 A2 n2 c2 rs (HR2.out.below HB2.out (Nat.le_refl _)) hn2).mono ?_
    rintro e w3 ⟨rfl, hb3⟩
    go_wp2_with fail
    go_ret
    exact ⟨rfl, (HB.out.trans (HB2.out.mono HB.out.size)).trans (hb3.mono (Nat.le_trans HB.out.size HB2.out.size))⟩
theorem ints_snoc (xs : List Int) (x : Int) : ints xs ++ [.int .i64 x] = ints (xs ++ [x]) := by simp
end Go.Proofs.Ytcpkhhammafchaa
/- The context of a configuration: the program's functions. -/
namespace Go.Proofs.Ytcpkhhammafchaa
open Go.RowKit
set_option linter.unusedVariables false
set_option linter.unusedSimpArgs false
theorem rdL2 {w : World} {A3 A4 : Option Addr} {n3 c3 n4 c4 T : Nat} {xs ys : List Int} (h1 : Rd w A3 n3 (ints xs)) (h2 : Rd w A4 n4 (ints ys)) (b3 : n3 ≤ 1000000000) (b4 : n4 ≤ 1000000000) :
    RdL (w.alloc (.cells #[.slice A3 n3 c3, .slice A4 n4 c4] T)) (some ⟨w.heap.size, 0, none⟩) 2 [xs, ys] := by
  refine ⟨[.slice A3 n3 c3, .slice A4 n4 c4], own_rd (own_lit w #[.slice A3 n3 c3, .slice A4 n4 c4] 2 T rfl (by omega)), rfl, ?_⟩
  intro i v zs hv hz
  match i, hv, hz with
  | 0, hv, hz =>
    obtain rfl : Value.slice A3 n3 c3 = v := by simpa using hv
    obtain rfl : xs = zs := by simpa using hz
    exact ⟨A3, n3, c3, rfl, b3, h1.alloc _⟩
  | 1, hv, hz =>
    obtain rfl : Value.slice A4 n4 c4 = v := by simpa using hv
    obtain rfl : ys = zs := by simpa using hz
    exact ⟨A4, n4, c4, rfl, b4, h2.alloc _⟩
  | i + 2, hv, hz => simp at hv
set_option maxHeartbeats 400000 in
theorem joined_any (w : World) (A : Option Addr) (n c : Nat) (pss : List (List Int)) (hr : RdL w A n pss) (hn : n ≤ 1000000) (ht : pss.flatten.length ≤ 1000000000) : Calls Try.prog 108 #[.slice A n c] w (RetS w 2 (ints pss.flatten)) := by
  go_enter Try.func108, Try.ntmps108
  go_wp2_with fail
  refine (concatI_any _ _ _ _ pss hr hn ht).mono ?_
  rintro e w1 ⟨A1, n1, c1, rfl, ho1, hb1⟩
  go_wp2_with fail
  go_ret
  exact ⟨A1, n1, c1, rfl, ho1, hb1⟩
abbrev coV (A : Option Addr) (n c : Nat) (z : Int) : Value := .tuple #[.slice A n c, .int .i64 z]
end Go.Proofs.Ytcpkhhammafchaa
/- The context of a configuration: the reference's functions. -/
namespace Go.Proofs.Ytcpkhhammafchaa
open Go.RowKit
set_option linter.unusedVariables false
set_option linter.unusedSimpArgs false
/-- The box of a configuration. -/
def BC (w : World) (g : Nat) (st : Int) (A1 : Option Addr) (n1 c1 : Nat) (A2 : Option Addr) (n2 c2 : Nat) : Prop := w.heap[g]? = some (.cells #[.int .i64 st, .slice A1 n1 c1, .slice A2 n2 c2] 170 (0, 0))
theorem BC.bel {w w' : World} {g n1 c1 n2 c2 : Nat} {st : Int} {A1 A2 : Option Addr} (h : BC w g st A1 n1 c1 A2 n2 c2) (hb : Below w.heap.size w w') : BC w' g st A1 n1 c1 A2 n2 c2 := blk_bel h hb
theorem BC.cells {w : World} {g n1 c1 n2 c2 : Nat} {st : Int} {A1 A2 : Option Addr} (h : BC w g st A1 n1 c1 A2 n2 c2) : w.cell? ⟨g, 0, none⟩ = some (.int .i64 st) ∧ w.cell? ⟨g, 1, none⟩ = some (.slice A1 n1 c1) ∧ w.cell? ⟨g, 2, none⟩ = some (.slice A2 n2 c2) :=
  ⟨blk_cell h 0 rfl, blk_cell h 1 rfl, blk_cell h 2 rfl⟩
/-- What a call that only reads leaves: nothing but draws. -/
def DrP (w : World) (v : Value) (e : Ending) (w' : World) : Prop := e = .returned v ∧ ∃ m, w' = w.drewN m
theorem drn_step {w wr : World} (h : ∃ n, wr = w.drewN n) (k : Nat) : ∃ m, wr.drewN k = w.drewN m := by obtain ⟨n, rfl⟩ := h; exact ⟨_, World.drewN_drewN _ _ _⟩
end Go.Proofs.Ytcpkhhammafchaa
