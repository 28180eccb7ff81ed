/- Word pieces: the first occurrence replaced, one occurrence replaced. -/
import Derived.Test.YtbecofpklndpaaaWp1
namespace Go.Proofs.Ytbecofpklndpaaa
open Go.RowKit
set_option linter.unusedVariables false
set_option linter.unusedSimpArgs false
theorem occ_mem {w p : List Int} {x : Int} (h : x ∈ occ w p) : ∃ i : Nat, x = i ∧ i + p.length ≤ w.length ∧ bgn (w.drop i) p = true := by
  obtain ⟨i, h1, h2, h3⟩ := occTo_mem h
  have h4 := bgn_len h3
  simp at h4
  exact ⟨i, h1, by omega, h3⟩
set_option maxHeartbeats 4000000 in
theorem ReplaceFirst_none (w : World) (A A' A2 : Option Addr) (n c n' c' n2 c2 : Nat) (xs ps ys : List Int) (hr : Rd w A n (ints xs)) (hr' : Rd w A' n' (ints ps)) (hr2 : Rd w A2 n2 (ints ys)) (hx : Wd xs) (hp : Wd ps) (hy : Wd ys) (hc : n ≤ c) (ho : occ xs ps = []) :
    Calls Try.prog 75 #[.slice A n c, .slice A' n' c', .slice A2 n2 c2] w (RetSI w 2 (ints []) 3) := by
  have hl : xs.length = n := by simpa using hr.1
  have hl' : ps.length = n' := by simpa using hr'.1
  have hl2 : ys.length = n2 := by simpa using hr2.1
  have hn : n ≤ 100 := by have := hx.2; omega
  have hn' : n' ≤ 100 := by have := hp.2; omega
  have hn2 : n2 ≤ 100 := by have := hy.2; omega
  have HR := Lib.hid (rl3 (T := 25) (c3 := c) (c4 := c') (c5 := c2) hr hr' hr2 (by omega) (by omega) (by omega))
  have HW : Hid (∀ x ∈ [xs, ps, ys], Wd x) := Lib.hid (by intro x hxx; simp at hxx; rcases hxx with rfl | rfl | rfl; exact hx; exact hp; exact hy)
  have HO := Lib.hid ho
  clear hl hl' hl2 hx hp hy ho
  go_enter Try.func75, Try.ntmps75
  go_wp2_with fail
  refine (areWords_yes _ _ 3 _ [xs, ps, ys] HR.out (by omega) HW.out).mono ?_
  rintro e w2 ⟨rfl, rfl⟩
  go_wp2_with fail
  refine (occurrences_any _ A A' n c n' c' xs ps (hr.alloc _) (hr'.alloc _) (by omega) (by omega) hc).mono ?_
  rintro e w3 ⟨A3, n3, c3, rfl, ho3, hb3⟩
  obtain rfl : n3 = 0 := by have h := ho3.1; rw [HO.out] at h; simp at h; omega
  go_wp2_with fail
  go_ret2
  exact ⟨none, 0, 0, rfl, own_nil _ _ _, (below_new _ _).trans (hb3.mono (by simp))⟩
set_option maxHeartbeats 4000000 in
theorem ReplaceFirst_some (w : World) (A A' A2 : Option Addr) (n c n' c' n2 c2 : Nat) (xs ps ys : List Int) (a : Nat) (r : List Int) (hr : Rd w A n (ints xs)) (hr' : Rd w A' n' (ints ps)) (hr2 : Rd w A2 n2 (ints ys)) (hx : Wd xs) (hp : Wd ps) (hy : Wd ys) (hc : n ≤ c) (ho : occ xs ps = (a : Int) :: r) :
    Calls Try.prog 75 #[.slice A n c, .slice A' n' c', .slice A2 n2 c2] w (RetSI w 2 (ints (repl xs ps ys a)) 0) := by
  have hl : xs.length = n := by simpa using hr.1
  have hl' : ps.length = n' := by simpa using hr'.1
  have hl2 : ys.length = n2 := by simpa using hr2.1
  have hn : n ≤ 100 := by have := hx.2; omega
  have hn' : n' ≤ 100 := by have := hp.2; omega
  have hn2 : n2 ≤ 100 := by have := hy.2; omega
  have ham : a + ps.length ≤ xs.length := by
    obtain ⟨i, h1, h2, _⟩ := occ_mem (x := (a : Int)) (by rw [ho]; simp)
    have : a = i := by omega
    omega
  have hrl := repl_len (w := xs) (p := ps) (y := ys) ham
  have HRL : Hid ((repl xs ps ys a).length ≤ 400) := Lib.hid (by omega)
  have ham' : a + n' ≤ n := by omega
  have HR := Lib.hid (rl3 (T := 25) (c3 := c) (c4 := c') (c5 := c2) hr hr' hr2 (by omega) (by omega) (by omega))
  have HW : Hid (∀ x ∈ [xs, ps, ys], Wd x) := Lib.hid (by intro x hxx; simp at hxx; rcases hxx with rfl | rfl | rfl; exact hx; exact hp; exact hy)
  have HO := Lib.hid ho; have HL' := Lib.hid hl'
  clear hl hl' hl2 hx hp hy ho ham hrl
  go_enter Try.func75, Try.ntmps75
  go_wp2_with fail
  refine (areWords_yes _ _ 3 _ [xs, ps, ys] HR.out (by omega) HW.out).mono ?_
  rintro e w2 ⟨rfl, rfl⟩
  go_wp2_with fail
  refine (occurrences_any _ A A' n c n' c' xs ps (hr.alloc _) (hr'.alloc _) (by omega) (by omega) hc).mono ?_
  rintro e w3 ⟨A3, n3, c3, rfl, ho3, hb3⟩
  rw [HO.out] at ho3
  have hn3 : n3 = r.length + 1 := by have h := ho3.1; simp at h; omega
  have hn3' : 0 < n3 := by omega
  have hn3i : (0 : Int) < (n3 : Int) := by omega
  have hz : ((n3 : Int) == 0) = false := beq_eq_false_iff_ne.2 (by omega)
  have hz2 : ¬ n3 = 0 := by omega
  clear hn3
  obtain ⟨g, rfl, _, hgl, hcg, _⟩ := own_get ho3 (k := 0) (u := .int .i64 (a : Int)) (by simp)
  have HB3 := Lib.hid ((below_new w (.cells #[.slice A n c, .slice A' n' c', .slice A2 n2 c2] 25)).trans (hb3.mono (by simp)))
  clear ho3 hb3
  go_wp2_with fail
  refine (replaced_any _ A A' A2 n c n' n2 c2 xs ps ys a (hr.below HB3.out (Nat.le_refl _)) (hr2.below HB3.out (Nat.le_refl _)) HL'.out ham' (by omega) (by omega) hc).mono ?_
  rintro e w4 ⟨A4, n4, c4, rfl, ho4, hb4⟩
  have hn4 : n4 ≤ 400 := by have h := ho4.1; have h2 := HRL.out; simp at h; omega
  have HO4 := Lib.hid (ownN_base ho4 HB3.out.size)
  have HB4 := Lib.hid (HB3.out.trans (hb4.mono HB3.out.size))
  clear ho4 hb4
  go_wp2_with fail
  refine (fitting_any _ A4 n4 c4 hn4).mono ?_
  rintro e w5 ⟨rfl, rfl⟩
  go_wp2_with fail
  go_ret2
  exact ⟨A4, n4, c4, rfl, HO4.out, HB4.out⟩
set_option maxHeartbeats 400000 in
theorem sizeI_any (w : World) (A : Option Addr) (n c : Nat) : Calls Try.prog 165 #[.slice A n c] w fun e w' => e = .returned (.int .i64 n) ∧ w = w' := by
  go_enter Try.func165, Try.ntmps165
  go_wp2_with fail
  go_ret
  exact ⟨rfl, rfl⟩
set_option maxHeartbeats 4000000 in
theorem ReplaceAt_any (w : World) (A A' A2 : Option Addr) (n c n' c' n2 c2 : Nat) (xs ps ys : List Int) (a : Nat) (hr : Rd w A n (ints xs)) (hr' : Rd w A' n' (ints ps)) (hr2 : Rd w A2 n2 (ints ys)) (hx : Wd xs) (hp : Wd ps) (hy : Wd ys) (hc : n ≤ c) (ham : a + ps.length ≤ xs.length) (hbg : bgn (xs.drop a) ps = true) :
    Calls Try.prog 76 #[.slice A n c, .int .i64 a, .slice A' n' c', .slice A2 n2 c2] w (RetSI w 2 (ints (repl xs ps ys a)) 0) := by
  have hl : xs.length = n := by simpa using hr.1
  have hl' : ps.length = n' := by simpa using hr'.1
  have hl2 : ys.length = n2 := by simpa using hr2.1
  have hn : n ≤ 100 := by have := hx.2; omega
  have hn' : n' ≤ 100 := by have := hp.2; omega
  have hn2 : n2 ≤ 100 := by have := hy.2; omega
  have hrl := repl_len (w := xs) (p := ps) (y := ys) ham
  have HRL : Hid ((repl xs ps ys a).length ≤ 400) := Lib.hid (by omega)
  have ham' : a + n' ≤ n := by omega
  have HR := Lib.hid (rl3 (T := 25) (c3 := c) (c4 := c') (c5 := c2) hr hr' hr2 (by omega) (by omega) (by omega))
  have HW : Hid (∀ x ∈ [xs, ps, ys], Wd x) := Lib.hid (by intro x hxx; simp at hxx; rcases hxx with rfl | rfl | rfl; exact hx; exact hp; exact hy)
  have HBG := Lib.hid hbg; have HL' := Lib.hid hl'
  have HIN : Hid (inB (a : Int) 0 (n : Int) = true) := Lib.hid (inB_true.2 (by omega))
  have hct := fun (w : World) => run_cutF Try.underlying25 Try.szI w A n c a (a : Int) .i64 rfl (by omega)
  have HRX : Hid (Rd w (cutA A a c 1) (n - a) (ints (xs.drop a))) := Lib.hid (by have h := hr.cut a c (by omega) hc; rwa [← List.map_drop] at h)
  generalize cutA A a c 1 = A4 at *
  clear hl hl' hl2 hx hp hy ham hrl hbg
  go_enter Try.func76, Try.ntmps76
  go_wp2_with fail
  refine (areWords_yes _ _ 3 _ [xs, ps, ys] HR.out (by omega) HW.out).mono ?_
  rintro e w2 ⟨rfl, rfl⟩
  go_wp2_with fail
  refine (sizeI_any _ A n c).mono ?_
  rintro e w2 ⟨rfl, rfl⟩
  go_wp2_with fail
  refine (within_any _ _ _ _).mono ?_
  rw [HIN.out]
  rintro e w2 ⟨rfl, rfl⟩
  go_wp2_with fail
  refine (begins_any _ A4 A' (n - a) (c - a) n' c' (xs.drop a) ps (HRX.out.alloc _) (hr'.alloc _) (by omega) (by omega) (by omega)).mono ?_
  rw [HBG.out]
  rintro e w3 ⟨rfl, hb3⟩
  have HB3 := Lib.hid ((below_new w (.cells #[.slice A n c, .slice A' n' c', .slice A2 n2 c2] 25)).trans (hb3.mono (by simp)))
  clear hb3
  go_wp2_with fail
  refine (replaced_any _ A A' A2 n c n' n2 c2 xs ps ys a (hr.below HB3.out (Nat.le_refl _)) (hr2.below HB3.out (Nat.le_refl _)) HL'.out ham' (by omega) (by omega) hc).mono ?_
  rintro e w4 ⟨A5, n4, c4, rfl, ho4, hb4⟩
  have hn4 : n4 ≤ 400 := by have h := ho4.1; have h2 := HRL.out; simp at h; omega
  have HO4 := Lib.hid (ownN_base ho4 HB3.out.size)
  have HB4 := Lib.hid (HB3.out.trans (hb4.mono HB3.out.size))
  clear ho4 hb4
  go_wp2_with fail
  refine (fitting_any _ A5 n4 c4 hn4).mono ?_
  rintro e w5 ⟨rfl, rfl⟩
  go_wp2_with fail
  go_ret2
  exact ⟨A5, n4, c4, rfl, HO4.out, HB4.out⟩
end Go.Proofs.Ytbecofpklndpaaa
