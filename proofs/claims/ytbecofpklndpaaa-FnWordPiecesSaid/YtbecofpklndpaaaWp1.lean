/- Word pieces: occurrences and replacements. -/
import Derived.Test.YtbecofpklndpaaaWpM
import Derived.Test.YtbecofpklndpaaaPc
import Derived.Test.YtbecofpklndpaaaCut
import Derived.Test.YtbecofpklndpaaaCatI
namespace Go.Proofs.Ytbecofpklndpaaa
open Go.RowKit
set_option linter.unusedVariables false
set_option linter.unusedSimpArgs false
theorem rl2 {w : World} {A3 A4 : Option Addr} {n3 c3 n4 c4 T : Nat} {xs ys : List Int} (h1 : Rd w A3 n3 (ints xs)) (h2 : Rd w A4 n4 (ints ys)) (b3 : n3 ≤ 1000000000) (b4 : n4 ≤ 1000000000) :
    RdL (w.alloc (.cells #[.slice A3 n3 c3, .slice A4 n4 c4] T)) (some ⟨w.heap.size, 0, none⟩) 2 [xs, ys] := by
  refine ⟨[.slice A3 n3 c3, .slice A4 n4 c4], own_rd (own_lit w #[.slice A3 n3 c3, .slice A4 n4 c4] 2 T rfl (by omega)), rfl, ?_⟩
  intro i v zs hv hz
  match i, hv, hz with
  | 0, hv, hz =>
    obtain rfl : Value.slice A3 n3 c3 = v := by simpa using hv
    obtain rfl : xs = zs := by simpa using hz
    exact ⟨A3, n3, c3, rfl, b3, h1.alloc _⟩
  | 1, hv, hz =>
    obtain rfl : Value.slice A4 n4 c4 = v := by simpa using hv
    obtain rfl : ys = zs := by simpa using hz
    exact ⟨A4, n4, c4, rfl, b4, h2.alloc _⟩
  | i + 2, hv, hz => simp at hv
theorem rl3 {w : World} {A3 A4 A5 : Option Addr} {n3 c3 n4 c4 n5 c5 T : Nat} {xs ys us : List Int} (h1 : Rd w A3 n3 (ints xs)) (h2 : Rd w A4 n4 (ints ys)) (h3 : Rd w A5 n5 (ints us)) (b3 : n3 ≤ 1000000000) (b4 : n4 ≤ 1000000000) (b5 : n5 ≤ 1000000000) :
    RdL (w.alloc (.cells #[.slice A3 n3 c3, .slice A4 n4 c4, .slice A5 n5 c5] T)) (some ⟨w.heap.size, 0, none⟩) 3 [xs, ys, us] := by
  refine ⟨[.slice A3 n3 c3, .slice A4 n4 c4, .slice A5 n5 c5], own_rd (own_lit w #[.slice A3 n3 c3, .slice A4 n4 c4, .slice A5 n5 c5] 3 T rfl (by omega)), rfl, ?_⟩
  intro i v zs hv hz
  match i, hv, hz with
  | 0, hv, hz =>
    obtain rfl : Value.slice A3 n3 c3 = v := by simpa using hv
    obtain rfl : xs = zs := by simpa using hz
    exact ⟨A3, n3, c3, rfl, b3, h1.alloc _⟩
  | 1, hv, hz =>
    obtain rfl : Value.slice A4 n4 c4 = v := by simpa using hv
    obtain rfl : ys = zs := by simpa using hz
    exact ⟨A4, n4, c4, rfl, b4, h2.alloc _⟩
  | 2, hv, hz =>
    obtain rfl : Value.slice A5 n5 c5 = v := by simpa using hv
    obtain rfl : us = zs := by simpa using hz
    exact ⟨A5, n5, c5, rfl, b5, h3.alloc _⟩
  | i + 3, hv, hz => simp at hv
set_option maxHeartbeats 400000 in
theorem joined_any (w : World) (A : Option Addr) (n c : Nat) (pss : List (List Int)) (hr : RdL w A n pss) (hn : n ≤ 1000000) (ht : pss.flatten.length ≤ 1000000000) : Calls Try.prog 223 #[.slice A n c] w (RetS w 2 (ints pss.flatten)) := by
  go_enter Try.func223, Try.ntmps223
  go_wp2_with fail
  refine (concatI_any _ _ _ _ pss hr hn ht).mono ?_
  rintro e w1 ⟨A1, n1, c1, rfl, ho1, hb1⟩
  go_wp2_with fail
  go_ret
  exact ⟨A1, n1, c1, rfl, ho1, hb1⟩
/-- A short word. -/
def Wd (xs : List Int) : Prop := allIn xs 0 9 = true ∧ xs.length ≤ 100
set_option maxHeartbeats 400000 in
theorem aw1_any (w : World) (A : Option Addr) (n c : Nat) (xs : List Int) (hr : Rd w A n (ints xs)) (hx : Wd xs) :
    Calls Try.prog 182 #[.slice A n c] w fun e w' => e = .returned (.bool false) ∧ w = w' := by
  have hl : xs.length = n := by simpa using hr.1
  have hn : n ≤ 400 := by have := hx.2; omega
  have HX := Lib.hid hx.1
  clear hl hx
  go_enter Try.func182, Try.ntmps182
  go_wp2_with (go_at_call 94; refine (IsWord_small _ _ _ _ xs hr hn HX.out).mono ?_; rintro e w' ⟨rfl, rfl⟩)
  go_ret
  exact ⟨rfl, rfl⟩
set_option maxHeartbeats 1000000 in
theorem awi_any (w : World) (A : Option Addr) (n c : Nat) (xss : List (List Int)) (hr : RdL w A n xss) (hn : n ≤ 1000000000) (hC : ∀ x ∈ xss, Wd x) :
    Calls Try.prog 95 #[.slice A n c, .func (.func 182) #[] #[]] w fun e w' => e = .returned (.int .i64 (-1)) ∧ w = w' := by
  have HL : Hid (xss.length = n) := Lib.hid (hr.len)
  have HC := Lib.hid hC; clear hC
  go_enter Try.func95, Try.ntmps95
  go_wp2_with fail
  go_loop [8] (fun q => ∃ k : Nat, k ≤ n ∧ q = .int .i64 k) (fun q => n - (intOf q).toNat)
  case atStart => exact ⟨0, Nat.zero_le _, rfl⟩
  case round =>
    obtain ⟨k, hk, rfl⟩ := hrel
    by_cases h1 : k < n
    · obtain ⟨x, hx⟩ := get_some (xs := xss) (k := k) (by rw [HL.out]; omega)
      obtain ⟨b, off, A', n', c', rfl, hbs, hc, hn', hr'⟩ := hr.at_ hx
      have HA := Lib.hid (HC.out x (List.mem_of_getElem? hx))
      clear hx
      go_wp2_with (go_at_call 182; refine (aw1_any _ _ _ _ x hr' HA.out).mono ?_; rintro e w' ⟨rfl, rfl⟩)
      go_round
      case rel => exact ⟨k + 1, by omega, by go_num⟩
      case measure => simp [intOf]; omega
    · go_wp2_with fail
      go_ret
      exact ⟨rfl, rfl⟩
set_option maxHeartbeats 400000 in
theorem areWords_yes (w : World) (A : Option Addr) (n c : Nat) (xss : List (List Int)) (hr : RdL w A n xss) (hn : n ≤ 1000000000) (hC : ∀ x ∈ xss, Wd x) :
    Calls Try.prog 90 #[.slice A n c] w fun e w' => e = .returned (.bool true) ∧ w = w' := by
  have hcf : Calls Try.prog 181 #[.slice A n c, .func (.func 182) #[] #[]] w fun e w' => e = .returned (.bool false) ∧ w = w' := by
    go_enter Try.func181, Try.ntmps181
    go_wp2_with (go_at_call 95; refine (awi_any _ _ _ _ _ hr hn hC).mono ?_; rintro e w' ⟨rfl, rfl⟩)
    go_ret
    exact ⟨rfl, rfl⟩
  have HCF := Lib.hid hcf; clear hcf
  go_enter Try.func90, Try.ntmps90
  go_wp2_with (go_at_call 181; refine HCF.out.mono ?_; rintro e w' ⟨rfl, rfl⟩)
  go_ret
  exact ⟨rfl, rfl⟩
theorem occTo_yes {w p : List Int} {k : Nat} (h : bgn (w.drop k) p = true) : occTo w p (k + 1) = occTo w p k ++ [(k : Int)] := by simp [occTo, h]
theorem occTo_no {w p : List Int} {k : Nat} (h : bgn (w.drop k) p = false) : occTo w p (k + 1) = occTo w p k := by simp [occTo, h]
def occ (w p : List Int) : List Int := occTo w p (w.length + 1)
set_option maxHeartbeats 2000000 in
theorem occurrences_any (w : World) (A A' : Option Addr) (n c n' c' : Nat) (xs ps : List Int) (hr : Rd w A n (ints xs)) (hr' : Rd w A' n' (ints ps)) (hn : n ≤ 1000) (hn' : n' ≤ 1000) (hc : n ≤ c) :
    Calls Try.prog 162 #[.slice A n c, .slice A' n' c'] w (RetS w 2 (ints (occ xs ps))) := by
  have HOC : Hid (occ xs ps = occTo xs ps (n + 1)) := Lib.hid (by rw [occ, show xs.length = n by simpa using hr.1])
  have hown := own_lit w #[] 0 2 rfl (by omega)
  have HB0 := Lib.hid (below_new w (.cells #[] 2))
  go_enter Try.func162, Try.ntmps162
  go_wp2_with fail
  go_loopw [5, 6] (fun q i wr => ∃ (k : Nat) (A3 : Option Addr) (n3 c3 : Nat), k ≤ n + 1 ∧ i = .int .i64 k ∧ q = .slice A3 n3 c3 ∧ n3 ≤ k ∧ wr.ownsRow w.heap.size 2 1 (.slice A3 n3 c3) n3 (ints (occTo xs ps k)) ∧ Below w.heap.size w wr) (fun _ i _ => n + 1 - (intOf i).toNat)
  case atStart => exact ⟨0, _, _, _, by omega, rfl, rfl, by omega, hown, HB0.out⟩
  case round =>
    clear hown
    obtain ⟨k, A3, n3, c3, hk, rfl, rfl, hn3, ho3, hb3⟩ := hrel
    by_cases hlt : k ≤ n
    · have hlt' : (k : Int) ≤ (n : Int) := by omega
      have hct := fun (w : World) => run_cutF Try.underlying25 Try.szI w A n c k (k : Int) .i64 rfl hlt
      have HRX : Hid (Rd wr (cutA A k c 1) (n - k) (ints (xs.drop k))) := Lib.hid (by have h := (hr.below hb3 (Nat.le_refl _)).cut k c hlt hc; rwa [← List.map_drop] at h)
      have HRP := Lib.hid (hr'.below hb3 (Nat.le_refl _))
      generalize cutA A k c 1 = A4 at *
      cases hb : bgn (xs.drop k) ps with
      | true =>
        have HBG := Lib.hid hb
        have HE := Lib.hid (occTo_yes hb)
        clear hb
        go_wp2_with fail
        refine (begins_any _ A4 A' (n - k) (c - k) n' c' (xs.drop k) ps HRX.out HRP.out (by omega) (by omega) (by omega)).mono ?_
        rw [HBG.out]
        rintro e w5 ⟨rfl, hb5⟩
        have HO := Lib.hid (ownN_below ho3 hb5 (Nat.le_refl _))
        have HB5 := Lib.hid (hb3.trans (hb5.mono hb3.size))
        clear ho3 hb5
        go_wp2_with (at_builtin; go_must (refine wpList_app1 Try.eltI rfl _ _ rfl _ w.heap.size _ n3 _ (by rfl) HO.out (.int .i64 (k : Int)) rfl (by rfl) HB5.out.size (by omega) ?_); rintro A6 c6 w6 ho6 hb6)
        rw [ints_snoc', ← HE.out] at ho6
        go_roundw
        case rel => exact ⟨k + 1, A6, n3 + 1, c6, by omega, by go_num, rfl, by omega, ho6, HB5.out.trans (hb6.mono (by exact Nat.le_refl _))⟩
        case measure => simp [intOf]; omega
      | false =>
        have HBG := Lib.hid hb
        have HE := Lib.hid (occTo_no hb)
        clear hb
        go_wp2_with fail
        refine (begins_any _ A4 A' (n - k) (c - k) n' c' (xs.drop k) ps HRX.out HRP.out (by omega) (by omega) (by omega)).mono ?_
        rw [HBG.out]
        rintro e w5 ⟨rfl, hb5⟩
        go_wp2_with fail
        go_roundw
        case rel => exact ⟨k + 1, A3, n3, c3, by omega, by go_num, rfl, by omega, by rw [HE.out]; exact ownN_below ho3 hb5 (Nat.le_refl _), hb3.trans (hb5.mono hb3.size)⟩
        case measure => simp [intOf]; omega
    · have hlt' : ¬ (k : Int) ≤ (n : Int) := by omega
      obtain rfl : k = n + 1 := by omega
      go_wp2_with fail
      go_ret
      exact ⟨A3, n3, c3, rfl, by rw [HOC.out]; exact ho3, hb3⟩
set_option maxHeartbeats 1000000 in
theorem OccurrencesOf_any (w : World) (A A' : Option Addr) (n c n' c' : Nat) (xs ps : List Int) (hr : Rd w A n (ints xs)) (hr' : Rd w A' n' (ints ps)) (hx : Wd xs) (hp : Wd ps) (hc : n ≤ c) :
    Calls Try.prog 74 #[.slice A n c, .slice A' n' c'] w (RetSI w 2 (ints (occ xs ps)) 0) := by
  have hl : xs.length = n := by simpa using hr.1
  have hl' : ps.length = n' := by simpa using hr'.1
  have hn : n ≤ 100 := by have := hx.2; omega
  have hn' : n' ≤ 100 := by have := hp.2; omega
  have HR := Lib.hid (rl2 (T := 25) (c3 := c) (c4 := c') hr hr' (by omega) (by omega))
  have HW : Hid (∀ x ∈ [xs, ps], Wd x) := Lib.hid (by intro x hxx; simp at hxx; rcases hxx with rfl | rfl; exact hx; exact hp)
  clear hl hl' hx hp
  go_enter Try.func74, Try.ntmps74
  go_wp2_with fail
  refine (areWords_yes _ _ 2 _ [xs, ps] HR.out (by omega) HW.out).mono ?_
  rintro e w2 ⟨rfl, rfl⟩
  go_wp2_with fail
  refine (occurrences_any _ A A' n c n' c' xs ps (hr.alloc _) (hr'.alloc _) (by omega) (by omega) hc).mono ?_
  rintro e w3 ⟨A3, n3, c3, rfl, ho3, hb3⟩
  go_wp2_with fail
  go_ret2
  exact ⟨A3, n3, c3, rfl, ownN_base ho3 (by simp), (below_new _ _).trans (hb3.mono (by simp))⟩
set_option maxHeartbeats 400000 in
theorem fitting_any (w : World) (A : Option Addr) (n c : Nat) (hn : n ≤ 400) : Calls Try.prog 163 #[.slice A n c] w fun e w' => e = .returned (.tuple #[.slice A n c, .int .i64 0]) ∧ w = w' := by
  have h1 : ¬ (400 : Int) < (n : Int) := by omega
  go_enter Try.func163, Try.ntmps163
  go_wp2_with fail
  go_ret2
  exact ⟨rfl, rfl⟩
set_option maxHeartbeats 4000000 in
theorem replaced_any (w : World) (A A' A2 : Option Addr) (n c m n2 c2 : Nat) (xs ps ys : List Int) (a : Nat) (hr : Rd w A n (ints xs)) (hr2 : Rd w A2 n2 (ints ys)) (hm : ps.length = m) (ha : a + m ≤ n) (hn : n ≤ 1000) (hn2 : n2 ≤ 1000) (hc : n ≤ c) :
    Calls Try.prog 164 #[.slice A n c, .int .i64 a, .int .i64 m, .slice A2 n2 c2] w (RetS w 2 (ints (repl xs ps ys a))) := by
  have h1 := fun (w : World) => run_cutH Try.underlying25 Try.szI w A n c a (a : Int) .i64 rfl (by omega)
  have h2 := fun (w : World) => run_cutF Try.underlying25 Try.szI w A n c (a + m) ((a : Int) + (m : Int)) .i64 (by push_cast; rfl) ha
  have hw : IntKind.i64.wrap ((a : Int) + (m : Int)) = (a : Int) + (m : Int) := IntWalk.i64_in _ (by omega)
  have hra : Rd w A a (ints (xs.take a)) := by have h := hr.take a (by omega); rwa [← List.map_take] at h
  have hrb : Rd w (cutA A (a + m) c 1) (n - (a + m)) (ints (xs.drop (a + m))) := by have h := hr.cut (a + m) c ha hc; rwa [← List.map_drop] at h
  have hl : xs.length = n := by simpa using hr.1
  have hl2 : ys.length = n2 := by simpa using hr2.1
  have HE : Hid ([xs.take a, ys, xs.drop (a + m)].flatten = repl xs ps ys a) := Lib.hid (by simp [repl, hm])
  have HT : Hid ([xs.take a, ys, xs.drop (a + m)].flatten.length ≤ 1000000000) := Lib.hid (by simp; omega)
  generalize cutA A (a + m) c 1 = A4 at *
  have HRA := Lib.hid hra; have HRB := Lib.hid hrb; have HR2 := Lib.hid hr2
  clear hra hrb hl hl2 hm hr hr2
  go_enter Try.func164, Try.ntmps164
  go_wp2_with fail
  (first
    | (go_region_law (first
        | (go_simp
           go_at_call 223
           refine (joined_any _ _ 3 _ [xs.take a, ys, xs.drop (a + m)] (by first | (have h := rl3 (T := 25) (c3 := c) (c4 := c2) (c5 := c - (a + m)) HRA.out HR2.out HRB.out (by omega) (by omega) (by omega); exact h) | (have h := rl3 (T := 25) (c3 := c) (c4 := c2) (c5 := c - (a + m)) HRA.out.drew HR2.out.drew HRB.out.drew (by omega) (by omega) (by omega); exact h)) (by decide) HT.out).mono ?_
           rintro e w5 ⟨A5, n5, c5, rfl, ho5, hb5⟩)))
    | fail)
  all_goals
    go_wp2_with fail
    go_ret
    rw [HE.out] at ho5
    exact ⟨A5, n5, c5, rfl, ownN_base ho5 (by first | (simp; done) | (show w.heap.size ≤ (World.alloc _ _).heap.size; simp)), (below_new w _).trans (Below.mono (show Below (w.alloc _).heap.size (w.alloc _) w5 from ⟨hb5.os, hb5.tape, hb5.output, hb5.size, hb5.block⟩) (by simp))⟩
end Go.Proofs.Ytbecofpklndpaaa
