/- Prefix codes: the list that the reference draws. -/
import Derived.Test.YtbecofpklndpaaaPc4
namespace Go.Proofs.Ytbecofpklndpaaa
open Go.RowKit
set_option linter.unusedVariables false
set_option linter.unusedSimpArgs false
/-- The values us are rows of the call's own that read as xss. -/
def Rows (w : World) (lo : Nat) (us : List Value) (xss : List (List Int)) : Prop :=
  us.length = xss.length ∧ ∀ (i : Nat) (v : Value) (xs : List Int), us[i]? = some v → xss[i]? = some xs → ∃ A' n' c', v = .slice A' n' c' ∧ n' ≤ 1000000000 ∧ w.ownsRow lo 2 1 (.slice A' n' c') n' (ints xs)
theorem Rows.ch {w w' : World} {lo : Nat} {us : List Value} {xss : List (List Int)} {F : Nat → Prop} (h : Rows w lo us xss) (hc : Ch F w w') (hd : ∀ A' n' c' xs, w.ownsRow lo 2 1 (.slice A' n' c') n' (ints xs) → ∀ k, Fo (.slice A' n' c') k → F k → False) : Rows w' lo us xss := by
  refine ⟨h.1, fun i v xs hv hx => ?_⟩
  obtain ⟨A', n', c', e, hn, ho⟩ := h.2 i v xs hv hx
  exact ⟨A', n', c', e, hn, own_ch ho hc (hd A' n' c' xs ho)⟩
theorem Rows.nil (w : World) (lo : Nat) : Rows w lo [] [] := ⟨rfl, by simp⟩
theorem Rows.snoc {w : World} {lo n c : Nat} {us : List Value} {xss : List (List Int)} {A : Option Addr} {xs : List Int} (h : Rows w lo us xss) (ho : w.ownsRow lo 2 1 (.slice A n c) n (ints xs)) (hn : n ≤ 1000000000) : Rows w lo (us ++ [.slice A n c]) (xss ++ [xs]) := by
  refine ⟨by simp [h.1], fun i v ys hv hy => ?_⟩
  by_cases hi : i < us.length
  · rw [List.getElem?_append_left hi] at hv
    rw [List.getElem?_append_left (by rw [← h.1]; exact hi)] at hy
    exact h.2 i v ys hv hy
  · rw [List.getElem?_append_right (by omega)] at hv
    rw [List.getElem?_append_right (by rw [← h.1]; omega)] at hy
    rw [← h.1] at hy
    cases hq : i - us.length with
    | zero =>
      rw [hq] at hv hy
      simp at hv hy
      subst hv hy
      exact ⟨A, n, c, rfl, hn, ho⟩
    | succ z => rw [hq] at hv; simp at hv
/-- The same for reading, with the range of the blocks. -/
def RdLh (w : World) (lo hi : Nat) (A : Option Addr) (n : Nat) (xss : List (List Int)) : Prop :=
  ∃ vs : List Value, Rd w A n vs ∧ (∀ b off, 0 < n → A = some ⟨b, off, none⟩ → lo ≤ b ∧ b < hi) ∧ vs.length = xss.length ∧ ∀ (i : Nat) (v : Value) (xs : List Int), vs[i]? = some v → xss[i]? = some xs → ∃ A' n' c', v = .slice A' n' c' ∧ n' ≤ c' ∧ n' ≤ 1000000000 ∧ Rd w A' n' (ints xs) ∧ ∀ b off, 0 < n' → A' = some ⟨b, off, none⟩ → lo ≤ b ∧ b < hi
theorem RdLh.rdlc {w : World} {lo hi n : Nat} {A : Option Addr} {xss : List (List Int)} (h : RdLh w lo hi A n xss) : RdLc w A n xss := by
  obtain ⟨vs, h1, _, h2, h3⟩ := h
  refine ⟨vs, h1, h2, fun i v xs hv hx => ?_⟩
  obtain ⟨A', n', c', e, a, b, c, _⟩ := h3 i v xs hv hx
  exact ⟨A', n', c', e, a, b, c⟩
theorem RdLh.ch {w w' : World} {lo hi n : Nat} {A : Option Addr} {xss : List (List Int)} {F : Nat → Prop} (h : RdLh w lo hi A n xss) (hc : Ch F w w') (hd : ∀ k, lo ≤ k → k < hi → ¬ F k) : RdLh w' lo hi A n xss := by
  obtain ⟨vs, h1, h0, h2, h3⟩ := h
  refine ⟨vs, ch_rd h1 hc (fun hp b off e => hd b (h0 b off hp e).1 (h0 b off hp e).2), h0, h2, fun i v xs hv hx => ?_⟩
  obtain ⟨A', n', c', e, a, b, c, d⟩ := h3 i v xs hv hx
  exact ⟨A', n', c', e, a, b, ch_rd c hc (fun hp b off e => hd b (d b off hp e).1 (d b off hp e).2), d⟩
theorem own_rng {w : World} {base e n c : Nat} {A : Option Addr} {vs : List Value} (h : w.ownsRow base e 1 (.slice A n c) n vs) : ∀ b off, 0 < n → A = some ⟨b, off, none⟩ → base ≤ b ∧ b < w.heap.size := fun b off _ e => by
  subst e
  rcases h.2 with ⟨h', _⟩ | ⟨g, cap, cur, h', hb, hg, _⟩
  · cases h'
  · injection h' with h1
    injection h1 with h1
    injection h1 with h1
    subst h1
    exact ⟨hb, (Array.getElem?_eq_some_iff.1 hg).1⟩
theorem rdlh_of {w : World} {lo n c : Nat} {A : Option Addr} {us : List Value} {xss : List (List Int)} (ho : w.ownsRow lo 25 1 (.slice A n c) n us) (h : Rows w lo us xss) : RdLh w lo w.heap.size A n xss := by
  refine ⟨us, own_rd ho, own_rng ho, h.1, fun i v xs hv hx => ?_⟩
  obtain ⟨A', n', c', e, hn, ho'⟩ := h.2 i v xs hv hx
  exact ⟨A', n', c', e, ownN_cap ho', hn, own_rd ho', own_rng ho'⟩
theorem rows_alloc {w : World} {lo : Nat} {us : List Value} {xss : List (List Int)} (h : Rows w lo us xss) (o : Obj) : Rows (w.alloc o) lo us xss := h.ch (ch_alloc (fun _ => False) w o) (fun _ _ _ _ _ _ _ h => h)
theorem lit_row (w : World) (cs : Array Value) (xs : List Int) (lo n : Nat) (h : cs.toList = ints xs) (hn : cs.size = n) (hl : lo ≤ w.heap.size) (h5 : n ≤ 1000) : (w.alloc (.cells cs 2)).ownsRow lo 2 1 (.slice (some ⟨w.heap.size, 0, none⟩) n n) n (ints xs) := by
  have := own_base (own_lit w cs n 2 hn (by omega)) hl
  rwa [h] at this
/-- '{0}, {1, 0}, {1, 1}'. -/
def cA : List (List Int) := [[0], [1, 0], [1, 1]]
def cB : List (List Int) := [[0, 0], [0, 1], [1], [2]]
/-- Words of ones and a nought, of m letters 1 down to q + 1. -/
def cD (m q : Nat) : List (List Int) := (List.range (m - q)).map fun i => List.replicate (m - i) 1 ++ [0]
theorem cD_snoc (m q : Nat) (h : q + 1 ≤ m) : cD m q = cD m (q + 1) ++ [List.replicate (q + 1) 1 ++ [0]] := by
  unfold cD
  rw [show m - q = (m - (q + 1)) + 1 by omega, List.range_succ, List.map_append]
  have e : m - (m - (q + 1)) = q + 1 := by omega
  simp [e]
theorem code_of {xss : List (List Int)} (h : pcB xss = true ∧ 1 ≤ xss.length ∧ xss.length ≤ 4 ∧ (xss.all fun a => decide (a.length ≤ 5)) = true ∧ (xss.all fun a => allIn a 0 9) = true) : Code xss :=
  ⟨h.1, h.2.1, h.2.2.1, fun a ha => by have := List.all_eq_true.1 h.2.2.2.1 a ha; simpa using this, fun a ha => List.all_eq_true.1 h.2.2.2.2 a ha⟩
theorem code_A : Code cA := code_of (by decide)
theorem code_B : Code cB := code_of (by decide)
theorem code_D (m : Nat) (h1 : 1 ≤ m) (h4 : m ≤ 4) : Code (cD m 0) := by
  have : m = 1 ∨ m = 2 ∨ m = 3 ∨ m = 4 := by omega
  rcases this with rfl | rfl | rfl | rfl <;> exact code_of (by decide)
set_option maxHeartbeats 1000000 in
theorem l03Power_one (w : World) (A : Option Addr) (c m : Nat) (hr : Rd w A 1 (ints [1])) (hm : m ≤ 100) : Calls Try.prog 89 #[.slice A 1 c, .int .i64 m] w (RetS w 2 (ints (List.replicate m 1))) := by
  have hown := own_lit w #[] 0 2 rfl (by omega)
  have hb0 := below_new w (.cells #[] 2)
  go_enter Try.func89, Try.ntmps89
  go_wp2_with fail
  go_loopw [1, 5] (fun q v wr => ∃ (k : Nat) (A1 : Option Addr) (c1 : Nat), k ≤ m ∧ q = .int .i64 ((m - k : Nat) : Int) ∧ v = .slice A1 k c1 ∧ wr.ownsRow w.heap.size 2 1 (.slice A1 k c1) k (ints (List.replicate k 1)) ∧ Below w.heap.size w wr) (fun q _ _ => (intOf q).toNat)
  case atStart => exact ⟨0, _, _, Nat.zero_le _, rfl, rfl, hown, hb0⟩
  case round =>
    obtain ⟨k, A1, c1, hk, rfl, rfl, ho, hb⟩ := hrel
    by_cases h1 : k < m
    · have hp : (0 : Int) < ((m - k : Nat) : Int) := by omega
      have hp' : 0 < m - k := by omega
      have HE : Hid (ints (List.replicate k 1) ++ ints [1] = ints (List.replicate (k + 1) 1)) := Lib.hid (by rw [← ints_apd, List.replicate_succ'])
      go_wp2_with (at_builtin; go_must (refine wpList_appS Try.eltI rfl _ _ rfl wr w.heap.size _ k _ (by rfl) ho A 1 c (ints [1]) (by rfl) (hr.below hb (Nat.le_refl _)) ints_one (by exact hb.size) (by omega) ?_); rintro A5 c5 w5 ho5 hb5)
      have HO5 := Lib.hid ho5; clear ho5
      go_wp2_with fail
      go_roundw
      case rel => exact ⟨k + 1, A5, c5, by omega, by congr 1; omega, rfl, by rw [← HE.out]; exact HO5.out, hb.trans hb5⟩
      case measure => simp [intOf]; omega
    · obtain rfl : k = m := by omega
      have e0 : ((k - k : Nat) : Int) = 0 := by omega
      rw [e0]
      go_wp2_with fail
      go_ret
      exact ⟨A1, k, c1, rfl, ho, hb⟩
end Go.Proofs.Ytbecofpklndpaaa
