/- Slices of expressions of the call's own. -/
import Derived.Test.YtadmbphefpfbmaaGreatDoorPvJ
namespace Go.Proofs.YtadmbphefpfbmaaGreatDoor
open Go.RowKit
set_option linter.unusedVariables false
set_option linter.unusedSimpArgs false
/-- Expressions, each in a row of its own. -/
def InnX (w : World) (us : List Value) (es : List (List El)) : Prop := us.length = es.length ∧ ∀ (i : Nat) (u : Value) (e : List El), us[i]? = some u → es[i]? = some e → ∃ A n c, u = .slice A n c ∧ n ≤ 1000000 ∧ n ≤ c ∧ w.ownsRow 0 110 2 (.slice A n c) n (ints (eNums e))
theorem InnX.ch {w w' : World} {us : List Value} {es : List (List El)} {F : Nat → Prop} (h : InnX w us es) (hc : Ch F w w') (hF : ∀ q, F q → ∀ ds, w.heap[q]? = some (.cells ds 110 (0, 0)) → False) : InnX w' us es := by
  refine ⟨h.1, fun i u x hu hx => ?_⟩
  obtain ⟨A, n, c, e, h1, h2, h3⟩ := h.2 i u x hu hx
  refine ⟨A, n, c, e, h1, h2, own_ch h3 hc (fun q hq hf => ?_)⟩
  obtain ⟨ds, hd⟩ := own_foP h3 hq
  exact hF q hf ds hd
theorem InnX.below {w w' : World} {us : List Value} {es : List (List El)} (h : InnX w us es) (hb : Below w.heap.size w w') : InnX w' us es := h.ch (F := fun _ => False) (ch_below hb) (fun _ hf => hf.elim)
theorem InnX.snoc {w : World} {us : List Value} {es : List (List El)} {A : Option Addr} {n c : Nat} {x : List El} (h : InnX w us es) (hn : n ≤ 1000000) (hc : n ≤ c) (ho : w.ownsRow 0 110 2 (.slice A n c) n (ints (eNums x))) : InnX w (us ++ [.slice A n c]) (es ++ [x]) := by
  refine ⟨by simp [h.1], fun i u y hu hy => ?_⟩
  by_cases hi : i < us.length
  · rw [List.getElem?_append_left hi] at hu
    rw [List.getElem?_append_left (by rw [← h.1]; exact hi)] at hy
    exact h.2 i u y hu hy
  · rw [List.getElem?_append_right (by omega)] at hu
    rw [List.getElem?_append_right (by rw [← h.1]; omega), ← h.1] at hy
    have h0 : i - us.length = 0 := by
      have h1 := (List.getElem?_eq_some_iff.1 hu).1
      simp at h1; omega
    rw [h0] at hu hy
    injection hu with hu
    injection hy with hy
    subst hu hy
    exact ⟨A, n, c, rfl, hn, hc, ho⟩
theorem InnX.set {w : World} {us : List Value} {es : List (List El)} {A : Option Addr} {n c k : Nat} {x : List El} (h : InnX w us es) (hn : n ≤ 1000000) (hc : n ≤ c) (ho : w.ownsRow 0 110 2 (.slice A n c) n (ints (eNums x))) : InnX w (us.set k (.slice A n c)) (es.set k x) := by
  refine ⟨by simp [h.1], fun i u y hu hy => ?_⟩
  rw [List.getElem?_set] at hu hy
  split at hu
  · rename_i hik
    rw [if_pos hik] at hy
    split at hu
    · split at hy
      · injection hu with hu
        injection hy with hy
        subst hu hy
        exact ⟨A, n, c, rfl, hn, hc, ho⟩
      · simp at hy
    · simp at hu
  · rename_i hik
    rw [if_neg hik] at hy
    exact h.2 i u y hu hy
/-- A row of slices of the call's own. -/
def LX (w : World) (base : Nat) (A : Option Addr) (n c : Nat) (es : List (List El)) : Prop := ∃ us, w.ownsRow base 42 1 (.slice A n c) n us ∧ InnX w us es
theorem LX.below {w w' : World} {base n c : Nat} {A : Option Addr} {es : List (List El)} (h : LX w base A n c es) (hb : Below w.heap.size w w') : LX w' base A n c es := by
  obtain ⟨us, h1, h2⟩ := h
  exact ⟨us, own_below h1 hb (Nat.le_refl _), h2.below hb⟩
theorem LX.rdy {w : World} {base n c : Nat} {A : Option Addr} {es : List (List El)} (h : LX w base A n c es) : RdY w A n es := by
  obtain ⟨us, h1, h2⟩ := h
  refine ⟨us, own_rd h1, h2.1, fun j v e hv he => ?_⟩
  obtain ⟨A', m, c', e1, k1, k2, k3⟩ := h2.2 j v e hv he
  exact ⟨A', m, c', e1, k1, k2, ownN_rd k3⟩
theorem RdY.rdx {w : World} {n : Nat} {A : Option Addr} {es : List (List El)} (h : RdY w A n es) : RdX w A n es := by
  obtain ⟨us, h1, h2, h3⟩ := h
  refine ⟨us, h1, h2, fun j v e hv he => ?_⟩
  obtain ⟨A', m, c', e1, k1, k2, k3⟩ := h3 j v e hv he
  exact ⟨A', m, c', e1, k3⟩
theorem LX.cap {w : World} {base n c : Nat} {A : Option Addr} {es : List (List El)} (h : LX w base A n c es) : n ≤ c := by
  obtain ⟨us, h1, h2⟩ := h
  exact ownN_cap h1
theorem LX.len {w : World} {base n c : Nat} {A : Option Addr} {es : List (List El)} (h : LX w base A n c es) : es.length = n := h.rdy.len
theorem LX.snoc {w w' : World} {base n c c' b' k c5 : Nat} {A A' A5 : Option Addr} {us : List Value} {es : List (List El)} {e : List El} (ho : w.ownsRow base 42 1 (.slice A n c) n us) (hi : InnX w us es) (hv : w.ownsRow b' 110 2 (.slice A5 k c5) k (ints (eNums e))) (hk : k ≤ 1000000)
    (ho' : w'.ownsRow base 42 1 (.slice A' (n + 1) c') (n + 1) (us ++ [.slice A5 k c5])) (hg : w.grownBy w' (Value.ownBlock (.slice A n c))) : LX w' base A' (n + 1) c' (es ++ [e]) := by
  have hF : ∀ q, (Value.slice A n c).ownBlock = some q → ∀ ds, w.heap[q]? = some (.cells ds 110 (0, 0)) → False := fun q hq ds hd => by
    obtain ⟨es, h1⟩ := own_foP ho (show Fo _ q from hq)
    exact blk_ne h1 hd (by decide) rfl
  have hv' := own_ch hv (ch_row hg) (fun q h1 h2 => own_types hv ho (by decide) q h1 h2)
  exact ⟨_, ho', (hi.ch (ch_row hg) hF).snoc hk (ownN_cap hv') (ownN_base hv' (Nat.zero_le _))⟩
theorem start_step {N k : Nat} (h1 : 1 ≤ k) (h : k < N) : (startE N).take (k + 1) = (startE N).take k ++ [[(0, 0)]] := by
  have e : (startE N)[k]? = some [(0, 0)] := by
    simp only [startE, List.getElem?_map, List.getElem?_range h, Option.map_some, Option.some.injEq]
    rw [if_neg (by omega)]
  rw [List.take_add_one, e]; rfl
theorem start_one {N : Nat} (h : 1 ≤ N) : (startE N).take 1 = [[(1, 0)]] := by
  obtain ⟨m, rfl⟩ : ∃ m, N = m + 1 := ⟨N - 1, by omega⟩
  simp [startE, List.range_succ_eq_map]
theorem startE_len (N : Nat) : (startE N).length = N := by simp [startE]
theorem rowE_len (N : Nat) (x : Cmd) : (rowE N x).length = N := by simp [rowE]
theorem row_step {N k : Nat} {x : Cmd} (h : k < N) : (rowE N x).take (k + 1) = (rowE N x).take k ++ [if (k : Int) = x.v then moveE N x.e else placeE k N] := by
  have e : (rowE N x)[k]? = some (if (k : Int) = x.v then moveE N x.e else placeE k N) := by
    simp only [rowE, List.getElem?_map, List.getElem?_range h, Option.map_some]
  rw [List.take_add_one, e]; rfl
theorem sumL_app (a b : List (List El)) : sumL (a ++ b) = sumL a + sumL b := by simp [sumL]
theorem sumL_bound {B : Nat} : ∀ {es : List (List El)}, (∀ e ∈ es, e.length ≤ B) → sumL es ≤ es.length * B
  | [], _ => by simp [sumL]
  | e :: r, h => by
    have h1 := sumL_bound (es := r) (fun x hx => h x (by simp [hx]))
    have h2 := h e (by simp)
    simp only [sumL, List.map_cons, List.sum_cons, List.length_cons, Nat.succ_mul] at h1 ⊢
    omega
theorem start_sum (N : Nat) : sumL (startE N) ≤ N := by
  have h := sumL_bound (es := startE N) (B := 1) (fun e he => by
    simp only [startE, List.mem_map] at he
    obtain ⟨k, _, rfl⟩ := he
    split <;> simp)
  rw [startE_len] at h; omega
theorem row_sum {N : Nat} {x : Cmd} (hN : N ≤ 6) (h : wfE x.e = true) : sumL (rowE N x) ≤ 1800 := by
  have h1 := sumL_bound (es := rowE N x) (B := 300) (fun e he => by
    simp only [rowE, List.mem_map, List.mem_range] at he
    obtain ⟨k, hk, rfl⟩ := he
    split
    · have := moveE_len N x.e (fun y hy => ((wfE_mem h).2 y hy).2.2.2)
      have := (wfE_mem h).1
      omega
    · have := placeE_len k N; omega)
  rw [rowE_len] at h1
  omega
end Go.Proofs.YtadmbphefpfbmaaGreatDoor
