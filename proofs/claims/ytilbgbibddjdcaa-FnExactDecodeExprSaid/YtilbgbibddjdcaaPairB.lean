/- Rows of bits on a stack; l21Nil, l21Pair, l23Item, l23Mark. -/
import Derived.Test.YtilbgbibddjdcaaTagI
namespace Go.Proofs.Ytilbgbibddjdcaa
open Go.RowKit
set_option linter.unusedVariables false
set_option linter.unusedSimpArgs false
theorem Try.infoSB : (Try.prog.info? 22).map (fun i => (i.zero, i.size, i.bytes)) = some (some (.slice none 0 0), 1, 24) := by kernel_rfl
theorem eltSB : Elt Try.prog 34 22 (.slice none 0 0) := Elt.mk_ Try.underlying34 Try.infoSB rfl (by decide)

set_option maxHeartbeats 400000 in
theorem l21Nil_any (w : World) : Calls Try.prog 114 #[] w (RetS w 4 (bools [false])) := by
  go_enter Try.func114, Try.ntmps114
  go_wp2_with fail
  go_ret
  exact ⟨_, _, _, rfl, own_lit w #[.bool false] 1 4 rfl (by omega), below_new _ _⟩

set_option maxHeartbeats 800000 in
theorem l21Pair_any (w : World) (A : Option Addr) (n c : Nat) (xs : List Bool) (hr : Rd w A n (bools xs)) (hn : n ≤ 1000000000) (A' : Option Addr) (n' c' : Nat) (ys : List Bool) (hr' : Rd w A' n' (bools ys)) (hn' : n' ≤ 1000000000) :
    Calls Try.prog 115 #[.slice A n c, .slice A' n' c'] w (RetS w 4 (bools (true :: (xs ++ ys)))) := by
  have hown := own_lit w #[.bool true] 1 4 rfl (by omega)
  have HB0 := Lib.hid (below_new w (.cells #[.bool true] 4))
  go_enter Try.func115, Try.ntmps115
  go_wp2_with (first
    | (at_builtin; refine wpList_appS eltB rfl _ _ rfl (w.alloc (.cells #[.bool true] 4)) w.heap.size _ 1 _ (by rfl) hown _ n c (bools xs) (by rfl) (hr.alloc _) (bools_one _) (by simp) (by omega) ?_; rintro A1 c1 w1 hown1 hb1; have HB1 := Lib.hid (HB0.out.trans hb1))
    | (at_builtin; go_must (refine wpList_appS eltB rfl _ _ rfl w1 w.heap.size _ (1 + n) _ (by rfl) hown1 _ n' c' (bools ys) (by rfl) (hr'.below HB1.out (Nat.le_refl _)) (bools_one _) HB1.out.size (by omega) ?_; rintro A2 c2 w2 hown2 hb2)))
  go_ret
  refine ⟨A2, _, c2, rfl, ?_, HB1.out.trans hb2⟩
  simpa using hown2

/-- A list of rows of the call's own. -/
def Stk (w : World) (lo : Nat) (us : List Value) (xss : List (List Bool)) : Prop :=
  us.length = xss.length ∧ ∀ (i : Nat) (u : Value) (xs : List Bool), us[i]? = some u → xss[i]? = some xs → ∃ A n c, u = .slice A n c ∧ w.ownsRow lo 4 1 (.slice A n c) n (bools xs)
theorem Stk.below {w w' : World} {lo B : Nat} {us : List Value} {xss : List (List Bool)} (h : Stk w lo us xss) (hb : Below B w w') (hB : w.heap.size ≤ B) : Stk w' lo us xss := by
  refine ⟨h.1, fun i u xs hu hx => ?_⟩
  obtain ⟨A, n, c, rfl, ho⟩ := h.2 i u xs hu hx
  exact ⟨A, n, c, rfl, own_below ho hb hB⟩
theorem Stk.grown {w w' : World} {lo lo' T n : Nat} {us vs : List Value} {xss : List (List Bool)} {v : Value} (h : Stk w lo us xss) (ho : w.ownsRow lo' T 1 v n vs) (hT : T ≠ 4) (hg : w.grownBy w' v.ownBlock) : Stk w' lo us xss := by
  refine ⟨h.1, fun i u xs hu hx => ?_⟩
  obtain ⟨A, m, c, rfl, hr⟩ := h.2 i u xs hu hx
  refine ⟨A, m, c, rfl, own_apart hr hg fun k h1 h2 => ?_⟩
  rcases ho.2 with ⟨rfl, _⟩ | ⟨g, cap, cur, rfl, _, hgg, _⟩
  · simp [Value.ownBlock] at h2
  · simp [Value.ownBlock] at h2
    subst h2
    exact own_blk_ne hr hgg hT h1
theorem Stk.snoc {w : World} {lo S n c : Nat} {us : List Value} {xss : List (List Bool)} {A : Option Addr} {xs : List Bool} (h : Stk w lo us xss) (ho : w.ownsRow S 4 1 (.slice A n c) n (bools xs)) (hS : lo ≤ S) : Stk w lo (us ++ [.slice A n c]) (xss ++ [xs]) := by
  refine ⟨by simp [h.1], fun i u ys hu hx => ?_⟩
  by_cases hi : i < us.length
  · rw [List.getElem?_append_left hi] at hu
    rw [List.getElem?_append_left (by rw [← h.1]; exact hi)] at hx
    exact h.2 i u ys hu hx
  · have hl := h.1
    rw [List.getElem?_append_right (by omega)] at hu hx
    have hi0 : i - us.length = 0 := by
      rcases Nat.eq_zero_or_pos (i - us.length) with h | h
      · exact h
      · rw [List.getElem?_eq_none (by simp; omega)] at hu; cases hu
    rw [hi0] at hu
    rw [show i - xss.length = 0 by omega] at hx
    simp at hu hx
    subst hu hx
    exact ⟨A, n, c, rfl, own_base ho hS⟩
theorem Stk.take {w : World} {lo k : Nat} {us : List Value} {xss : List (List Bool)} (h : Stk w lo us xss) : Stk w lo (us.take k) (xss.take k) := by
  refine ⟨by simp [h.1], fun i u xs hu hx => ?_⟩
  rw [List.getElem?_take] at hu hx
  split at hu
  · rename_i hi
    rw [if_pos hi] at hx
    exact h.2 i u xs hu hx
  · cases hu


theorem l21PairT_any (w : World) (A : Option Addr) (n c : Nat) (t : Tr) (hr : Rd w A n (bools t.bits)) (hn : n ≤ 1000000000) (A' : Option Addr) (n' c' : Nat) (u : Tr) (hr' : Rd w A' n' (bools u.bits)) (hn' : n' ≤ 1000000000) :
    Calls Try.prog 115 #[.slice A n c, .slice A' n' c'] w (RetS w 4 (bools (Tr.node t u).bits)) := l21Pair_any w A n c t.bits hr hn A' n' c' u.bits hr' hn'
set_option maxHeartbeats 800000 in
theorem l23Item_any (w : World) (k : Nat) (hk : k ≤ 11) (x : Int) (hx : x = (k : Int)) (A : Option Addr) (n c : Nat) (t : Tr) (hr : Rd w A n (bools t.bits)) (hn : n ≤ 1000000000) :
    Calls Try.prog 113 #[.int .i64 x, .slice A n c] w (RetS w 4 (bools (Tr.node (tagTr k) t).bits)) := by
  subst hx
  go_enter Try.func113, Try.ntmps113
  go_wp2_with fail
  refine (l23Tag_any _ k hk _ rfl).mono ?_
  rintro e w2 ⟨A2, n2, c2, rfl, ho2, hb2⟩
  have hn2 : n2 ≤ 9 := by have h1 := ho2.1; have h2 := tag_nodes k; simp [Tr.bits_len] at h1; omega
  go_wp2_with fail
  refine (l21PairT_any _ _ _ _ (tagTr k) (own_rd ho2) (by omega) _ _ _ t (hr.below hb2 (Nat.le_refl _)) hn).mono ?_
  rintro e w3 ⟨A3, n3, c3, rfl, ho3, hb3⟩
  go_wp2_with fail
  go_ret
  exact ⟨A3, n3, c3, rfl, own_base ho3 hb2.size, hb2.trans (hb3.mono hb2.size)⟩
end Go.Proofs.Ytilbgbibddjdcaa
