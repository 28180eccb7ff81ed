/- Reading an expression back: the cases of the plain function; what a call leaves. -/
import Derived.Test.YtilbgbibddjdcaaTagO
namespace Go.Proofs.Ytilbgbibddjdcaa
open Go.RowKit
set_option linter.unusedVariables false
set_option linter.unusedSimpArgs false
theorem tg_eq (t : Tr) (k : Nat) (hk : k ≤ 11) : t.beq (tagTr k) = (tagI t == (k : Int)) := (tagI_eq hk).symm
theorem back_leaf0 {tg : Tr} (h : tagI tg = 0) : backT (.node tg .nil) = some [(0, 0)] := by
  have h0 := tg_eq tg 0 (by omega)
  rw [h] at h0
  simp [backT, h0]
theorem back_leaf1 {tg : Tr} (h : tagI tg = 1) : backT (.node tg .nil) = some [(1, 0)] := by
  have h0 := tg_eq tg 0 (by omega)
  have h1 := tg_eq tg 1 (by omega)
  rw [h] at h0 h1
  simp [backT, h0, h1]
theorem back_no {tg : Tr} (r : Tr) (h0 : tagI tg ≠ 0) (h1 : tagI tg ≠ 1) (h2 : tagI tg ≠ 2) : backT (.node tg r) = none := by
  have e0 := tg_eq tg 0 (by omega)
  have e1 := tg_eq tg 1 (by omega)
  have e2 := tg_eq tg 2 (by omega)
  have f0 : tg.beq (tagTr 0) = false := by rw [e0]; simpa using h0
  have f1 : tg.beq (tagTr 1) = false := by rw [e1]; simpa using h1
  have f2 : tg.beq (tagTr 2) = false := by rw [e2]; simpa using h2
  match r with
  | .nil => simp [backT, f0, f1]
  | .node (.node mk .nil) (.node a b) => simp [backT, f2]
  | .node .nil _ => simp [backT]
  | .node (.node _ (.node _ _)) _ => simp [backT]
  | .node (.node _ .nil) .nil => simp [backT]
theorem back_nd {tg x y : Tr} (h2 : tagI tg ≠ 2) : backT (.node tg (.node x y)) = none := by
  have e2 := tg_eq tg 2 (by omega)
  have f2 : tg.beq (tagTr 2) = false := by rw [e2]; simpa using h2
  match x, y with
  | .node mk .nil, .node a b => simp [backT, f2]
  | .nil, _ => simp [backT]
  | .node _ (.node _ _), _ => simp [backT]
  | .node _ .nil, .nil => simp [backT]
theorem back_2nil {tg : Tr} (h : tagI tg = 2) : backT (.node tg .nil) = none := by
  have e0 := tg_eq tg 0 (by omega)
  have e1 := tg_eq tg 1 (by omega)
  rw [h] at e0 e1
  simp [backT, e0, e1]
theorem back_2 {tg mk a b : Tr} (h : tagI tg = 2) : backT (.node tg (.node (.node mk .nil) (.node a b))) = comb mk (backT a) (backT b) := by
  have e2 := tg_eq tg 2 (by omega)
  rw [h] at e2
  simp [backT, e2]
theorem comb_no {mk : Tr} (x y : Option (List El)) (h : ¬ (3 ≤ tagI mk ∧ tagI mk ≤ 6)) : comb mk x y = none := by
  have e3 := tg_eq mk 3 (by omega)
  have e4 := tg_eq mk 4 (by omega)
  have e5 := tg_eq mk 5 (by omega)
  have e6 := tg_eq mk 6 (by omega)
  have f3 : mk.beq (tagTr 3) = false := by rw [e3]; simp; omega
  have f4 : mk.beq (tagTr 4) = false := by rw [e4]; simp; omega
  have f5 : mk.beq (tagTr 5) = false := by rw [e5]; simp; omega
  have f6 : mk.beq (tagTr 6) = false := by rw [e6]; simp; omega
  match x, y with
  | some x, some y => simp [comb, f3, f4, f5, f6]
  | none, _ => simp [comb]
  | some _, none => simp [comb]
theorem comb_l (mk : Tr) (y : Option (List El)) : comb mk none y = none := by cases y <;> rfl
theorem comb_r (mk : Tr) (x : Option (List El)) : comb mk x none = none := by cases x <;> rfl
theorem comb_3 {mk : Tr} {x y : List El} (h : tagI mk = 3) : comb mk (some x) (some y) = some ((2, 0) :: (x ++ y)) := by
  have e3 := tg_eq mk 3 (by omega)
  rw [h] at e3
  simp [comb, e3]
theorem comb_4 {mk : Tr} {x y : List El} (h : tagI mk = 4) : comb mk (some x) (some y) = if isNil1 y then some ((3, 0) :: x) else none := by
  have e3 := tg_eq mk 3 (by omega)
  have e4 := tg_eq mk 4 (by omega)
  rw [h] at e3 e4
  simp [comb, e3, e4]
theorem comb_5 {mk : Tr} {x y : List El} (h : tagI mk = 5) : comb mk (some x) (some y) = if isNil1 y then some ((4, 0) :: x) else none := by
  have e3 := tg_eq mk 3 (by omega)
  have e4 := tg_eq mk 4 (by omega)
  have e5 := tg_eq mk 5 (by omega)
  rw [h] at e3 e4 e5
  simp [comb, e3, e4, e5]
theorem comb_6 {mk : Tr} {x y : List El} (h : tagI mk = 6) : comb mk (some x) (some y) = some ((5, 0) :: (x ++ y)) := by
  have e3 := tg_eq mk 3 (by omega)
  have e4 := tg_eq mk 4 (by omega)
  have e5 := tg_eq mk 5 (by omega)
  have e6 := tg_eq mk 6 (by omega)
  rw [h] at e3 e4 e5 e6
  simp [comb, e3, e4, e5, e6]
/-- A list of elements, and whether there is one. -/
def BackP (w : World) (N : Nat) (o : Option (List El)) (e : Ending) (w' : World) : Prop :=
  ∃ A n c zs, e = .returned (.tuple #[.slice A n c, .bool o.isSome]) ∧ w'.ownsRow w.heap.size 89 2 (.slice A n c) n (ints (eNums zs)) ∧ (∀ z, o = some z → zs = z) ∧ n ≤ N ∧ Below w.heap.size w w'
theorem BackP.none_ {w w' : World} {N : Nat} {o : Option (List El)} (h : o = none) (hb : Below w.heap.size w w') : BackP w N o (.returned (.tuple #[.slice none 0 0, .bool false])) w' := by
  subst h
  exact ⟨none, 0, 0, [], rfl, ownN_nil _ _ _ _, fun z hz => by simp at hz, by omega, hb⟩
theorem eN_len {w : World} {base n c : Nat} {A : Option Addr} {zs : List El} (h : w.ownsRow base 89 2 (.slice A n c) n (ints (eNums zs))) : zs.length = n := by
  have := h.1
  simp [eNums_len] at this
  omega
theorem infoEl : (Try.prog.info? 89).map (fun i => (i.zero, i.size, i.bytes)) = some (some (.agg #[.int .i64 0, .int .i64 0]), 2, 16) := by kernel_rfl
theorem eltEl : EltN Try.prog 41 89 (.agg #[.int .i64 0, .int .i64 0]) 2 := EltN.mk_ Try.underlying41 infoEl rfl (by decide) (by decide)
theorem lit_el (w : World) (k : Int) : (w.alloc (.cells #[.int .i64 k, .int .i64 0] 89)).ownsRow w.heap.size 89 2 (.slice (some ⟨w.heap.size, 0, none⟩) 1 1) 1 (ints (eNums [(k, 0)])) :=
  ownN_lit w #[.int .i64 k, .int .i64 0] 1 2 _ rfl (by omega)
end Go.Proofs.Ytilbgbibddjdcaa
