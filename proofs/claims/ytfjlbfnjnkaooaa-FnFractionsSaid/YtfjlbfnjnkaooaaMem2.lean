/- Words for memory, more: an append that says which row alone it may write. -/
import Derived.Test.YtfjlbfnjnkaooaaMem
namespace Go.Proofs.Ytfjlbfnjnkaooaa
open Go.RowKit

theorem grown_alloc_trans {W w' : World} {o : Obj} {row : Option Nat} (hg : (W.alloc o).grownBy w' row) : W.grownBy w' row := by
  refine ⟨hg.os, hg.tape, hg.output, Nat.le_trans (by simp) hg.size, fun k hk hne => ?_⟩
  rw [hg.block k (by simp; omega) hne]
  exact Below.heap_alloc W o k hk

/-- 'append(s, y)' once more: nothing but s's own row is written. -/
theorem wpList_app1g {P : Program} {ops : Array Oper} {rest : List Oper} {o : Oper} {a : Act} {Q : Exit → Act → World → Prop} {t e : TypeId} {z : Value} (hE : Elt P t e z) (hgd : o.guard = none) (s x : Operand)
    (ho : o.op = .call { callee := .builtin .append, args := #[s, x], argTypes := #[t, t] }) (W : World) (base : Nat) (v : Value) (n : Nat) (vs : List Value) (hs : a.eval s = v) (hown : W.ownsRow base e 1 v n vs)
    (y : Value) (hy : y.oneCell' = true) (hx : a.eval x = .slice (some ⟨W.heap.size, 0, none⟩) 1 1) (hbase : base ≤ W.heap.size) (hn : n ≤ 1099511627776)
    (h : ∀ A c w', w'.ownsRow base e 1 (.slice A (n + 1) c) (n + 1) (vs ++ [y]) → Below base W w' → W.grownBy w' v.ownBlock → wpList P ops Q rest (a.put o.dst (.slice A (n + 1) c)) w') :
    wpList P ops Q (o :: rest) a (W.alloc (.cells #[y] e)) := by
  obtain ⟨ht, hzc, i, hi, hz, hs1, hb⟩ := hE
  refine wpList_append_own _ hgd s x t ho base e i z 1 i.bytes ht hi hz hs1 rfl (by rw [hzc]; rfl) (by decide) v n vs hs (hown.alloc _) ⟨W.heap.size, 0, none⟩ 1 1 [y] hx rfl (cell_one_new _ _ _) (by simpa using hy) (by unfold maxLen; omega) ?_ (by simp; omega) ?_
  · have : (n + 1) * i.bytes ≤ (n + 1) * 24 := Nat.mul_le_mul_left _ hb
    omega
  · intro v' w' ho' hg _
    obtain ⟨A, c, rfl, _, _⟩ := own_form ho'
    have hg' := grown_alloc_trans hg
    exact h A c w' ho' (below_grown hg' hbase (fun k hk => ((hown.lt k hk).1))) hg'

/-- A row of the call's own stays while another one is written. -/
theorem own_apart {w w' : World} {lo e n : Nat} {v v2 : Value} {vs : List Value} (h : w.ownsRow lo e 1 v n vs) (hg : w.grownBy w' v2.ownBlock) (hne : ∀ k, v.ownBlock = some k → v2.ownBlock = some k → False) : w'.ownsRow lo e 1 v n vs := by
  refine h.kept hg ?_
  cases hv : v.ownBlock with
  | none => exact .inl rfl
  | some k => exact .inr fun he => hne k hv he.symm
end Go.Proofs.Ytfjlbfnjnkaooaa
