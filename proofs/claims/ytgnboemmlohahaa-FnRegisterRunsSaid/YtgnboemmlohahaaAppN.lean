/- Append of a slice of structs: 'append(s, t...)', elements of s cells. -/
import Derived.Test.YtgnboemmlohahaaGA
namespace Go.Proofs.Ytgnboemmlohahaa
open Go.RowKit
set_option linter.unusedVariables false
set_option linter.unusedSimpArgs false
theorem wpList_appSN {P : Program} {ops : Array Oper} {rest : List Oper} {o : Oper} {a : Act} {Q : Exit → Act → World → Prop} {t e : TypeId} {z : Value} {k : Nat} (hE : EltN P t e z k) (hgd : o.guard = none) (s x : Operand)
    (ho : o.op = .call { callee := .builtin .append, args := #[s, x], argTypes := #[t, t] }) (W : World) (base : Nat) (v : Value) (n : Nat) (vs : List Value) (hs : a.eval s = v) (hown : W.ownsRow base e k v n vs)
    (A0 : Option Addr) (m c0 : Nat) (us : List Value) (hx : a.eval x = .slice A0 m c0) (hr : Rd W A0 (m * k) us) (hu : ∀ u ∈ us, u.oneCell' = true) (hbase : base ≤ W.heap.size) (hn : n + m ≤ 1099511627776)
    (h : ∀ A c w', w'.ownsRow base e k (.slice A (n + m) c) (n + m) (vs ++ us) → Below base W w' → W.grownBy w' v.ownBlock → wpList P ops Q rest (a.put o.dst (.slice A (n + m) c)) w') :
    wpList P ops Q (o :: rest) a W := by
  obtain ⟨ht, hzc, hs0, i, hi, hz, hs1, hb⟩ := hE
  rcases Nat.eq_zero_or_pos m with hm | hm
  · subst hm
    have hus : us = [] := List.eq_nil_of_length_eq_zero (by simpa using hr.1)
    subst hus
    obtain ⟨A, c, rfl, hnc, _⟩ := ownN_form hown
    have hrun : (Builtin.append_ #[t, t] o.type #[.slice A n c, .slice A0 0 c0]).run P W = .ok (.slice A n c) W := by
      rcases hown.2 with ⟨h', h0⟩ | ⟨g, cap, cur, h', _⟩
      · injection h' with h1 h2 h3
        subst h1 h2 h3
        cases A0 <;> simp [Builtin.append_, run_underlying ht, sizeOf, typeInfo, hi, Builtin.lenOf, Builtin.firstCells, loadCells, loadCellsFrom]
      · injection h' with h1 h2 h3
        subst h1 h3
        cases A0 <;> simp [Builtin.append_, run_underlying ht, sizeOf, typeInfo, hi, Builtin.lenOf, Builtin.firstCells, loadCells, loadCellsFrom, hnc, storeCells]
    refine wpList_plain hgd fun K hK => ?_
    unfold Oper.wp execOp
    simp only [ho, resolve, invoke, builtin, Sem.run_bind, Sem.run_pure, Result.andThen_ok, List.map_toArray, List.map_cons, List.map_nil, hs, hx, hrun]
    exact hK _ _ (h A c W (by simpa using hown) (Below.refl _ _) ⟨rfl, rfl, rfl, Nat.le_refl _, fun _ _ _ => rfl⟩)
  · obtain ⟨b, off, rfl, hlt, hc⟩ := hr.2 (Nat.mul_pos hm hs0)
    refine wpList_append_own _ hgd s x t ho base e i z k i.bytes ht hi hz hs1 rfl hzc hs0 v n vs hs hown ⟨b, off, none⟩ m c0 us hx (by simpa using hr.1) ?_ hu (by unfold maxLen; omega) ?_ hbase ?_
    · intro j u hj
      have := hc j u hj
      unfold Addr.add
      split
      · rename_i h0; subst h0; simpa using this
      · exact this
    · have : (n + m) * i.bytes ≤ (n + m) * 64 := Nat.mul_le_mul_left _ hb
      omega
    · intro v' w' ho' hg _
      obtain ⟨A, c, rfl, _, _⟩ := ownN_form ho'
      exact h A c w' ho' (below_grown hg hbase (fun k hk => (hown.lt k hk).1)) hg
theorem ints_one1 (xs : List Int) : ∀ u ∈ ints xs, u.oneCell' = true := by
  intro u hu
  obtain ⟨x, _, rfl⟩ := List.mem_map.1 hu
  rfl
end Go.Proofs.Ytgnboemmlohahaa
