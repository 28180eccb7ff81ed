/- Append of a slice of structs, as a run and as a step of a drawn region. -/
import Derived.Test.YtgnboemmlohahaaAppN
import Derived.Deep.RegionLaw
namespace Go.Proofs.Ytgnboemmlohahaa
open Go.RowKit
set_option linter.unusedVariables false
set_option linter.unusedSimpArgs false
theorem run_appSN {P : Program} {t e : TypeId} {z : Value} {k : Nat} (hE : EltN P t e z k) (ty : TypeId) (W : World) (base : Nat) (v : Value) (n : Nat) (vs : List Value) (hown : W.ownsRow base e k v n vs)
    (A0 : Option Addr) (m c0 : Nat) (us : List Value) (hr : Rd W A0 (m * k) us) (hu : ∀ u ∈ us, u.oneCell' = true) (hbase : base ≤ W.heap.size) (hn : n + m ≤ 1099511627776) :
    ∃ A c w', (Builtin.append_ #[t, t] ty #[v, .slice A0 m c0]).run P W = .ok (.slice A (n + m) c) w' ∧ w'.ownsRow base e k (.slice A (n + m) c) (n + m) (vs ++ us) ∧ Below base W w' := by
  obtain ⟨ht, hzc, hs0, i, hi, hz, hs1, hb⟩ := hE
  rcases Nat.eq_zero_or_pos m with hm | hm
  · subst hm
    have hus : us = [] := List.eq_nil_of_length_eq_zero (by simpa using hr.1)
    subst hus
    obtain ⟨A, c, rfl, hnc, _⟩ := ownN_form hown
    have hrun : (Builtin.append_ #[t, t] ty #[.slice A n c, .slice A0 0 c0]).run P W = .ok (.slice A n c) W := by
      rcases hown.2 with ⟨h', h0⟩ | ⟨g, cap, cur, h', _⟩
      · injection h' with h1 h2 h3
        subst h1 h2 h3
        cases A0 <;> simp [Builtin.append_, run_underlying ht, sizeOf, typeInfo, hi, Builtin.lenOf, Builtin.firstCells, loadCells, loadCellsFrom]
      · injection h' with h1 h2 h3
        subst h1 h3
        cases A0 <;> simp [Builtin.append_, run_underlying ht, sizeOf, typeInfo, hi, Builtin.lenOf, Builtin.firstCells, loadCells, loadCellsFrom, hnc, storeCells]
    exact ⟨A, c, W, hrun, by simpa using hown, Below.refl _ _⟩
  · obtain ⟨b, off, rfl, hlt, hc⟩ := hr.2 (Nat.mul_pos hm hs0)
    have hbn : (n + m) * i.bytes ≤ (n + m) * 64 := Nat.mul_le_mul_left _ hb
    obtain ⟨v', w', hrun, ho', hgr, _⟩ := run_append_own (P := P) W base t ty e i z k i.bytes ht hi hz hs1 rfl hzc hs0 v n vs hown ⟨b, off, none⟩ m c0 us (by simpa using hr.1) (fun j u hj => by
      have := hc j u hj
      unfold Addr.add
      split
      · rename_i h0; subst h0; simpa using this
      · exact this) hu (by unfold maxLen; omega) (by omega) hbase
    obtain ⟨A, c, rfl, _, _⟩ := ownN_form ho'
    exact ⟨A, c, w', hrun, ho', below_grown hgr hbase (fun k hk => (hown.lt k hk).1)⟩
theorem step_appSN {P : Program} {ops : Array Oper} {o : Oper} {a : Act} {K : Act → World → Prop} {Q : Exit → Act → World → Prop} {E : Prop} {t e : TypeId} {z : Value} {k : Nat} (hE : EltN P t e z k) (hgd : o.guard = none) (l x : Operand)
    (ho : o.op = .call { callee := .builtin .append, args := #[l, x], argTypes := #[t, t] }) (W : World) (base : Nat) (v : Value) (n : Nat) (vs : List Value) (hs : a.eval l = v) (hown : W.ownsRow base e k v n vs)
    (A0 : Option Addr) (m c0 : Nat) (us : List Value) (hx : a.eval x = .slice A0 m c0) (hr : Rd W A0 (m * k) us) (hu : ∀ u ∈ us, u.oneCell' = true) (hbase : base ≤ W.heap.size) (hn : n + m ≤ 1099511627776)
    (h : ∀ A c w', w'.ownsRow base e k (.slice A (n + m) c) (n + m) (vs ++ us) → Below base W w' → K (a.put o.dst (.slice A (n + m) c)) w') :
    if Region.wanted o (yielded ops a.tmps) = true then Oper.wp P o a W K Q else E := by
  obtain ⟨A, c, w', hrun, ho', hb⟩ := run_appSN hE o.type W base v n vs hown A0 m c0 us hr hu hbase hn
  have hw : Region.wanted o (yielded ops a.tmps) = true := by simp [Region.wanted, hgd]
  rw [if_pos hw]
  unfold Oper.wp
  simp [execOp, ho, resolve, invoke, builtin, hs, hx, hrun, Result.andThen]
  exact h A c w' ho' hb
end Go.Proofs.Ytgnboemmlohahaa
