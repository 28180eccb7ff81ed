/- Append of an element of several cells at a step of a drawn region. -/
import Derived.Test.YtgnboemmlohahaaGA
import Derived.Deep.RegionLaw
namespace Go.Proofs.Ytgnboemmlohahaa
open Go.RowKit
set_option linter.unusedVariables false
set_option linter.unusedSimpArgs false
theorem step_app1N {P : Program} {ops : Array Oper} {o : Oper} {a : Act} {K : Act → World → Prop} {Q : Exit → Act → World → Prop} {E : Prop} {t e : TypeId} {z : Value} {s : Nat} (hE : EltN P t e z s) (hgd : o.guard = none) (l x : Operand)
    (ho : o.op = .call { callee := .builtin .append, args := #[l, x], argTypes := #[t, t] }) (W : World) (base : Nat) (v : Value) (n : Nat) (vs : List Value) (hs : a.eval l = v) (hown : W.ownsRow base e s v n vs)
    (A0 : Addr) (us : List Value) (hul : us.length = s) (hx : a.eval x = .slice (some A0) 1 1) (hr : ∀ j u, us[j]? = some u → W.cell? (A0.add j) = some u) (hu : ∀ u ∈ us, u.oneCell' = true) (hbase : base ≤ W.heap.size) (hn : n ≤ 1099511627776)
    (h : ∀ A c w', w'.ownsRow base e s (.slice A (n + 1) c) (n + 1) (vs ++ us) → W.grownBy w' v.ownBlock → K (a.put o.dst (.slice A (n + 1) c)) w') :
    if Region.wanted o (yielded ops a.tmps) = true then Oper.wp P o a W K Q else E := by
  obtain ⟨ht, hzc, hs0, i, hi, hz, hs1, hb⟩ := hE
  have hbn : (n + 1) * i.bytes ≤ (n + 1) * 64 := Nat.mul_le_mul_left _ hb
  obtain ⟨v', w', hrun, ho', hgr, _⟩ := run_append_own (P := P) W base t o.type e i z s i.bytes ht hi hz hs1 rfl hzc hs0 v n vs hown A0 1 1 us (by simpa using hul) hr hu (by unfold maxLen; omega) (by omega) hbase
  obtain ⟨A, c, rfl, _, _⟩ := ownN_form ho'
  have hw : Region.wanted o (yielded ops a.tmps) = true := by simp [Region.wanted, hgd]
  rw [if_pos hw]
  unfold Oper.wp
  simp [execOp, ho, resolve, invoke, builtin, hs, hx, hrun, Result.andThen]
  exact h A c w' ho' hgr
end Go.Proofs.Ytgnboemmlohahaa
