/- Append in a drawn region: the new row lies in the old block or in a new one. -/
import Derived.Test.YtadmbphefpfbmaaGreatDoorPvC
import Derived.Deep.RegionLaw
namespace Go.Proofs.YtadmbphefpfbmaaGreatDoor
open Go.RowKit
set_option linter.unusedVariables false
set_option linter.unusedSimpArgs false
theorem run_appO {P : Program} {t ty e : TypeId} {z : Value} (hE : Elt P t e z) {w : World} {base : Nat} {A A0 : Option Addr} {n c m c0 : Nat} {vs us : List Value} (hown : w.ownsRow base e 1 (.slice A n c) n vs) (hr : Rd w A0 m us) (hu : ∀ u ∈ us, u.oneCell' = true) (hm : 0 < m) (hn : n + m ≤ 1099511627776) :
    ∃ A' c' w', (Builtin.append_ #[t, t] ty #[.slice A n c, .slice A0 m c0]).run P w = .ok (.slice A' (n + m) c') w' ∧ w'.ownsRow 0 e 1 (.slice A' (n + m) c') (n + m) (vs ++ us) ∧ Ch (Fo (.slice A n c)) w w' ∧ (∀ k, Fo (.slice A' (n + m) c') k → Fo (.slice A n c) k ∨ w.heap.size ≤ k) := by
  obtain ⟨ht, hzc, i, hi, hz, hs1, hb⟩ := hE
  have hbn : (n + m) * i.bytes ≤ (n + m) * 24 := Nat.mul_le_mul_left _ hb
  obtain ⟨b, off', rfl, hlt, hc⟩ := hr.2 hm
  have hc' : ∀ j u, us[j]? = some u → w.cell? ((⟨b, off', none⟩ : Addr).add j) = some u := by
    intro j u hj
    have := hc j u hj
    unfold Addr.add
    split
    · rename_i h0; subst h0; simpa using this
    · exact this
  have hul : us.length = m := hr.1
  have hvl : vs.length = n := by simpa using hown.1
  rcases hown.2 with ⟨hv, h0⟩ | ⟨g, cap, cur, hv, hbs, hg, hnc, hcm, hcs, htk⟩
  · injection hv with h1 h2 h3
    subst h1 h2 h3
    have hvs : vs = [] := List.eq_nil_of_length_eq_zero hvl
    subst hvs
    obtain ⟨v', w', hrun, ho, hgr, _⟩ := run_append_own (P := P) w w.heap.size t ty e i z 1 i.bytes ht hi hz hs1 rfl (by rw [hzc]; rfl) (by decide) (.slice none 0 0) 0 [] (World.ownsRow_nil w w.heap.size e 1) ⟨b, off', none⟩ m c0 us (by simpa using hul) hc' hu (by unfold maxLen; omega) (by omega) (Nat.le_refl _)
    obtain ⟨A', c', rfl, _, _⟩ := ownN_form ho
    exact ⟨A', c', w', hrun, ownN_base ho (Nat.zero_le _), ch_row hgr, fun k hk => .inr (ho.lt k hk).1⟩
  · injection hv with h1 h2 h3
    subst h1 h3
    by_cases hroom : n + m ≤ c
    · have hrun := run_append_room_cells (P := P) w t ty e i ht hi g 0 n c ⟨b, off', none⟩ m c0 us (by rw [hs1]; simpa using hul) hc' hu hroom
        (fun j hj => by rw [hs1, cell_of_row w g _ cur e (0, 0) hg, Array.getElem?_eq_getElem (by omega)]; rfl) (fun j hj => frozen_of_row w g _ cur e hg)
      have hbg : g < w.heap.size := blk_lt hg
      obtain ⟨v', w', hrun', ho, hgr, _⟩ := run_append_own (P := P) (ty := ty) w base t e i z 1 i.bytes ht hi hz hs1 rfl (by rw [hzc]; rfl) (by decide) (.slice (some ⟨g, 0, none⟩) n c) n vs hown ⟨b, off', none⟩ m c0 us (by simpa using hul) hc' hu (by unfold maxLen; omega) (by omega) (by omega)
      rw [hrun] at hrun'
      injection hrun' with e1 e2
      subst e1 e2
      exact ⟨_, _, _, hrun, ownN_base ho (Nat.zero_le _), ch_row hgr, fun k hk => .inl hk⟩
    · obtain ⟨v', w', hrun, ho, hgr⟩ := run_append_arg_grows (P := P) w t ty e i z 1 i.bytes ht hi hz hs1 rfl (by rw [hzc]; rfl) (by decide) ⟨g, 0, none⟩ n c vs (by simpa using hvl)
        (fun j u hj => by
          have h1 : w.cell? ⟨g, 0 + j, none⟩ = some u := by
            rw [Nat.zero_add, cell_of_row w g _ cur e (0, 0) hg, ← Array.getElem?_toList]
            rw [← htk, List.getElem?_take] at hj
            split at hj
            · exact hj
            · cases hj
          unfold Addr.add
          split
          · rename_i h0; subst h0; simpa using h1
          · exact h1) ⟨b, off', none⟩ m c0 us (by simpa using hul) hc' (by omega) (by unfold maxLen; omega) (by omega)
      obtain ⟨A', c', rfl, _, _⟩ := ownN_form ho
      exact ⟨A', c', w', hrun, ownN_base ho (Nat.zero_le _), ch_grown hgr (by simp), fun k hk => .inr (ho.lt k hk).1⟩
theorem step_appO1 {P : Program} {ops : Array Oper} {o : Oper} {a : Act} {K : Act → World → Prop} {Q : Exit → Act → World → Prop} {E : Prop} {t e : TypeId} {z : Value} (hE : Elt P t e z) (hgd : o.guard = none) (s x : Operand)
    (ho : o.op = .call { callee := .builtin .append, args := #[s, x], argTypes := #[t, t] }) (W : World) (base : Nat) (A : Option Addr) (n c : Nat) (vs : List Value) (hs : a.eval s = .slice A n c) (hown : W.ownsRow base e 1 (.slice A n c) n vs)
    (y : Value) (hy : y.oneCell' = true) (A0 : Option Addr) (c0 : Nat) (hx : a.eval x = .slice A0 1 c0) (hr : Rd W A0 1 [y]) (hn : n ≤ 1000000000)
    (h : ∀ A' c' w', w'.ownsRow 0 e 1 (.slice A' (n + 1) c') (n + 1) (vs ++ [y]) → Ch (Fo (.slice A n c)) W w' → (∀ k, Fo (.slice A' (n + 1) c') k → Fo (.slice A n c) k ∨ W.heap.size ≤ k) → K (a.put o.dst (.slice A' (n + 1) c')) w') :
    if Region.wanted o (yielded ops a.tmps) = true then Oper.wp P o a W K Q else E := by
  have hw : Region.wanted o (yielded ops a.tmps) = true := by simp [Region.wanted, hgd]
  rw [if_pos hw]
  obtain ⟨A', c', w', hrun, k1, k2, k3⟩ := run_appO (ty := o.type) (c0 := c0) hE hown hr (by simpa using hy) (by omega) (by omega)
  unfold Oper.wp
  simp [execOp, ho, resolve, invoke, builtin, hs, hx, hrun, Result.andThen]
  exact h A' c' w' k1 k2 k3
end Go.Proofs.YtadmbphefpfbmaaGreatDoor
