/- append to a slice of the call's own that need not begin at its block's head. -/
import Derived.Test.YtfjlbfnjnkaooaaFoot
import Derived.ArgAppend
import Derived.Deep.Upon
import Derived.Deep.RegionLaw
namespace Go.Proofs.Ytfjlbfnjnkaooaa
open Go.RowKit
set_option linter.unusedVariables false

/-- The slice owns its cells, and the room behind them: a block that is known, from some offset on. -/
def OwnA (w : World) (e : Nat) (A : Option Addr) (n c : Nat) (vs : List Value) : Prop :=
  vs.length = n ∧ ((A = none ∧ n = 0 ∧ c = 0) ∨ ∃ (g off : Nat) (cur : Array Value), A = some ⟨g, off, none⟩ ∧ w.heap[g]? = some (.cells cur e (0, 0)) ∧ n ≤ c ∧ off + c ≤ cur.size ∧ ∀ j u, vs[j]? = some u → cur[off + j]? = some u)
section
variable {w w' : World} {e n c : Nat} {A : Option Addr} {vs : List Value}
theorem ownA_of {base : Nat} (h : w.ownsRow base e 1 (.slice A n c) n vs) : OwnA w e A n c vs := by
  refine ⟨by simpa using h.1, ?_⟩
  rcases h.2 with ⟨h', h0⟩ | ⟨g, cap, cur, h', hb, hg, hnc, hcm, hcs, htake⟩
  · injection h' with h1 h2 h3
    exact .inl ⟨h1, by omega, h3⟩
  · injection h' with h1 h2 h3
    subst h3
    refine .inr ⟨g, 0, cur, h1, hg, hnc, by omega, fun j u hu => ?_⟩
    rw [← htake, List.getElem?_take] at hu
    split at hu
    · simpa using hu
    · cases hu
theorem OwnA.len (h : OwnA w e A n c vs) : vs.length = n := h.1
theorem OwnA.rd (h : OwnA w e A n c vs) : Rd w A n vs := by
  refine ⟨h.1, fun hn => ?_⟩
  rcases h.2 with ⟨_, h0, _⟩ | ⟨g, off, cur, rfl, hg, hnc, hcs, hv⟩
  · omega
  · exact ⟨g, off, rfl, blk_lt hg, fun j u hu => by rw [cell_of_row w g _ cur e (0, 0) hg]; exact hv j u hu⟩
theorem OwnA.ch {F : Nat → Prop} (h : OwnA w e A n c vs) (hc : Ch F w w') (hd : ∀ k, Fo (.slice A n c) k → F k → False) : OwnA w' e A n c vs := by
  refine ⟨h.1, ?_⟩
  rcases h.2 with h' | ⟨g, off, cur, rfl, hg, r⟩
  · exact .inl h'
  · exact .inr ⟨g, off, cur, rfl, blk_ch hg hc (hd g rfl), r⟩
theorem OwnA.below (h : OwnA w e A n c vs) (hb : Below w.heap.size w w') : OwnA w' e A n c vs := h.ch (ch_below (F := fun _ => False) hb) (fun _ _ h => h)
theorem OwnA.cap (h : OwnA w e A n c vs) : n ≤ c := by
  rcases h.2 with ⟨_, h0, h1⟩ | ⟨g, off, cur, rfl, hg, hnc, _⟩ <;> omega
theorem OwnA.lt (h : OwnA w e A n c vs) : ∀ k, Fo (.slice A n c) k → k < w.heap.size := by
  intro k hk
  rcases h.2 with ⟨rfl, _⟩ | ⟨g, off, cur, rfl, hg, _⟩
  · simp [Fo, Value.ownBlock] at hk
  · obtain rfl : g = k := by simpa [Fo, Value.ownBlock] using hk
    exact blk_lt hg
theorem OwnA.tail {g off : Nat} (h : OwnA w e (some ⟨g, off, none⟩) n c vs) (hc : 1 < c) (hn : 1 ≤ n) : OwnA w e (some ⟨g, off + 1, none⟩) (n - 1) (c - 1) vs.tail := by
  refine ⟨by have := h.1; simp; omega, ?_⟩
  rcases h.2 with ⟨h0, _⟩ | ⟨g', off', cur, h0, hg, hnc, hcs, hv⟩
  · cases h0
  · injection h0 with h0
    injection h0 with h1 h2
    subst h1 h2
    refine .inr ⟨g, off + 1, cur, rfl, hg, by omega, by omega, fun j u hu => ?_⟩
    rw [show off + 1 + j = off + (j + 1) by omega]
    exact hv (j + 1) u (by rwa [List.getElem?_tail] at hu)
theorem OwnA.tail0 {g off : Nat} (h : OwnA w e (some ⟨g, off, none⟩) n c vs) (hn : vs.length = 1) : OwnA w e (some ⟨g, off, none⟩) 0 0 vs.tail := by
  refine ⟨by simp [hn], ?_⟩
  rcases h.2 with ⟨h0, _⟩ | ⟨g', off', cur, h0, hg, hnc, hcs, hv⟩
  · cases h0
  · injection h0 with h0
    injection h0 with h1 h2
    subst h1 h2
    refine .inr ⟨g, off, cur, rfl, hg, Nat.le_refl _, by omega, fun j u hu => ?_⟩
    have : vs.tail = [] := List.eq_nil_of_length_eq_zero (by simp [hn])
    rw [this] at hu
    simp at hu
end
/-- What 'setCells' makes of its block. -/
theorem setCells_block (g e : Nat) : ∀ (us : List Value) (o : Nat) (w : World) (cur : Array Value), w.heap[g]? = some (.cells cur e (0, 0)) →
    ∃ cur' : Array Value, (w.setCells g o us).heap[g]? = some (.cells cur' e (0, 0)) ∧ cur'.size = cur.size ∧ (∀ j, j < o → cur'[j]? = cur[j]?) ∧ (∀ j u, us[j]? = some u → o + j < cur.size → cur'[o + j]? = some u)
  | [], o, w, cur, h => ⟨cur, by simpa [World.setCells] using h, rfl, fun _ _ => rfl, by simp⟩
  | v :: us, o, w, cur, h => by
    obtain ⟨cur', h1, h2, h3, h4⟩ := setCells_block g e us (o + 1) (w.setCell ⟨g, o, none⟩ v) _ (blk_set h o v)
    refine ⟨cur', by simpa [World.setCells] using h1, by simpa using h2, fun j hj => ?_, fun j u hu hl => ?_⟩
    · rw [h3 j (by omega), Array.getElem?_setIfInBounds_ne (by omega)]
    · cases j with
      | zero =>
        simp at hu
        subst hu
        rw [Nat.add_zero] at hl ⊢
        rw [h3 o (by omega), Array.getElem?_setIfInBounds_self_of_lt hl]
      | succ j =>
        rw [show o + (j + 1) = o + 1 + j by omega]
        exact h4 j u (by simpa using hu) (by simp; omega)
theorem setCells_size (b : Nat) : ∀ (vs : List Value) (o : Nat) (w : World), (w.setCells b o vs).heap.size = w.heap.size
  | [], o, w => rfl
  | v :: vs, o, w => by simp [World.setCells, setCells_size b vs]
theorem ch_setCells (g : Nat) : ∀ (us : List Value) (o : Nat) (w : World), Ch (· = g) w (w.setCells g o us)
  | [], o, w => by simpa [World.setCells] using Ch.refl _ w
  | v :: us, o, w => by
    have h := (ch_set w g o v).trans (ch_setCells g us (o + 1) (w.setCell ⟨g, o, none⟩ v))
    simpa [World.setCells] using h

theorem run_appA {P : Program} {t ty e : TypeId} {z : Value} (hE : Elt P t e z) {w : World} {A A0 : Option Addr} {n c m c0 : Nat} {vs us : List Value} (hown : OwnA w e A n c vs) (hr : Rd w A0 m us) (hu : ∀ u ∈ us, u.oneCell' = true) (hn : n + m ≤ 1099511627776) :
    ∃ A' c' w', (Builtin.append_ #[t, t] ty #[.slice A n c, .slice A0 m c0]).run P w = .ok (.slice A' (n + m) c') w' ∧ OwnA w' e A' (n + m) c' (vs ++ us) ∧ Ch (Fo (.slice A n c)) w w' ∧ (∀ k, Fo (.slice A' (n + m) c') k → Fo (.slice A n c) k ∨ w.heap.size ≤ k) := by
  obtain ⟨ht, hzc, i, hi, hz, hs1, hb⟩ := hE
  have hbn : (n + m) * i.bytes ≤ (n + m) * 24 := Nat.mul_le_mul_left _ hb
  rcases Nat.eq_zero_or_pos m with hm | hm
  · subst hm
    have hus : us = [] := List.eq_nil_of_length_eq_zero (by simpa using hr.1)
    subst hus
    refine ⟨A, c, w, ?_, by simpa using hown, Ch.refl _ _, fun k hk => .inl hk⟩
    rcases hown.2 with ⟨rfl, rfl, rfl⟩ | ⟨g, off, cur, rfl, hg, hnc, _⟩
    · cases A0 <;> simp [Builtin.append_, run_underlying ht, sizeOf, typeInfo, hi, Builtin.lenOf, Builtin.firstCells, loadCells, loadCellsFrom]
    · cases A0 <;> simp [Builtin.append_, run_underlying ht, sizeOf, typeInfo, hi, Builtin.lenOf, Builtin.firstCells, loadCells, loadCellsFrom, hnc, storeCells]
  · obtain ⟨b, off', rfl, hlt, hc⟩ := hr.2 hm
    have hc' : ∀ j u, us[j]? = some u → w.cell? ((⟨b, off', none⟩ : Addr).add j) = some u := by
      intro j u hj
      have := hc j u hj
      unfold Addr.add
      split
      · rename_i h0; subst h0; simpa using this
      · exact this
    have hul : us.length = m := hr.1
    rcases hown.2 with ⟨rfl, rfl, rfl⟩ | ⟨g, off, cur, rfl, hg, hnc, hcs, hv⟩
    · have hvs : vs = [] := List.eq_nil_of_length_eq_zero hown.1
      subst hvs
      obtain ⟨v', w', hrun, ho, hgr, _⟩ := run_append_own (P := P) w w.heap.size t ty e i z 1 i.bytes ht hi hz hs1 rfl (by rw [hzc]; rfl) (by decide) (.slice none 0 0) 0 [] (World.ownsRow_nil w w.heap.size e 1) ⟨b, off', none⟩ m c0 us (by simpa using hul) hc' hu (by unfold maxLen; omega) (by omega) (Nat.le_refl _)
      obtain ⟨A', c', rfl, _, _⟩ := ownN_form ho
      exact ⟨A', c', w', hrun, ownA_of ho, ch_row hgr, fun k hk => .inr (ho.lt k hk).1⟩
    · by_cases hroom : n + m ≤ c
      · have hrun := run_append_room_cells (P := P) w t ty e i ht hi g off n c ⟨b, off', none⟩ m c0 us (by rw [hs1]; simpa using hul) hc' hu hroom
          (fun j hj => by rw [hs1, cell_of_row w g _ cur e (0, 0) hg, Array.getElem?_eq_getElem (by omega)]; rfl) (fun j hj => frozen_of_row w g _ cur e hg)
        rw [hs1, Nat.mul_one] at hrun
        obtain ⟨cur', k1, k2, k3, k4⟩ := setCells_block g e us (off + n) w cur hg
        refine ⟨_, _, _, hrun, ⟨by simp [hown.1, hul], .inr ⟨g, off, cur', rfl, k1, by omega, by omega, fun j u hj => ?_⟩⟩, (ch_setCells g us (off + n) w).mono (fun k hk => by subst hk; rfl), fun k hk => .inl hk⟩
        by_cases hjn : j < n
        · rw [k3 _ (by omega)]
          exact hv j u (by rwa [List.getElem?_append_left (by have := hown.1; omega)] at hj)
        · rw [List.getElem?_append_right (by have := hown.1; omega), hown.1] at hj
          have hjl : j - n < us.length := (List.getElem?_eq_some_iff.1 hj).1
          rw [show off + j = off + n + (j - n) by omega]
          exact k4 _ u hj (by omega)
      · obtain ⟨v', w', hrun, ho, hgr⟩ := run_append_arg_grows (P := P) w t ty e i z 1 i.bytes ht hi hz hs1 rfl (by rw [hzc]; rfl) (by decide) ⟨g, off, none⟩ n c vs (by simpa using hown.1)
          (fun j u hj => by
            have h1 : w.cell? ⟨g, off + j, none⟩ = some u := by rw [cell_of_row w g _ cur e (0, 0) hg]; exact hv j u hj
            unfold Addr.add
            split
            · rename_i h0; subst h0; simpa using h1
            · exact h1) ⟨b, off', none⟩ m c0 us (by simpa using hul) hc' (by omega) (by unfold maxLen; omega) (by omega)
        obtain ⟨A', c', rfl, _, _⟩ := ownN_form ho
        exact ⟨A', c', w', hrun, ownA_of ho, ch_grown hgr (by simp), fun k hk => .inr (ho.lt k hk).1⟩

/-- 'append(s, src...)' in a plain region. -/
theorem wpList_appA {P : Program} {ops : Array Oper} {rest : List Oper} {o : Oper} {a : Act} {Q : Exit → Act → World → Prop} {t e : TypeId} {z : Value} (hE : Elt P t e z) (hgd : o.guard = none) (s x : Operand)
    (ho : o.op = .call { callee := .builtin .append, args := #[s, x], argTypes := #[t, t] }) (W : World) (A A0 : Option Addr) (n c m c0 : Nat) (vs us : List Value) (hs : a.eval s = .slice A n c) (hown : OwnA W e A n c vs)
    (hx : a.eval x = .slice A0 m c0) (hr : Rd W A0 m us) (hu : ∀ u ∈ us, u.oneCell' = true) (hn : n + m ≤ 1099511627776)
    (h : ∀ A' c' w', OwnA w' e A' (n + m) c' (vs ++ us) → Ch (Fo (.slice A n c)) W w' → (∀ k, Fo (.slice A' (n + m) c') k → Fo (.slice A n c) k ∨ W.heap.size ≤ k) → wpList P ops Q rest (a.put o.dst (.slice A' (n + m) c')) w') :
    wpList P ops Q (o :: rest) a W := by
  obtain ⟨A', c', w', hrun, k1, k2, k3⟩ := run_appA (ty := o.type) (c0 := c0) hE hown hr hu hn
  refine wpList_plain hgd fun K hK => ?_
  unfold Oper.wp execOp
  simp only [ho, resolve, invoke, builtin, Sem.run_bind, Sem.run_pure, Result.andThen_ok, List.map_toArray, List.map_cons, List.map_nil, hs, hx, hrun]
  exact hK _ _ (h A' c' w' k1 k2 k3)
/-- The same at a step of a region that draws its order. -/
theorem step_appA {P : Program} {ops : Array Oper} {o : Oper} {a : Act} {K : Act → World → Prop} {Q : Exit → Act → World → Prop} {E : Prop} {t e : TypeId} {z : Value} (hE : Elt P t e z) (hgd : o.guard = none) (s x : Operand)
    (ho : o.op = .call { callee := .builtin .append, args := #[s, x], argTypes := #[t, t] }) (W : World) (A A0 : Option Addr) (n c m c0 : Nat) (vs us : List Value) (hs : a.eval s = .slice A n c) (hown : OwnA W e A n c vs)
    (hx : a.eval x = .slice A0 m c0) (hr : Rd W A0 m us) (hu : ∀ u ∈ us, u.oneCell' = true) (hn : n + m ≤ 1099511627776)
    (h : ∀ A' c' w', OwnA w' e A' (n + m) c' (vs ++ us) → Ch (Fo (.slice A n c)) W w' → (∀ k, Fo (.slice A' (n + m) c') k → Fo (.slice A n c) k ∨ W.heap.size ≤ k) → K (a.put o.dst (.slice A' (n + m) c')) w') :
    if Region.wanted o (yielded ops a.tmps) = true then Oper.wp P o a W K Q else E := by
  obtain ⟨A', c', w', hrun, k1, k2, k3⟩ := run_appA (ty := o.type) (c0 := c0) hE hown hr hu hn
  have hw : Region.wanted o (yielded ops a.tmps) = true := by simp [Region.wanted, hgd]
  rw [if_pos hw]
  unfold Oper.wp
  simp [execOp, ho, resolve, invoke, builtin, hs, hx, hrun, Result.andThen]
  exact h A' c' w' k1 k2 k3
end Go.Proofs.Ytfjlbfnjnkaooaa
