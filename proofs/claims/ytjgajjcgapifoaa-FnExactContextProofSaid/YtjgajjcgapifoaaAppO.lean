/- Append to a row of the call's own: the new row lies in the old block or in a new one. Lists of lists that grow, by footprint. -/
import Derived.Test.YtjgajjcgapifoaaApp
import Derived.Test.YtjgajjcgapifoaaPrfI
namespace Go.Proofs.Ytjgajjcgapifoaa
open Go.RowKit
set_option linter.unusedVariables false
set_option linter.unusedSimpArgs false
theorem run_appO {P : Program} {t ty e : TypeId} {z : Value} (hE : Elt P t e z) {w : World} {base : Nat} {A A0 : Option Addr} {n c m c0 : Nat} {vs us : List Value} (hown : w.ownsRow base e 1 (.slice A n c) n vs) (hr : Rd w A0 m us) (hu : ∀ u ∈ us, u.oneCell' = true) (hm : 0 < m) (hn : n + m ≤ 1099511627776) :
    ∃ A' c' w', (Builtin.append_ #[t, t] ty #[.slice A n c, .slice A0 m c0]).run P w = .ok (.slice A' (n + m) c') w' ∧ w'.ownsRow 0 e 1 (.slice A' (n + m) c') (n + m) (vs ++ us) ∧ Ch (Fo (.slice A n c)) w w' ∧ (∀ k, Fo (.slice A' (n + m) c') k → Fo (.slice A n c) k ∨ w.heap.size ≤ k) := by
  obtain ⟨ht, hzc, i, hi, hz, hs1, hb⟩ := hE
  have hbn : (n + m) * i.bytes ≤ (n + m) * 24 := Nat.mul_le_mul_left _ hb
  obtain ⟨b, off', rfl, hlt, hc⟩ := hr.2 hm
  have hc' : ∀ j u, us[j]? = some u → w.cell? ((⟨b, off', none⟩ : Addr).add j) = some u := by
    intro j u hj
    have := hc j u hj
    unfold Addr.add
    split
    · rename_i h0; subst h0; simpa using this
    · exact this
  have hul : us.length = m := hr.1
  have hvl : vs.length = n := by simpa using hown.1
  rcases hown.2 with ⟨hv, h0⟩ | ⟨g, cap, cur, hv, hbs, hg, hnc, hcm, hcs, htk⟩
  · injection hv with h1 h2 h3
    subst h1 h2 h3
    have hvs : vs = [] := List.eq_nil_of_length_eq_zero hvl
    subst hvs
    obtain ⟨v', w', hrun, ho, hgr, _⟩ := run_append_own (P := P) w w.heap.size t ty e i z 1 i.bytes ht hi hz hs1 rfl (by rw [hzc]; rfl) (by decide) (.slice none 0 0) 0 [] (World.ownsRow_nil w w.heap.size e 1) ⟨b, off', none⟩ m c0 us (by simpa using hul) hc' hu (by unfold maxLen; omega) (by omega) (Nat.le_refl _)
    obtain ⟨A', c', rfl, _, _⟩ := ownN_form ho
    exact ⟨A', c', w', hrun, ownN_base ho (Nat.zero_le _), ch_row hgr, fun k hk => .inr (ho.lt k hk).1⟩
  · injection hv with h1 h2 h3
    subst h1 h3
    by_cases hroom : n + m ≤ c
    · have hrun := run_append_room_cells (P := P) w t ty e i ht hi g 0 n c ⟨b, off', none⟩ m c0 us (by rw [hs1]; simpa using hul) hc' hu hroom
        (fun j hj => by rw [hs1, cell_of_row w g _ cur e (0, 0) hg, Array.getElem?_eq_getElem (by omega)]; rfl) (fun j hj => frozen_of_row w g _ cur e hg)
      have hbg : g < w.heap.size := blk_lt hg
      obtain ⟨v', w', hrun', ho, hgr, _⟩ := run_append_own (P := P) (ty := ty) w base t e i z 1 i.bytes ht hi hz hs1 rfl (by rw [hzc]; rfl) (by decide) (.slice (some ⟨g, 0, none⟩) n c) n vs hown ⟨b, off', none⟩ m c0 us (by simpa using hul) hc' hu (by unfold maxLen; omega) (by omega) (by omega)
      rw [hrun] at hrun'
      injection hrun' with e1 e2
      subst e1 e2
      exact ⟨_, _, _, hrun, ownN_base ho (Nat.zero_le _), ch_row hgr, fun k hk => .inl hk⟩
    · obtain ⟨v', w', hrun, ho, hgr⟩ := run_append_arg_grows (P := P) w t ty e i z 1 i.bytes ht hi hz hs1 rfl (by rw [hzc]; rfl) (by decide) ⟨g, 0, none⟩ n c vs (by simpa using hvl)
        (fun j u hj => by
          have h1 : w.cell? ⟨g, 0 + j, none⟩ = some u := by
            rw [Nat.zero_add, cell_of_row w g _ cur e (0, 0) hg, ← Array.getElem?_toList]
            rw [← htk, List.getElem?_take] at hj
            split at hj
            · exact hj
            · cases hj
          unfold Addr.add
          split
          · rename_i h0; subst h0; simpa using h1
          · exact h1) ⟨b, off', none⟩ m c0 us (by simpa using hul) hc' (by omega) (by unfold maxLen; omega) (by omega)
      obtain ⟨A', c', rfl, _, _⟩ := ownN_form ho
      exact ⟨A', c', w', hrun, ownN_base ho (Nat.zero_le _), ch_grown hgr (by simp), fun k hk => .inr (ho.lt k hk).1⟩
/-- 'append(s, y)' in a plain region, by footprint. -/
theorem wpList_app1O {P : Program} {ops : Array Oper} {rest : List Oper} {o : Oper} {a : Act} {Q : Exit → Act → World → Prop} {t e : TypeId} {z : Value} (hE : Elt P t e z) (hgd : o.guard = none) (s x : Operand)
    (ho : o.op = .call { callee := .builtin .append, args := #[s, x], argTypes := #[t, t] }) (W : World) (base : Nat) (A : Option Addr) (n c : Nat) (vs : List Value) (hs : a.eval s = .slice A n c) (hown : W.ownsRow base e 1 (.slice A n c) n vs)
    (y : Value) (hy : y.oneCell' = true) (hx : a.eval x = .slice (some ⟨W.heap.size, 0, none⟩) 1 1) (hn : n ≤ 1000000000)
    (h : ∀ A' c' w', w'.ownsRow 0 e 1 (.slice A' (n + 1) c') (n + 1) (vs ++ [y]) → Ch (Fo (.slice A n c)) W w' → (∀ k, Fo (.slice A' (n + 1) c') k → Fo (.slice A n c) k ∨ W.heap.size ≤ k) → wpList P ops Q rest (a.put o.dst (.slice A' (n + 1) c')) w') :
    wpList P ops Q (o :: rest) a (W.alloc (.cells #[y] e)) := by
  have hr : Rd (W.alloc (.cells #[y] e)) (some ⟨W.heap.size, 0, none⟩) 1 [y] := own_rd (own_lit W #[y] 1 e rfl (by omega))
  obtain ⟨A', c', w', hrun, k1, k2, k3⟩ := run_appO (ty := o.type) (c0 := 1) hE (ownN_below hown (below_new W _) (Nat.le_refl _)) hr (by simpa using hy) (by omega) (by omega)
  refine wpList_plain hgd fun K hK => ?_
  unfold Oper.wp execOp
  simp only [ho, resolve, invoke, builtin, Sem.run_bind, Sem.run_pure, Result.andThen_ok, List.map_toArray, List.map_cons, List.map_nil, hs, hx, hrun]
  refine hK _ _ (h A' c' w' k1 ((ch_alloc (Fo (.slice A n c)) W _).trans k2) (fun k hk => ?_))
  rcases k3 k hk with h' | h'
  · exact .inl h'
  · exact .inr (by simp at h'; omega)
/-- A list of lists by its exact footprint. -/
def FX (A : Option Addr) (n c : Nat) (us : List Value) (k : Nat) : Prop := Fo (.slice A n c) k ∨ FU us k
def OwnX (w : World) (A : Option Addr) (n c : Nat) (us : List Value) (xss : List (List Int)) : Prop := w.ownsRow 0 25 1 (.slice A n c) n us ∧ InnerP w (FU us) us xss
theorem OwnX.nil (w : World) : OwnX w none 0 0 [] [] := ⟨own_nil _ _ _, InnerP.nil _ _⟩
theorem fx_nil (k : Nat) : ¬ FX none 0 0 [] k := by
  rintro (h | ⟨u, hu, _⟩)
  · simp [Fo, Value.ownBlock] at h
  · simp at hu
theorem OwnX.lt {w : World} {A : Option Addr} {n c : Nat} {us : List Value} {xss : List (List Int)} (h : OwnX w A n c us xss) {k : Nat} (hk : FX A n c us k) : k < w.heap.size := by
  rcases hk with hk | hk
  · exact (h.1.lt k hk).2
  · obtain ⟨cs, hc⟩ := inner_fo h.2 hk; exact blk_lt hc
theorem OwnX.ch {w w' : World} {A : Option Addr} {n c : Nat} {us : List Value} {xss : List (List Int)} {F : Nat → Prop} (h : OwnX w A n c us xss) (hc : Ch F w w') (hd : ∀ k, FX A n c us k → ¬ F k) : OwnX w' A n c us xss :=
  ⟨own_ch h.1 hc (fun k h1 h2 => hd k (.inl h1) h2), h.2.ch hc (fun k h1 h2 => hd k (.inr h1) h2)⟩
theorem OwnX.below {w w' : World} {A : Option Addr} {n c : Nat} {us : List Value} {xss : List (List Int)} (h : OwnX w A n c us xss) (hb : Below w.heap.size w w') : OwnX w' A n c us xss := h.ch (ch_below (F := fun _ => False) hb) (fun _ _ h => h)
theorem OwnX.ownp {w : World} {A : Option Addr} {n c : Nat} {us : List Value} {xss : List (List Int)} (h : OwnX w A n c us xss) : OwnP w (FX A n c us) A n c xss :=
  ⟨us, h.1, fun k hk => .inl hk, h.2.mono (fun k hk => .inr hk), fun k hk => h.lt hk⟩
/-- One row more. -/
theorem OwnX.step {w w2 : World} {k c n2 c2 : Nat} {A A2 : Option Addr} {us : List Value} {xss : List (List Int)} {xs : List Int} (h : OwnX w A k c us xss) (hb : Below w.heap.size w w2) (ho : w2.ownsRow w.heap.size 2 1 (.slice A2 n2 c2) n2 (ints xs)) (hn : n2 ≤ 1000000000)
    {A4 : Option Addr} {c4 : Nat} {w4 : World} (ho4 : w4.ownsRow 0 25 1 (.slice A4 (k + 1) c4) (k + 1) (us ++ [.slice A2 n2 c2])) (hc4 : Ch (Fo (.slice A k c)) w2 w4) (hf : ∀ q, Fo (.slice A4 (k + 1) c4) q → Fo (.slice A k c) q ∨ w2.heap.size ≤ q) :
    OwnX w4 A4 (k + 1) c4 (us ++ [.slice A2 n2 c2]) (xss ++ [xs]) ∧ ∀ q, FX A4 (k + 1) c4 (us ++ [.slice A2 n2 c2]) q → FX A k c us q ∨ w.heap.size ≤ q := by
  have h2' := h.2.ch (ch_below (F := fun _ => False) hb) (fun _ _ h => h)
  have hs := h2'.snoc (G := FU (us ++ [.slice A2 n2 c2])) ho hn (fun q a b => by have := h.lt (.inr a); have := (ho.lt q b).1; omega) (fun q hq => by obtain ⟨u, hu, hf⟩ := hq; exact ⟨u, by simp [hu], hf⟩) (fun q hq => ⟨_, by simp, hq⟩)
  refine ⟨⟨ho4, hs.ch hc4 (fun q a b => fu_types (ownN_below h.1 hb (Nat.le_refl _)) hs q a b)⟩, fun q hq => ?_⟩
  rcases hq with hq | ⟨u, hu, hf'⟩
  · rcases hf q hq with h1 | h1
    · exact .inl (.inl h1)
    · exact .inr (Nat.le_trans hb.size h1)
  · rcases List.mem_append.1 hu with hu | hu
    · exact .inl (.inr ⟨u, hu, hf'⟩)
    · simp at hu; subst hu; exact .inr (ho.lt q hf').1
end Go.Proofs.Ytjgajjcgapifoaa
