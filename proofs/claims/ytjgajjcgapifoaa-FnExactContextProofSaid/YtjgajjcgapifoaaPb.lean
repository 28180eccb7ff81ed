/- A proof that is being built: its box, its numbers and its words. -/
import Derived.Test.YtjgajjcgapifoaaPrfP
import Derived.Test.YtjgajjcgapifoaaCiM
namespace Go.Proofs.Ytjgajjcgapifoaa
open Go.RowKit
set_option linter.unusedVariables false
set_option linter.unusedSimpArgs false
/-- 'append(s, src...)', by footprint, be there something to append or not. -/
theorem run_appOz {P : Program} {t ty e : TypeId} {z : Value} (hE : Elt P t e z) {w : World} {base : Nat} {A A0 : Option Addr} {n c m c0 : Nat} {vs us : List Value} (hown : w.ownsRow base e 1 (.slice A n c) n vs) (hr : Rd w A0 m us) (hu : ∀ u ∈ us, u.oneCell' = true) (hn : n + m ≤ 1099511627776) :
    ∃ A' c' w', (Builtin.append_ #[t, t] ty #[.slice A n c, .slice A0 m c0]).run P w = .ok (.slice A' (n + m) c') w' ∧ w'.ownsRow 0 e 1 (.slice A' (n + m) c') (n + m) (vs ++ us) ∧ Ch (Fo (.slice A n c)) w w' ∧ (∀ k, Fo (.slice A' (n + m) c') k → Fo (.slice A n c) k ∨ w.heap.size ≤ k) := by
  rcases Nat.eq_zero_or_pos m with hm | hm
  · subst hm
    have hus : us = [] := List.eq_nil_of_length_eq_zero (by simpa using hr.1)
    subst hus
    have hcap := ownN_cap hown
    obtain ⟨ht, hzc, i, hi, hz, hs1, hb⟩ := hE
    refine ⟨A, c, w, ?_, by simpa using ownN_base hown (Nat.zero_le _), Ch.refl _ _, fun k hk => .inl hk⟩
    cases A <;> cases A0 <;> simp [Builtin.append_, run_underlying ht, sizeOf, typeInfo, hi, Builtin.lenOf, Builtin.firstCells, loadCells, loadCellsFrom, hcap, storeCells]
  · exact run_appO hE hown hr hu hm hn
/-- The same at a step of a region that draws its order. -/
theorem step_appOz {P : Program} {ops : Array Oper} {o : Oper} {a : Act} {K : Act → World → Prop} {Q : Exit → Act → World → Prop} {E : Prop} {t e : TypeId} {z : Value} (hE : Elt P t e z) (hgd : o.guard = none) (s x : Operand)
    (ho : o.op = .call { callee := .builtin .append, args := #[s, x], argTypes := #[t, t] }) (W : World) (base : Nat) (A A0 : Option Addr) (n c m c0 : Nat) (vs us : List Value) (hs : a.eval s = .slice A n c) (hown : W.ownsRow base e 1 (.slice A n c) n vs)
    (hx : a.eval x = .slice A0 m c0) (hr : Rd W A0 m us) (hu : ∀ u ∈ us, u.oneCell' = true) (hn : n + m ≤ 1099511627776)
    (h : ∀ A' c' w', w'.ownsRow 0 e 1 (.slice A' (n + m) c') (n + m) (vs ++ us) → Ch (Fo (.slice A n c)) W w' → (∀ k, Fo (.slice A' (n + m) c') k → Fo (.slice A n c) k ∨ W.heap.size ≤ k) → K (a.put o.dst (.slice A' (n + m) c')) w') :
    if Region.wanted o (yielded ops a.tmps) = true then Oper.wp P o a W K Q else E := by
  obtain ⟨A', c', w', hrun, k1, k2, k3⟩ := run_appOz (ty := o.type) (c0 := c0) hE hown hr hu hn
  have hw : Region.wanted o (yielded ops a.tmps) = true := by simp [Region.wanted, hgd]
  rw [if_pos hw]
  unfold Oper.wp
  simp [execOp, ho, resolve, invoke, builtin, hs, hx, hrun, Result.andThen]
  exact h A' c' w' k1 k2 k3
/-- A proof that is being built, above w0's end. -/
structure PB (w0 w : World) (g : Nat) (A : Option Addr) (n c : Nat) (ns : List Int) (B : Option Addr) (m d : Nat) (us : List Value) (ws : List (List Int)) : Prop where
  box : w.heap[g]? = some (.cells #[.int .i64 8, .slice A n c, .slice B m d] 55 (0, 0))
  nums : w.ownsRow 0 2 1 (.slice A n c) n (ints ns)
  rows : OwnX w B m d us ws
  glo : w0.heap.size ≤ g
  nlo : ∀ q, Fo (.slice A n c) q → w0.heap.size ≤ q
  wlo : ∀ q, FX B m d us q → w0.heap.size ≤ q
  dis : ∀ q, Fo (.slice A n c) q → FX B m d us q → False
  lo : Below w0.heap.size w0 w
section
variable {w0 w w2 w4 w' : World} {g n c m d n' c' n2 c2 c4 : Nat} {A A' B A2 A4 : Option Addr} {ns ks : List Int} {us : List Value} {ws : List (List Int)} {xs : List Int}
theorem PB.ng (h : PB w0 w g A n c ns B m d us ws) : ¬ Fo (.slice A n c) g := fun hk => by obtain ⟨cs, hc⟩ := own_fo h.nums hk; exact blk_ne h.box hc (by decide) rfl
theorem PB.wg (h : PB w0 w g A n c ns B m d us ws) : ¬ FX B m d us g := fun hk => by
  rcases hk with hk | hk
  · obtain ⟨cs, hc⟩ := own_fo h.rows.1 hk; exact blk_ne h.box hc (by decide) rfl
  · obtain ⟨cs, hc⟩ := inner_fo h.rows.2 hk; exact blk_ne h.box hc (by decide) rfl
theorem PB.ch (h : PB w0 w g A n c ns B m d us ws) (hc : Ch (fun _ => False) w w') : PB w0 w' g A n c ns B m d us ws :=
  ⟨blk_ch h.box hc (fun h => h), own_ch h.nums hc (fun _ _ h => h), h.rows.ch hc (fun _ _ h => h), h.glo, h.nlo, h.wlo, h.dis, below_ch h.lo hc (fun _ h => h.elim) h.lo.size⟩
theorem PB.below (h : PB w0 w g A n c ns B m d us ws) (hb : Below w.heap.size w w') : PB w0 w' g A n c ns B m d us ws := h.ch (ch_below hb)
theorem PB.alloc (h : PB w0 w g A n c ns B m d us ws) {o : Obj} : PB w0 (w.alloc o) g A n c ns B m d us ws := h.ch (ch_alloc _ _ _)
theorem PB.drew (h : PB w0 w g A n c ns B m d us ws) : PB w0 w.drew g A n c ns B m d us ws := h.ch (ch_drew (Ch.refl _ _))
theorem PB.y1 (h : PB w0 w g A n c ns B m d us ws) : w.cell? ⟨g, 1, none⟩ = some (.slice A n c) := blk_cell h.box 1 rfl
theorem PB.y2 (h : PB w0 w g A n c ns B m d us ws) : w.cell? ⟨g, 2, none⟩ = some (.slice B m d) := blk_cell h.box 2 rfl
theorem PB.lt (h : PB w0 w g A n c ns B m d us ws) : g < w.heap.size := blk_lt h.box
/-- The numbers have grown: the box behind the append. -/
theorem PB.boxN (h : PB w0 w g A n c ns B m d us ws) (hc : Ch (Fo (.slice A n c)) w w') : w'.heap[g]? = some (.cells #[.int .i64 8, .slice A n c, .slice B m d] 55 (0, 0)) := blk_ch h.box hc h.ng
theorem PB.addN (h : PB w0 w g A n c ns B m d us ws) (ho : w'.ownsRow 0 2 1 (.slice A' n' c') n' (ints (ns ++ ks))) (hc : Ch (Fo (.slice A n c)) w w') (hf : ∀ q, Fo (.slice A' n' c') q → Fo (.slice A n c) q ∨ w.heap.size ≤ q) : PB w0 (w'.setCell ⟨g, 1, none⟩ (.slice A' n' c')) g A' n' c' (ns ++ ks) B m d us ws := by
  have hb := h.boxN hc
  have hs := ch_set w' g 1 (.slice A' n' c')
  have hn : ¬ Fo (.slice A' n' c') g := fun hk => by obtain ⟨cs, hc'⟩ := own_fo ho hk; exact blk_ne hb hc' (by decide) rfl
  have hr : OwnX w' B m d us ws := h.rows.ch hc (fun k h1 h2 => h.dis k h2 h1)
  have hg : w0.heap.size ≤ w'.heap.size := Nat.le_trans h.lo.size hc.size
  refine ⟨by simpa using blk_set hb 1 (.slice A' n' c'), own_ch ho hs (fun k h1 h2 => hn (by rw [← h2]; exact h1)), hr.ch hs (fun k h1 h2 => h.wg (by rw [← h2]; exact h1)), h.glo, fun q hq => ?_, h.wlo, fun q h1 h2 => ?_, below_ch (below_ch h.lo hc h.nlo h.lo.size) hs (fun k hk => by have e : k = g := hk; rw [e]; exact h.glo) hg⟩
  · rcases hf q hq with h1 | h1
    · exact h.nlo q h1
    · exact Nat.le_trans h.lo.size h1
  · rcases hf q h1 with h3 | h3
    · exact h.dis q h3 h2
    · exact absurd (h.rows.lt h2) (Nat.not_lt.2 h3)
/-- The words have grown: the box behind the append. -/
theorem PB.boxW (h : PB w0 w g A n c ns B m d us ws) (hb : Below w.heap.size w w2) (hc : Ch (Fo (.slice B m d)) w2 w4) : w4.heap[g]? = some (.cells #[.int .i64 8, .slice A n c, .slice B m d] 55 (0, 0)) := blk_ch (blk_bel h.box hb) hc (fun hk => h.wg (.inl hk))
theorem PB.addW (h : PB w0 w g A n c ns B m d us ws) (hb : Below w.heap.size w w2) (ho : w2.ownsRow w.heap.size 2 1 (.slice A2 n2 c2) n2 (ints xs)) (hn : n2 ≤ 1000000000)
    (ho4 : w4.ownsRow 0 25 1 (.slice A4 (m + 1) c4) (m + 1) (us ++ [.slice A2 n2 c2])) (hc4 : Ch (Fo (.slice B m d)) w2 w4) (hf : ∀ q, Fo (.slice A4 (m + 1) c4) q → Fo (.slice B m d) q ∨ w2.heap.size ≤ q) : PB w0 (w4.setCell ⟨g, 2, none⟩ (.slice A4 (m + 1) c4)) g A n c ns A4 (m + 1) c4 (us ++ [.slice A2 n2 c2]) (ws ++ [xs]) := by
  have hbx := h.boxW hb hc4
  obtain ⟨hx, hfx⟩ := h.rows.step hb ho hn ho4 hc4 hf
  have hs := ch_set w4 g 2 (.slice A4 (m + 1) c4)
  have hng : ¬ FX A4 (m + 1) c4 (us ++ [.slice A2 n2 c2]) g := fun hk => by
    rcases hfx g hk with h1 | h1
    · exact h.wg h1
    · exact absurd h.lt (Nat.not_lt.2 h1)
  have hnum : w4.ownsRow 0 2 1 (.slice A n c) n (ints ns) := own_ch (ownN_below h.nums hb (Nat.le_refl _)) hc4 (fun k h1 h2 => h.dis k h1 (.inl h2))
  have hlo2 : Below w0.heap.size w0 w2 := h.lo.trans (hb.mono h.lo.size)
  have hlo4 : Below w0.heap.size w0 w4 := below_ch hlo2 hc4 (fun k hk => h.wlo k (.inl hk)) hlo2.size
  refine ⟨by simpa using blk_set hbx 2 (.slice A4 (m + 1) c4), own_ch hnum hs (fun k h1 h2 => h.ng (by rw [← h2]; exact h1)), hx.ch hs (fun k h1 h2 => hng (by rw [← h2]; exact h1)), h.glo, h.nlo, fun q hq => ?_, fun q h1 h2 => ?_, below_ch hlo4 hs (fun k hk => by have e : k = g := hk; rw [e]; exact h.glo) hlo4.size⟩
  · rcases hfx q hq with h1 | h1
    · exact h.wlo q h1
    · exact Nat.le_trans h.lo.size h1
  · rcases hfx q h2 with h3 | h3
    · exact h.dis q h1 h3
    · exact absurd (h.nums.lt q h1).2 (Nat.not_lt.2 h3)
end
theorem inner_app {w : World} {us vs : List Value} {xss yss : List (List Int)} (h1 : InnerP w (FU us) us xss) (h2 : InnerP w (FU vs) vs yss) (hd : ∀ k, FU us k → FU vs k → False) : InnerP w (FU (us ++ vs)) (us ++ vs) (xss ++ yss) := by
  obtain ⟨a1, b1, c1⟩ := h1
  obtain ⟨a2, b2, c2⟩ := h2
  have sp : ∀ (i : Nat) (u : Value), (us ++ vs)[i]? = some u → (i < us.length ∧ us[i]? = some u) ∨ (us.length ≤ i ∧ vs[i - us.length]? = some u) := fun i u hu => by
    rcases Nat.lt_or_ge i us.length with h | h
    · rw [List.getElem?_append_left h] at hu; exact .inl ⟨h, hu⟩
    · rw [List.getElem?_append_right h] at hu; exact .inr ⟨h, hu⟩
  refine ⟨by simp [a1, a2], fun i u xs hu hx => ?_, fun i j u v hu hv k hk hk' => ?_⟩
  · rcases sp i u hu with ⟨hi, hu'⟩ | ⟨hi, hu'⟩
    · rw [List.getElem?_append_left (by omega)] at hx
      obtain ⟨A, n, c, rfl, hn, ho, _⟩ := b1 i u xs hu' hx
      exact ⟨A, n, c, rfl, hn, ho, fun k hk => ⟨_, List.mem_of_getElem? hu, hk⟩⟩
    · rw [List.getElem?_append_right (by omega), ← a1] at hx
      obtain ⟨A, n, c, rfl, hn, ho, _⟩ := b2 _ u xs hu' hx
      exact ⟨A, n, c, rfl, hn, ho, fun k hk => ⟨_, List.mem_of_getElem? hu, hk⟩⟩
  · rcases sp i u hu with ⟨hi, hu'⟩ | ⟨hi, hu'⟩ <;> rcases sp j v hv with ⟨hj, hv'⟩ | ⟨hj, hv'⟩
    · exact c1 i j u v hu' hv' k hk hk'
    · exact (hd k ⟨u, List.mem_of_getElem? hu', hk⟩ ⟨v, List.mem_of_getElem? hv', hk'⟩).elim
    · exact (hd k ⟨v, List.mem_of_getElem? hv', hk'⟩ ⟨u, List.mem_of_getElem? hu', hk⟩).elim
    · have := c2 _ _ u v hu' hv' k hk hk'; omega
/-- A proof and whether it is valid. -/
def OutP (w : World) (ns : List Int) (ws : List (List Int)) (b : Bool) (e : Ending) (w' : World) : Prop :=
  ∃ (A : Option Addr) (n c : Nat) (B : Option Addr) (m d : Nat) (us : List Value), e = .returned (.tuple #[prfV 8 A n c B m d, .bool b]) ∧ w'.ownsRow 0 2 1 (.slice A n c) n (ints ns) ∧ OwnX w' B m d us ws ∧ (∀ q, Fo (.slice A n c) q → w.heap.size ≤ q) ∧ (∀ q, FX B m d us q → w.heap.size ≤ q) ∧ (∀ q, Fo (.slice A n c) q → FX B m d us q → False) ∧ Below w.heap.size w w'
/-- A proof. -/
def OutQ (w : World) (ns : List Int) (ws : List (List Int)) (e : Ending) (w' : World) : Prop :=
  ∃ (A : Option Addr) (n c : Nat) (B : Option Addr) (m d : Nat) (us : List Value), e = .returned (prfV 8 A n c B m d) ∧ w'.ownsRow 0 2 1 (.slice A n c) n (ints ns) ∧ OwnX w' B m d us ws ∧ (∀ q, Fo (.slice A n c) q → w.heap.size ≤ q) ∧ (∀ q, FX B m d us q → w.heap.size ≤ q) ∧ (∀ q, Fo (.slice A n c) q → FX B m d us q → False) ∧ Below w.heap.size w w'
end Go.Proofs.Ytjgajjcgapifoaa
