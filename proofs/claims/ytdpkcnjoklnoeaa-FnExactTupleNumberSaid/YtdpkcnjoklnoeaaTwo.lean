/- Two rows whose slice values lie in one block of two cells, appended to in turn. -/
import Derived.Test.YtdpkcnjoklnoeaaWeave
import Derived.Maps.AppendAt
import Derived.Deep.RegionLaw
namespace Go.Proofs.Ytdpkcnjoklnoeaa
open Go.RowKit Limb

/-- append of one element, as one operation: what became of the row, of the memory, and where the row lies. -/
theorem wp_app1h {P : Program} {o : Oper} {a : Act} {K : Act → World → Prop} {Q : Exit → Act → World → Prop} {t e : TypeId} {z : Value} (hE : Elt P t e z) (s x : Operand)
    (ho : o.op = .call { callee := .builtin .append, args := #[s, x], argTypes := #[t, t] }) (W W' : World) (y : Value) (hW : W' = W.alloc (.cells #[y] e)) (base : Nat) (v : Value) (n : Nat) (vs : List Value) (hs : a.eval s = v) (hown : W.ownsRow base e 1 v n vs)
    (hy : y.oneCell' = true) (hx : a.eval x = .slice (some ⟨W.heap.size, 0, none⟩) 1 1) (hbase : base ≤ W.heap.size) (hn : n ≤ 1099511627776)
    (h : ∀ A c w', w'.ownsRow base e 1 (.slice A (n + 1) c) (n + 1) (vs ++ [y]) → W.grownBy w' v.ownBlock → (∀ k, (Value.slice A (n + 1) c).ownBlock = some k → v.ownBlock = some k ∨ W.heap.size ≤ k) → K (a.put o.dst (.slice A (n + 1) c)) w') :
    o.wp P a W' K Q := by
  subst hW
  obtain ⟨ht, hzc, i, hi, hz, hs1, hb⟩ := hE
  have hbn : (n + 1) * i.bytes ≤ (n + 1) * 24 := Nat.mul_le_mul_left _ hb
  obtain ⟨v', w', hrun, h2, h3, _, h5⟩ := run_append_own_at (P := P) (W.alloc (.cells #[y] e)) base t o.type e i z 1 i.bytes ht hi hz hs1 rfl (by rw [hzc]; rfl) (by decide) v n vs (hown.alloc _) ⟨W.heap.size, 0, none⟩ 1 1 [y] rfl (cell_one_new _ _ _) (by simpa using hy) (by unfold maxLen; omega) (by omega) (by simp; omega)
  unfold Oper.wp execOp
  simp only [ho, resolve, invoke, builtin, Sem.run_bind, Sem.run_pure, Result.andThen_ok, List.map_toArray, List.map_cons, List.map_nil, hs, hx, hrun]
  obtain ⟨A, c, rfl, _, _⟩ := own_form h2
  refine h A c w' h2 (grown_alloc_trans h3) (fun k hk => ?_)
  rcases h5 with h5 | h5
  · exact .inl (by rw [← h5]; exact hk)
  · rw [h5] at hk; injection hk with hk; exact .inr (by rw [← hk]; simp)
theorem step_app1h {P : Program} {ops : Array Oper} {o : Oper} {a : Act} {K : Act → World → Prop} {Q : Exit → Act → World → Prop} {E : Prop} {t e : TypeId} {z : Value} (hE : Elt P t e z) (hgd : o.guard = none) (s x : Operand)
    (ho : o.op = .call { callee := .builtin .append, args := #[s, x], argTypes := #[t, t] }) (W W' : World) (y : Value) (hW : W' = W.alloc (.cells #[y] e)) (base : Nat) (v : Value) (n : Nat) (vs : List Value) (hs : a.eval s = v) (hown : W.ownsRow base e 1 v n vs)
    (hy : y.oneCell' = true) (hx : a.eval x = .slice (some ⟨W.heap.size, 0, none⟩) 1 1) (hbase : base ≤ W.heap.size) (hn : n ≤ 1099511627776)
    (h : ∀ A c w', w'.ownsRow base e 1 (.slice A (n + 1) c) (n + 1) (vs ++ [y]) → W.grownBy w' v.ownBlock → (∀ k, (Value.slice A (n + 1) c).ownBlock = some k → v.ownBlock = some k ∨ W.heap.size ≤ k) → K (a.put o.dst (.slice A (n + 1) c)) w') :
    if Region.wanted o (yielded ops a.tmps) = true then Oper.wp P o a W' K Q else E := by
  have hw : Region.wanted o (yielded ops a.tmps) = true := by simp [Region.wanted, hgd]
  rw [if_pos hw]
  exact wp_app1h hE s x ho W W' y hW base v n vs hs hown hy hx hbase hn h
theorem wpList_app1h {P : Program} {ops : Array Oper} {rest : List Oper} {o : Oper} {a : Act} {Q : Exit → Act → World → Prop} {t e : TypeId} {z : Value} (hE : Elt P t e z) (hgd : o.guard = none) (s x : Operand)
    (ho : o.op = .call { callee := .builtin .append, args := #[s, x], argTypes := #[t, t] }) (W : World) (y : Value) (base : Nat) (v : Value) (n : Nat) (vs : List Value) (hs : a.eval s = v) (hown : W.ownsRow base e 1 v n vs)
    (hy : y.oneCell' = true) (hx : a.eval x = .slice (some ⟨W.heap.size, 0, none⟩) 1 1) (hbase : base ≤ W.heap.size) (hn : n ≤ 1099511627776)
    (h : ∀ A c w', w'.ownsRow base e 1 (.slice A (n + 1) c) (n + 1) (vs ++ [y]) → W.grownBy w' v.ownBlock → (∀ k, (Value.slice A (n + 1) c).ownBlock = some k → v.ownBlock = some k ∨ W.heap.size ≤ k) → wpList P ops Q rest (a.put o.dst (.slice A (n + 1) c)) w') :
    wpList P ops Q (o :: rest) a (W.alloc (.cells #[y] e)) :=
  wpList_plain hgd fun _ hK => wp_app1h hE s x ho W _ y rfl base v n vs hs hown hy hx hbase hn fun A c w' h1 h2 h3 => hK _ _ (h A c w' h1 h2 h3)

/-- What a block of another element type holds is kept while a row is appended to. -/
theorem blk_keep {W w' : World} {g T e base n : Nat} {cs : Array Value} {v : Value} {vs : List Value} (hgp : W.heap[g]? = some (.cells cs T (0, 0))) (hv : W.ownsRow base e 1 v n vs) (hT : T ≠ e) (hg : W.grownBy w' v.ownBlock) : w'.heap[g]? = some (.cells cs T (0, 0)) := by
  refine (hg.block g (Array.getElem?_eq_some_iff.1 hgp).1 (fun he => ?_)).trans hgp
  rcases hv.2 with ⟨rfl, _⟩ | ⟨g', cap, cur, rfl, _, hg', _⟩
  · simp [Value.ownBlock] at he
  · have : g = g' := by simpa [Value.ownBlock] using he
    subst this
    rw [hgp] at hg'
    injection hg' with hg'
    injection hg' with _ h2
    exact hT h2
theorem own_set_far {w : World} {base e n g i T : Nat} {v u : Value} {vs : List Value} {cs : Array Value} (h : w.ownsRow base e 1 v n vs) (hgp : w.heap[g]? = some (.cells cs T (0, 0))) (hT : T ≠ e) : (w.setCell ⟨g, i, none⟩ u).ownsRow base e 1 v n vs := by
  refine ⟨h.1, ?_⟩
  rcases h.2 with h' | ⟨g', cap, cur, h', hb, hg', r⟩
  · exact .inl h'
  · refine .inr ⟨g', cap, cur, h', hb, ?_, r⟩
    rw [Below.heap_setCell _ _ _ _ (fun e1 => ?_)]
    · exact hg'
    · simp at e1; subst e1
      rw [hgp] at hg'
      injection hg' with hg'
      injection hg' with _ h2
      exact hT h2
theorem blk_set {w : World} {g T i : Nat} {cs : Array Value} {u : Value} (hgp : w.heap[g]? = some (.cells cs T (0, 0))) : (w.setCell ⟨g, i, none⟩ u).heap[g]? = some (.cells (cs.setIfInBounds i u) T (0, 0)) := heap_setCell_same w g i cs T u hgp
theorem blk_cell {w : World} {g T i : Nat} {cs : Array Value} {u : Value} (hgp : w.heap[g]? = some (.cells cs T (0, 0))) (hu : cs[i]? = some u) : w.cell? ⟨g, i, none⟩ = some u := by rw [cell_of_row w g i cs T (0, 0) hgp, hu]
theorem blk_free {w : World} {g T i : Nat} {cs : Array Value} (hgp : w.heap[g]? = some (.cells cs T (0, 0))) : w.frozen? ⟨g, i, none⟩ = false := frozen_of_row w g i cs T hgp

/-- The two rows and the block that holds their slice values. -/
def TwoRel (S e T g : Nat) (w1 : World) (l0 l1 : List Int) (v0 v1 : Value) (wr : World) : Prop :=
  wr.heap[g]? = some (.cells #[v0, v1] T (0, 0)) ∧ wr.ownsRow S e 1 v0 l0.length (ints l0) ∧ wr.ownsRow S e 1 v1 l1.length (ints l1) ∧ (∀ k, v0.ownBlock = some k → v1.ownBlock = some k → False) ∧ Below S w1 wr ∧ S ≤ wr.heap.size ∧ S ≤ g ∧ T ≠ e
theorem TwoRel.app0 {S e T g : Nat} {w1 W w' : World} {l0 l1 : List Int} {v0 v1 : Value} {d : Int} {A : Option Addr} {c : Nat} (h : TwoRel S e T g w1 l0 l1 v0 v1 W)
    (ho : w'.ownsRow S e 1 (.slice A (l0.length + 1) c) (l0.length + 1) (ints l0 ++ [.int .i64 d])) (hg : W.grownBy w' v0.ownBlock) (hk : ∀ k, (Value.slice A (l0.length + 1) c).ownBlock = some k → v0.ownBlock = some k ∨ W.heap.size ≤ k) :
    TwoRel S e T g w1 (l0 ++ [d]) l1 (.slice A (l0.length + 1) c) v1 (w'.setCell ⟨g, 0, none⟩ (.slice A (l0.length + 1) c)) := by
  obtain ⟨h1, h2, h3, h4, h5, h6, h7, h8⟩ := h
  have hb := blk_keep h1 h2 h8 hg
  refine ⟨by simpa using blk_set (i := 0) (u := .slice A (l0.length + 1) c) hb, ?_, ?_, ?_, ?_, ?_, h7, h8⟩
  · rw [ints_snoc] at ho
    simpa using own_set_far ho hb h8
  · exact own_set_far (own_apart h3 hg (fun k a b => h4 k b a)) hb h8
  · intro k ha hb'
    rcases hk k ha with hk | hk
    · exact h4 k hk hb'
    · have := (h3.lt k hb').2; omega
  · exact (h5.grown hg h6 (fun k hk => (h2.lt k hk).1)).setCell h7 _
  · have := hg.size; simp [World.setCell]; omega
theorem TwoRel.app1 {S e T g : Nat} {w1 W w' : World} {l0 l1 : List Int} {v0 v1 : Value} {d : Int} {A : Option Addr} {c : Nat} (h : TwoRel S e T g w1 l0 l1 v0 v1 W)
    (ho : w'.ownsRow S e 1 (.slice A (l1.length + 1) c) (l1.length + 1) (ints l1 ++ [.int .i64 d])) (hg : W.grownBy w' v1.ownBlock) (hk : ∀ k, (Value.slice A (l1.length + 1) c).ownBlock = some k → v1.ownBlock = some k ∨ W.heap.size ≤ k) :
    TwoRel S e T g w1 l0 (l1 ++ [d]) v0 (.slice A (l1.length + 1) c) (w'.setCell ⟨g, 1, none⟩ (.slice A (l1.length + 1) c)) := by
  obtain ⟨h1, h2, h3, h4, h5, h6, h7, h8⟩ := h
  have hb := blk_keep h1 h3 h8 hg
  refine ⟨by simpa using blk_set (i := 1) (u := .slice A (l1.length + 1) c) hb, ?_, ?_, ?_, ?_, ?_, h7, h8⟩
  · exact own_set_far (own_apart h2 hg (fun k a b => h4 k a b)) hb h8
  · rw [ints_snoc] at ho
    simpa using own_set_far ho hb h8
  · intro k ha hb'
    rcases hk k hb' with hk | hk
    · exact h4 k ha hk
    · have := (h2.lt k ha).2; omega
  · exact (h5.grown hg h6 (fun k hk => (h3.lt k hk).1)).setCell h7 _
  · have := hg.size; simp [World.setCell]; omega

/-- Every second digit. -/
def evs : List Int → List Int
  | [] => []
  | [x] => [x]
  | x :: _ :: r => x :: evs r
def ods : List Int → List Int
  | [] => []
  | [_] => []
  | _ :: y :: r => y :: ods r
theorem evs_snoc (d : Int) : ∀ l : List Int, (l.length % 2 = 0 → evs (l ++ [d]) = evs l ++ [d] ∧ ods (l ++ [d]) = ods l) ∧ (l.length % 2 = 1 → evs (l ++ [d]) = evs l ∧ ods (l ++ [d]) = ods l ++ [d])
  | [] => by simp [evs, ods]
  | [x] => by simp [evs, ods]
  | x :: y :: r => by
    have ih := evs_snoc d r
    have e : (x :: y :: r).length % 2 = r.length % 2 := by simp; omega
    rw [e]
    simp only [List.cons_append, evs, ods]
    exact ⟨fun h => by rw [(ih.1 h).1, (ih.1 h).2]; simp, fun h => by rw [(ih.2 h).1, (ih.2 h).2]; simp⟩
theorem evs_le : ∀ l : List Int, joinVal 10 (evs l) ≤ joinVal 10 l ∧ joinVal 10 (ods l) ≤ joinVal 10 l
  | [] => by simp [evs, ods, joinVal]
  | [x] => by simp [evs, ods, joinVal]
  | x :: y :: r => by
    have ih := evs_le r
    simp only [evs, ods, joinVal]
    omega
theorem evs_in {b : Int} : ∀ l : List Int, (∀ d ∈ l, 0 ≤ d ∧ d < b) → (∀ d ∈ evs l, 0 ≤ d ∧ d < b) ∧ (∀ d ∈ ods l, 0 ≤ d ∧ d < b)
  | [], _ => by simp [evs, ods]
  | [x], h => by simpa [evs, ods] using h
  | x :: y :: r, h => by
    have ih := evs_in r (fun d hd => h d (by simp [hd]))
    refine ⟨fun d hd => ?_, fun d hd => ?_⟩
    · simp only [evs, List.mem_cons] at hd
      rcases hd with rfl | hd
      · exact h _ (by simp)
      · exact ih.1 d hd
    · simp only [ods, List.mem_cons] at hd
      rcases hd with rfl | hd
      · exact h _ (by simp)
      · exact ih.2 d hd
theorem evs_len : ∀ l : List Int, (evs l).length ≤ l.length ∧ (ods l).length ≤ l.length
  | [] => by simp [evs, ods]
  | [x] => by simp [evs, ods]
  | x :: y :: r => by
    have ih := evs_len r
    simp only [evs, ods, List.length_cons]
    omega
theorem joinVal_digs {b : Nat} (hb : 2 ≤ b) (n : Nat) : joinVal b (digs b n) = n := by
  induction n using Nat.strongRecOn with
  | _ n ih =>
    rcases Nat.eq_zero_or_pos n with h | h
    · subst h; simp [digs_zero, joinVal]
    · rw [digs_pos hb h, joinVal, ih _ (Nat.div_lt_self h (by omega)), Int.toNat_natCast, Nat.mod_add_div]
end Go.Proofs.Ytdpkcnjoklnoeaa
