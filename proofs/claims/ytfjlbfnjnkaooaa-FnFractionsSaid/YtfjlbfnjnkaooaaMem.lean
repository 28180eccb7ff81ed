/- Words for memory, over any program: a slice that reads as a list of cells; what a call that returns new rows leaves. -/
import Derived.WalkKit
import Derived.WalkSpells
import Derived.WalkLawsBesides
import Derived.Lib.Hide
import Derived.Deep.Draws
import Derived.Laws.CopyOwn
namespace Go.Proofs.Ytfjlbfnjnkaooaa
open Go.RowKit

/-- The slice value '.slice A n c' reads as the cells vs. -/
def Rd (w : World) (A : Option Addr) (n : Nat) (vs : List Value) : Prop :=
  vs.length = n ∧ (0 < n → ∃ b off, A = some ⟨b, off, none⟩ ∧ b < w.heap.size ∧ ∀ j u, vs[j]? = some u → w.cell? ⟨b, off + j, none⟩ = some u)

theorem Rd.len {w : World} {A : Option Addr} {n : Nat} {vs : List Value} (h : Rd w A n vs) : vs.length = n := h.1
theorem Rd.below {w w' : World} {A : Option Addr} {n B : Nat} {vs : List Value} (h : Rd w A n vs) (hb : Below B w w') (hB : w.heap.size ≤ B) : Rd w' A n vs := by
  refine ⟨h.1, fun hn => ?_⟩
  obtain ⟨b, off, e, hlt, hc⟩ := h.2 hn
  exact ⟨b, off, e, Nat.lt_of_lt_of_le hlt hb.size, fun j u hu => (hb.cell (p := ⟨b, off + j, none⟩) (Nat.lt_of_lt_of_le hlt hB)).trans (hc j u hu)⟩
theorem Rd.drew {w : World} {A : Option Addr} {n : Nat} {vs : List Value} (h : Rd w A n vs) : Rd w.drew A n vs := h
theorem Rd.alloc {w : World} {A : Option Addr} {n : Nat} {vs : List Value} (h : Rd w A n vs) (o : Obj) : Rd (w.alloc o) A n vs :=
  h.below (Below.alloc (Below.refl w.heap.size w) (Nat.le_refl _) o) (Nat.le_refl _)
theorem Rd.nil (w : World) (A : Option Addr) : Rd w A 0 [] := ⟨rfl, fun h => absurd h (by omega)⟩
theorem Rd.at_ {w : World} {A : Option Addr} {n : Nat} {vs : List Value} (h : Rd w A n vs) {k : Nat} {u : Value} (hu : vs[k]? = some u) :
    ∃ b off, A = some ⟨b, off, none⟩ ∧ b < w.heap.size ∧ w.cell? ⟨b, off + k, none⟩ = some u := by
  have hk : k < vs.length := by rw [List.getElem?_eq_some_iff] at hu; exact hu.1
  obtain ⟨b, off, e, hlt, hc⟩ := h.2 (by have := h.1; omega)
  exact ⟨b, off, e, hlt, hc k u hu⟩

theorem own_rd {w : World} {base e n c : Nat} {A : Option Addr} {vs : List Value} (h : w.ownsRow base e 1 (.slice A n c) n vs) : Rd w A n vs := by
  refine ⟨by simpa using h.1, fun hn => ?_⟩
  rcases h.2 with ⟨h', h0⟩ | ⟨g, cap, cur, h', hb, hg, hnc, hcm, hcs, htake⟩
  · omega
  · injection h' with h1 h2 h3
    subst h1 h3
    refine ⟨g, 0, rfl, (Array.getElem?_eq_some_iff.1 hg).1, fun j u hu => ?_⟩
    rw [Nat.zero_add, cell_of_row w g j cur e (0, 0) hg, ← Array.getElem?_toList]
    rw [← htake, List.getElem?_take] at hu
    split at hu
    · exact hu
    · cases hu

theorem own_below {w w' : World} {base e n c B : Nat} {A : Option Addr} {vs : List Value} (h : w.ownsRow base e 1 (.slice A n c) n vs) (hb : Below B w w') (hB : w.heap.size ≤ B) : w'.ownsRow base e 1 (.slice A n c) n vs := by
  refine ⟨h.1, ?_⟩
  rcases h.2 with h' | ⟨g, cap, cur, h', hbs, hg, r⟩
  · exact .inl h'
  · exact .inr ⟨g, cap, cur, h', hbs, (hb.block g (Nat.lt_of_lt_of_le (Array.getElem?_eq_some_iff.1 hg).1 hB)).trans hg, r⟩

/-- What is owned from a greater number on is owned from a smaller one on. -/
theorem own_base {w : World} {base base' e n : Nat} {v : Value} {vs : List Value} (h : w.ownsRow base e 1 v n vs) (hb : base' ≤ base) : w.ownsRow base' e 1 v n vs := by
  refine ⟨h.1, ?_⟩
  rcases h.2 with h' | ⟨g, cap, cur, h', hbs, r⟩
  · exact .inl h'
  · exact .inr ⟨g, cap, cur, h', by omega, r⟩

/-- An owned slice value has the form of a slice. -/
theorem own_form {w : World} {base e n : Nat} {v : Value} {vs : List Value} (h : w.ownsRow base e 1 v n vs) : ∃ A c, v = .slice A n c ∧ n ≤ c ∧ vs.length = n := by
  rcases h.2 with ⟨rfl, rfl⟩ | ⟨g, cap, cur, rfl, _, _, hnc, _⟩
  · exact ⟨none, 0, rfl, Nat.le_refl _, by simpa using h.1⟩
  · exact ⟨_, cap, rfl, hnc, by simpa using h.1⟩

/-- A cut of an owned row from its head. -/
theorem own_take {w : World} {base e n c : Nat} {A : Option Addr} {vs : List Value} (h : w.ownsRow base e 1 (.slice A n c) n vs) {k : Nat} (hk : k ≤ n) : w.ownsRow base e 1 (.slice A k c) k (vs.take k) := by
  have hl : vs.length = n := by simpa using h.1
  refine ⟨by simp; omega, ?_⟩
  rcases h.2 with ⟨h', h0⟩ | ⟨g, cap, cur, h', hb, hg, hnc, hcm, hcs, htake⟩
  · injection h' with h1 h2 h3
    exact .inl ⟨by rw [h1, h3]; congr 1; omega, by omega⟩
  · injection h' with h1 h2 h3
    subst h1 h3
    refine .inr ⟨g, c, cur, rfl, hb, hg, by omega, hcm, hcs, ?_⟩
    rw [← htake, List.take_take]; congr 1; omega

theorem own_get {w : World} {base e n c : Nat} {A : Option Addr} {vs : List Value} (h : w.ownsRow base e 1 (.slice A n c) n vs) {k : Nat} {u : Value} (hu : vs[k]? = some u) :
    ∃ g, A = some ⟨g, 0, none⟩ ∧ base ≤ g ∧ g < w.heap.size ∧ w.cell? ⟨g, k, none⟩ = some u ∧ w.frozen? ⟨g, k, none⟩ = false := by
  have hl : vs.length = n := by simpa using h.1
  have hk : k < n := by rw [List.getElem?_eq_some_iff] at hu; have := hu.1; omega
  rcases h.2 with ⟨h', h0⟩ | ⟨g, cap, cur, h', hb, hg, r⟩
  · omega
  · injection h' with h1 h2 h3
    subst h1 h3
    exact ⟨g, rfl, hb, (Array.getElem?_eq_some_iff.1 hg).1, by rw [h.cellAt k (by omega), hu], h.frozenAt k⟩
theorem own_put {w : World} {base e n c g : Nat} {vs : List Value} (h : w.ownsRow base e 1 (.slice (some ⟨g, 0, none⟩) n c) n vs) (k : Nat) (u : Value) :
    (w.setCell ⟨g, k, none⟩ u).ownsRow base e 1 (.slice (some ⟨g, 0, none⟩) n c) n (vs.set k u) := (h.stored k u).1

/-- A literal slice that the call has just laid. -/
theorem own_lit (w : World) (cs : Array Value) (n : Nat) (e : TypeId) (hn : cs.size = n) (hm : n ≤ 1099511627776) : (w.alloc (.cells cs e)).ownsRow w.heap.size e 1 (.slice (some ⟨w.heap.size, 0, none⟩) n n) n cs.toList :=
  World.ownsRow_lit w cs n (Nat.le_refl _) (by unfold maxLen; omega) (by omega)
theorem below_new (w : World) (o : Obj) : Below w.heap.size w (w.alloc o) := (Below.refl _ _).alloc (Nat.le_refl _) _

/-- A draw ahead of a call is no change of memory. -/
theorem below_undrew {B : Nat} {w w' : World} (h : Below B w.drew w') : Below B w w' := ⟨h.os, h.tape, h.output, h.size, h.block⟩
theorem below_undrewN {B n : Nat} {w w' : World} (h : Below B (w.drewN n) w') : Below B w w' := ⟨h.os, h.tape, h.output, h.size, h.block⟩

/-- What a call that returns one new row of one-cell elements leaves. -/
def RetS (w : World) (e : TypeId) (vs : List Value) (en : Ending) (w' : World) : Prop :=
  ∃ A n c, en = .returned (.slice A n c) ∧ w'.ownsRow w.heap.size e 1 (.slice A n c) n vs ∧ Below w.heap.size w w'

/-- What a call that only reads leaves. -/
def RetV (w : World) (v : Value) (en : Ending) (w' : World) : Prop := en = .returned v ∧ Below w.heap.size w w'

abbrev ints (xs : List Int) : List Value := xs.map (Value.int .i64)

/-- What the laws on make and append want to know of an element type of one cell: t is the slice type, e the element's. -/
def Elt (P : Program) (t e : TypeId) (z : Value) : Prop := P.underlying t = some (.slice e) ∧ z.cells = #[z] ∧ ∃ i, P.info? e = some i ∧ i.zero = some z ∧ i.size = 1 ∧ i.bytes ≤ 24
theorem Elt.mk_ {P : Program} {t e : TypeId} {z : Value} {b : Nat} (h1 : P.underlying t = some (.slice e)) (h2 : (P.info? e).map (fun i => (i.zero, i.size, i.bytes)) = some (some z, 1, b)) (h3 : z.cells = #[z]) (h4 : b ≤ 24) : Elt P t e z := by
  obtain ⟨i, hi, hz, hs, hb⟩ := info_parts h2
  exact ⟨h1, h3, i, hi, hz, hs, by omega⟩

theorem below_grown {base : Nat} {W w' : World} {row : Option Nat} (hg : W.grownBy w' row) (hB : base ≤ W.heap.size) (hr : ∀ k, row = some k → base ≤ k) : Below base W w' :=
  (Below.refl base W).grown hg hB hr

/-- 'append(s, y)': s is nil or a row of the call's own. -/
theorem wpList_app1 {P : Program} {ops : Array Oper} {rest : List Oper} {o : Oper} {a : Act} {Q : Exit → Act → World → Prop} {t e : TypeId} {z : Value} (hE : Elt P t e z) (hgd : o.guard = none) (s x : Operand)
    (ho : o.op = .call { callee := .builtin .append, args := #[s, x], argTypes := #[t, t] }) (W : World) (base : Nat) (v : Value) (n : Nat) (vs : List Value) (hs : a.eval s = v) (hown : W.ownsRow base e 1 v n vs)
    (y : Value) (hy : y.oneCell' = true) (hx : a.eval x = .slice (some ⟨W.heap.size, 0, none⟩) 1 1) (hbase : base ≤ W.heap.size) (hn : n ≤ 1099511627776)
    (h : ∀ A c w', w'.ownsRow base e 1 (.slice A (n + 1) c) (n + 1) (vs ++ [y]) → Below base W w' → wpList P ops Q rest (a.put o.dst (.slice A (n + 1) c)) w') :
    wpList P ops Q (o :: rest) a (W.alloc (.cells #[y] e)) := by
  obtain ⟨ht, hzc, i, hi, hz, hs1, hb⟩ := hE
  refine wpList_append_own _ hgd s x t ho base e i z 1 i.bytes ht hi hz hs1 rfl (by rw [hzc]; rfl) (by decide) v n vs hs (hown.alloc _) ⟨W.heap.size, 0, none⟩ 1 1 [y] hx rfl (cell_one_new _ _ _) (by simpa using hy) (by unfold maxLen; omega) ?_ (by simp; omega) ?_
  · have : (n + 1) * i.bytes ≤ (n + 1) * 24 := Nat.mul_le_mul_left _ hb
    omega
  · intro v' w' ho' hg _
    obtain ⟨A, c, rfl, _, _⟩ := own_form ho'
    refine h A c w' ho' ?_
    exact ((Below.refl base W).alloc hbase _).grown hg (by simp; omega) (fun k hk => ((hown.lt k hk).1))

/-- 'append(s, src...)': the source is any slice that reads as cells. -/
theorem wpList_appS {P : Program} {ops : Array Oper} {rest : List Oper} {o : Oper} {a : Act} {Q : Exit → Act → World → Prop} {t e : TypeId} {z : Value} (hE : Elt P t e z) (hgd : o.guard = none) (s x : Operand)
    (ho : o.op = .call { callee := .builtin .append, args := #[s, x], argTypes := #[t, t] }) (W : World) (base : Nat) (v : Value) (n : Nat) (vs : List Value) (hs : a.eval s = v) (hown : W.ownsRow base e 1 v n vs)
    (A0 : Option Addr) (m c0 : Nat) (us : List Value) (hx : a.eval x = .slice A0 m c0) (hr : Rd W A0 m us) (hu : ∀ u ∈ us, u.oneCell' = true) (hbase : base ≤ W.heap.size) (hn : n + m ≤ 1099511627776)
    (h : ∀ A c w', w'.ownsRow base e 1 (.slice A (n + m) c) (n + m) (vs ++ us) → Below base W w' → wpList P ops Q rest (a.put o.dst (.slice A (n + m) c)) w') :
    wpList P ops Q (o :: rest) a W := by
  obtain ⟨ht, hzc, i, hi, hz, hs1, hb⟩ := hE
  rcases Nat.eq_zero_or_pos m with hm | hm
  · subst hm
    have hus : us = [] := List.eq_nil_of_length_eq_zero (by simpa using hr.1)
    subst hus
    obtain ⟨A, c, rfl, hnc, _⟩ := own_form hown
    have hrun : (Builtin.append_ #[t, t] o.type #[.slice A n c, .slice A0 0 c0]).run P W = .ok (.slice A n c) W := by
      rcases hown.2 with ⟨h', h0⟩ | ⟨g, cap, cur, h', _⟩
      · injection h' with h1 h2 h3
        subst h1 h2 h3
        cases A0 <;> simp [Builtin.append_, run_underlying ht, sizeOf, typeInfo, hi, Builtin.lenOf, Builtin.firstCells, loadCells, loadCellsFrom]
      · injection h' with h1 h2 h3
        subst h1 h3
        cases A0 <;> simp [Builtin.append_, run_underlying ht, sizeOf, typeInfo, hi, Builtin.lenOf, Builtin.firstCells, loadCells, loadCellsFrom, hnc, storeCells]
    refine wpList_plain hgd fun K hK => ?_
    unfold Oper.wp execOp
    simp only [ho, resolve, invoke, builtin, Sem.run_bind, Sem.run_pure, Result.andThen_ok, List.map_toArray, List.map_cons, List.map_nil, hs, hx, hrun]
    exact hK _ _ (h A c W (by simpa using hown) (Below.refl _ _))
  · obtain ⟨b, off, rfl, hlt, hc⟩ := hr.2 hm
    refine wpList_append_own _ hgd s x t ho base e i z 1 i.bytes ht hi hz hs1 rfl (by rw [hzc]; rfl) (by decide) v n vs hs hown ⟨b, off, none⟩ m c0 us hx (by simpa using hr.1) ?_ hu (by unfold maxLen; omega) ?_ hbase ?_
    · intro j u hj
      have := hc j u hj
      unfold Addr.add
      split
      · rename_i h0; subst h0; simpa using this
      · exact this
    · have : (n + m) * i.bytes ≤ (n + m) * 24 := Nat.mul_le_mul_left _ hb
      omega
    · intro v' w' ho' hg _
      obtain ⟨A, c, rfl, _, _⟩ := own_form ho'
      exact h A c w' ho' (below_grown hg hbase (fun k hk => (hown.lt k hk).1))

/-- 'make([]T, n)'. -/
theorem wpList_mk {P : Program} {ops : Array Oper} {rest : List Oper} {o : Oper} {a : Act} {Q : Exit → Act → World → Prop} {t e : TypeId} {z : Value} (hE : Elt P t e z) (hgd : o.guard = none) (l c : Operand) (ho : o.op = .makeSlice t l c)
    (w : World) (L C : Int) (n : Nat) (hl : a.eval l = .int .i64 L) (hc : a.eval c = .int .i64 C) (hL : L = (n : Int)) (hC : C = (n : Int)) (hn : n ≤ 1099511627776)
    (h : ∀ w', w'.ownsRow w.heap.size e 1 (.slice (some ⟨w.heap.size, 0, none⟩) n n) n (List.replicate n z) → Below w.heap.size w w' → w.heap.size < w'.heap.size → wpList P ops Q rest (a.put o.dst (.slice (some ⟨w.heap.size, 0, none⟩) n n)) w') :
    wpList P ops Q (o :: rest) a w := by
  obtain ⟨ht, hzc, i, hi, hz, hs1, hb⟩ := hE
  have hbn : i.bytes * n ≤ 24 * n := Nat.mul_le_mul_right _ hb
  refine wpList_make_full _ hgd l c t ho w.heap.size e i z 1 ht hi hz hs1 .i64 .i64 L C n hl hc hL hC (by omega) (by unfold maxLen; omega) (Nat.le_refl _) ?_
  intro w' ho' hg
  have hz1 : (madeCells z.cells (n * 1)).toList = List.replicate n z := by
    rw [hzc, Nat.mul_one, toList_madeCells_one]
  rw [hz1] at ho'
  exact h w' ho' (below_grown hg (Nat.le_refl _) (by simp)) (by have := (ho'.lt w.heap.size rfl).2; exact this)

/-- 'copy(dst, src)': dst a row of the call's own, at least as long as the source. -/
theorem wpList_cp {P : Program} {ops : Array Oper} {rest : List Oper} {o : Oper} {a : Act} {Q : Exit → Act → World → Prop} {t e : TypeId} {z : Value} (hE : Elt P t e z) (hgd : o.guard = none) (d s : Operand)
    (ho : o.op = .call { callee := .builtin .copy, args := #[d, s], argTypes := #[t, t] }) (W : World) (base g n c : Nat) (vs : List Value) (hd : a.eval d = .slice (some ⟨g, 0, none⟩) n c) (hown : W.ownsRow base e 1 (.slice (some ⟨g, 0, none⟩) n c) n vs)
    (A0 : Option Addr) (m c0 : Nat) (us : List Value) (hs : a.eval s = .slice A0 m c0) (hr : Rd W A0 m us) (hu : ∀ u ∈ us, u.oneCell' = true) (hmn : m ≤ n)
    (h : ∀ w', w'.ownsRow base e 1 (.slice (some ⟨g, 0, none⟩) n c) n (us ++ vs.drop m) → Below base W w' → wpList P ops Q rest (a.put o.dst (goInt m)) w') :
    wpList P ops Q (o :: rest) a W := by
  obtain ⟨ht, hzc, i, hi, hz, hs1, hb⟩ := hE
  have hl : vs.length = n := by simpa using hown.1
  rcases hown.2 with ⟨h', h0⟩ | ⟨g', cap, cur, h', hbs, hg, hnc, hcm, hcs, htake⟩
  · injection h' with h1
    cases h1
  · injection h' with h1 h2 h3
    injection h1 with h1
    injection h1 with h1
    subst h1 h3
    have hul : us.length = m := hr.1
    have hcl : cur.toList.length = c := by simpa using hcs
    refine wpList_copy_splice hgd d s t t ho e ht (by rw [hi]; simp [hs1]) _ _ n c m c0 hd hs g 0 cur.toList e (by simpa using hg) us (by rw [hul]; exact (Nat.min_eq_left hmn).symm) ?_ (by omega) hu base W (Below.refl _ _) hbs ?_
    · intro hpos
      obtain ⟨b, off, e1, hlt, hc⟩ := hr.2 (by omega)
      refine ⟨rfl, _, e1, fun j v hj => ?_⟩
      have := hc j v hj
      unfold Addr.add
      split
      · rename_i h0; subst h0; simpa using this
      · exact this
    · intro w' hg' hb'
      rw [hul]
      refine h w' ⟨by simp; omega, .inr ⟨g, c, _, rfl, hbs, hg'.out, hnc, hcm, ?_, ?_⟩⟩ hb'
      · simp [splice]; omega
      · rw [← htake]
        simp only [splice, List.take_zero, List.nil_append, Nat.zero_add, Nat.mul_one]
        rw [List.take_append, List.take_of_length_le (by omega), List.drop_take, hul]

end Go.Proofs.Ytfjlbfnjnkaooaa
