/- Texts in one file: Mem, Mem2, Ret, LawB, LawI, MemS, FlatM, Foot, Open, OpenF. -/
import Derived.WalkKit
import Derived.WalkSpells
import Derived.WalkLawsBesides
import Derived.Lib.Hide
import Derived.Deep.Draws
import Derived.Laws.CopyOwn
import Derived.Test.YtadmbphefpfbmaaGreatDoorRows
import Derived.Deep.QuietTactic
import Derived.BigQuiet
import Derived.Deep.RegionHeld3
import Derived.Deep.DeepCutAuto
import Derived.OneCell
import Derived.OpenShut
import Derived.Deep.Slices
import Derived.ChangeArms
import Derived.WideShapes
import Derived.Deep.Fields
import Derived.Lib.SmallJoins
/- Words for memory, over any program: a slice that reads as a list of cells; what a call that returns new rows leaves. -/
namespace Go.Proofs.YtadmbphefpfbmaaGreatDoor
open Go.RowKit

/-- The slice value '.slice A n c' reads as the cells vs. -/
def Rd (w : World) (A : Option Addr) (n : Nat) (vs : List Value) : Prop :=
  vs.length = n ∧ (0 < n → ∃ b off, A = some ⟨b, off, none⟩ ∧ b < w.heap.size ∧ ∀ j u, vs[j]? = some u → w.cell? ⟨b, off + j, none⟩ = some u)

theorem Rd.len {w : World} {A : Option Addr} {n : Nat} {vs : List Value} (h : Rd w A n vs) : vs.length = n := h.1
theorem Rd.below {w w' : World} {A : Option Addr} {n B : Nat} {vs : List Value} (h : Rd w A n vs) (hb : Below B w w') (hB : w.heap.size ≤ B) : Rd w' A n vs := by
  refine ⟨h.1, fun hn => ?_⟩
  obtain ⟨b, off, e, hlt, hc⟩ := h.2 hn
  exact ⟨b, off, e, Nat.lt_of_lt_of_le hlt hb.size, fun j u hu => (hb.cell (p := ⟨b, off + j, none⟩) (Nat.lt_of_lt_of_le hlt hB)).trans (hc j u hu)⟩
theorem Rd.drew {w : World} {A : Option Addr} {n : Nat} {vs : List Value} (h : Rd w A n vs) : Rd w.drew A n vs := h
theorem Rd.alloc {w : World} {A : Option Addr} {n : Nat} {vs : List Value} (h : Rd w A n vs) (o : Obj) : Rd (w.alloc o) A n vs :=
  h.below (Below.alloc (Below.refl w.heap.size w) (Nat.le_refl _) o) (Nat.le_refl _)
theorem Rd.nil (w : World) (A : Option Addr) : Rd w A 0 [] := ⟨rfl, fun h => absurd h (by omega)⟩
theorem Rd.at_ {w : World} {A : Option Addr} {n : Nat} {vs : List Value} (h : Rd w A n vs) {k : Nat} {u : Value} (hu : vs[k]? = some u) :
    ∃ b off, A = some ⟨b, off, none⟩ ∧ b < w.heap.size ∧ w.cell? ⟨b, off + k, none⟩ = some u := by
  have hk : k < vs.length := by rw [List.getElem?_eq_some_iff] at hu; exact hu.1
  obtain ⟨b, off, e, hlt, hc⟩ := h.2 (by have := h.1; omega)
  exact ⟨b, off, e, hlt, hc k u hu⟩

theorem own_rd {w : World} {base e n c : Nat} {A : Option Addr} {vs : List Value} (h : w.ownsRow base e 1 (.slice A n c) n vs) : Rd w A n vs := by
  refine ⟨by simpa using h.1, fun hn => ?_⟩
  rcases h.2 with ⟨h', h0⟩ | ⟨g, cap, cur, h', hb, hg, hnc, hcm, hcs, htake⟩
  · omega
  · injection h' with h1 h2 h3
    subst h1 h3
    refine ⟨g, 0, rfl, (Array.getElem?_eq_some_iff.1 hg).1, fun j u hu => ?_⟩
    rw [Nat.zero_add, cell_of_row w g j cur e (0, 0) hg, ← Array.getElem?_toList]
    rw [← htake, List.getElem?_take] at hu
    split at hu
    · exact hu
    · cases hu

theorem own_below {w w' : World} {base e n c B : Nat} {A : Option Addr} {vs : List Value} (h : w.ownsRow base e 1 (.slice A n c) n vs) (hb : Below B w w') (hB : w.heap.size ≤ B) : w'.ownsRow base e 1 (.slice A n c) n vs := by
  refine ⟨h.1, ?_⟩
  rcases h.2 with h' | ⟨g, cap, cur, h', hbs, hg, r⟩
  · exact .inl h'
  · exact .inr ⟨g, cap, cur, h', hbs, (hb.block g (Nat.lt_of_lt_of_le (Array.getElem?_eq_some_iff.1 hg).1 hB)).trans hg, r⟩

/-- What is owned from a greater number on is owned from a smaller one on. -/
theorem own_base {w : World} {base base' e n : Nat} {v : Value} {vs : List Value} (h : w.ownsRow base e 1 v n vs) (hb : base' ≤ base) : w.ownsRow base' e 1 v n vs := by
  refine ⟨h.1, ?_⟩
  rcases h.2 with h' | ⟨g, cap, cur, h', hbs, r⟩
  · exact .inl h'
  · exact .inr ⟨g, cap, cur, h', by omega, r⟩

/-- An owned slice value has the form of a slice. -/
theorem own_form {w : World} {base e n : Nat} {v : Value} {vs : List Value} (h : w.ownsRow base e 1 v n vs) : ∃ A c, v = .slice A n c ∧ n ≤ c ∧ vs.length = n := by
  rcases h.2 with ⟨rfl, rfl⟩ | ⟨g, cap, cur, rfl, _, _, hnc, _⟩
  · exact ⟨none, 0, rfl, Nat.le_refl _, by simpa using h.1⟩
  · exact ⟨_, cap, rfl, hnc, by simpa using h.1⟩

/-- A cut of an owned row from its head. -/
theorem own_take {w : World} {base e n c : Nat} {A : Option Addr} {vs : List Value} (h : w.ownsRow base e 1 (.slice A n c) n vs) {k : Nat} (hk : k ≤ n) : w.ownsRow base e 1 (.slice A k c) k (vs.take k) := by
  have hl : vs.length = n := by simpa using h.1
  refine ⟨by simp; omega, ?_⟩
  rcases h.2 with ⟨h', h0⟩ | ⟨g, cap, cur, h', hb, hg, hnc, hcm, hcs, htake⟩
  · injection h' with h1 h2 h3
    exact .inl ⟨by rw [h1, h3]; congr 1; omega, by omega⟩
  · injection h' with h1 h2 h3
    subst h1 h3
    refine .inr ⟨g, c, cur, rfl, hb, hg, by omega, hcm, hcs, ?_⟩
    rw [← htake, List.take_take]; congr 1; omega

theorem own_get {w : World} {base e n c : Nat} {A : Option Addr} {vs : List Value} (h : w.ownsRow base e 1 (.slice A n c) n vs) {k : Nat} {u : Value} (hu : vs[k]? = some u) :
    ∃ g, A = some ⟨g, 0, none⟩ ∧ base ≤ g ∧ g < w.heap.size ∧ w.cell? ⟨g, k, none⟩ = some u ∧ w.frozen? ⟨g, k, none⟩ = false := by
  have hl : vs.length = n := by simpa using h.1
  have hk : k < n := by rw [List.getElem?_eq_some_iff] at hu; have := hu.1; omega
  rcases h.2 with ⟨h', h0⟩ | ⟨g, cap, cur, h', hb, hg, r⟩
  · omega
  · injection h' with h1 h2 h3
    subst h1 h3
    exact ⟨g, rfl, hb, (Array.getElem?_eq_some_iff.1 hg).1, by rw [h.cellAt k (by omega), hu], h.frozenAt k⟩
theorem own_put {w : World} {base e n c g : Nat} {vs : List Value} (h : w.ownsRow base e 1 (.slice (some ⟨g, 0, none⟩) n c) n vs) (k : Nat) (u : Value) :
    (w.setCell ⟨g, k, none⟩ u).ownsRow base e 1 (.slice (some ⟨g, 0, none⟩) n c) n (vs.set k u) := (h.stored k u).1

/-- A literal slice that the call has just laid. -/
theorem own_lit (w : World) (cs : Array Value) (n : Nat) (e : TypeId) (hn : cs.size = n) (hm : n ≤ 1099511627776) : (w.alloc (.cells cs e)).ownsRow w.heap.size e 1 (.slice (some ⟨w.heap.size, 0, none⟩) n n) n cs.toList :=
  World.ownsRow_lit w cs n (Nat.le_refl _) (by unfold maxLen; omega) (by omega)
theorem below_new (w : World) (o : Obj) : Below w.heap.size w (w.alloc o) := (Below.refl _ _).alloc (Nat.le_refl _) _

/-- A draw ahead of a call is no change of memory. -/
theorem below_undrew {B : Nat} {w w' : World} (h : Below B w.drew w') : Below B w w' := ⟨h.os, h.tape, h.output, h.size, h.block⟩
theorem below_undrewN {B n : Nat} {w w' : World} (h : Below B (w.drewN n) w') : Below B w w' := ⟨h.os, h.tape, h.output, h.size, h.block⟩

/-- What a call that returns one new row of one-cell elements leaves. -/
def RetS (w : World) (e : TypeId) (vs : List Value) (en : Ending) (w' : World) : Prop :=
  ∃ A n c, en = .returned (.slice A n c) ∧ w'.ownsRow w.heap.size e 1 (.slice A n c) n vs ∧ Below w.heap.size w w'

/-- What a call that only reads leaves. -/
def RetV (w : World) (v : Value) (en : Ending) (w' : World) : Prop := en = .returned v ∧ Below w.heap.size w w'

abbrev ints (xs : List Int) : List Value := xs.map (Value.int .i64)

/-- What the laws on make and append want to know of an element type of one cell: t is the slice type, e the element's. -/
def Elt (P : Program) (t e : TypeId) (z : Value) : Prop := P.underlying t = some (.slice e) ∧ z.cells = #[z] ∧ ∃ i, P.info? e = some i ∧ i.zero = some z ∧ i.size = 1 ∧ i.bytes ≤ 24
theorem Elt.mk_ {P : Program} {t e : TypeId} {z : Value} {b : Nat} (h1 : P.underlying t = some (.slice e)) (h2 : (P.info? e).map (fun i => (i.zero, i.size, i.bytes)) = some (some z, 1, b)) (h3 : z.cells = #[z]) (h4 : b ≤ 24) : Elt P t e z := by
  obtain ⟨i, hi, hz, hs, hb⟩ := info_parts h2
  exact ⟨h1, h3, i, hi, hz, hs, by omega⟩

theorem below_grown {base : Nat} {W w' : World} {row : Option Nat} (hg : W.grownBy w' row) (hB : base ≤ W.heap.size) (hr : ∀ k, row = some k → base ≤ k) : Below base W w' :=
  (Below.refl base W).grown hg hB hr

/-- 'append(s, y)': s is nil or a row of the call's own. -/
theorem wpList_app1 {P : Program} {ops : Array Oper} {rest : List Oper} {o : Oper} {a : Act} {Q : Exit → Act → World → Prop} {t e : TypeId} {z : Value} (hE : Elt P t e z) (hgd : o.guard = none) (s x : Operand)
    (ho : o.op = .call { callee := .builtin .append, args := #[s, x], argTypes := #[t, t] }) (W : World) (base : Nat) (v : Value) (n : Nat) (vs : List Value) (hs : a.eval s = v) (hown : W.ownsRow base e 1 v n vs)
    (y : Value) (hy : y.oneCell' = true) (hx : a.eval x = .slice (some ⟨W.heap.size, 0, none⟩) 1 1) (hbase : base ≤ W.heap.size) (hn : n ≤ 1099511627776)
    (h : ∀ A c w', w'.ownsRow base e 1 (.slice A (n + 1) c) (n + 1) (vs ++ [y]) → Below base W w' → wpList P ops Q rest (a.put o.dst (.slice A (n + 1) c)) w') :
    wpList P ops Q (o :: rest) a (W.alloc (.cells #[y] e)) := by
  obtain ⟨ht, hzc, i, hi, hz, hs1, hb⟩ := hE
  refine wpList_append_own _ hgd s x t ho base e i z 1 i.bytes ht hi hz hs1 rfl (by rw [hzc]; rfl) (by decide) v n vs hs (hown.alloc _) ⟨W.heap.size, 0, none⟩ 1 1 [y] hx rfl (cell_one_new _ _ _) (by simpa using hy) (by unfold maxLen; omega) ?_ (by simp; omega) ?_
  · have : (n + 1) * i.bytes ≤ (n + 1) * 24 := Nat.mul_le_mul_left _ hb
    omega
  · intro v' w' ho' hg _
    obtain ⟨A, c, rfl, _, _⟩ := own_form ho'
    refine h A c w' ho' ?_
    exact ((Below.refl base W).alloc hbase _).grown hg (by simp; omega) (fun k hk => ((hown.lt k hk).1))

/-- 'append(s, src...)': the source is any slice that reads as cells. -/
theorem wpList_appS {P : Program} {ops : Array Oper} {rest : List Oper} {o : Oper} {a : Act} {Q : Exit → Act → World → Prop} {t e : TypeId} {z : Value} (hE : Elt P t e z) (hgd : o.guard = none) (s x : Operand)
    (ho : o.op = .call { callee := .builtin .append, args := #[s, x], argTypes := #[t, t] }) (W : World) (base : Nat) (v : Value) (n : Nat) (vs : List Value) (hs : a.eval s = v) (hown : W.ownsRow base e 1 v n vs)
    (A0 : Option Addr) (m c0 : Nat) (us : List Value) (hx : a.eval x = .slice A0 m c0) (hr : Rd W A0 m us) (hu : ∀ u ∈ us, u.oneCell' = true) (hbase : base ≤ W.heap.size) (hn : n + m ≤ 1099511627776)
    (h : ∀ A c w', w'.ownsRow base e 1 (.slice A (n + m) c) (n + m) (vs ++ us) → Below base W w' → wpList P ops Q rest (a.put o.dst (.slice A (n + m) c)) w') :
    wpList P ops Q (o :: rest) a W := by
  obtain ⟨ht, hzc, i, hi, hz, hs1, hb⟩ := hE
  rcases Nat.eq_zero_or_pos m with hm | hm
  · subst hm
    have hus : us = [] := List.eq_nil_of_length_eq_zero (by simpa using hr.1)
    subst hus
    obtain ⟨A, c, rfl, hnc, _⟩ := own_form hown
    have hrun : (Builtin.append_ #[t, t] o.type #[.slice A n c, .slice A0 0 c0]).run P W = .ok (.slice A n c) W := by
      rcases hown.2 with ⟨h', h0⟩ | ⟨g, cap, cur, h', _⟩
      · injection h' with h1 h2 h3
        subst h1 h2 h3
        cases A0 <;> simp [Builtin.append_, run_underlying ht, sizeOf, typeInfo, hi, Builtin.lenOf, Builtin.firstCells, loadCells, loadCellsFrom]
      · injection h' with h1 h2 h3
        subst h1 h3
        cases A0 <;> simp [Builtin.append_, run_underlying ht, sizeOf, typeInfo, hi, Builtin.lenOf, Builtin.firstCells, loadCells, loadCellsFrom, hnc, storeCells]
    refine wpList_plain hgd fun K hK => ?_
    unfold Oper.wp execOp
    simp only [ho, resolve, invoke, builtin, Sem.run_bind, Sem.run_pure, Result.andThen_ok, List.map_toArray, List.map_cons, List.map_nil, hs, hx, hrun]
    exact hK _ _ (h A c W (by simpa using hown) (Below.refl _ _))
  · obtain ⟨b, off, rfl, hlt, hc⟩ := hr.2 hm
    refine wpList_append_own _ hgd s x t ho base e i z 1 i.bytes ht hi hz hs1 rfl (by rw [hzc]; rfl) (by decide) v n vs hs hown ⟨b, off, none⟩ m c0 us hx (by simpa using hr.1) ?_ hu (by unfold maxLen; omega) ?_ hbase ?_
    · intro j u hj
      have := hc j u hj
      unfold Addr.add
      split
      · rename_i h0; subst h0; simpa using this
      · exact this
    · have : (n + m) * i.bytes ≤ (n + m) * 24 := Nat.mul_le_mul_left _ hb
      omega
    · intro v' w' ho' hg _
      obtain ⟨A, c, rfl, _, _⟩ := own_form ho'
      exact h A c w' ho' (below_grown hg hbase (fun k hk => (hown.lt k hk).1))

/-- 'make([]T, n)'. -/
theorem wpList_mk {P : Program} {ops : Array Oper} {rest : List Oper} {o : Oper} {a : Act} {Q : Exit → Act → World → Prop} {t e : TypeId} {z : Value} (hE : Elt P t e z) (hgd : o.guard = none) (l c : Operand) (ho : o.op = .makeSlice t l c)
    (w : World) (L C : Int) (n : Nat) (hl : a.eval l = .int .i64 L) (hc : a.eval c = .int .i64 C) (hL : L = (n : Int)) (hC : C = (n : Int)) (hn : n ≤ 1099511627776)
    (h : ∀ w', w'.ownsRow w.heap.size e 1 (.slice (some ⟨w.heap.size, 0, none⟩) n n) n (List.replicate n z) → Below w.heap.size w w' → w.heap.size < w'.heap.size → wpList P ops Q rest (a.put o.dst (.slice (some ⟨w.heap.size, 0, none⟩) n n)) w') :
    wpList P ops Q (o :: rest) a w := by
  obtain ⟨ht, hzc, i, hi, hz, hs1, hb⟩ := hE
  have hbn : i.bytes * n ≤ 24 * n := Nat.mul_le_mul_right _ hb
  refine wpList_make_full _ hgd l c t ho w.heap.size e i z 1 ht hi hz hs1 .i64 .i64 L C n hl hc hL hC (by omega) (by unfold maxLen; omega) (Nat.le_refl _) ?_
  intro w' ho' hg
  have hz1 : (madeCells z.cells (n * 1)).toList = List.replicate n z := by
    rw [hzc, Nat.mul_one, toList_madeCells_one]
  rw [hz1] at ho'
  exact h w' ho' (below_grown hg (Nat.le_refl _) (by simp)) (by have := (ho'.lt w.heap.size rfl).2; exact this)

/-- 'copy(dst, src)': dst a row of the call's own, at least as long as the source. -/
theorem wpList_cp {P : Program} {ops : Array Oper} {rest : List Oper} {o : Oper} {a : Act} {Q : Exit → Act → World → Prop} {t e : TypeId} {z : Value} (hE : Elt P t e z) (hgd : o.guard = none) (d s : Operand)
    (ho : o.op = .call { callee := .builtin .copy, args := #[d, s], argTypes := #[t, t] }) (W : World) (base g n c : Nat) (vs : List Value) (hd : a.eval d = .slice (some ⟨g, 0, none⟩) n c) (hown : W.ownsRow base e 1 (.slice (some ⟨g, 0, none⟩) n c) n vs)
    (A0 : Option Addr) (m c0 : Nat) (us : List Value) (hs : a.eval s = .slice A0 m c0) (hr : Rd W A0 m us) (hu : ∀ u ∈ us, u.oneCell' = true) (hmn : m ≤ n)
    (h : ∀ w', w'.ownsRow base e 1 (.slice (some ⟨g, 0, none⟩) n c) n (us ++ vs.drop m) → Below base W w' → wpList P ops Q rest (a.put o.dst (goInt m)) w') :
    wpList P ops Q (o :: rest) a W := by
  obtain ⟨ht, hzc, i, hi, hz, hs1, hb⟩ := hE
  have hl : vs.length = n := by simpa using hown.1
  rcases hown.2 with ⟨h', h0⟩ | ⟨g', cap, cur, h', hbs, hg, hnc, hcm, hcs, htake⟩
  · injection h' with h1
    cases h1
  · injection h' with h1 h2 h3
    injection h1 with h1
    injection h1 with h1
    subst h1 h3
    have hul : us.length = m := hr.1
    have hcl : cur.toList.length = c := by simpa using hcs
    refine wpList_copy_splice hgd d s t t ho e ht (by rw [hi]; simp [hs1]) _ _ n c m c0 hd hs g 0 cur.toList e (by simpa using hg) us (by rw [hul]; exact (Nat.min_eq_left hmn).symm) ?_ (by omega) hu base W (Below.refl _ _) hbs ?_
    · intro hpos
      obtain ⟨b, off, e1, hlt, hc⟩ := hr.2 (by omega)
      refine ⟨rfl, _, e1, fun j v hj => ?_⟩
      have := hc j v hj
      unfold Addr.add
      split
      · rename_i h0; subst h0; simpa using this
      · exact this
    · intro w' hg' hb'
      rw [hul]
      refine h w' ⟨by simp; omega, .inr ⟨g, c, _, rfl, hbs, hg'.out, hnc, hcm, ?_, ?_⟩⟩ hb'
      · simp [splice]; omega
      · rw [← htake]
        simp only [splice, List.take_zero, List.nil_append, Nat.zero_add, Nat.mul_one]
        rw [List.take_append, List.take_of_length_le (by omega), List.drop_take, hul]

end Go.Proofs.YtadmbphefpfbmaaGreatDoor
/- Words for memory, more: an append that says which row alone it may write. -/
namespace Go.Proofs.YtadmbphefpfbmaaGreatDoor
open Go.RowKit

theorem grown_alloc_trans {W w' : World} {o : Obj} {row : Option Nat} (hg : (W.alloc o).grownBy w' row) : W.grownBy w' row := by
  refine ⟨hg.os, hg.tape, hg.output, Nat.le_trans (by simp) hg.size, fun k hk hne => ?_⟩
  rw [hg.block k (by simp; omega) hne]
  exact Below.heap_alloc W o k hk

/-- 'append(s, y)' once more: nothing but s's own row is written. -/
theorem wpList_app1g {P : Program} {ops : Array Oper} {rest : List Oper} {o : Oper} {a : Act} {Q : Exit → Act → World → Prop} {t e : TypeId} {z : Value} (hE : Elt P t e z) (hgd : o.guard = none) (s x : Operand)
    (ho : o.op = .call { callee := .builtin .append, args := #[s, x], argTypes := #[t, t] }) (W : World) (base : Nat) (v : Value) (n : Nat) (vs : List Value) (hs : a.eval s = v) (hown : W.ownsRow base e 1 v n vs)
    (y : Value) (hy : y.oneCell' = true) (hx : a.eval x = .slice (some ⟨W.heap.size, 0, none⟩) 1 1) (hbase : base ≤ W.heap.size) (hn : n ≤ 1099511627776)
    (h : ∀ A c w', w'.ownsRow base e 1 (.slice A (n + 1) c) (n + 1) (vs ++ [y]) → Below base W w' → W.grownBy w' v.ownBlock → wpList P ops Q rest (a.put o.dst (.slice A (n + 1) c)) w') :
    wpList P ops Q (o :: rest) a (W.alloc (.cells #[y] e)) := by
  obtain ⟨ht, hzc, i, hi, hz, hs1, hb⟩ := hE
  refine wpList_append_own _ hgd s x t ho base e i z 1 i.bytes ht hi hz hs1 rfl (by rw [hzc]; rfl) (by decide) v n vs hs (hown.alloc _) ⟨W.heap.size, 0, none⟩ 1 1 [y] hx rfl (cell_one_new _ _ _) (by simpa using hy) (by unfold maxLen; omega) ?_ (by simp; omega) ?_
  · have : (n + 1) * i.bytes ≤ (n + 1) * 24 := Nat.mul_le_mul_left _ hb
    omega
  · intro v' w' ho' hg _
    obtain ⟨A, c, rfl, _, _⟩ := own_form ho'
    have hg' := grown_alloc_trans hg
    exact h A c w' ho' (below_grown hg' hbase (fun k hk => ((hown.lt k hk).1))) hg'

/-- A row of the call's own stays while another one is written. -/
theorem own_apart {w w' : World} {lo e n : Nat} {v v2 : Value} {vs : List Value} (h : w.ownsRow lo e 1 v n vs) (hg : w.grownBy w' v2.ownBlock) (hne : ∀ k, v.ownBlock = some k → v2.ownBlock = some k → False) : w'.ownsRow lo e 1 v n vs := by
  refine h.kept hg ?_
  cases hv : v.ownBlock with
  | none => exact .inl rfl
  | some k => exact .inr fun he => hne k hv he.symm
end Go.Proofs.YtadmbphefpfbmaaGreatDoor
/- Small words that all texts share: bounds, the tests within, l00In, allWithin; results that are a list and a code. -/
namespace Go.Proofs.YtadmbphefpfbmaaGreatDoor
open Go.RowKit

theorem drop_get {α : Type} {xs : List α} {k : Nat} {x : α} (h : xs[k]? = some x) : xs.drop k = x :: xs.drop (k + 1) := by
  obtain ⟨hk, rfl⟩ := List.getElem?_eq_some_iff.1 h
  exact List.drop_eq_getElem_cons hk
theorem get_some {α : Type} {xs : List α} {k : Nat} (h : k < xs.length) : ∃ u, xs[k]? = some u := ⟨xs[k], by simp⟩
theorem ints_get {xs : List Int} {k : Nat} {x : Int} (h : xs[k]? = some x) : (ints xs)[k]? = some (.int .i64 x) := by simp [h]
def inB (n lo hi : Int) : Bool := decide (lo ≤ n ∧ n ≤ hi)
theorem inB_true {n lo hi : Int} : inB n lo hi = true ↔ lo ≤ n ∧ n ≤ hi := by simp [inB]
theorem inB_false {n lo hi : Int} : inB n lo hi = false ↔ ¬ (lo ≤ n ∧ n ≤ hi) := by simp [inB]
def allIn (xs : List Int) (lo hi : Int) : Bool := xs.all fun x => inB x lo hi
theorem allIn_true {xs : List Int} {lo hi : Int} : allIn xs lo hi = true ↔ ∀ x ∈ xs, lo ≤ x ∧ x ≤ hi := by simp [allIn, inB]
theorem allIn_take_step {xs : List Int} {lo hi x : Int} {k : Nat} (h : allIn (xs.take k) lo hi = true) (hx : xs[k]? = some x) (hi' : inB x lo hi = true) : allIn (xs.take (k + 1)) lo hi = true := by
  rw [List.take_add_one, hx]
  simp only [allIn, List.all_append, Bool.and_eq_true] at h ⊢
  exact ⟨h, by simp [hi']⟩
theorem allIn_out {xs : List Int} {lo hi x : Int} {k : Nat} (hx : xs[k]? = some x) (hi' : inB x lo hi = false) : allIn xs lo hi = false := by
  obtain ⟨hk, rfl⟩ := List.getElem?_eq_some_iff.1 hx
  simp only [allIn, List.all_eq_false]
  exact ⟨_, List.getElem_mem hk, by simp [hi']⟩

set_option maxHeartbeats 400000 in
theorem within_any (w : World) (n lo hi : Int) : Calls Tryz.prog 46 #[.int .i64 n, .int .i64 lo, .int .i64 hi] w fun e w' => e = .returned (.bool (inB n lo hi)) ∧ w = w' := by
  by_cases h1 : lo ≤ n
  · have b1 : decide (lo ≤ n) = true := by simpa using h1
    by_cases h2 : n ≤ hi
    · have b2 : decide (n ≤ hi) = true := by simpa using h2
      have HB := Lib.hid (inB_true.2 ⟨h1, h2⟩)
      clear h1 h2
      go_enter Tryz.func46, Tryz.ntmps46
      go_wp2_with fail
      go_ret
      exact ⟨by rw [HB.out]; rfl, rfl⟩
    · have b2 : decide (n ≤ hi) = false := by simpa using h2
      have HB := Lib.hid (inB_false.2 (fun h => h2 h.2) : inB n lo hi = false)
      clear h1 h2
      go_enter Tryz.func46, Tryz.ntmps46
      go_wp2_with fail
      go_ret
      exact ⟨by rw [HB.out]; rfl, rfl⟩
  · have b1 : decide (lo ≤ n) = false := by simpa using h1
    have HB := Lib.hid (inB_false.2 (fun h => h1 h.1) : inB n lo hi = false)
    clear h1
    go_enter Tryz.func46, Tryz.ntmps46
    go_wp2_with fail
    go_ret
    exact ⟨by rw [HB.out]; rfl, rfl⟩

set_option maxHeartbeats 400000 in
theorem l00In_any (w : World) (n lo hi : Int) : Calls Tryz.prog 42 #[.int .i64 n, .int .i64 lo, .int .i64 hi] w fun e w' => e = .returned (.bool (inB n lo hi)) ∧ w = w' := by
  by_cases h1 : lo ≤ n
  · have b1 : decide (lo ≤ n) = true := by simpa using h1
    by_cases h2 : n ≤ hi
    · have b2 : decide (n ≤ hi) = true := by simpa using h2
      have HB := Lib.hid (inB_true.2 ⟨h1, h2⟩)
      clear h1 h2
      go_enter Tryz.func42, Tryz.ntmps42
      go_wp2_with fail
      go_ret
      exact ⟨by rw [HB.out]; rfl, rfl⟩
    · have b2 : decide (n ≤ hi) = false := by simpa using h2
      have HB := Lib.hid (inB_false.2 (fun h => h2 h.2) : inB n lo hi = false)
      clear h1 h2
      go_enter Tryz.func42, Tryz.ntmps42
      go_wp2_with fail
      go_ret
      exact ⟨by rw [HB.out]; rfl, rfl⟩
  · have b1 : decide (lo ≤ n) = false := by simpa using h1
    have HB := Lib.hid (inB_false.2 (fun h => h1 h.1) : inB n lo hi = false)
    clear h1
    go_enter Tryz.func42, Tryz.ntmps42
    go_wp2_with fail
    go_ret
    exact ⟨by rw [HB.out]; rfl, rfl⟩

/-- A list and a code. -/
def RetSI (w : World) (e : TypeId) (vs : List Value) (code : Int) (en : Ending) (w' : World) : Prop :=
  ∃ A n c, en = .returned (.tuple #[.slice A n c, .int .i64 code]) ∧ w'.ownsRow w.heap.size e 1 (.slice A n c) n vs ∧ Below w.heap.size w w'
theorem own_nil (w : World) (base e : Nat) : w.ownsRow base e 1 (.slice none 0 0) 0 [] := World.ownsRow_nil w base e 1
/-- A list and a bool. -/
def RetSB (w : World) (e : TypeId) (vs : List Value) (ok : Bool) (en : Ending) (w' : World) : Prop :=
  ∃ A n c, en = .returned (.tuple #[.slice A n c, .bool ok]) ∧ w'.ownsRow w.heap.size e 1 (.slice A n c) n vs ∧ Below w.heap.size w w'
/-- Memory outside a range of blocks is as it was. -/
structure Outside (lo hi : Nat) (w w' : World) : Prop where
  os : w'.os = w.os
  tape : w'.tape = w.tape
  output : w'.output = w.output
  size : w.heap.size ≤ w'.heap.size
  block : ∀ k, k < w.heap.size → (k < lo ∨ hi ≤ k) → w'.heap[k]? = w.heap[k]?
theorem Outside.refl (lo hi : Nat) (w : World) : Outside lo hi w w := ⟨rfl, rfl, rfl, Nat.le_refl _, fun _ _ _ => rfl⟩
theorem Outside.trans {lo hi : Nat} {a b c : World} (h : Outside lo hi a b) (k : Outside lo hi b c) : Outside lo hi a c :=
  ⟨k.os.trans h.os, k.tape.trans h.tape, k.output.trans h.output, Nat.le_trans h.size k.size, fun i hi' ho => (k.block i (Nat.lt_of_lt_of_le hi' h.size) ho).trans (h.block i hi' ho)⟩
theorem out_grown {lo hi : Nat} {w w' : World} {row : Option Nat} (hg : w.grownBy w' row) (hr : ∀ k, row = some k → lo ≤ k ∧ k < hi) : Outside lo hi w w' :=
  ⟨hg.os, hg.tape, hg.output, hg.size, fun k hk ho => hg.block k hk (fun e => by have := hr k e.symm; omega)⟩
theorem below_out {B lo hi : Nat} {a w w' : World} (h : Below B a w) (ho : Outside lo hi w w') (hB : B ≤ lo) (hs : B ≤ w.heap.size) : Below B a w' :=
  h.trans ⟨ho.os, ho.tape, ho.output, ho.size, fun k hk => ho.block k (by omega) (.inl (by omega))⟩
theorem own_out {w w' : World} {base e n lo hi a b : Nat} {v : Value} {vs : List Value} (h : w.ownsRow base e 1 v n vs) (hr : ∀ k, v.ownBlock = some k → a ≤ k ∧ k < b) (ho : Outside lo hi w w') (hd : b ≤ lo ∨ hi ≤ a) : w'.ownsRow base e 1 v n vs := by
  refine ⟨h.1, ?_⟩
  rcases h.2 with h' | ⟨g, cap, cur, rfl, hb, hg, r⟩
  · exact .inl h'
  · have := hr g rfl
    exact .inr ⟨g, cap, cur, rfl, hb, (ho.block g (Array.getElem?_eq_some_iff.1 hg).1 (by omega)).trans hg, r⟩
theorem own_set_far {w : World} {base e n g i T : Nat} {v u : Value} {vs : List Value} {cs : Array Value} (h : w.ownsRow base e 1 v n vs) (hgp : w.heap[g]? = some (.cells cs T (0, 0))) (hT : T ≠ e) : (w.setCell ⟨g, i, none⟩ u).ownsRow base e 1 v n vs := by
  refine ⟨h.1, ?_⟩
  rcases h.2 with h' | ⟨g', cap, cur, h', hb, hg', r⟩
  · exact .inl h'
  · refine .inr ⟨g', cap, cur, h', hb, ?_, r⟩
    rw [Below.heap_setCell _ _ _ _ (fun e1 => ?_)]
    · exact hg'
    · simp at e1; subst e1
      rw [hgp] at hg'
      injection hg' with hg'
      injection hg' with _ h2
      exact hT h2
theorem blk_lt {w : World} {g T : Nat} {cs : Array Value} {f : Nat × Nat} (h : w.heap[g]? = some (.cells cs T f)) : g < w.heap.size := (Array.getElem?_eq_some_iff.1 h).1
theorem blk_below {w w' : World} {g T B : Nat} {cs : Array Value} (h : w.heap[g]? = some (.cells cs T (0, 0))) (hb : Below B w w') (hg : g < B) : w'.heap[g]? = some (.cells cs T (0, 0)) := (hb.block g hg).trans h
theorem blk_far {w : World} {g T : Nat} {cs : Array Value} {p : Addr} {u : Value} (h : w.heap[g]? = some (.cells cs T (0, 0))) (hne : g ≠ p.block) : (w.setCell p u).heap[g]? = some (.cells cs T (0, 0)) := (Below.heap_setCell w p u g hne).trans h
theorem blk_alloc {w : World} {g T : Nat} {cs : Array Value} (h : w.heap[g]? = some (.cells cs T (0, 0))) (o : Obj) : (w.alloc o).heap[g]? = some (.cells cs T (0, 0)) := (Below.heap_alloc w o g (blk_lt h)).trans h
theorem blk_ne {w : World} {g g' T T' : Nat} {cs cs' : Array Value} (h : w.heap[g]? = some (.cells cs T (0, 0))) (h' : w.heap[g']? = some (.cells cs' T' (0, 0))) (hT : T ≠ T') : g ≠ g' := by
  rintro rfl
  rw [h] at h'
  injection h' with h'
  injection h' with _ h2
  exact hT h2
theorem own_blk {w : World} {base e n c g : Nat} {vs : List Value} (h : w.ownsRow base e 1 (.slice (some ⟨g, 0, none⟩) n c) n vs) : ∃ cs, w.heap[g]? = some (.cells cs e (0, 0)) := by
  rcases h.2 with ⟨h', _⟩ | ⟨g', cap, cur, h', _, hg, _⟩
  · simp at h'
  · injection h' with h1
    injection h1 with h1
    injection h1 with h1
    subst h1
    exact ⟨cur, hg⟩
theorem outer_keep {w w' : World} {lo e T n : Nat} {v v2 : Value} {us : List Value} (h : w.ownsRow lo T 1 v n us) {m : Nat} {xs : List Value} (h2 : w.ownsRow lo e 1 v2 m xs) (hT : T ≠ e) (hg : w.grownBy w' v2.ownBlock) : w'.ownsRow lo T 1 v n us := by
  refine own_apart h hg (fun k a b => ?_)
  rcases h.2 with ⟨rfl, _⟩ | ⟨g, _, _, rfl, _, hg1, _⟩
  · simp [Value.ownBlock] at a
  · rcases h2.2 with ⟨rfl, _⟩ | ⟨g2, _, _, rfl, _, hg2, _⟩
    · simp [Value.ownBlock] at b
    · have e1 : g = k := by simpa [Value.ownBlock] using a
      have e2 : g2 = k := by simpa [Value.ownBlock] using b
      exact blk_ne hg1 hg2 hT (by omega)
end Go.Proofs.YtadmbphefpfbmaaGreatDoor
/- The contracts of the laws' own helpers on slices of bool: a copy, a comparison, marking and looking at the marks. -/
namespace Go.Proofs.YtadmbphefpfbmaaGreatDoor
open Go.RowKit
theorem Tryz.infoB : (Tryz.prog.info? 4).map (fun i => (i.zero, i.size, i.bytes)) = some (some (.bool false), 1, 1) := by kernel_rfl
theorem eltB : Elt Tryz.prog 22 4 (.bool false) := Elt.mk_ Tryz.underlying22 Tryz.infoB rfl (by omega)
abbrev bools (bs : List Bool) : List Value := bs.map Value.bool
theorem bools_one (bs : List Bool) : ∀ u ∈ bools bs, u.oneCell' = true := by
  intro u hu; obtain ⟨b, _, rfl⟩ := List.mem_map.1 hu; rfl

def fs (n : Nat) : List Bool := List.replicate n false
theorem fs_succ (n : Nat) : fs (n + 1) = false :: fs n := rfl
theorem fillB_step (xs : List Bool) (n k : Nat) (h : xs.length = n) (hk : k < n) (u : Bool) (hu : xs[k]? = some u) :
    (bools (xs.take k ++ fs (n - k))).set k (.bool u) = bools (xs.take (k + 1) ++ fs (n - (k + 1))) := by
  have hl : min k xs.length = k := by omega
  obtain ⟨m, hm⟩ : ∃ m, n - k = m + 1 := ⟨n - k - 1, by omega⟩
  rw [hm, show n - (k + 1) = m by omega, fs_succ, List.take_add_one, hu]
  simp [hl]
theorem fillB_get (xs : List Bool) (n k : Nat) (h : xs.length = n) (hk : k < n) : (bools (xs.take k ++ fs (n - k)))[k]? = some (.bool false) := by
  have hl : min k xs.length = k := by omega
  obtain ⟨m, hm⟩ : ∃ m, n - k = m + 1 := ⟨n - k - 1, by omega⟩
  rw [hm, fs_succ]
  simp [hl]

set_option maxHeartbeats 400000 in
theorem toBoolS_any (w : World) (A : Option Addr) (n c : Nat) (xs : List Bool) (hr : Rd w A n (bools xs)) (hn : n ≤ 1099511627776) :
    Calls Tryz.prog 8 #[.slice A n c] w (RetS w 4 (bools xs)) := by
  have hlen : xs.length = n := by simpa using hr.1
  have HL := Lib.hid hlen; clear hlen
  go_enter Tryz.func8, Tryz.ntmps8
  go_wp2_with (at_make; refine wpList_mk eltB (by rfl) _ _ (by rfl) _ _ _ n (by rfl) (by rfl) (by rfl) (by rfl) (by omega) ?_; rintro w1 hown1 hgrow1 hlt1)
  go_loopw [4] (fun i wr => ∃ k : Nat, k ≤ n ∧ i = .int .i64 k ∧ wr.ownsRow w.heap.size 4 1 (.slice (some ⟨w.heap.size, 0, none⟩) n n) n (bools (xs.take k ++ fs (n - k))) ∧ Below w.heap.size w wr) (fun i _ => n - (intOf i).toNat)
  case atStart =>
    exact ⟨0, Nat.zero_le _, rfl, by simpa [fs] using hown1, hgrow1⟩
  case round =>
    obtain ⟨k, hk, rfl, hown, hb⟩ := hrel
    clear hown1 hgrow1 hlt1
    by_cases hlt : k < n
    · have hu : xs[k]? = some (xs[k]'(by rw [HL.out]; exact hlt)) := by simp
      generalize xs[k]'(by rw [HL.out]; exact hlt) = u at hu
      obtain ⟨b, off, rfl, hbs, hc⟩ := hr.at_ (k := k) (u := .bool u) (by simp [hu])
      have hc1 := (hb.cell (p := ⟨b, off + k, none⟩) hbs).trans hc
      obtain ⟨g, hg, _, _, hc2, hc3⟩ := own_get hown (fillB_get xs n k HL.out hlt)
      obtain rfl : w.heap.size = g := by simpa using hg
      have HS := Lib.hid (own_put hown k (.bool u)); have HU := Lib.hid hu; have HB := Lib.hid hb
      clear hu hc hown hb hg
      go_wp2_with fail
      go_roundw
      case rel => exact ⟨k + 1, by omega, by go_num, by rw [← fillB_step xs n k HL.out hlt u HU.out]; exact HS.out, HB.out.setCell (Nat.le_refl _) _⟩
      case measure => simp [intOf]; omega
    · go_wp2_with fail
      go_ret
      obtain rfl : k = n := by omega
      refine ⟨some ⟨w.heap.size, 0, none⟩, k, k, rfl, ?_, hb⟩
      simpa [fs, List.take_of_length_le (Nat.le_of_eq HL.out)] using hown

set_option maxHeartbeats 400000 in
theorem eqBoolS_any (w : World) (A : Option Addr) (n c : Nat) (xs : List Bool) (hr : Rd w A n (bools xs)) (hn : n ≤ 1099511627776)
    (A' : Option Addr) (n' c' : Nat) (ys : List Bool) (hr' : Rd w A' n' (bools ys)) (hn' : n' ≤ 1099511627776) :
    Calls Tryz.prog 10 #[.slice A n c, .slice A' n' c'] w (RetV w (.bool (decide (xs = ys)))) := by
  have hlen : xs.length = n := by simpa using hr.1
  have hlen' : ys.length = n' := by simpa using hr'.1
  by_cases he : n = n'
  · subst he
    have HL := Lib.hid hlen; have HL' := Lib.hid hlen'; clear hlen hlen'
    go_enter Tryz.func10, Tryz.ntmps10
    go_wp2_with fail
    go_loopw [5] (fun i wr => ∃ k : Nat, k ≤ n ∧ i = .int .i64 k ∧ xs.take k = ys.take k ∧ Below w.heap.size w wr) (fun i _ => n - (intOf i).toNat)
    case atStart => exact ⟨0, Nat.zero_le _, rfl, by simp, Below.refl _ _⟩
    case round =>
      obtain ⟨k, hk, rfl, hsame, hb⟩ := hrel
      have HE := Lib.hid hsame; clear hsame
      by_cases hlt : k < n
      · have hu : xs[k]? = some (xs[k]'(by rw [HL.out]; exact hlt)) := by simp
        have hv : ys[k]? = some (ys[k]'(by rw [HL'.out]; exact hlt)) := by simp
        generalize xs[k]'(by rw [HL.out]; exact hlt) = u at hu
        generalize ys[k]'(by rw [HL'.out]; exact hlt) = v at hv
        obtain ⟨b, off, rfl, hbs, hc⟩ := hr.at_ (k := k) (u := .bool u) (by simp [hu])
        obtain ⟨b', off', rfl, hbs', hc'⟩ := hr'.at_ (k := k) (u := .bool v) (by simp [hv])
        have hc1 := (hb.cell (p := ⟨b, off + k, none⟩) hbs).trans hc
        have hc2 := (hb.cell (p := ⟨b', off' + k, none⟩) hbs').trans hc'
        have HU := Lib.hid hu; have HV := Lib.hid hv; have HB := Lib.hid hb
        clear hu hv hc hc' hb
        by_cases hne : u = v
        · subst hne
          cases u
          all_goals
            go_wp2_with fail
            go_quiet (fail)
            go_wp2_with fail
            go_roundw
            case rel => exact ⟨k + 1, by omega, by go_num, by rw [List.take_add_one, List.take_add_one, HU.out, HV.out, HE.out], by have := HB.out; exact ⟨this.os, this.tape, this.output, this.size, this.block⟩⟩
            case measure => simp [intOf]; omega
        · have HN : Hid (¬ xs = ys) := Lib.hid (fun e => hne (by have h1 := HU.out; rw [e, HV.out] at h1; simpa using h1.symm))
          cases u <;> cases v <;> first | exact absurd rfl hne | skip
          all_goals
            clear hne
            go_wp2_with fail
            go_quiet (fail)
            go_wp2_with fail
            go_ret
            exact ⟨by simp [HN.out], by have := HB.out; exact ⟨this.os, this.tape, this.output, this.size, this.block⟩⟩
      · go_wp2_with fail
        go_ret
        obtain rfl : k = n := by omega
        refine ⟨?_, hb⟩
        have : xs = ys := by
          have h := HE.out
          rwa [List.take_of_length_le (Nat.le_of_eq HL.out), List.take_of_length_le (Nat.le_of_eq HL'.out)] at h
        simp [this]
  · have h1 : ((n : Int) != (n' : Int)) = true := by simp; omega
    have hne : ¬ xs = ys := fun e => he (by rw [← hlen, ← hlen', e])
    have HN := Lib.hid hne
    clear hlen hlen' he hne
    go_enter Tryz.func10, Tryz.ntmps10
    go_wp2_with fail
    go_ret
    exact ⟨by simp [HN.out], Below.refl _ _⟩

theorem eqB_same (w : World) (A : Option Addr) (n c : Nat) (xs : List Bool) (hr : Rd w A n (bools xs)) (hn : n ≤ 1099511627776) (A' : Option Addr) (n' c' : Nat) (hr' : Rd w A' n' (bools xs)) :
    Calls Tryz.prog 10 #[.slice A n c, .slice A' n' c'] w (RetV w (.bool true)) := by
  have h := eqBoolS_any w A n c xs hr hn A' n' c' xs hr' (by have h1 := hr.1; have h2 := hr'.1; omega)
  simpa using h

/-- Whether k, k + 1, .. is a multiple of three, n times. -/
def third (k : Int) : Bool := (k % 3 == 0)
def upB : Int → Nat → List Bool
  | _, 0 => []
  | k, n + 1 => third k :: upB (k + 1) n
theorem upB_length (k : Int) (n : Nat) : (upB k n).length = n := by
  induction n generalizing k with
  | zero => rfl
  | succ n ih => simp [upB, ih]
theorem upB_get (k : Int) (n i : Nat) (h : i < n) : (upB k n)[i]? = some (third (k + i)) := by
  induction n generalizing k i with
  | zero => omega
  | succ n ih =>
    cases i with
    | zero => simp [upB]
    | succ i => simp only [upB, List.getElem?_cons_succ]; rw [ih _ _ (by omega)]; congr 2; omega
theorem markB_step (k : Int) (xs : List Bool) (n i : Nat) (h : xs.length = n) (hi : i < n) :
    (bools (upB k i ++ xs.drop i)).set i (.bool (third (k + i))) = bools (upB k (i + 1) ++ xs.drop (i + 1)) := by
  apply List.ext_getElem?
  intro j
  rw [List.getElem?_set]
  simp only [bools, List.getElem?_map, List.getElem?_append, upB_length, List.length_map, List.length_append, List.length_drop]
  by_cases h1 : i = j
  · subst h1
    rw [if_pos rfl, if_pos (by omega), if_pos (by omega), upB_get _ _ _ (by omega)]; rfl
  · rw [if_neg h1]
    by_cases h2 : j < i
    · rw [if_pos h2, if_pos (by omega), upB_get _ _ _ h2, upB_get _ _ _ (by omega)]
    · rw [if_neg h2, if_neg (by omega), List.getElem?_drop, List.getElem?_drop]; congr 2; omega
theorem markB_get (k : Int) (xs : List Bool) (n i : Nat) (h : xs.length = n) (hi : i < n) : ∃ u, (bools (upB k i ++ xs.drop i))[i]? = some (.bool u) := by
  refine ⟨xs[i]'(by omega), ?_⟩
  simp only [bools, List.getElem?_map, List.getElem?_append, upB_length]
  rw [if_neg (by omega), List.getElem?_drop]; simp

set_option maxHeartbeats 400000 in
theorem markBoolS_any (w : World) (base : Nat) (A : Option Addr) (n c : Nat) (xs : List Bool) (ho : w.ownsRow base 4 1 (.slice A n c) n (bools xs)) (hn : n ≤ 1099511627776) (k : Int) (hk0 : 0 ≤ k) (hk1 : k ≤ 1099511627776) :
    Calls Tryz.prog 11 #[.slice A n c, .int .i64 k] w fun e w' => e = .returned (.int .i64 (k + n)) ∧ w'.ownsRow base 4 1 (.slice A n c) n (bools (upB k n)) ∧ w.grownBy w' (Value.ownBlock (.slice A n c)) := by
  have hlen : xs.length = n := by simpa using ho.1
  have HL := Lib.hid hlen; clear hlen
  go_enter Tryz.func11, Tryz.ntmps11
  go_wp2_with fail
  go_loopw [1, 5] (fun q i wr => ∃ j : Nat, j ≤ n ∧ i = .int .i64 j ∧ q = .int .i64 (k + j) ∧ wr.ownsRow base 4 1 (.slice A n c) n (bools (upB k j ++ xs.drop j)) ∧ w.grownBy wr (Value.ownBlock (.slice A n c))) (fun _ i _ => n - (intOf i).toNat)
  case atStart => exact ⟨0, Nat.zero_le _, rfl, by simp, by simpa [upB] using ho, World.grownBy.refl _ _⟩
  case round =>
    obtain ⟨j, hj, rfl, rfl, hown, hg⟩ := hrel
    clear ho
    by_cases hlt : j < n
    · obtain ⟨u, hu⟩ := markB_get k xs n j HL.out hlt
      obtain ⟨g, rfl, hbg, hgs, hc2, hc3⟩ := own_get hown hu
      have HS := Lib.hid (own_put hown j (.bool (third (k + j)))); have HG := Lib.hid hg; have HG2 := Lib.hid (hown.stored j (.bool (third (k + j)))).2
      clear hu hown hg
      go_wp2_with fail
      go_roundw
      case rel => exact ⟨j + 1, by omega, by go_num, by go_num, by rw [← markB_step k xs n j HL.out hlt]; exact HS.out, HG.out.trans HG2.out⟩
      case measure => simp [intOf]; omega
    · go_wp2_with fail
      go_ret
      obtain rfl : j = n := by omega
      refine ⟨rfl, ?_, hg⟩
      simpa [List.drop_of_length_le (Nat.le_of_eq HL.out)] using hown

set_option maxHeartbeats 400000 in
theorem heldBoolS_any (w : World) (A : Option Addr) (n c : Nat) (k : Int) (hr : Rd w A n (bools (upB k n))) (hn : n ≤ 1099511627776) (hk0 : 0 ≤ k) (hk1 : k ≤ 1099511627776) :
    Calls Tryz.prog 12 #[.slice A n c, .int .i64 k] w (RetV w (.int .i64 (k + n))) := by
  go_enter Tryz.func12, Tryz.ntmps12
  go_wp2_with fail
  go_loopw [1, 5] (fun q i wr => ∃ j : Nat, j ≤ n ∧ i = .int .i64 j ∧ q = .int .i64 (k + j) ∧ Below w.heap.size w wr) (fun _ i _ => n - (intOf i).toNat)
  case atStart => exact ⟨0, Nat.zero_le _, rfl, by simp, Below.refl _ _⟩
  case round =>
    obtain ⟨j, hj, rfl, rfl, hb⟩ := hrel
    by_cases hlt : j < n
    · obtain ⟨b, off, rfl, hbs, hc⟩ := hr.at_ (k := j) (u := .bool (third (k + j))) (by simp [upB_get _ _ _ hlt])
      have hc1 : wr.cell? ⟨b, off + j, none⟩ = some (.bool ((k + (j : Int)) % 3 == 0)) := (hb.cell (p := ⟨b, off + j, none⟩) hbs).trans hc
      clear hc
      go_wp2_with fail
      go_roundw
      case rel => exact ⟨j + 1, by omega, by go_num, by go_num, hb⟩
      case measure => simp [intOf]; omega
    · go_wp2_with fail
      go_ret
      obtain rfl : j = n := by omega
      exact ⟨rfl, hb⟩
end Go.Proofs.YtadmbphefpfbmaaGreatDoor
/- The contracts of the laws' own helpers on slices of int64: a copy, a comparison, marking and looking at the marks. -/
namespace Go.Proofs.YtadmbphefpfbmaaGreatDoor
open Go.RowKit
theorem Tryz.infoI : (Tryz.prog.info? 2).map (fun i => (i.zero, i.size, i.bytes)) = some (some (.int .i64 0), 1, 8) := by kernel_rfl

def zs (n : Nat) : List Int := List.replicate n 0
theorem ints_zs (n : Nat) : (madeCells (Value.int .i64 0).cells (n * 1)).toList = ints (zs n) := by
  simp [zs, ints, Value.cells, toList_madeCells_one]
theorem zs_succ (n : Nat) : zs (n + 1) = 0 :: zs n := rfl
theorem fill_step (xs : List Int) (n k : Nat) (h : xs.length = n) (hk : k < n) (u : Int) (hu : xs[k]? = some u) :
    (ints (xs.take k ++ zs (n - k))).set k (.int .i64 u) = ints (xs.take (k + 1) ++ zs (n - (k + 1))) := by
  have hl : min k xs.length = k := by omega
  obtain ⟨m, hm⟩ : ∃ m, n - k = m + 1 := ⟨n - k - 1, by omega⟩
  rw [hm, show n - (k + 1) = m by omega, zs_succ, List.take_add_one, hu]
  simp [hl]
theorem fill_get (xs : List Int) (n k : Nat) (h : xs.length = n) (hk : k < n) : (ints (xs.take k ++ zs (n - k)))[k]? = some (.int .i64 0) := by
  have hl : min k xs.length = k := by omega
  obtain ⟨m, hm⟩ : ∃ m, n - k = m + 1 := ⟨n - k - 1, by omega⟩
  rw [hm, zs_succ]
  simp [hl]

/-- k, k + 1, .., n numbers. -/
def up : Int → Nat → List Int
  | _, 0 => []
  | k, n + 1 => k :: up (k + 1) n
theorem up_length (k : Int) (n : Nat) : (up k n).length = n := by
  induction n generalizing k with
  | zero => rfl
  | succ n ih => simp [up, ih]
theorem up_get (k : Int) (n i : Nat) (h : i < n) : (up k n)[i]? = some (k + i) := by
  induction n generalizing k i with
  | zero => omega
  | succ n ih =>
    cases i with
    | zero => simp [up]
    | succ i => simp only [up, List.getElem?_cons_succ]; rw [ih _ _ (by omega)]; congr 1; omega
theorem mark_step (k : Int) (xs : List Int) (n i : Nat) (h : xs.length = n) (hi : i < n) :
    (ints (up k i ++ xs.drop i)).set i (.int .i64 (k + i)) = ints (up k (i + 1) ++ xs.drop (i + 1)) := by
  apply List.ext_getElem?
  intro j
  rw [List.getElem?_set]
  simp only [ints, List.getElem?_map, List.getElem?_append, up_length, List.length_map, List.length_append, List.length_drop]
  by_cases h1 : i = j
  · subst h1
    rw [if_pos rfl, if_pos (by omega), if_pos (by omega), up_get _ _ _ (by omega)]; rfl
  · rw [if_neg h1]
    by_cases h2 : j < i
    · rw [if_pos h2, if_pos (by omega), up_get _ _ _ h2, up_get _ _ _ (by omega)]
    · rw [if_neg h2, if_neg (by omega), List.getElem?_drop, List.getElem?_drop]; congr 2; omega
theorem mark_get (k : Int) (xs : List Int) (n i : Nat) (h : xs.length = n) (hi : i < n) : ∃ u, (ints (up k i ++ xs.drop i))[i]? = some (.int .i64 u) := by
  refine ⟨xs[i]'(by omega), ?_⟩
  simp only [ints, List.getElem?_map, List.getElem?_append, up_length]
  rw [if_neg (by omega), List.getElem?_drop]; simp

/-- A slice of integers that came in reads as its elements. -/
theorem rd_of_row {w : World} {a : Option Addr} {len cap : Nat} {zs : List Int}
    (h : (a = none ∧ len = 0 ∧ cap = 0 ∧ zs = []) ∨ ∃ x, a = some x ∧ len ≤ cap ∧ cap ≤ maxLen ∧ zs.length = cap ∧ (∀ i, i < zs.length → w.cell? (x.add i) = some (.int .i64 (zs.getD i 0))) ∧ ∀ n ∈ zs, (Lit.int .i64 n).wf = true) :
    Rd w a len (ints (zs.take len)) := by
  rcases h with ⟨rfl, rfl, rfl, rfl⟩ | ⟨x, rfl, hlc, _, hz, hc, _⟩
  · exact Rd.nil _ _
  · refine ⟨by simp; omega, fun hn => ?_⟩
    obtain ⟨b, off, rfl, hc'⟩ := ints_at hc (by omega)
    refine ⟨b, off, rfl, ?_, fun j u hj => ?_⟩
    · have := hc' 0 (by omega)
      exact World.block_lt_of_cell? w _ this
    · simp only [ints, List.getElem?_map, List.getElem?_take] at hj
      split at hj
      · rename_i hjl
        have := hc' j (by omega)
        rw [this]
        have hjz : j < zs.length := by omega
        simp [hjz] at hj ⊢
        exact hj
      · cases hj

theorem mark_keep {w w' : World} {lo e n : Nat} {v v2 : Value} {vs : List Value} (h : w.ownsRow lo e 1 v n vs) (hg : w.grownBy w' v2.ownBlock) (hne : ∀ k, v.ownBlock = some k → v2.ownBlock = some k → False) : w'.ownsRow lo e 1 v n vs := by
  refine h.kept hg ?_
  cases hv : v.ownBlock with
  | none => exact .inl rfl
  | some k => exact .inr fun he => hne k hv he.symm
end Go.Proofs.YtadmbphefpfbmaaGreatDoor
/- Words for memory: rows whose elements are structs of s cells. A slice of n such elements reads as n * s cells. -/
namespace Go.Proofs.YtadmbphefpfbmaaGreatDoor
open Go.RowKit

theorem ownN_rd {w : World} {base e n c s : Nat} {A : Option Addr} {vs : List Value} (h : w.ownsRow base e s (.slice A n c) n vs) : Rd w A (n * s) vs := by
  refine ⟨h.1, fun hn => ?_⟩
  rcases h.2 with ⟨h', h0⟩ | ⟨g, cap, cur, h', hb, hg, hnc, hcm, hcs, htake⟩
  · subst h0; omega
  · injection h' with h1 h2 h3
    subst h1 h3
    refine ⟨g, 0, rfl, (Array.getElem?_eq_some_iff.1 hg).1, fun j u hu => ?_⟩
    rw [Nat.zero_add, cell_of_row w g j cur e (0, 0) hg, ← Array.getElem?_toList]
    rw [← htake, List.getElem?_take] at hu
    split at hu
    · exact hu
    · cases hu
theorem ownN_below {w w' : World} {base e n s B : Nat} {v : Value} {vs : List Value} (h : w.ownsRow base e s v n vs) (hb : Below B w w') (hB : w.heap.size ≤ B) : w'.ownsRow base e s v n vs := by
  refine ⟨h.1, ?_⟩
  rcases h.2 with h' | ⟨g, cap, cur, h', hbs, hg, r⟩
  · exact .inl h'
  · exact .inr ⟨g, cap, cur, h', hbs, (hb.block g (Nat.lt_of_lt_of_le (Array.getElem?_eq_some_iff.1 hg).1 hB)).trans hg, r⟩
theorem ownN_base {w : World} {base base' e n s : Nat} {v : Value} {vs : List Value} (h : w.ownsRow base e s v n vs) (hb : base' ≤ base) : w.ownsRow base' e s v n vs := by
  refine ⟨h.1, ?_⟩
  rcases h.2 with h' | ⟨g, cap, cur, h', hbs, r⟩
  · exact .inl h'
  · exact .inr ⟨g, cap, cur, h', by omega, r⟩
theorem ownN_form {w : World} {base e n s : Nat} {v : Value} {vs : List Value} (h : w.ownsRow base e s v n vs) : ∃ A c, v = .slice A n c ∧ n ≤ c ∧ vs.length = n * s := by
  rcases h.2 with ⟨rfl, rfl⟩ | ⟨g, cap, cur, rfl, _, _, hnc, _⟩
  · exact ⟨none, 0, rfl, Nat.le_refl _, h.1⟩
  · exact ⟨_, cap, rfl, hnc, h.1⟩
theorem ownN_get {w : World} {base e n c s : Nat} {A : Option Addr} {vs : List Value} (h : w.ownsRow base e s (.slice A n c) n vs) {k : Nat} {u : Value} (hu : vs[k]? = some u) :
    ∃ g, A = some ⟨g, 0, none⟩ ∧ base ≤ g ∧ g < w.heap.size ∧ w.cell? ⟨g, k, none⟩ = some u ∧ w.frozen? ⟨g, k, none⟩ = false := by
  have hk : k < n * s := by rw [List.getElem?_eq_some_iff] at hu; have := hu.1; rw [← h.1]; exact this
  rcases h.2 with ⟨h', h0⟩ | ⟨g, cap, cur, h', hb, hg, r⟩
  · subst h0; omega
  · injection h' with h1 h2 h3
    subst h1 h3
    exact ⟨g, rfl, hb, (Array.getElem?_eq_some_iff.1 hg).1, by rw [h.cellAt k hk, hu], h.frozenAt k⟩
theorem ownN_at {w : World} {base e n c g s : Nat} {vs : List Value} (h : w.ownsRow base e s (.slice (some ⟨g, 0, none⟩) n c) n vs) {k : Nat} {u : Value} (hu : vs[k]? = some u) : w.cell? ⟨g, k, none⟩ = some u ∧ w.frozen? ⟨g, k, none⟩ = false := by
  obtain ⟨g', hg, _, _, h1, h2⟩ := ownN_get h hu
  obtain rfl : g = g' := by simpa using hg
  exact ⟨h1, h2⟩
theorem ownN_put {w : World} {base e n c g s : Nat} {vs : List Value} (h : w.ownsRow base e s (.slice (some ⟨g, 0, none⟩) n c) n vs) (k : Nat) (u : Value) :
    (w.setCell ⟨g, k, none⟩ u).ownsRow base e s (.slice (some ⟨g, 0, none⟩) n c) n (vs.set k u) := (h.stored k u).1
theorem ownN_out {w w' : World} {base e n s lo hi a b : Nat} {v : Value} {vs : List Value} (h : w.ownsRow base e s v n vs) (hr : ∀ k, v.ownBlock = some k → a ≤ k ∧ k < b) (ho : Outside lo hi w w') (hd : b ≤ lo ∨ hi ≤ a) : w'.ownsRow base e s v n vs := by
  refine ⟨h.1, ?_⟩
  rcases h.2 with h' | ⟨g, cap, cur, rfl, hb, hg, r⟩
  · exact .inl h'
  · have := hr g rfl
    exact .inr ⟨g, cap, cur, rfl, hb, (ho.block g (Array.getElem?_eq_some_iff.1 hg).1 (by omega)).trans hg, r⟩
theorem ownN_nil (w : World) (base e s : Nat) : w.ownsRow base e s (.slice none 0 0) 0 [] := World.ownsRow_nil w base e s
theorem ownN_lit (w : World) (cs : Array Value) (n s : Nat) (e : TypeId) (hn : cs.size = n * s) (hm : n ≤ 1099511627776) : (w.alloc (.cells cs e)).ownsRow w.heap.size e s (.slice (some ⟨w.heap.size, 0, none⟩) n n) n cs.toList :=
  World.ownsRow_lit w cs n (Nat.le_refl _) (by unfold maxLen; omega) hn

/-- What the laws on make and append want to know of an element type of s cells. -/
def EltN (P : Program) (t e : TypeId) (z : Value) (s : Nat) : Prop := P.underlying t = some (.slice e) ∧ z.cells.size = s ∧ 0 < s ∧ ∃ i, P.info? e = some i ∧ i.zero = some z ∧ i.size = s ∧ i.bytes ≤ 64
theorem EltN.mk_ {P : Program} {t e : TypeId} {z : Value} {b s : Nat} (h1 : P.underlying t = some (.slice e)) (h2 : (P.info? e).map (fun i => (i.zero, i.size, i.bytes)) = some (some z, s, b)) (h3 : z.cells.size = s) (h0 : 0 < s) (h4 : b ≤ 64) : EltN P t e z s := by
  obtain ⟨i, hi, hz, hs, hb⟩ := info_parts h2
  exact ⟨h1, h3, h0, i, hi, hz, hs, by omega⟩

/-- 'append(s, y)': y a struct. -/
theorem wpList_app1N {P : Program} {ops : Array Oper} {rest : List Oper} {o : Oper} {a : Act} {Q : Exit → Act → World → Prop} {t e : TypeId} {z : Value} {s : Nat} (hE : EltN P t e z s) (hgd : o.guard = none) (l x : Operand)
    (ho : o.op = .call { callee := .builtin .append, args := #[l, x], argTypes := #[t, t] }) (W : World) (base : Nat) (v : Value) (n : Nat) (vs : List Value) (hs : a.eval l = v) (hown : W.ownsRow base e s v n vs)
    (ys : Array Value) (hys : ys.size = s) (hy : ∀ y ∈ ys.toList, y.oneCell' = true) (hx : a.eval x = .slice (some ⟨W.heap.size, 0, none⟩) 1 1) (hbase : base ≤ W.heap.size) (hn : n ≤ 1099511627776)
    (h : ∀ A c w', w'.ownsRow base e s (.slice A (n + 1) c) (n + 1) (vs ++ ys.toList) → Below base W w' → W.grownBy w' v.ownBlock → wpList P ops Q rest (a.put o.dst (.slice A (n + 1) c)) w') :
    wpList P ops Q (o :: rest) a (W.alloc (.cells ys e)) := by
  obtain ⟨ht, hzc, hs0, i, hi, hz, hs1, hb⟩ := hE
  refine wpList_append_own _ hgd l x t ho base e i z s i.bytes ht hi hz hs1 rfl hzc hs0 v n vs hs (hown.alloc _) ⟨W.heap.size, 0, none⟩ 1 1 ys.toList hx (by simpa using hys) ?_ hy (by unfold maxLen; omega) ?_ (by simp; omega) ?_
  · intro j u hj
    have hadd : (⟨W.heap.size, 0, none⟩ : Addr).add j = ⟨W.heap.size, j, none⟩ := by unfold Addr.add; split <;> simp_all
    rw [hadd, cell_of_row _ W.heap.size j ys e (0, 0) (heap_alloc_new W _)]
    simpa using hj
  · have : (n + 1) * i.bytes ≤ (n + 1) * 64 := Nat.mul_le_mul_left _ hb
    omega
  · intro v' w' ho' hg _
    obtain ⟨A, c, rfl, _, _⟩ := ownN_form ho'
    have hg' := grown_alloc_trans hg
    exact h A c w' ho' (below_grown hg' hbase (fun k hk => ((hown.lt k hk).1))) hg'

/-- 'make([]T, n)'. -/
theorem wpList_mkN {P : Program} {ops : Array Oper} {rest : List Oper} {o : Oper} {a : Act} {Q : Exit → Act → World → Prop} {t e : TypeId} {z : Value} {s : Nat} (hE : EltN P t e z s) (hgd : o.guard = none) (l c : Operand) (ho : o.op = .makeSlice t l c)
    (w : World) (L C : Int) (n : Nat) (hl : a.eval l = .int .i64 L) (hc : a.eval c = .int .i64 C) (hL : L = (n : Int)) (hC : C = (n : Int)) (hn : n ≤ 1099511627776)
    (h : ∀ w', w'.ownsRow w.heap.size e s (.slice (some ⟨w.heap.size, 0, none⟩) n n) n (madeCells z.cells (n * s)).toList → Below w.heap.size w w' → w.heap.size < w'.heap.size → wpList P ops Q rest (a.put o.dst (.slice (some ⟨w.heap.size, 0, none⟩) n n)) w') :
    wpList P ops Q (o :: rest) a w := by
  obtain ⟨ht, hzc, hs0, i, hi, hz, hs1, hb⟩ := hE
  have hbn : i.bytes * n ≤ 64 * n := Nat.mul_le_mul_right _ hb
  refine wpList_make_full _ hgd l c t ho w.heap.size e i z s ht hi hz hs1 .i64 .i64 L C n hl hc hL hC (by omega) (by unfold maxLen; omega) (Nat.le_refl _) ?_
  intro w' ho' hg
  exact h w' ho' (below_grown hg (Nat.le_refl _) (by simp)) (by have := (ho'.lt w.heap.size rfl).2; exact this)

/-- The cells that 'make' lays where all fields have the same zero. -/
theorem made_same (x : Value) (s n : Nat) (hs : 0 < s) : (madeCells (Array.replicate s x) n).toList = List.replicate n x := by
  apply List.ext_getElem?
  intro j
  by_cases hj : j < n
  · have hm : j % s < s := Nat.mod_lt _ hs
    simp [madeCells, hj, hm]
  · simp [madeCells, hj]

/-- What a call that returns one new row of structs leaves. -/
def RetN (w : World) (e : TypeId) (s : Nat) (vs : List Value) (en : Ending) (w' : World) : Prop :=
  ∃ A n c, en = .returned (.slice A n c) ∧ w'.ownsRow w.heap.size e s (.slice A n c) n vs ∧ Below w.heap.size w w'
def RetNI (w : World) (e : TypeId) (s : Nat) (vs : List Value) (code : Int) (en : Ending) (w' : World) : Prop :=
  ∃ A n c, en = .returned (.tuple #[.slice A n c, .int .i64 code]) ∧ w'.ownsRow w.heap.size e s (.slice A n c) n vs ∧ Below w.heap.size w w'
theorem ownN_apart {w w' : World} {lo e n s : Nat} {v v2 : Value} {vs : List Value} (h : w.ownsRow lo e s v n vs) (hg : w.grownBy w' v2.ownBlock) (hne : ∀ k, v.ownBlock = some k → v2.ownBlock = some k → False) : w'.ownsRow lo e s v n vs := by
  refine h.kept hg ?_
  cases hv : v.ownBlock with
  | none => exact .inl rfl
  | some k => exact .inr fun he => hne k hv he.symm
end Go.Proofs.YtadmbphefpfbmaaGreatDoor
/- Rows of structs of numbers, flat: filling and marking some cells at a time. -/
namespace Go.Proofs.YtadmbphefpfbmaaGreatDoor
open Go.RowKit
theorem fillN (xs : List Int) (N m s : Nat) (h : xs.length = N) (hm : m + s ≤ N) : ∀ j, j < s → (ints (xs.take m ++ zs (N - m)))[m + j]? = some (.int .i64 0) := by
  intro j hj
  simp only [ints, zs, List.map_append, List.map_replicate]
  rw [List.getElem?_append_right (by simp; omega)]
  simp only [List.length_map, List.length_take, List.getElem?_replicate]
  rw [if_pos (by omega)]
theorem fill2 {xs : List Int} {N m : Nat} (h : xs.length = N) (hm : m + 2 ≤ xs.length) {x0 x1 : Int} (h0 : xs[m]? = some x0) (h1 : xs[m + 1]? = some x1) :
    ((ints (xs.take m ++ zs (N - m))).set m (.int .i64 x0)).set (m + 1) (.int .i64 x1) = ints (xs.take (m + 2) ++ zs (N - (m + 2))) := by
  rw [fill_step xs N m h (by omega) _ h0, fill_step xs N (m + 1) h (by omega) _ h1]
theorem fill3 {xs : List Int} {N m : Nat} (h : xs.length = N) (hm : m + 3 ≤ xs.length) {x0 x1 x2 : Int} (h0 : xs[m]? = some x0) (h1 : xs[m + 1]? = some x1) (h2 : xs[m + 2]? = some x2) :
    (((ints (xs.take m ++ zs (N - m))).set m (.int .i64 x0)).set (m + 1) (.int .i64 x1)).set (m + 2) (.int .i64 x2) = ints (xs.take (m + 3) ++ zs (N - (m + 3))) := by
  rw [fill2 h (by omega) h0 h1, fill_step xs N (m + 2) h (by omega) _ h2]
theorem fill4 {xs : List Int} {N m : Nat} (h : xs.length = N) (hm : m + 4 ≤ xs.length) {x0 x1 x2 x3 : Int} (h0 : xs[m]? = some x0) (h1 : xs[m + 1]? = some x1) (h2 : xs[m + 2]? = some x2) (h3 : xs[m + 3]? = some x3) :
    ((((ints (xs.take m ++ zs (N - m))).set m (.int .i64 x0)).set (m + 1) (.int .i64 x1)).set (m + 2) (.int .i64 x2)).set (m + 3) (.int .i64 x3) = ints (xs.take (m + 4) ++ zs (N - (m + 4))) := by
  rw [fill3 h (by omega) h0 h1 h2, fill_step xs N (m + 3) h (by omega) _ h3]
theorem markN_get (k : Int) (xs : List Int) (N m i : Nat) (h : xs.length = N) (hi : m + i < N) : ∃ u, (ints (up k m ++ xs.drop m))[m + i]? = some (.int .i64 u) := by
  refine ⟨xs[m + i]'(by omega), ?_⟩
  simp only [ints, List.getElem?_map, List.getElem?_append, up_length]
  rw [if_neg (by omega), List.getElem?_drop, show m + (m + i - m) = m + i by omega]; simp
theorem mark_stepv {k v : Int} {xs : List Int} {n i : Nat} (h : xs.length = n) (hi : i < n) (hv : v = k + i) :
    (ints (up k i ++ xs.drop i)).set i (.int .i64 v) = ints (up k (i + 1) ++ xs.drop (i + 1)) := by subst hv; exact mark_step k xs n i h hi
theorem mark2 {k v0 v1 : Int} {xs : List Int} {N m : Nat} (h : xs.length = N) (hm : m + 2 ≤ N) (e0 : v0 = k + m) (e1 : v1 = k + m + 1) :
    ((ints (up k m ++ xs.drop m)).set m (.int .i64 v0)).set (m + 1) (.int .i64 v1) = ints (up k (m + 2) ++ xs.drop (m + 2)) := by
  rw [mark_stepv h (by omega) e0, mark_stepv h (by omega) (by omega)]
theorem mark3 {k v0 v1 v2 : Int} {xs : List Int} {N m : Nat} (h : xs.length = N) (hm : m + 3 ≤ N) (e0 : v0 = k + m) (e1 : v1 = k + m + 1) (e2 : v2 = k + m + 2) :
    (((ints (up k m ++ xs.drop m)).set m (.int .i64 v0)).set (m + 1) (.int .i64 v1)).set (m + 2) (.int .i64 v2) = ints (up k (m + 3) ++ xs.drop (m + 3)) := by
  rw [mark2 h (by omega) e0 e1, mark_stepv h (by omega) (by omega)]
theorem mark4 {k v0 v1 v2 v3 : Int} {xs : List Int} {N m : Nat} (h : xs.length = N) (hm : m + 4 ≤ N) (e0 : v0 = k + m) (e1 : v1 = k + m + 1) (e2 : v2 = k + m + 2) (e3 : v3 = k + m + 3) :
    ((((ints (up k m ++ xs.drop m)).set m (.int .i64 v0)).set (m + 1) (.int .i64 v1)).set (m + 2) (.int .i64 v2)).set (m + 3) (.int .i64 v3) = ints (up k (m + 4) ++ xs.drop (m + 4)) := by
  rw [mark3 h (by omega) e0 e1 e2, mark_stepv h (by omega) (by omega)]
theorem sI {a b : Int} (h : a = b) : some (Value.int .i64 a) = some (Value.int .i64 b) := by rw [h]
theorem grown_set (w : World) (g i : Nat) (u : Value) : w.grownBy (w.setCell ⟨g, i, none⟩ u) (some g) :=
  ⟨rfl, rfl, rfl, by simp, fun k _ hk => heap_setCell_other w ⟨g, i, none⟩ k u (fun e => hk (by simp [e]))⟩
end Go.Proofs.YtadmbphefpfbmaaGreatDoor
/- Footprints: what a call may write, as a set of blocks; boxes of variables. -/
namespace Go.Proofs.YtadmbphefpfbmaaGreatDoor
open Go.RowKit
set_option linter.unusedVariables false

/-- Nothing but the blocks of F is written; new blocks may be made. -/
structure Ch (F : Nat → Prop) (w w' : World) : Prop where
  os : w'.os = w.os
  tape : w'.tape = w.tape
  output : w'.output = w.output
  size : w.heap.size ≤ w'.heap.size
  block : ∀ k, k < w.heap.size → ¬ F k → w'.heap[k]? = w.heap[k]?
/-- The block of a row. -/
def Fo (v : Value) (k : Nat) : Prop := v.ownBlock = some k
def InR (lo hi k : Nat) : Prop := lo ≤ k ∧ k < hi
section
variable {F G : Nat → Prop} {w w' w2 : World} {B : Nat}
theorem Ch.refl (F : Nat → Prop) (w : World) : Ch F w w := ⟨rfl, rfl, rfl, Nat.le_refl _, fun _ _ _ => rfl⟩
theorem Ch.trans (h : Ch F w w') (k : Ch F w' w2) : Ch F w w2 :=
  ⟨k.os.trans h.os, k.tape.trans h.tape, k.output.trans h.output, Nat.le_trans h.size k.size, fun i hi ho => (k.block i (Nat.lt_of_lt_of_le hi h.size) ho).trans (h.block i hi ho)⟩
theorem Ch.mono (h : Ch F w w') (hFG : ∀ k, F k → G k) : Ch G w w' := ⟨h.os, h.tape, h.output, h.size, fun k hk hg => h.block k hk (fun hf => hg (hFG k hf))⟩
theorem ch_below (h : Below w.heap.size w w') : Ch F w w' := ⟨h.os, h.tape, h.output, h.size, fun k hk _ => h.block k hk⟩
theorem ch_row {v : Value} (h : w.grownBy w' v.ownBlock) : Ch (Fo v) w w' := ⟨h.os, h.tape, h.output, h.size, fun k hk hn => h.block k hk (fun e => hn e.symm)⟩
theorem ch_grown {row : Option Nat} (h : w.grownBy w' row) (hr : ∀ k, row = some k → F k) : Ch F w w' := ⟨h.os, h.tape, h.output, h.size, fun k hk hn => h.block k hk (fun e => hn (hr k e.symm))⟩
theorem below_ch {a : World} (h : Below B a w) (hc : Ch F w w') (hF : ∀ k, F k → B ≤ k) (hs : B ≤ w.heap.size) : Below B a w' :=
  h.trans ⟨hc.os, hc.tape, hc.output, hc.size, fun k hk => hc.block k (by omega) (fun hf => by have := hF k hf; omega)⟩
theorem own_ch {base e s n : Nat} {v : Value} {vs : List Value} (h : w.ownsRow base e s v n vs) (hc : Ch F w w') (hd : ∀ k, Fo v k → F k → False) : w'.ownsRow base e s v n vs := by
  refine ⟨h.1, ?_⟩
  rcases h.2 with h' | ⟨g, cap, cur, rfl, hb, hg, r⟩
  · exact .inl h'
  · exact .inr ⟨g, cap, cur, rfl, hb, (hc.block g (Array.getElem?_eq_some_iff.1 hg).1 (hd g rfl)).trans hg, r⟩
theorem blk_ch {g T : Nat} {cs : Array Value} (h : w.heap[g]? = some (.cells cs T (0, 0))) (hc : Ch F w w') (hd : ¬ F g) : w'.heap[g]? = some (.cells cs T (0, 0)) := (hc.block g (blk_lt h) hd).trans h
theorem blk_bel {g T : Nat} {cs : Array Value} (h : w.heap[g]? = some (.cells cs T (0, 0))) (hb : Below w.heap.size w w') : w'.heap[g]? = some (.cells cs T (0, 0)) := (hb.block g (blk_lt h)).trans h
theorem blk_cell {g T : Nat} {cs : Array Value} (h : w.heap[g]? = some (.cells cs T (0, 0))) (i : Nat) {v : Value} (hv : cs[i]? = some v) : w.cell? ⟨g, i, none⟩ = some v := by
  rw [cell_of_row w g i cs T (0, 0) h]; exact hv
theorem blk_free {g T : Nat} {cs : Array Value} (h : w.heap[g]? = some (.cells cs T (0, 0))) (i : Nat) : w.frozen? ⟨g, i, none⟩ = false := frozen_of_row w g i cs T h
/-- A variable's box, and a call behind it. -/
theorem box_step {cs : Array Value} {T : Nat} (hb : Below (w.alloc (.cells cs T)).heap.size (w.alloc (.cells cs T)) w') :
    Below w.heap.size w w' ∧ w'.heap[w.heap.size]? = some (.cells cs T (0, 0)) ∧ w.heap.size < w'.heap.size :=
  ⟨(below_new w _).trans (hb.mono (by simp)), blk_bel (heap_alloc_new w _) hb, by have := hb.size; simp at this; omega⟩
theorem und1 (hb : Below w.drew.heap.size w.drew w') : Below w.heap.size w w' := ⟨hb.os, hb.tape, hb.output, hb.size, hb.block⟩
theorem undN {n : Nat} (hb : Below (w.drewN n).heap.size (w.drewN n) w') : Below w.heap.size w w' := ⟨hb.os, hb.tape, hb.output, hb.size, hb.block⟩
theorem below_drewN {n : Nat} (h : Below B w w') : Below B w (w'.drewN n) := ⟨h.os, h.tape, h.output, h.size, h.block⟩
theorem below_drew1 (h : Below B w w') : Below B w w'.drew := ⟨h.os, h.tape, h.output, h.size, h.block⟩
theorem rg_row {base e s n : Nat} {v : Value} {vs : List Value} (h : w.ownsRow base e s v n vs) : ∀ k, Fo v k → base ≤ k ∧ k < w.heap.size := fun k hk => h.lt k hk
theorem rg_lo {F : Nat → Prop} {a b lo hi : Nat} (h : ∀ k, F k → a ≤ k ∧ k < b) (h1 : lo ≤ a) (h2 : b ≤ hi) : ∀ k, F k → lo ≤ k ∧ k < hi := fun k hk => by have := h k hk; omega
theorem ownN_cap {base e s n c : Nat} {A : Option Addr} {vs : List Value} (h : w.ownsRow base e s (.slice A n c) n vs) : n ≤ c := by
  obtain ⟨A', c', h1, h2, _⟩ := ownN_form h
  injection h1 with _ _ h3
  omega
/-- What the laws' reckoning of sizes leaves. -/
def SzPost (w : World) (left size : Int) (e : Ending) (w' : World) : Prop := ∃ r : Int, e = .returned (.int .i64 r) ∧ (0 ≤ r → r = left - size) ∧ r ≤ left ∧ Below w.heap.size w w'
theorem ch_set (w : World) (g i : Nat) (u : Value) : Ch (· = g) w (w.setCell ⟨g, i, none⟩ u) := ⟨rfl, rfl, rfl, by simp, fun k _ hk => heap_setCell_other w ⟨g, i, none⟩ k u hk⟩
theorem ch_setF {g i : Nat} {u : Value} (h : Ch F w w') (hg : F g) : Ch F w (w'.setCell ⟨g, i, none⟩ u) := h.trans ((ch_set w' g i u).mono (fun k hk => by subst hk; exact hg))
theorem ch_alloc (F : Nat → Prop) (w : World) (o : Obj) : Ch F w (w.alloc o) := ⟨rfl, rfl, rfl, by simp, fun k hk _ => Below.heap_alloc w o k hk⟩
theorem ch_drew (h : Ch F w w') : Ch F w w'.drew := ⟨h.os, h.tape, h.output, h.size, h.block⟩
theorem ch_drewN {n : Nat} (h : Ch F w w') : Ch F w (w'.drewN n) := ⟨h.os, h.tape, h.output, h.size, h.block⟩
theorem blk_set {g T : Nat} {cs : Array Value} (h : w.heap[g]? = some (.cells cs T (0, 0))) (i : Nat) (u : Value) : (w.setCell ⟨g, i, none⟩ u).heap[g]? = some (.cells (cs.setIfInBounds i u) T (0, 0)) := heap_setCell_same w g i cs T u h
theorem cell_far {g g' i j : Nat} {u v : Value} (h : w.cell? ⟨g, i, none⟩ = some v) (hne : g ≠ g') : (w.setCell ⟨g', j, none⟩ u).cell? ⟨g, i, none⟩ = some v := by
  rw [World.cell?_setCell_other _ _ _ _ (by intro e; simp only [Addr.mk.injEq] at e; omega)]; exact h
theorem le_al1 {o : Obj} : w.heap.size + 0 ≤ (w.alloc o).drew.heap.size := by show _ ≤ (w.alloc o).heap.size; simp
theorem box_new (w : World) (cs : Array Value) (T : Nat) : (w.alloc (.cells cs T)).heap[w.heap.size]? = some (.cells cs T (0, 0)) := heap_alloc_new w _
end
end Go.Proofs.YtadmbphefpfbmaaGreatDoor
/- Arguments that came in, opened to cells: a slice of elements of one cell each. -/
namespace Go.Proofs.YtadmbphefpfbmaaGreatDoor
open Go.RowKit

theorem rd_of_cells {w : World} {a : Addr} {len : Nat} {f : Nat → Value} (h : ∀ i, i < len → w.cell? (a.add i) = some (f i)) : Rd w (some a) len ((List.range len).map f) := by
  refine ⟨by simp, fun hn => ?_⟩
  obtain ⟨b, off, spot⟩ := a
  have hspot : spot = none := by simpa [Addr.add] using World.cell?_spot (h 0 hn)
  subst hspot
  refine ⟨b, off, rfl, ?_, fun j u hj => ?_⟩
  · exact World.block_lt_of_cell? w ⟨b, off, none⟩ (by simpa [Addr.add] using h 0 hn)
  · have hjl : j < len := by
      rcases Nat.lt_or_ge j len with h1 | h1
      · exact h1
      · rw [List.getElem?_eq_none (by simpa using h1)] at hj; cases hj
    have hj' : u = f j := by simpa [hjl] using hj.symm
    subst hj'
    rw [← Go.WideShapes.add_plain]
    exact h j hjl
section
variable {H : Type} {enc : TypeId × Value → H} {P : Program} {w : World} {base : Nat} {held : Bool}
theorem open_rd {t e : TypeId} {fuel : Nat} {a : Option Addr} {len cap : Nat} {x : DataW H × List MemPlace} (ht : P.underlying t = some (.slice e)) (hc : P.cellsOf e = 1) (h : DataW.trod enc P w base (fun _ => true) held fuel t [.slice a len cap] = some x) :
    ∃ vs, Rd w a len vs ∧ len ≤ cap ∧ cap ≤ maxLen ∧ ∀ v ∈ vs, ∃ n y, DataW.trod enc P w base (fun _ => true) held n e [v] = some y := by
  rcases Go.Deep.open_slice1 ht hc h with ⟨h0, _⟩ | ⟨a', l, c, m, n, V, D, Pl, hcs, _, hl, hm, hmm, _, hi⟩
  · simp at h0
    obtain ⟨rfl, rfl, rfl⟩ := h0
    exact ⟨[], Rd.nil _ _, Nat.le_refl _, by unfold maxLen; omega, by simp⟩
  · simp at hcs hmm
    obtain ⟨rfl, rfl, rfl⟩ := hcs
    subst hmm
    refine ⟨(List.range len).map V, rd_of_cells fun i hi' => (hi i (by omega)).1, hl, hm, fun v hv => ?_⟩
    obtain ⟨i, hi', rfl⟩ := List.mem_map.1 hv
    exact ⟨_, _, (hi i (by have := List.mem_range.1 hi'; omega)).2⟩
theorem open_bs {t e : TypeId} {fuel : Nat} {a : Option Addr} {len cap : Nat} {x : DataW H × List MemPlace} (ht : P.underlying t = some (.slice e)) (he : P.underlying e = some .bool) (hc : P.cellsOf e = 1) (h : DataW.trod enc P w base (fun _ => true) held fuel t [.slice a len cap] = some x) :
    ∃ bs : List Bool, Rd w a len (bs.map Value.bool) ∧ len ≤ maxLen := by
  obtain ⟨vs, h1, h2, h3, h4⟩ := open_rd ht hc h
  have key : ∀ vs : List Value, (∀ v ∈ vs, ∃ n y, DataW.trod enc P w base (fun _ => true) held n e [v] = some y) → ∃ bs : List Bool, vs = bs.map Value.bool := by
    intro vs
    induction vs with
    | nil => intro _; exact ⟨[], rfl⟩
    | cons v r ih =>
      intro hv
      obtain ⟨n, y, hy⟩ := hv v (by simp)
      obtain ⟨b, hb, _⟩ := DataW.trod_bool he hy
      obtain ⟨bs, rfl⟩ := ih fun u hu => hv u (by simp [hu])
      simp at hb
      exact ⟨b :: bs, by rw [hb]; rfl⟩
  obtain ⟨bs, rfl⟩ := key vs h4
  exact ⟨bs, h1, by omega⟩
end
end Go.Proofs.YtadmbphefpfbmaaGreatDoor
/- Arguments that came in, opened to cells: numbers, rows of structs of numbers. -/
namespace Go.Proofs.YtadmbphefpfbmaaGreatDoor
open Go.RowKit
section
variable {H : Type} {enc : TypeId × Value → H} {P : Program} {w : World} {base : Nat} {held : Bool}
theorem opI {t : TypeId} {fuel : Nat} {v : Value} {x : DataW H × List MemPlace} (ht : P.underlying t = some (.int .i64)) (h : DataW.trod enc P w base (fun _ => true) held fuel t [v] = some x) : ∃ n, v = .int .i64 n := by
  obtain ⟨n, hn, _⟩ := DataW.trod_int ht h
  exact ⟨n, by simpa using hn⟩
theorem op_slice {t e : TypeId} {fuel : Nat} {v : Value} {x : DataW H × List MemPlace} (ht : P.underlying t = some (.slice e)) (h : DataW.trod enc P w base (fun _ => true) held fuel t [v] = some x) : ∃ a len cap, v = .slice a len cap ∧ len ≤ maxLen := by
  rcases Go.Deep.open_slice ht h with ⟨h0, _⟩ | ⟨a, len, cap, m, n, D, Pl, hcs, _, hl, hm, _⟩
  · exact ⟨_, _, _, by simpa using h0, by unfold maxLen; omega⟩
  · exact ⟨_, _, _, by simpa using hcs, by omega⟩
theorem opS {t e : TypeId} {fuel : Nat} {a : Option Addr} {len cap : Nat} {x : DataW H × List MemPlace} (ht : P.underlying t = some (.slice e)) (he : P.underlying e = some (.int .i64)) (hc : P.cellsOf e = 1) (h : DataW.trod enc P w base (fun _ => true) held fuel t [.slice a len cap] = some x) :
    ∃ xs : List Int, Rd w a len (ints xs) ∧ len ≤ maxLen := by
  obtain ⟨vs, h1, h2, h3, h4⟩ := open_rd ht hc h
  have key : ∀ vs : List Value, (∀ v ∈ vs, ∃ n y, DataW.trod enc P w base (fun _ => true) held n e [v] = some y) → ∃ bs : List Int, vs = ints bs := by
    intro vs
    induction vs with
    | nil => intro _; exact ⟨[], rfl⟩
    | cons v r ih =>
      intro hv
      obtain ⟨n, y, hy⟩ := hv v (by simp)
      obtain ⟨b, rfl⟩ := opI he hy
      obtain ⟨bs, rfl⟩ := ih fun u hu => hv u (by simp [hu])
      exact ⟨b :: bs, rfl⟩
  obtain ⟨bs, rfl⟩ := key vs h4
  exact ⟨bs, h1, by omega⟩
/-- A slice of structs, all of whose fields are numbers. -/
theorem opF {t e : TypeId} {fs : Array Field} {fuel : Nat} {a : Option Addr} {len cap : Nat} {x : DataW H × List MemPlace} (ht : P.underlying t = some (.slice e)) (he : P.underlying e = some (.struct fs))
    (hone : Go.Deep.oneCellFields P fs = true) (hC : P.cellsOf e = fs.size) (hI : ∀ f ∈ fs.toList, P.underlying f.type = some (.int .i64)) (hs : 0 < fs.size) (h : DataW.trod enc P w base (fun _ => true) held fuel t [.slice a len cap] = some x) :
    ∃ xs : List Int, Rd w a (len * fs.size) (ints xs) ∧ len ≤ maxLen := by
  rcases Go.Deep.open_slice ht h with ⟨h0, _⟩ | ⟨a', l, c, m, n, D, Pl, hcs, _, hl, hm, hmm, _, hi⟩
  · simp at h0
    obtain ⟨rfl, rfl, rfl⟩ := h0
    exact ⟨[], by simpa using Rd.nil w none, by unfold maxLen; omega⟩
  · simp at hcs hmm
    obtain ⟨rfl, rfl, rfl⟩ := hcs
    subst hmm
    have key : ∀ q, q < len * fs.size → ∃ z : Int, w.cell? (a'.add q) = some (.int .i64 z) := by
      intro q hq
      have hj : q % fs.size < fs.size := Nat.mod_lt _ hs
      have hd : q / fs.size < len := (Nat.div_lt_iff_lt_mul hs).2 hq
      obtain ⟨cs', hc, ht'⟩ := hi (q / fs.size) (by omega)
      rw [hC] at hc
      obtain ⟨ys, n', _, _, hlen, hyl, hf⟩ := DataW.trod_struct he ht'
      obtain ⟨_, hcl, hat⟩ := World.cells?_some hc
      have hfj : fs[q % fs.size]? = some fs[q % fs.size] := Array.getElem?_eq_getElem hj
      obtain ⟨ho, hk⟩ := Go.Deep.hone_of hone _ _ hfj
      have h1 := hf _ _ hfj
      rw [ho, hk, List.getElem?_eq_getElem (by omega)] at h1
      obtain ⟨z, hz, _⟩ := DataW.trod_int (hI _ (by simp [Array.mem_toList_iff])) h1
      refine ⟨z, ?_⟩
      have h2 := hat _ hj
      rw [Go.Deep.add_add, Nat.mul_comm, Nat.div_add_mod] at h2
      rw [h2]
      have h3 : ((cs'.drop (q % fs.size)).take 1)[0]? = some (Value.int .i64 z) := by rw [hz]; rfl
      rw [List.getElem?_take, if_pos (by omega), List.getElem?_drop, Nat.add_zero] at h3
      exact h3
    have pick : ∀ q, ∃ z : Int, q < len * fs.size → w.cell? (a'.add q) = some (.int .i64 z) := by
      intro q
      by_cases hq : q < len * fs.size
      · obtain ⟨z, hz⟩ := key q hq
        exact ⟨z, fun _ => hz⟩
      · exact ⟨0, fun h => absurd h hq⟩
    obtain ⟨g, hg⟩ := Classical.axiomOfChoice pick
    refine ⟨(List.range (len * fs.size)).map g, ?_, by omega⟩
    have := rd_of_cells (w := w) (a := a') (len := len * fs.size) (f := fun q => .int .i64 (g q)) hg
    simpa [ints, Function.comp_def] using this
end
end Go.Proofs.YtadmbphefpfbmaaGreatDoor
