/- Words for memory: rows whose elements are structs of s cells. A slice of n such elements reads as n * s cells. -/
import Derived.Test.YtfjlbfnjnkaooaaRet
namespace Go.Proofs.Ytfjlbfnjnkaooaa
open Go.RowKit

theorem ownN_rd {w : World} {base e n c s : Nat} {A : Option Addr} {vs : List Value} (h : w.ownsRow base e s (.slice A n c) n vs) : Rd w A (n * s) vs := by
  refine ⟨h.1, fun hn => ?_⟩
  rcases h.2 with ⟨h', h0⟩ | ⟨g, cap, cur, h', hb, hg, hnc, hcm, hcs, htake⟩
  · subst h0; omega
  · injection h' with h1 h2 h3
    subst h1 h3
    refine ⟨g, 0, rfl, (Array.getElem?_eq_some_iff.1 hg).1, fun j u hu => ?_⟩
    rw [Nat.zero_add, cell_of_row w g j cur e (0, 0) hg, ← Array.getElem?_toList]
    rw [← htake, List.getElem?_take] at hu
    split at hu
    · exact hu
    · cases hu
theorem ownN_below {w w' : World} {base e n s B : Nat} {v : Value} {vs : List Value} (h : w.ownsRow base e s v n vs) (hb : Below B w w') (hB : w.heap.size ≤ B) : w'.ownsRow base e s v n vs := by
  refine ⟨h.1, ?_⟩
  rcases h.2 with h' | ⟨g, cap, cur, h', hbs, hg, r⟩
  · exact .inl h'
  · exact .inr ⟨g, cap, cur, h', hbs, (hb.block g (Nat.lt_of_lt_of_le (Array.getElem?_eq_some_iff.1 hg).1 hB)).trans hg, r⟩
theorem ownN_base {w : World} {base base' e n s : Nat} {v : Value} {vs : List Value} (h : w.ownsRow base e s v n vs) (hb : base' ≤ base) : w.ownsRow base' e s v n vs := by
  refine ⟨h.1, ?_⟩
  rcases h.2 with h' | ⟨g, cap, cur, h', hbs, r⟩
  · exact .inl h'
  · exact .inr ⟨g, cap, cur, h', by omega, r⟩
theorem ownN_form {w : World} {base e n s : Nat} {v : Value} {vs : List Value} (h : w.ownsRow base e s v n vs) : ∃ A c, v = .slice A n c ∧ n ≤ c ∧ vs.length = n * s := by
  rcases h.2 with ⟨rfl, rfl⟩ | ⟨g, cap, cur, rfl, _, _, hnc, _⟩
  · exact ⟨none, 0, rfl, Nat.le_refl _, h.1⟩
  · exact ⟨_, cap, rfl, hnc, h.1⟩
theorem ownN_get {w : World} {base e n c s : Nat} {A : Option Addr} {vs : List Value} (h : w.ownsRow base e s (.slice A n c) n vs) {k : Nat} {u : Value} (hu : vs[k]? = some u) :
    ∃ g, A = some ⟨g, 0, none⟩ ∧ base ≤ g ∧ g < w.heap.size ∧ w.cell? ⟨g, k, none⟩ = some u ∧ w.frozen? ⟨g, k, none⟩ = false := by
  have hk : k < n * s := by rw [List.getElem?_eq_some_iff] at hu; have := hu.1; rw [← h.1]; exact this
  rcases h.2 with ⟨h', h0⟩ | ⟨g, cap, cur, h', hb, hg, r⟩
  · subst h0; omega
  · injection h' with h1 h2 h3
    subst h1 h3
    exact ⟨g, rfl, hb, (Array.getElem?_eq_some_iff.1 hg).1, by rw [h.cellAt k hk, hu], h.frozenAt k⟩
theorem ownN_at {w : World} {base e n c g s : Nat} {vs : List Value} (h : w.ownsRow base e s (.slice (some ⟨g, 0, none⟩) n c) n vs) {k : Nat} {u : Value} (hu : vs[k]? = some u) : w.cell? ⟨g, k, none⟩ = some u ∧ w.frozen? ⟨g, k, none⟩ = false := by
  obtain ⟨g', hg, _, _, h1, h2⟩ := ownN_get h hu
  obtain rfl : g = g' := by simpa using hg
  exact ⟨h1, h2⟩
theorem ownN_put {w : World} {base e n c g s : Nat} {vs : List Value} (h : w.ownsRow base e s (.slice (some ⟨g, 0, none⟩) n c) n vs) (k : Nat) (u : Value) :
    (w.setCell ⟨g, k, none⟩ u).ownsRow base e s (.slice (some ⟨g, 0, none⟩) n c) n (vs.set k u) := (h.stored k u).1
theorem ownN_out {w w' : World} {base e n s lo hi a b : Nat} {v : Value} {vs : List Value} (h : w.ownsRow base e s v n vs) (hr : ∀ k, v.ownBlock = some k → a ≤ k ∧ k < b) (ho : Outside lo hi w w') (hd : b ≤ lo ∨ hi ≤ a) : w'.ownsRow base e s v n vs := by
  refine ⟨h.1, ?_⟩
  rcases h.2 with h' | ⟨g, cap, cur, rfl, hb, hg, r⟩
  · exact .inl h'
  · have := hr g rfl
    exact .inr ⟨g, cap, cur, rfl, hb, (ho.block g (Array.getElem?_eq_some_iff.1 hg).1 (by omega)).trans hg, r⟩
theorem ownN_nil (w : World) (base e s : Nat) : w.ownsRow base e s (.slice none 0 0) 0 [] := World.ownsRow_nil w base e s
theorem ownN_lit (w : World) (cs : Array Value) (n s : Nat) (e : TypeId) (hn : cs.size = n * s) (hm : n ≤ 1099511627776) : (w.alloc (.cells cs e)).ownsRow w.heap.size e s (.slice (some ⟨w.heap.size, 0, none⟩) n n) n cs.toList :=
  World.ownsRow_lit w cs n (Nat.le_refl _) (by unfold maxLen; omega) hn

/-- What the laws on make and append want to know of an element type of s cells. -/
def EltN (P : Program) (t e : TypeId) (z : Value) (s : Nat) : Prop := P.underlying t = some (.slice e) ∧ z.cells.size = s ∧ 0 < s ∧ ∃ i, P.info? e = some i ∧ i.zero = some z ∧ i.size = s ∧ i.bytes ≤ 64
theorem EltN.mk_ {P : Program} {t e : TypeId} {z : Value} {b s : Nat} (h1 : P.underlying t = some (.slice e)) (h2 : (P.info? e).map (fun i => (i.zero, i.size, i.bytes)) = some (some z, s, b)) (h3 : z.cells.size = s) (h0 : 0 < s) (h4 : b ≤ 64) : EltN P t e z s := by
  obtain ⟨i, hi, hz, hs, hb⟩ := info_parts h2
  exact ⟨h1, h3, h0, i, hi, hz, hs, by omega⟩

/-- 'append(s, y)': y a struct. -/
theorem wpList_app1N {P : Program} {ops : Array Oper} {rest : List Oper} {o : Oper} {a : Act} {Q : Exit → Act → World → Prop} {t e : TypeId} {z : Value} {s : Nat} (hE : EltN P t e z s) (hgd : o.guard = none) (l x : Operand)
    (ho : o.op = .call { callee := .builtin .append, args := #[l, x], argTypes := #[t, t] }) (W : World) (base : Nat) (v : Value) (n : Nat) (vs : List Value) (hs : a.eval l = v) (hown : W.ownsRow base e s v n vs)
    (ys : Array Value) (hys : ys.size = s) (hy : ∀ y ∈ ys.toList, y.oneCell' = true) (hx : a.eval x = .slice (some ⟨W.heap.size, 0, none⟩) 1 1) (hbase : base ≤ W.heap.size) (hn : n ≤ 1099511627776)
    (h : ∀ A c w', w'.ownsRow base e s (.slice A (n + 1) c) (n + 1) (vs ++ ys.toList) → Below base W w' → W.grownBy w' v.ownBlock → wpList P ops Q rest (a.put o.dst (.slice A (n + 1) c)) w') :
    wpList P ops Q (o :: rest) a (W.alloc (.cells ys e)) := by
  obtain ⟨ht, hzc, hs0, i, hi, hz, hs1, hb⟩ := hE
  refine wpList_append_own _ hgd l x t ho base e i z s i.bytes ht hi hz hs1 rfl hzc hs0 v n vs hs (hown.alloc _) ⟨W.heap.size, 0, none⟩ 1 1 ys.toList hx (by simpa using hys) ?_ hy (by unfold maxLen; omega) ?_ (by simp; omega) ?_
  · intro j u hj
    have hadd : (⟨W.heap.size, 0, none⟩ : Addr).add j = ⟨W.heap.size, j, none⟩ := by unfold Addr.add; split <;> simp_all
    rw [hadd, cell_of_row _ W.heap.size j ys e (0, 0) (heap_alloc_new W _)]
    simpa using hj
  · have : (n + 1) * i.bytes ≤ (n + 1) * 64 := Nat.mul_le_mul_left _ hb
    omega
  · intro v' w' ho' hg _
    obtain ⟨A, c, rfl, _, _⟩ := ownN_form ho'
    have hg' := grown_alloc_trans hg
    exact h A c w' ho' (below_grown hg' hbase (fun k hk => ((hown.lt k hk).1))) hg'

/-- 'make([]T, n)'. -/
theorem wpList_mkN {P : Program} {ops : Array Oper} {rest : List Oper} {o : Oper} {a : Act} {Q : Exit → Act → World → Prop} {t e : TypeId} {z : Value} {s : Nat} (hE : EltN P t e z s) (hgd : o.guard = none) (l c : Operand) (ho : o.op = .makeSlice t l c)
    (w : World) (L C : Int) (n : Nat) (hl : a.eval l = .int .i64 L) (hc : a.eval c = .int .i64 C) (hL : L = (n : Int)) (hC : C = (n : Int)) (hn : n ≤ 1099511627776)
    (h : ∀ w', w'.ownsRow w.heap.size e s (.slice (some ⟨w.heap.size, 0, none⟩) n n) n (madeCells z.cells (n * s)).toList → Below w.heap.size w w' → w.heap.size < w'.heap.size → wpList P ops Q rest (a.put o.dst (.slice (some ⟨w.heap.size, 0, none⟩) n n)) w') :
    wpList P ops Q (o :: rest) a w := by
  obtain ⟨ht, hzc, hs0, i, hi, hz, hs1, hb⟩ := hE
  have hbn : i.bytes * n ≤ 64 * n := Nat.mul_le_mul_right _ hb
  refine wpList_make_full _ hgd l c t ho w.heap.size e i z s ht hi hz hs1 .i64 .i64 L C n hl hc hL hC (by omega) (by unfold maxLen; omega) (Nat.le_refl _) ?_
  intro w' ho' hg
  exact h w' ho' (below_grown hg (Nat.le_refl _) (by simp)) (by have := (ho'.lt w.heap.size rfl).2; exact this)

/-- The cells that 'make' lays where all fields have the same zero. -/
theorem made_same (x : Value) (s n : Nat) (hs : 0 < s) : (madeCells (Array.replicate s x) n).toList = List.replicate n x := by
  apply List.ext_getElem?
  intro j
  by_cases hj : j < n
  · have hm : j % s < s := Nat.mod_lt _ hs
    simp [madeCells, hj, hm]
  · simp [madeCells, hj]

/-- What a call that returns one new row of structs leaves. -/
def RetN (w : World) (e : TypeId) (s : Nat) (vs : List Value) (en : Ending) (w' : World) : Prop :=
  ∃ A n c, en = .returned (.slice A n c) ∧ w'.ownsRow w.heap.size e s (.slice A n c) n vs ∧ Below w.heap.size w w'
def RetNI (w : World) (e : TypeId) (s : Nat) (vs : List Value) (code : Int) (en : Ending) (w' : World) : Prop :=
  ∃ A n c, en = .returned (.tuple #[.slice A n c, .int .i64 code]) ∧ w'.ownsRow w.heap.size e s (.slice A n c) n vs ∧ Below w.heap.size w w'
theorem ownN_apart {w w' : World} {lo e n s : Nat} {v v2 : Value} {vs : List Value} (h : w.ownsRow lo e s v n vs) (hg : w.grownBy w' v2.ownBlock) (hne : ∀ k, v.ownBlock = some k → v2.ownBlock = some k → False) : w'.ownsRow lo e s v n vs := by
  refine h.kept hg ?_
  cases hv : v.ownBlock with
  | none => exact .inl rfl
  | some k => exact .inr fun he => hne k hv he.symm
end Go.Proofs.Ytfjlbfnjnkaooaa
