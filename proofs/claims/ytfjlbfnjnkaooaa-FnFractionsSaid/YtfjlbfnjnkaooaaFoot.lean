/- Footprints: what a call may write, as a set of blocks; boxes of variables. -/
import Derived.Test.YtfjlbfnjnkaooaaMemS
namespace Go.Proofs.Ytfjlbfnjnkaooaa
open Go.RowKit
set_option linter.unusedVariables false

/-- Nothing but the blocks of F is written; new blocks may be made. -/
structure Ch (F : Nat → Prop) (w w' : World) : Prop where
  os : w'.os = w.os
  tape : w'.tape = w.tape
  output : w'.output = w.output
  size : w.heap.size ≤ w'.heap.size
  block : ∀ k, k < w.heap.size → ¬ F k → w'.heap[k]? = w.heap[k]?
/-- The block of a row. -/
def Fo (v : Value) (k : Nat) : Prop := v.ownBlock = some k
def InR (lo hi k : Nat) : Prop := lo ≤ k ∧ k < hi
section
variable {F G : Nat → Prop} {w w' w2 : World} {B : Nat}
theorem Ch.refl (F : Nat → Prop) (w : World) : Ch F w w := ⟨rfl, rfl, rfl, Nat.le_refl _, fun _ _ _ => rfl⟩
theorem Ch.trans (h : Ch F w w') (k : Ch F w' w2) : Ch F w w2 :=
  ⟨k.os.trans h.os, k.tape.trans h.tape, k.output.trans h.output, Nat.le_trans h.size k.size, fun i hi ho => (k.block i (Nat.lt_of_lt_of_le hi h.size) ho).trans (h.block i hi ho)⟩
theorem Ch.mono (h : Ch F w w') (hFG : ∀ k, F k → G k) : Ch G w w' := ⟨h.os, h.tape, h.output, h.size, fun k hk hg => h.block k hk (fun hf => hg (hFG k hf))⟩
theorem ch_below (h : Below w.heap.size w w') : Ch F w w' := ⟨h.os, h.tape, h.output, h.size, fun k hk _ => h.block k hk⟩
theorem ch_row {v : Value} (h : w.grownBy w' v.ownBlock) : Ch (Fo v) w w' := ⟨h.os, h.tape, h.output, h.size, fun k hk hn => h.block k hk (fun e => hn e.symm)⟩
theorem ch_grown {row : Option Nat} (h : w.grownBy w' row) (hr : ∀ k, row = some k → F k) : Ch F w w' := ⟨h.os, h.tape, h.output, h.size, fun k hk hn => h.block k hk (fun e => hn (hr k e.symm))⟩
theorem below_ch {a : World} (h : Below B a w) (hc : Ch F w w') (hF : ∀ k, F k → B ≤ k) (hs : B ≤ w.heap.size) : Below B a w' :=
  h.trans ⟨hc.os, hc.tape, hc.output, hc.size, fun k hk => hc.block k (by omega) (fun hf => by have := hF k hf; omega)⟩
theorem own_ch {base e s n : Nat} {v : Value} {vs : List Value} (h : w.ownsRow base e s v n vs) (hc : Ch F w w') (hd : ∀ k, Fo v k → F k → False) : w'.ownsRow base e s v n vs := by
  refine ⟨h.1, ?_⟩
  rcases h.2 with h' | ⟨g, cap, cur, rfl, hb, hg, r⟩
  · exact .inl h'
  · exact .inr ⟨g, cap, cur, rfl, hb, (hc.block g (Array.getElem?_eq_some_iff.1 hg).1 (hd g rfl)).trans hg, r⟩
theorem blk_ch {g T : Nat} {cs : Array Value} (h : w.heap[g]? = some (.cells cs T (0, 0))) (hc : Ch F w w') (hd : ¬ F g) : w'.heap[g]? = some (.cells cs T (0, 0)) := (hc.block g (blk_lt h) hd).trans h
theorem blk_bel {g T : Nat} {cs : Array Value} (h : w.heap[g]? = some (.cells cs T (0, 0))) (hb : Below w.heap.size w w') : w'.heap[g]? = some (.cells cs T (0, 0)) := (hb.block g (blk_lt h)).trans h
theorem blk_cell {g T : Nat} {cs : Array Value} (h : w.heap[g]? = some (.cells cs T (0, 0))) (i : Nat) {v : Value} (hv : cs[i]? = some v) : w.cell? ⟨g, i, none⟩ = some v := by
  rw [cell_of_row w g i cs T (0, 0) h]; exact hv
theorem blk_free {g T : Nat} {cs : Array Value} (h : w.heap[g]? = some (.cells cs T (0, 0))) (i : Nat) : w.frozen? ⟨g, i, none⟩ = false := frozen_of_row w g i cs T h
/-- A variable's box, and a call behind it. -/
theorem box_step {cs : Array Value} {T : Nat} (hb : Below (w.alloc (.cells cs T)).heap.size (w.alloc (.cells cs T)) w') :
    Below w.heap.size w w' ∧ w'.heap[w.heap.size]? = some (.cells cs T (0, 0)) ∧ w.heap.size < w'.heap.size :=
  ⟨(below_new w _).trans (hb.mono (by simp)), blk_bel (heap_alloc_new w _) hb, by have := hb.size; simp at this; omega⟩
theorem und1 (hb : Below w.drew.heap.size w.drew w') : Below w.heap.size w w' := ⟨hb.os, hb.tape, hb.output, hb.size, hb.block⟩
theorem undN {n : Nat} (hb : Below (w.drewN n).heap.size (w.drewN n) w') : Below w.heap.size w w' := ⟨hb.os, hb.tape, hb.output, hb.size, hb.block⟩
theorem below_drewN {n : Nat} (h : Below B w w') : Below B w (w'.drewN n) := ⟨h.os, h.tape, h.output, h.size, h.block⟩
theorem below_drew1 (h : Below B w w') : Below B w w'.drew := ⟨h.os, h.tape, h.output, h.size, h.block⟩
theorem rg_row {base e s n : Nat} {v : Value} {vs : List Value} (h : w.ownsRow base e s v n vs) : ∀ k, Fo v k → base ≤ k ∧ k < w.heap.size := fun k hk => h.lt k hk
theorem rg_lo {F : Nat → Prop} {a b lo hi : Nat} (h : ∀ k, F k → a ≤ k ∧ k < b) (h1 : lo ≤ a) (h2 : b ≤ hi) : ∀ k, F k → lo ≤ k ∧ k < hi := fun k hk => by have := h k hk; omega
theorem ownN_cap {base e s n c : Nat} {A : Option Addr} {vs : List Value} (h : w.ownsRow base e s (.slice A n c) n vs) : n ≤ c := by
  obtain ⟨A', c', h1, h2, _⟩ := ownN_form h
  injection h1 with _ _ h3
  omega
/-- What the laws' reckoning of sizes leaves. -/
def SzPost (w : World) (left size : Int) (e : Ending) (w' : World) : Prop := ∃ r : Int, e = .returned (.int .i64 r) ∧ (0 ≤ r → r = left - size) ∧ r ≤ left ∧ Below w.heap.size w w'
theorem ch_set (w : World) (g i : Nat) (u : Value) : Ch (· = g) w (w.setCell ⟨g, i, none⟩ u) := ⟨rfl, rfl, rfl, by simp, fun k _ hk => heap_setCell_other w ⟨g, i, none⟩ k u hk⟩
theorem ch_setF {g i : Nat} {u : Value} (h : Ch F w w') (hg : F g) : Ch F w (w'.setCell ⟨g, i, none⟩ u) := h.trans ((ch_set w' g i u).mono (fun k hk => by subst hk; exact hg))
theorem ch_alloc (F : Nat → Prop) (w : World) (o : Obj) : Ch F w (w.alloc o) := ⟨rfl, rfl, rfl, by simp, fun k hk _ => Below.heap_alloc w o k hk⟩
theorem ch_drew (h : Ch F w w') : Ch F w w'.drew := ⟨h.os, h.tape, h.output, h.size, h.block⟩
theorem ch_drewN {n : Nat} (h : Ch F w w') : Ch F w (w'.drewN n) := ⟨h.os, h.tape, h.output, h.size, h.block⟩
theorem blk_set {g T : Nat} {cs : Array Value} (h : w.heap[g]? = some (.cells cs T (0, 0))) (i : Nat) (u : Value) : (w.setCell ⟨g, i, none⟩ u).heap[g]? = some (.cells (cs.setIfInBounds i u) T (0, 0)) := heap_setCell_same w g i cs T u h
theorem cell_far {g g' i j : Nat} {u v : Value} (h : w.cell? ⟨g, i, none⟩ = some v) (hne : g ≠ g') : (w.setCell ⟨g', j, none⟩ u).cell? ⟨g, i, none⟩ = some v := by
  rw [World.cell?_setCell_other _ _ _ _ (by intro e; simp only [Addr.mk.injEq] at e; omega)]; exact h
theorem le_al1 {o : Obj} : w.heap.size + 0 ≤ (w.alloc o).drew.heap.size := by show _ ≤ (w.alloc o).heap.size; simp
theorem box_new (w : World) (cs : Array Value) (T : Nat) : (w.alloc (.cells cs T)).heap[w.heap.size]? = some (.cells cs T (0, 0)) := heap_alloc_new w _
end
end Go.Proofs.Ytfjlbfnjnkaooaa
