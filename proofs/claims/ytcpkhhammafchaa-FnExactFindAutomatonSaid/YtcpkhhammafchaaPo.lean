/- The proof that is laid out of some parts (reference). Written by mk_po.py. -/
import Derived.Test.YtcpkhhammafchaaGI
namespace Go.Proofs.Ytcpkhhammafchaa
open Go.RowKit
set_option linter.unusedVariables false
set_option linter.unusedSimpArgs false
theorem row_n {w : World} {base n c : Nat} {A : Option Addr} {xs : List Int} {b : Nat} (h : w.ownsRow base 2 1 (.slice A n c) n (ints xs)) (hb : xs.length ≤ b) : n ≤ b := by
  have h1 := h.1
  simp at h1
  omega
theorem al_hf {P Q : Nat → Prop} {w : World} {o : Obj} (h : ∀ q, P q → Q q ∨ (w.alloc o).heap.size ≤ q) : ∀ q, P q → Q q ∨ w.heap.size ≤ q := fun q hq => (h q hq).elim .inl (fun h2 => .inr (by simp at h2; omega))
/-- Behind the head of a proof. -/
def PC (w0 : World) (m : Int) (n1 n2 : Nat) (s4 : Value) (wx : World) : Prop := ∃ (g : Nat) (A : Option Addr) (c : Nat) (B : Option Addr) (d : Nat), s4 = .pointer (some ⟨g, 0, none⟩) ∧ PB w0 wx g A 3 c [m, n1, n2] B 0 d [] []
/-- Behind the numbers. -/
def PD (w0 : World) (ns : List Int) (n : Nat) (g : Nat) (s4 : Value) (wx : World) : Prop := True
abbrev pfZ : Array Value := #[.int .i64 0, .slice none 0 0, .slice none 0 0]
section
variable {w0 w : World} {m : Int} {n1 n2 : Nat}
theorem pc_row3 (w : World) (a b c : Value) : (w.alloc (.cells #[a, b, c] 2)).ownsRow w.heap.size 2 1 (.slice (some ⟨w.heap.size, 0, none⟩) 3 3) 3 [a, b, c] := own_lit w #[a, b, c] 3 2 rfl (by omega)
theorem pc_row0 (w : World) : (w.alloc (.cells #[] 25)).ownsRow w.heap.size 25 1 (.slice (some ⟨w.heap.size, 0, none⟩) 0 0) 0 [] := own_lit w #[] 0 25 rfl (by omega)
theorem pc_at {A B : Option Addr} {c d g : Nat} (hx : w.heap[g]? = some (.cells #[.int .i64 8, .slice A 3 c, .slice B 0 d] 48 (0, 0))) (hg : w0.heap.size ≤ g) (hn : w.ownsRow w0.heap.size 2 1 (.slice A 3 c) 3 (ints [m, n1, n2])) (hw : w.ownsRow w0.heap.size 25 1 (.slice B 0 d) 0 []) (hlo : Below w0.heap.size w0 w) :
    PC w0 m n1 n2 (.pointer (some ⟨g, 0, none⟩)) w := by
  have hfx : ∀ q, FX B 0 d [] q → Fo (.slice B 0 d) q := fun q hq => by
    rcases hq with h | ⟨u, hu, _⟩
    · exact h
    · simp at hu
  exact ⟨g, A, c, B, d, rfl, hx, ownN_base hn (Nat.zero_le _), ⟨ownN_base hw (Nat.zero_le _), rfl, by simp, by simp⟩, hg, fun q hq => (hn.lt q hq).1, fun q hq => (hw.lt q (hfx q hq)).1, fun q h1 h2 => own_types2 hn hw (by decide) q h1 (hfx q h2), hlo⟩
end
theorem below_al {w0 w : World} {o : Obj} (h : Below w0.heap.size w0 w) : Below w0.heap.size w0 (w.alloc o) := h.alloc h.size _
theorem ch_undr {F : Nat → Prop} {w w' : World} (h : Ch F w.drew w') : Ch F w w' := ⟨h.os, h.tape, h.output, h.size, h.block⟩
theorem pc_way0 (w0 : World) (m : Int) (n1 n2 : Nat) : PC w0 m n1 n2 (.pointer (some ⟨w0.heap.size + 1 + 1, 0, none⟩)) (((w0.alloc (.cells #[.int .i64 m, .int .i64 (n1 : Int), .int .i64 (n2 : Int)] 2)).alloc (.cells #[] 25)).alloc (.cells #[.int .i64 8, .slice (some ⟨w0.heap.size, 0, none⟩) 3 3, .slice (some ⟨w0.heap.size + 1, 0, none⟩) 0 0] 48)) :=
  pc_at (by have h := box_new ((w0.alloc (.cells #[.int .i64 m, .int .i64 (n1 : Int), .int .i64 (n2 : Int)] 2)).alloc (.cells #[] 25)) #[.int .i64 8, .slice (some ⟨w0.heap.size, 0, none⟩) 3 3, .slice (some ⟨w0.heap.size + 1, 0, none⟩) 0 0] 48; simpa [Nat.add_assoc] using h) (by omega) (by have h := ownN_below (ownN_below (pc_row3 w0 (.int .i64 m) (.int .i64 (n1 : Int)) (.int .i64 (n2 : Int))) (below_new (w0.alloc (.cells #[.int .i64 m, .int .i64 (n1 : Int), .int .i64 (n2 : Int)] 2)) (.cells #[] 25)) (Nat.le_refl _)) (below_new ((w0.alloc (.cells #[.int .i64 m, .int .i64 (n1 : Int), .int .i64 (n2 : Int)] 2)).alloc (.cells #[] 25)) (.cells #[.int .i64 8, .slice (some ⟨w0.heap.size, 0, none⟩) 3 3, .slice (some ⟨w0.heap.size + 1, 0, none⟩) 0 0] 48)) (Nat.le_refl _); simpa [Nat.add_assoc] using h) (by have h := ownN_below (own_base (base' := w0.heap.size) (pc_row0 (w0.alloc (.cells #[.int .i64 m, .int .i64 (n1 : Int), .int .i64 (n2 : Int)] 2))) (by simp <;> omega)) (below_new ((w0.alloc (.cells #[.int .i64 m, .int .i64 (n1 : Int), .int .i64 (n2 : Int)] 2)).alloc (.cells #[] 25)) (.cells #[.int .i64 8, .slice (some ⟨w0.heap.size, 0, none⟩) 3 3, .slice (some ⟨w0.heap.size + 1, 0, none⟩) 0 0] 48)) (Nat.le_refl _); simpa [Nat.add_assoc] using h) (below_al (below_al (below_al (Below.refl _ _))))
theorem pc_way1 (w0 : World) (m : Int) (n1 n2 : Nat) : PC w0 m n1 n2 (.pointer (some ⟨w0.heap.size + 1 + 1, 0, none⟩)) (((w0.alloc (.cells #[] 25)).alloc (.cells #[.int .i64 m, .int .i64 (n1 : Int), .int .i64 (n2 : Int)] 2)).alloc (.cells #[.int .i64 8, .slice (some ⟨w0.heap.size + 1, 0, none⟩) 3 3, .slice (some ⟨w0.heap.size, 0, none⟩) 0 0] 48)) :=
  pc_at (by have h := box_new ((w0.alloc (.cells #[] 25)).alloc (.cells #[.int .i64 m, .int .i64 (n1 : Int), .int .i64 (n2 : Int)] 2)) #[.int .i64 8, .slice (some ⟨w0.heap.size + 1, 0, none⟩) 3 3, .slice (some ⟨w0.heap.size, 0, none⟩) 0 0] 48; simpa [Nat.add_assoc] using h) (by omega) (by have h := ownN_below (own_base (base' := w0.heap.size) (pc_row3 (w0.alloc (.cells #[] 25)) (.int .i64 m) (.int .i64 (n1 : Int)) (.int .i64 (n2 : Int))) (by simp <;> omega)) (below_new ((w0.alloc (.cells #[] 25)).alloc (.cells #[.int .i64 m, .int .i64 (n1 : Int), .int .i64 (n2 : Int)] 2)) (.cells #[.int .i64 8, .slice (some ⟨w0.heap.size + 1, 0, none⟩) 3 3, .slice (some ⟨w0.heap.size, 0, none⟩) 0 0] 48)) (Nat.le_refl _); simpa [Nat.add_assoc] using h) (by have h := ownN_below (ownN_below (pc_row0 w0) (below_new (w0.alloc (.cells #[] 25)) (.cells #[.int .i64 m, .int .i64 (n1 : Int), .int .i64 (n2 : Int)] 2)) (Nat.le_refl _)) (below_new ((w0.alloc (.cells #[] 25)).alloc (.cells #[.int .i64 m, .int .i64 (n1 : Int), .int .i64 (n2 : Int)] 2)) (.cells #[.int .i64 8, .slice (some ⟨w0.heap.size + 1, 0, none⟩) 3 3, .slice (some ⟨w0.heap.size, 0, none⟩) 0 0] 48)) (Nat.le_refl _); simpa [Nat.add_assoc] using h) (below_al (below_al (below_al (Below.refl _ _))))
theorem pc_way2 (w0 : World) (m : Int) (n1 n2 : Nat) : PC w0 m n1 n2 (.pointer (some ⟨w0.heap.size, 0, none⟩)) (((w0.alloc (.cells #[.int .i64 8, .slice (some ⟨w0.heap.size + 1, 0, none⟩) 3 3, .slice (some ⟨w0.heap.size + 1 + 1, 0, none⟩) 0 0] 48)).alloc (.cells #[.int .i64 m, .int .i64 (n1 : Int), .int .i64 (n2 : Int)] 2)).alloc (.cells #[] 25)) :=
  pc_at (by have h := blk_alloc (blk_alloc (box_new w0 #[.int .i64 8, .slice (some ⟨w0.heap.size + 1, 0, none⟩) 3 3, .slice (some ⟨w0.heap.size + 1 + 1, 0, none⟩) 0 0] 48) (.cells #[.int .i64 m, .int .i64 (n1 : Int), .int .i64 (n2 : Int)] 2)) (.cells #[] 25); simpa [Nat.add_assoc] using h) (by omega) (by have h := ownN_below (own_base (base' := w0.heap.size) (pc_row3 (w0.alloc (.cells #[.int .i64 8, .slice (some ⟨w0.heap.size + 1, 0, none⟩) 3 3, .slice (some ⟨w0.heap.size + 1 + 1, 0, none⟩) 0 0] 48)) (.int .i64 m) (.int .i64 (n1 : Int)) (.int .i64 (n2 : Int))) (by simp <;> omega)) (below_new ((w0.alloc (.cells #[.int .i64 8, .slice (some ⟨w0.heap.size + 1, 0, none⟩) 3 3, .slice (some ⟨w0.heap.size + 1 + 1, 0, none⟩) 0 0] 48)).alloc (.cells #[.int .i64 m, .int .i64 (n1 : Int), .int .i64 (n2 : Int)] 2)) (.cells #[] 25)) (Nat.le_refl _); simpa [Nat.add_assoc] using h) (by have h := own_base (base' := w0.heap.size) (pc_row0 ((w0.alloc (.cells #[.int .i64 8, .slice (some ⟨w0.heap.size + 1, 0, none⟩) 3 3, .slice (some ⟨w0.heap.size + 1 + 1, 0, none⟩) 0 0] 48)).alloc (.cells #[.int .i64 m, .int .i64 (n1 : Int), .int .i64 (n2 : Int)] 2))) (by simp <;> omega); simpa [Nat.add_assoc] using h) (below_al (below_al (below_al (Below.refl _ _))))
theorem pc_way3 (w0 : World) (m : Int) (n1 n2 : Nat) : PC w0 m n1 n2 (.pointer (some ⟨w0.heap.size + 1, 0, none⟩)) (((w0.alloc (.cells #[.int .i64 m, .int .i64 (n1 : Int), .int .i64 (n2 : Int)] 2)).alloc (.cells #[.int .i64 8, .slice (some ⟨w0.heap.size, 0, none⟩) 3 3, .slice (some ⟨w0.heap.size + 1 + 1, 0, none⟩) 0 0] 48)).alloc (.cells #[] 25)) :=
  pc_at (by have h := blk_alloc (box_new (w0.alloc (.cells #[.int .i64 m, .int .i64 (n1 : Int), .int .i64 (n2 : Int)] 2)) #[.int .i64 8, .slice (some ⟨w0.heap.size, 0, none⟩) 3 3, .slice (some ⟨w0.heap.size + 1 + 1, 0, none⟩) 0 0] 48) (.cells #[] 25); simpa [Nat.add_assoc] using h) (by omega) (by have h := ownN_below (ownN_below (pc_row3 w0 (.int .i64 m) (.int .i64 (n1 : Int)) (.int .i64 (n2 : Int))) (below_new (w0.alloc (.cells #[.int .i64 m, .int .i64 (n1 : Int), .int .i64 (n2 : Int)] 2)) (.cells #[.int .i64 8, .slice (some ⟨w0.heap.size, 0, none⟩) 3 3, .slice (some ⟨w0.heap.size + 1 + 1, 0, none⟩) 0 0] 48)) (Nat.le_refl _)) (below_new ((w0.alloc (.cells #[.int .i64 m, .int .i64 (n1 : Int), .int .i64 (n2 : Int)] 2)).alloc (.cells #[.int .i64 8, .slice (some ⟨w0.heap.size, 0, none⟩) 3 3, .slice (some ⟨w0.heap.size + 1 + 1, 0, none⟩) 0 0] 48)) (.cells #[] 25)) (Nat.le_refl _); simpa [Nat.add_assoc] using h) (by have h := own_base (base' := w0.heap.size) (pc_row0 ((w0.alloc (.cells #[.int .i64 m, .int .i64 (n1 : Int), .int .i64 (n2 : Int)] 2)).alloc (.cells #[.int .i64 8, .slice (some ⟨w0.heap.size, 0, none⟩) 3 3, .slice (some ⟨w0.heap.size + 1 + 1, 0, none⟩) 0 0] 48))) (by simp <;> omega); simpa [Nat.add_assoc] using h) (below_al (below_al (below_al (Below.refl _ _))))
theorem pc_way4 (w0 : World) (m : Int) (n1 n2 : Nat) : PC w0 m n1 n2 (.pointer (some ⟨w0.heap.size, 0, none⟩)) (((w0.alloc (.cells #[.int .i64 8, .slice (some ⟨w0.heap.size + 1 + 1, 0, none⟩) 3 3, .slice (some ⟨w0.heap.size + 1, 0, none⟩) 0 0] 48)).alloc (.cells #[] 25)).alloc (.cells #[.int .i64 m, .int .i64 (n1 : Int), .int .i64 (n2 : Int)] 2)) :=
  pc_at (by have h := blk_alloc (blk_alloc (box_new w0 #[.int .i64 8, .slice (some ⟨w0.heap.size + 1 + 1, 0, none⟩) 3 3, .slice (some ⟨w0.heap.size + 1, 0, none⟩) 0 0] 48) (.cells #[] 25)) (.cells #[.int .i64 m, .int .i64 (n1 : Int), .int .i64 (n2 : Int)] 2); simpa [Nat.add_assoc] using h) (by omega) (by have h := own_base (base' := w0.heap.size) (pc_row3 ((w0.alloc (.cells #[.int .i64 8, .slice (some ⟨w0.heap.size + 1 + 1, 0, none⟩) 3 3, .slice (some ⟨w0.heap.size + 1, 0, none⟩) 0 0] 48)).alloc (.cells #[] 25)) (.int .i64 m) (.int .i64 (n1 : Int)) (.int .i64 (n2 : Int))) (by simp <;> omega); simpa [Nat.add_assoc] using h) (by have h := ownN_below (own_base (base' := w0.heap.size) (pc_row0 (w0.alloc (.cells #[.int .i64 8, .slice (some ⟨w0.heap.size + 1 + 1, 0, none⟩) 3 3, .slice (some ⟨w0.heap.size + 1, 0, none⟩) 0 0] 48))) (by simp <;> omega)) (below_new ((w0.alloc (.cells #[.int .i64 8, .slice (some ⟨w0.heap.size + 1 + 1, 0, none⟩) 3 3, .slice (some ⟨w0.heap.size + 1, 0, none⟩) 0 0] 48)).alloc (.cells #[] 25)) (.cells #[.int .i64 m, .int .i64 (n1 : Int), .int .i64 (n2 : Int)] 2)) (Nat.le_refl _); simpa [Nat.add_assoc] using h) (below_al (below_al (below_al (Below.refl _ _))))
theorem pc_way5 (w0 : World) (m : Int) (n1 n2 : Nat) : PC w0 m n1 n2 (.pointer (some ⟨w0.heap.size + 1, 0, none⟩)) (((w0.alloc (.cells #[] 25)).alloc (.cells #[.int .i64 8, .slice (some ⟨w0.heap.size + 1 + 1, 0, none⟩) 3 3, .slice (some ⟨w0.heap.size, 0, none⟩) 0 0] 48)).alloc (.cells #[.int .i64 m, .int .i64 (n1 : Int), .int .i64 (n2 : Int)] 2)) :=
  pc_at (by have h := blk_alloc (box_new (w0.alloc (.cells #[] 25)) #[.int .i64 8, .slice (some ⟨w0.heap.size + 1 + 1, 0, none⟩) 3 3, .slice (some ⟨w0.heap.size, 0, none⟩) 0 0] 48) (.cells #[.int .i64 m, .int .i64 (n1 : Int), .int .i64 (n2 : Int)] 2); simpa [Nat.add_assoc] using h) (by omega) (by have h := own_base (base' := w0.heap.size) (pc_row3 ((w0.alloc (.cells #[] 25)).alloc (.cells #[.int .i64 8, .slice (some ⟨w0.heap.size + 1 + 1, 0, none⟩) 3 3, .slice (some ⟨w0.heap.size, 0, none⟩) 0 0] 48)) (.int .i64 m) (.int .i64 (n1 : Int)) (.int .i64 (n2 : Int))) (by simp <;> omega); simpa [Nat.add_assoc] using h) (by have h := ownN_below (ownN_below (pc_row0 w0) (below_new (w0.alloc (.cells #[] 25)) (.cells #[.int .i64 8, .slice (some ⟨w0.heap.size + 1 + 1, 0, none⟩) 3 3, .slice (some ⟨w0.heap.size, 0, none⟩) 0 0] 48)) (Nat.le_refl _)) (below_new ((w0.alloc (.cells #[] 25)).alloc (.cells #[.int .i64 8, .slice (some ⟨w0.heap.size + 1 + 1, 0, none⟩) 3 3, .slice (some ⟨w0.heap.size, 0, none⟩) 0 0] 48)) (.cells #[.int .i64 m, .int .i64 (n1 : Int), .int .i64 (n2 : Int)] 2)) (Nat.le_refl _); simpa [Nat.add_assoc] using h) (below_al (below_al (below_al (Below.refl _ _))))
theorem cell_alS {w : World} {p : Addr} {v : Value} {o : Obj} (h : w.cell? p = some v) : (w.alloc o).cell? p = some v := (World.cell?_alloc_some w p o (by rw [h]; rfl)).trans h
section
variable {w : World} {o : Obj} {g g' i : Nat} {u a b c : Value}
theorem tri_al (h : w.cell? ⟨g, 0, none⟩ = some a ∧ w.cell? ⟨g, 1, none⟩ = some b ∧ w.cell? ⟨g, 2, none⟩ = some c) : (w.alloc o).cell? ⟨g, 0, none⟩ = some a ∧ (w.alloc o).cell? ⟨g, 1, none⟩ = some b ∧ (w.alloc o).cell? ⟨g, 2, none⟩ = some c := ⟨cell_alS h.1, cell_alS h.2.1, cell_alS h.2.2⟩
theorem tri_dr (h : w.cell? ⟨g, 0, none⟩ = some a ∧ w.cell? ⟨g, 1, none⟩ = some b ∧ w.cell? ⟨g, 2, none⟩ = some c) : w.drew.cell? ⟨g, 0, none⟩ = some a ∧ w.drew.cell? ⟨g, 1, none⟩ = some b ∧ w.drew.cell? ⟨g, 2, none⟩ = some c := h
theorem tri_set (h : w.cell? ⟨g, 0, none⟩ = some a ∧ w.cell? ⟨g, 1, none⟩ = some b ∧ w.cell? ⟨g, 2, none⟩ = some c) (hne : g ≠ g') : (w.setCell ⟨g', i, none⟩ u).cell? ⟨g, 0, none⟩ = some a ∧ (w.setCell ⟨g', i, none⟩ u).cell? ⟨g, 1, none⟩ = some b ∧ (w.setCell ⟨g', i, none⟩ u).cell? ⟨g, 2, none⟩ = some c := ⟨cell_far h.1 hne, cell_far h.2.1 hne, cell_far h.2.2 hne⟩
end
theorem pc_dr {w0 w : World} {m : Int} {n1 n2 : Nat} {s : Value} (h : PC w0 m n1 n2 s w) : PC w0 m n1 n2 s w.drew := by
  obtain ⟨g, A, c, B, d, e, h⟩ := h
  exact ⟨g, A, c, B, d, e, h.drew⟩
/-- The end: the result's variable is written. -/
theorem out_end {w w0 wx : World} {g : Nat} {A B : Option Addr} {n c m d : Nat} {ns : List Int} {us : List Value} {ws : List (List Int)} {b : Bool} {v0 v1 v2 : Value} {r : Nat} (h : PB w0 wx g A n c ns B m d us ws) (hb : Below w.heap.size w w0) (hr : w.heap.size ≤ r) (hr0 : r < w0.heap.size) :
    OutP w ns ws b (.returned (.tuple #[prfV 8 A n c B m d, .bool b])) (((wx.setCell ⟨r, 0, none⟩ v0).setCell ⟨r, 1, none⟩ v1).setCell ⟨r, 2, none⟩ v2) := by
  have hs : Ch (· = r) wx (((wx.setCell ⟨r, 0, none⟩ v0).setCell ⟨r, 1, none⟩ v1).setCell ⟨r, 2, none⟩ v2) := ((ch_set _ _ 0 _).trans (ch_set _ _ 1 _)).trans (ch_set _ _ 2 _)
  have hz := hb.trans (h.lo.mono hb.size)
  refine ⟨A, n, c, B, m, d, us, rfl, own_ch h.nums hs (fun k h1 h2 => ?_), h.rows.ch hs (fun k h1 h2 => ?_), fun q hq => Nat.le_trans hb.size (h.nlo q hq), fun q hq => Nat.le_trans hb.size (h.wlo q hq), h.dis, below_ch hz hs (fun k hk => by have e : k = r := hk; omega) hz.size⟩
  · have h3 := h.nlo k h1; have e : k = r := h2; omega
  · have h3 := h.wlo k h1; have e : k = r := h2; omega
set_option maxHeartbeats 16000000 in
set_option maxRecDepth 100000 in
theorem l29Out_any (w : World) (g : Nat) (m : Int) (A1 : Option Addr) (n1 c1 : Nat) (A2 : Option Addr) (n2 c2 : Nat) (A3 : Option Addr) (n3 c3 : Nat) (A4 : Option Addr) (n4 c4 : Nat) (hp : BS w g m A1 n1 c1 A2 n2 c2 A3 n3 c3 A4 n4 c4)
    (ls rs cs : List (List Int)) (sts : List Int) (hr1 : RdL w A1 n1 ls) (hn1 : n1 ≤ 100000000) (hr2 : RdL w A2 n2 rs) (hn2 : n2 ≤ 100000000) (hr3 : RdL w A3 n3 cs) (hn3 : n3 ≤ 100000000) (hr4 : Rd w A4 n4 (ints sts)) (hn4 : n4 ≤ 100000000) :
    Calls Try.prog 78 #[.pointer (some ⟨g, 0, none⟩)] w (OutP w ([m, (n1 : Int), (n2 : Int)] ++ sts) (ls ++ rs ++ cs) (okP 8 ([m, (n1 : Int), (n2 : Int)] ++ sts) (ls ++ rs ++ cs))) := by
  obtain ⟨w0, hw0⟩ : ∃ w0, w0 = w.alloc (.cells pfZ 48) := ⟨_, rfl⟩
  have hB : Below w.heap.size w w0 := by rw [hw0]; exact below_new w _
  have hz : w0.heap[w.heap.size]? = some (.cells pfZ 48 (0, 0)) := by rw [hw0]; exact box_new w _ _
  have HZ := Lib.hid hz
  have hp0 : BS w0 g m A1 n1 c1 A2 n2 c2 A3 n3 c3 A4 n4 c4 := blk_bel hp hB
  have HP := Lib.hid hp0
  have HR1 := Lib.hid (hr1.below hB (Nat.le_refl _)); have HR2 := Lib.hid (hr2.below hB (Nat.le_refl _)); have HR3 := Lib.hid (hr3.below hB (Nat.le_refl _)); have HR4 := Lib.hid (hr4.below hB (Nat.le_refl _))
  have HL1 : Hid (ls.length = n1) := Lib.hid hr1.len
  have HL2 : Hid (rs.length = n2) := Lib.hid hr2.len
  have HL3 : Hid (cs.length = n3) := Lib.hid hr3.len
  have HB := Lib.hid hB
  have HZL : Hid (w.heap.size < w0.heap.size) := Lib.hid (blk_lt hz)
  have HNB : Hid (n4 ≤ 100000000) := Lib.hid hn4
  have HMB : Hid (n1 + n2 + n3 ≤ 1000000000) := Lib.hid (by omega)
  have HN4 : Hid (3 + n4 ≤ 1099511627776) := Lib.hid (by omega)
  obtain ⟨y0, y1, y2, y3, y4⟩ := hp0.cells
  have TRI := Lib.hid (And.intro y0 (And.intro y1 y2))
  have HGL : Hid (g < w0.heap.size) := Lib.hid (blk_lt hp0)
  have HNL : Hid (([m, (n1 : Int), (n2 : Int)] ++ sts).length = 3 + n4) := Lib.hid (by have h := hr4.1; simp at h; simp [h]; omega)
  generalize hNS : [m, (n1 : Int), (n2 : Int)] ++ sts = NS at *
  have HNS := Lib.hid hNS
  clear hNS hB hz hp0 hr1 hr2 hr3 hr4 hp
  go_enter Try.func78, Try.ntmps78
  go_upto_region 1 with fail
  rw [← hw0]
  clear hw0
  as_aux_lemma =>
  go_cut [4] from 8 to 24 (PC w0 m n1 n2)
  case first =>
    as_aux_lemma =>
    go_region_held3 (fun w' => w'.cell? ⟨g, 0, none⟩ = some (.int .i64 m) ∧ w'.cell? ⟨g, 1, none⟩ = some (.slice A1 n1 c1) ∧ w'.cell? ⟨g, 2, none⟩ = some (.slice A2 n2 c2)) (first | with_reducible exact ⟨y0, y1, y2⟩ | (repeat (first | exact TRI.out | refine tri_dr ?_ | refine tri_al ?_ | refine tri_set ?_ (by have h := HGL.out; first | omega | (simp; omega))))) (fail)
    all_goals
      as_aux_lemma =>
      go_wp2_with fail
      go_meet
      first
        | (have h := pc_way0 w0 m n1 n2; (try simp only [World.size_alloc] at h); exact h)
        | (have h := pc_way0 w0 m n1 n2; (try simp only [World.size_alloc] at h); exact pc_dr h)
        | (have h := pc_way1 w0 m n1 n2; (try simp only [World.size_alloc] at h); exact h)
        | (have h := pc_way1 w0 m n1 n2; (try simp only [World.size_alloc] at h); exact pc_dr h)
        | (have h := pc_way2 w0 m n1 n2; (try simp only [World.size_alloc] at h); exact h)
        | (have h := pc_way2 w0 m n1 n2; (try simp only [World.size_alloc] at h); exact pc_dr h)
        | (have h := pc_way3 w0 m n1 n2; (try simp only [World.size_alloc] at h); exact h)
        | (have h := pc_way3 w0 m n1 n2; (try simp only [World.size_alloc] at h); exact pc_dr h)
        | (have h := pc_way4 w0 m n1 n2; (try simp only [World.size_alloc] at h); exact h)
        | (have h := pc_way4 w0 m n1 n2; (try simp only [World.size_alloc] at h); exact pc_dr h)
        | (have h := pc_way5 w0 m n1 n2; (try simp only [World.size_alloc] at h); exact h)
        | (have h := pc_way5 w0 m n1 n2; (try simp only [World.size_alloc] at h); exact pc_dr h)
  case rest =>
    as_aux_lemma =>
    obtain ⟨gp, A5, c5, B5, d5, rfl, hpb⟩ := hcut
    obtain ⟨w1, rfl⟩ : ∃ w1 : World, w1 = wc := ⟨_, rfl⟩
    have HPB := Lib.hid hpb
    clear y0 y1 y2 y3 y4
    have hbs1 : BS w1 g m A1 n1 c1 A2 n2 c2 A3 n3 c3 A4 n4 c4 := blk_bel HP.out hpb.lo
    obtain ⟨y0, y1, y2, y3, y4⟩ := hbs1.cells
    clear hbs1
    have x1 := hpb.y1
    have HRX4 := Lib.hid (HR4.out.below hpb.lo (Nat.le_refl _))
    clear hpb
    go_wp2_with fail
    (first
      | (go_region_law (first
          | (refine step_appOz Try.eltI (by rfl) (.tmp 26) (.tmp 30) (by rfl) _ 0 A5 _ 3 c5 n4 _ (ints [m, (n1 : Int), (n2 : Int)]) (ints sts) (by rfl) (by exact HPB.out.drew.nums) (by rfl) (by have h := HRX4.out; exact h) (by exact ints_one) (by exact HN4.out) ?_
             intro A6 c6 w6 ho6 hch6 hfo6
             have hch6' := ch_undr hch6
             have hbx := HPB.out.boxN hch6'
             have x6 := blk_cell hbx 1 rfl
             have e6 := blk_free hbx 1
             have HPN := Lib.hid (HPB.out.addN (ks := sts) (by have h := ho6; rwa [← List.map_append] at h) hch6' hfo6)
             clear hbx ho6 hch6 hfo6 hch6')))
      | fail)
    all_goals
      as_aux_lemma =>
      go_wp2_with fail
      obtain ⟨w7, hw7⟩ : ∃ w7, w7 = w6.setCell ⟨gp, 1, none⟩ (.slice A6 (3 + n4) c6) := ⟨_, rfl⟩
      have HPW : Hid (PB w0 w7 gp A6 (3 + n4) c6 NS B5 0 d5 [] []) := Lib.hid (by rw [hw7, ← HNS.out]; exact HPN.out)
      rw [← hw7]
      clear hw7 x6 e6 HPN HPB y0 y1 y2 y3 y4 x1 HRX4 hn4
      have HN5 : Hid (3 + n4 ≤ 1000000000) := Lib.hid (by have h := HNB.out; omega)
      generalize 3 + n4 = n5 at *
      go_loopw [5] (fun i wr => ∃ (j : Nat) (B : Option Addr) (d : Nat) (us : List Value), j ≤ n1 ∧ i = .int .i64 j ∧ PB w0 wr gp A6 n5 c6 NS B (j) d us (ls.take j)) (fun i _ => n1 - (intOf i).toNat)
      case atStart => exact ⟨0, B5, d5, ([] : List Value), by omega, rfl, by simpa using HPW.out⟩
      case round =>
        as_aux_lemma =>
        obtain ⟨j, B, d, us, hj, rfl, hpb⟩ := hrel
        have HPB := Lib.hid hpb
        have hbs1 : BS wr g m A1 n1 c1 A2 n2 c2 A3 n3 c3 A4 n4 c4 := blk_bel HP.out hpb.lo
        obtain ⟨y0, y1, y2, y3, y4⟩ := hbs1.cells
        clear hbs1
        by_cases hlt : j < n1
        · as_aux_lemma =>
          have hlt' : (j : Int) < (n1 : Int) := by omega
          obtain ⟨xs, hx⟩ := get_some (xs := ls) (k := j) (by rw [HL1.out]; exact hlt)
          obtain ⟨b, off, A', n', c', hA, hbs, hc, hn', hr'⟩ := HR1.out.at_ hx
          subst hA
          have q1 := (hpb.lo.cell (p := ⟨b, off + j, none⟩) hbs).trans hc
          have HRX := Lib.hid (hr'.below hpb.lo (Nat.le_refl _))
          have HXL : Hid (xs.length ≤ 1000000000) := Lib.hid (by have h := hr'.1; simp at h; omega)
          have HNX : Hid (n' ≤ 1000000000) := Lib.hid hn'
          have HT : Hid (ls.take (j + 1) = ls.take j ++ [xs]) := Lib.hid (by rw [List.take_add_one, hx]; rfl)
          have HU1 : Hid (∀ A n c, ∀ u ∈ [Value.slice A n c], u.oneCell' = true) := Lib.hid (by simp [Value.oneCell'])
          have HJB : Hid (j + 1 ≤ 1099511627776) := Lib.hid (by omega)
          have x2 := hpb.y2
          clear hx hr' hc hbs hpb hn'
          go_wp2_with fail
          (first
            | (go_region_law (first
                | (have hq := HBB2.out
                   clear hq
                   refine step_appOz Try.eltS (by rfl) (.tmp 43) (.tmp 52) (by rfl) _ 0 B _ (j) d 1 _ us [.slice A2' n2' c2'] (by rfl) (by exact (HPB.out.below HBB2.out).alloc.rows.1) (by rfl) (by exact own_rd (base := 0) (c := 1) (e := 25) (tmp_new _ _ _)) (by exact HU1.out _ _ _) (by exact HJB.out) ?_
                   intro A8 c8 w8 ho8 hch8 hfo8
                   have hch8' := (ch_alloc (Fo (.slice B (j) d)) w2 (.cells #[.slice A2' n2' c2'] 25)).trans hch8
                   have hbx := HPB.out.boxW HBB2.out hch8'
                   have x8 := blk_cell hbx 2 rfl
                   have e8 := blk_free hbx 2
                   have HPN := Lib.hid (HPB.out.addW HBB2.out HO2.out (row_n HO2.out HXL.out) ho8 hch8' (al_hf hfo8))
                   clear hbx ho8 hch8 hch8' hfo8)
                | (go_simp
                   go_at_call 117
                   refine (l00Own_any _ _ n' c' xs (by have h := HRX.out; exact h) (by exact HNX.out)).mono ?_
                   rintro e w2 ⟨A2', n2', c2', rfl, ho2, hb2⟩
                   have HBB2 := Lib.hid (und1 hb2)
                   have HO2 : Hid (w2.ownsRow wr.heap.size 2 1 (.slice A2' n2' c2') n2' (ints xs)) := Lib.hid ho2
                   have x2b := (HPB.out.below HBB2.out).y2
                   have x2a := ((HPB.out.below HBB2.out).alloc (o := .cells #[.slice A2' n2' c2'] 25)).y2
                   clear ho2 hb2)))
            | fail)
          all_goals
            as_aux_lemma =>
            go_wp2_with fail
            go_roundw
            case rel => exact ⟨j + 1, A8, c8, _, by omega, by go_num, by have h := HPN.out; rw [HT.out]; simpa [List.append_assoc, Nat.add_assoc] using h⟩
            case measure => simp [intOf]; omega
        · obtain rfl : n1 = j := by omega
          have e8 : ls.take n1 = ls := by rw [List.take_of_length_le (by rw [HL1.out]; omega)]
          rw [e8] at hpb
          have HPW8 := Lib.hid hpb
          obtain ⟨w8, rfl⟩ : ∃ w8 : World, w8 = wr := ⟨_, rfl⟩
          obtain ⟨B8, rfl⟩ : ∃ B8 : Option Addr, B8 = B := ⟨_, rfl⟩
          obtain ⟨d8, rfl⟩ : ∃ d8 : Nat, d8 = d := ⟨_, rfl⟩
          obtain ⟨us8, rfl⟩ : ∃ us8 : List Value, us8 = us := ⟨_, rfl⟩
          clear hpb e8 HPB hlt
          go_wp2_with fail
          clear y0 y1 y2 y3 y4
          go_loopw [6] (fun i wr => ∃ (j : Nat) (B : Option Addr) (d : Nat) (us : List Value), j ≤ n2 ∧ i = .int .i64 j ∧ PB w0 wr gp A6 n5 c6 NS B (n1 + j) d us (ls ++ rs.take j)) (fun i _ => n2 - (intOf i).toNat)
          case atStart => exact ⟨0, B8, d8, us8, by omega, rfl, by simpa using HPW8.out⟩
          case round =>
            as_aux_lemma =>
            obtain ⟨j, B, d, us, hj, rfl, hpb⟩ := hrel
            have HPB := Lib.hid hpb
            have hbs1 : BS wr g m A1 n1 c1 A2 n2 c2 A3 n3 c3 A4 n4 c4 := blk_bel HP.out hpb.lo
            obtain ⟨y0, y1, y2, y3, y4⟩ := hbs1.cells
            clear hbs1
            by_cases hlt : j < n2
            · as_aux_lemma =>
              have hlt' : (j : Int) < (n2 : Int) := by omega
              obtain ⟨xs, hx⟩ := get_some (xs := rs) (k := j) (by rw [HL2.out]; exact hlt)
              obtain ⟨b, off, A', n', c', hA, hbs, hc, hn', hr'⟩ := HR2.out.at_ hx
              subst hA
              have q1 := (hpb.lo.cell (p := ⟨b, off + j, none⟩) hbs).trans hc
              have HRX := Lib.hid (hr'.below hpb.lo (Nat.le_refl _))
              have HXL : Hid (xs.length ≤ 1000000000) := Lib.hid (by have h := hr'.1; simp at h; omega)
              have HNX : Hid (n' ≤ 1000000000) := Lib.hid hn'
              have HT : Hid (rs.take (j + 1) = rs.take j ++ [xs]) := Lib.hid (by rw [List.take_add_one, hx]; rfl)
              have HU1 : Hid (∀ A n c, ∀ u ∈ [Value.slice A n c], u.oneCell' = true) := Lib.hid (by simp [Value.oneCell'])
              have HJB : Hid (n1 + j + 1 ≤ 1099511627776) := Lib.hid (by omega)
              have x2 := hpb.y2
              clear hx hr' hc hbs hpb hn'
              go_wp2_with fail
              (first
                | (go_region_law (first
                    | (have hq := HBB2.out
                       clear hq
                       refine step_appOz Try.eltS (by rfl) (.tmp 65) (.tmp 74) (by rfl) _ 0 B _ (n1 + j) d 1 _ us [.slice A2' n2' c2'] (by rfl) (by exact (HPB.out.below HBB2.out).alloc.rows.1) (by rfl) (by exact own_rd (base := 0) (c := 1) (e := 25) (tmp_new _ _ _)) (by exact HU1.out _ _ _) (by exact HJB.out) ?_
                       intro A8 c8 w8 ho8 hch8 hfo8
                       have hch8' := (ch_alloc (Fo (.slice B (n1 + j) d)) w2 (.cells #[.slice A2' n2' c2'] 25)).trans hch8
                       have hbx := HPB.out.boxW HBB2.out hch8'
                       have x8 := blk_cell hbx 2 rfl
                       have e8 := blk_free hbx 2
                       have HPN := Lib.hid (HPB.out.addW HBB2.out HO2.out (row_n HO2.out HXL.out) ho8 hch8' (al_hf hfo8))
                       clear hbx ho8 hch8 hch8' hfo8)
                    | (go_simp
                       go_at_call 117
                       refine (l00Own_any _ _ n' c' xs (by have h := HRX.out; exact h) (by exact HNX.out)).mono ?_
                       rintro e w2 ⟨A2', n2', c2', rfl, ho2, hb2⟩
                       have HBB2 := Lib.hid (und1 hb2)
                       have HO2 : Hid (w2.ownsRow wr.heap.size 2 1 (.slice A2' n2' c2') n2' (ints xs)) := Lib.hid ho2
                       have x2b := (HPB.out.below HBB2.out).y2
                       have x2a := ((HPB.out.below HBB2.out).alloc (o := .cells #[.slice A2' n2' c2'] 25)).y2
                       clear ho2 hb2)))
                | fail)
              all_goals
                as_aux_lemma =>
                go_wp2_with fail
                go_roundw
                case rel => exact ⟨j + 1, A8, c8, _, by omega, by go_num, by have h := HPN.out; rw [HT.out]; simpa [List.append_assoc, Nat.add_assoc] using h⟩
                case measure => simp [intOf]; omega
            · obtain rfl : n2 = j := by omega
              have e9 : ls ++ rs.take n2 = ls ++ rs := by rw [List.take_of_length_le (by rw [HL2.out]; omega)]
              rw [e9] at hpb
              have HPW9 := Lib.hid hpb
              obtain ⟨w9, rfl⟩ : ∃ w9 : World, w9 = wr := ⟨_, rfl⟩
              obtain ⟨B9, rfl⟩ : ∃ B9 : Option Addr, B9 = B := ⟨_, rfl⟩
              obtain ⟨d9, rfl⟩ : ∃ d9 : Nat, d9 = d := ⟨_, rfl⟩
              obtain ⟨us9, rfl⟩ : ∃ us9 : List Value, us9 = us := ⟨_, rfl⟩
              clear hpb e9 HPB hlt
              go_wp2_with fail
              clear y0 y1 y2 y3 y4
              go_loopw [7] (fun i wr => ∃ (j : Nat) (B : Option Addr) (d : Nat) (us : List Value), j ≤ n3 ∧ i = .int .i64 j ∧ PB w0 wr gp A6 n5 c6 NS B (n1 + n2 + j) d us (ls ++ rs ++ cs.take j)) (fun i _ => n3 - (intOf i).toNat)
              case atStart => exact ⟨0, B9, d9, us9, by omega, rfl, by simpa using HPW9.out⟩
              case round =>
                as_aux_lemma =>
                obtain ⟨j, B, d, us, hj, rfl, hpb⟩ := hrel
                have HPB := Lib.hid hpb
                have hbs1 : BS wr g m A1 n1 c1 A2 n2 c2 A3 n3 c3 A4 n4 c4 := blk_bel HP.out hpb.lo
                obtain ⟨y0, y1, y2, y3, y4⟩ := hbs1.cells
                clear hbs1
                by_cases hlt : j < n3
                · as_aux_lemma =>
                  have hlt' : (j : Int) < (n3 : Int) := by omega
                  obtain ⟨xs, hx⟩ := get_some (xs := cs) (k := j) (by rw [HL3.out]; exact hlt)
                  obtain ⟨b, off, A', n', c', hA, hbs, hc, hn', hr'⟩ := HR3.out.at_ hx
                  subst hA
                  have q1 := (hpb.lo.cell (p := ⟨b, off + j, none⟩) hbs).trans hc
                  have HRX := Lib.hid (hr'.below hpb.lo (Nat.le_refl _))
                  have HXL : Hid (xs.length ≤ 1000000000) := Lib.hid (by have h := hr'.1; simp at h; omega)
                  have HNX : Hid (n' ≤ 1000000000) := Lib.hid hn'
                  have HT : Hid (cs.take (j + 1) = cs.take j ++ [xs]) := Lib.hid (by rw [List.take_add_one, hx]; rfl)
                  have HU1 : Hid (∀ A n c, ∀ u ∈ [Value.slice A n c], u.oneCell' = true) := Lib.hid (by simp [Value.oneCell'])
                  have HJB : Hid (n1 + n2 + j + 1 ≤ 1099511627776) := Lib.hid (by omega)
                  have x2 := hpb.y2
                  clear hx hr' hc hbs hpb hn'
                  go_wp2_with fail
                  (first
                    | (go_region_law (first
                        | (have hq := HBB2.out
                           clear hq
                           refine step_appOz Try.eltS (by rfl) (.tmp 87) (.tmp 96) (by rfl) _ 0 B _ (n1 + n2 + j) d 1 _ us [.slice A2' n2' c2'] (by rfl) (by exact (HPB.out.below HBB2.out).alloc.rows.1) (by rfl) (by exact own_rd (base := 0) (c := 1) (e := 25) (tmp_new _ _ _)) (by exact HU1.out _ _ _) (by exact HJB.out) ?_
                           intro A8 c8 w8 ho8 hch8 hfo8
                           have hch8' := (ch_alloc (Fo (.slice B (n1 + n2 + j) d)) w2 (.cells #[.slice A2' n2' c2'] 25)).trans hch8
                           have hbx := HPB.out.boxW HBB2.out hch8'
                           have x8 := blk_cell hbx 2 rfl
                           have e8 := blk_free hbx 2
                           have HPN := Lib.hid (HPB.out.addW HBB2.out HO2.out (row_n HO2.out HXL.out) ho8 hch8' (al_hf hfo8))
                           clear hbx ho8 hch8 hch8' hfo8)
                        | (go_simp
                           go_at_call 117
                           refine (l00Own_any _ _ n' c' xs (by have h := HRX.out; exact h) (by exact HNX.out)).mono ?_
                           rintro e w2 ⟨A2', n2', c2', rfl, ho2, hb2⟩
                           have HBB2 := Lib.hid (und1 hb2)
                           have HO2 : Hid (w2.ownsRow wr.heap.size 2 1 (.slice A2' n2' c2') n2' (ints xs)) := Lib.hid ho2
                           have x2b := (HPB.out.below HBB2.out).y2
                           have x2a := ((HPB.out.below HBB2.out).alloc (o := .cells #[.slice A2' n2' c2'] 25)).y2
                           clear ho2 hb2)))
                    | fail)
                  all_goals
                    as_aux_lemma =>
                    go_wp2_with fail
                    go_roundw
                    case rel => exact ⟨j + 1, A8, c8, _, by omega, by go_num, by have h := HPN.out; rw [HT.out]; simpa [List.append_assoc, Nat.add_assoc] using h⟩
                    case measure => simp [intOf]; omega
                · obtain rfl : n3 = j := by omega
                  have e10 : ls ++ rs ++ cs.take n3 = ls ++ rs ++ cs := by rw [List.take_of_length_le (by rw [HL3.out]; omega)]
                  rw [e10] at hpb
                  have HPW10 := Lib.hid hpb
                  obtain ⟨w10, rfl⟩ : ∃ w10 : World, w10 = wr := ⟨_, rfl⟩
                  obtain ⟨B10, rfl⟩ : ∃ B10 : Option Addr, B10 = B := ⟨_, rfl⟩
                  obtain ⟨d10, rfl⟩ : ∃ d10 : Nat, d10 = d := ⟨_, rfl⟩
                  obtain ⟨us10, rfl⟩ : ∃ us10 : List Value, us10 = us := ⟨_, rfl⟩
                  clear hpb e10 HPB hlt
                  go_wp2_with fail
                  have hzr := blk_bel HZ.out HPW10.out.lo
                  have z0 := blk_cell hzr 0 rfl
                  have z1 := blk_cell hzr 1 rfl
                  have z2 := blk_cell hzr 2 rfl
                  have f0 := blk_free hzr 0
                  have f1 := blk_free hzr 1
                  have f2 := blk_free hzr 2
                  have x0 := blk_cell HPW10.out.box 0 rfl
                  have x1 := blk_cell HPW10.out.box 1 rfl
                  have x2 := blk_cell HPW10.out.box 2 rfl
                  have HZR := Lib.hid hzr
                  clear hzr
                  (first
                    | (go_region_law (first
                        | (go_simp
                           go_at_call 74
                           refine (l25Is_any _ gp 8 A6 n5 c6 B10 _ d10 (by exact HPW10.out.box) NS (by exact own_rd HPW10.out.nums) (by exact HN5.out) (ls ++ rs ++ cs) (by exact HPW10.out.rows.ownp.rdl) (by exact HMB.out)).mono ?_
                           rintro e w12 ⟨rfl, hb12⟩
                           have HB12 := Lib.hid (und1 hb12)
                           have hzr := blk_bel HZR.out HB12.out
                           have hbx := blk_bel HPW10.out.box HB12.out
                           clear hb12 z0 z1 z2 f0 f1 f2 x0 x1 x2
                           have z0 := blk_cell hzr 0 rfl
                           have z1 := blk_cell hzr 1 rfl
                           have z2 := blk_cell hzr 2 rfl
                           have f0 := blk_free hzr 0
                           have f1 := blk_free hzr 1
                           have f2 := blk_free hzr 2
                           have x0 := blk_cell hbx 0 rfl
                           have x1 := blk_cell hbx 1 rfl
                           have x2 := blk_cell hbx 2 rfl
                           clear hzr hbx)))
                    | fail)
                  all_goals
                    as_aux_lemma =>
                    go_wp2_with fail
                    exact bodyPost_ret (v := .tuple #[prfV 8 A6 n5 c6 B10 (n1 + n2 + n3) d10, .bool (okP 8 NS (ls ++ rs ++ cs))]) (by simp [results, Try.results78, go_sem, z0, z1, z2]) rfl (out_end (HPW10.out.below HB12.out) HB.out (Nat.le_of_eq (Eq.refl _)) HZL.out)
end Go.Proofs.Ytcpkhhammafchaa
