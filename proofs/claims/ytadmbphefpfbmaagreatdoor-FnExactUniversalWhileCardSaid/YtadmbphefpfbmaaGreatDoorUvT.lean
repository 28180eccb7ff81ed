/- The universal program: strings.Replacer's trie: what add does at the nodes that three keys make. -/
import Derived.Test.YtadmbphefpfbmaaGreatDoorGA
import Derived.Deep.DrawnRows
import Derived.Deep.RegionLaw
import Derived.Deep.OwnRows
import Derived.StillTailTactics
namespace Go.Proofs.YtadmbphefpfbmaaGreatDoor
open Go.RowKit
set_option linter.unusedVariables false
set_option linter.unusedSimpArgs false
attribute [local go_sem ↓] Go.wp_at_zero Go.wp_at_succ
/-- The cells of a node. -/
abbrev nodC (v : ByteArray) (p : Int) (pre : ByteArray) (nx tb : Value) : Array Value := #[.string v, .int .i64 p, .string pre, nx, tb]
abbrev noS : Value := .slice none 0 0
abbrev noP : Value := .pointer none
abbrev ptr (b : Nat) : Value := .pointer (some ⟨b, 0, none⟩)
abbrev noB : ByteArray := ⟨#[]⟩
def NodAt (w : World) (b : Nat) (v : ByteArray) (p : Int) (pre : ByteArray) (nx tb : Value) : Prop := w.heap[b]? = some (.cells (nodC v p pre nx tb) 237 (0, 0))
set_option maxRecDepth 100000 in
set_option maxHeartbeats 2000000 in
theorem addEmpty_any (w : World) (N : Nat) (rv : Value) (v : ByteArray) (p : Int) (hN : NodAt w N noB 0 noB noP noS) :
    Calls Tryz.prog 186 #[ptr N, .string noB, .string v, .int .i64 p, rv] w fun e w' => e = .returned (.tuple #[]) ∧ NodAt w' N v p noB noP noS ∧ Ch (· = N) w w' := by
  have x1 : w.cell? ⟨N, 1, none⟩ = some (.int .i64 0) := blk_cell hN 1 rfl
  have x0 : w.cell? ⟨N, 0, none⟩ = some (.string noB) := blk_cell hN 0 rfl
  have z1 := blk_free hN 1
  have z0 := blk_free hN 0
  have hno : noB.toList.isEmpty = true := by simp [noB]
  have HN := Lib.hid hN
  clear hN
  go_enter Tryz.func186, Tryz.ntmps186
  go_wp2_with fail
  refine bodyPost_ret (results_none rfl _ _ _) rfl ?_
  exact ⟨rfl, blk_set (blk_set HN.out 0 (.string v)) 1 (.int .i64 p), (ch_set _ _ _ _).trans (ch_set _ _ _ _)⟩
/-- A table of four. -/
theorem run_mkTab (w : World) : (Instr.makeSlice 235 (.int .i64 4) (.int .i64 4)).run Tryz.prog w = .ok (.slice (some ⟨w.heap.size, 0, none⟩) 4 4) (w.alloc (.cells #[.pointer none, .pointer none, .pointer none, .pointer none] 234)) := by
  have h := run_make_row' (P := Tryz.prog) 235 234 (.pointer none) 8 Tryz.underlying235 (by kernel_rfl) rfl .i64 .i64 4 (by omega) (by omega) w
  have e : madeCells #[Value.pointer none] 4 = #[.pointer none, .pointer none, .pointer none, .pointer none] := by kernel_rfl
  rw [e] at h
  exact h
theorem ch_step {F G : Nat → Prop} {w w1 w2 : World} (h : Ch F w w1) (h2 : Ch G w1 w2) (hG : ∀ k, G k → F k ∨ w.heap.size ≤ k) : Ch F w w2 :=
  ⟨h2.os.trans h.os, h2.tape.trans h.tape, h2.output.trans h.output, Nat.le_trans h.size h2.size, fun i hi ho => (h2.block i (Nat.lt_of_lt_of_le hi h.size) (fun e => by rcases hG i e with h5 | h5; exact ho h5; omega)).trans (h.block i hi ho)⟩
set_option maxRecDepth 100000 in
set_option maxHeartbeats 2000000 in
theorem addLeaf_any (w : World) (N : Nat) (rv : Value) (k v : ByteArray) (p : Int) (hN : NodAt w N noB 0 noB noP noS) (hk : k.toList.isEmpty = false) :
    Calls Tryz.prog 186 #[ptr N, .string k, .string v, .int .i64 p, rv] w fun e w' => e = .returned (.tuple #[]) ∧ ∃ M, w.heap.size ≤ M ∧ M < w'.heap.size ∧ NodAt w' N noB 0 k (ptr M) noS ∧ NodAt w' M v p noB noP noS ∧ Ch (· = N) w w' := by
  have hlt := blk_lt hN
  have x2 : w.cell? ⟨N, 2, none⟩ = some (.string noB) := blk_cell hN 2 rfl
  have x4 : w.cell? ⟨N, 4, none⟩ = some noS := blk_cell hN 4 rfl
  have x3 : w.cell? ⟨N, 3, none⟩ = some noP := blk_cell hN 3 rfl
  have z2 := blk_free hN 2
  have z3 := blk_free hN 3
  have HN := Lib.hid hN
  have HLT := Lib.hid hlt
  have hno : noB.toList.isEmpty = true := by simp [noB]
  clear hN hlt
  go_enter Tryz.func186, Tryz.ntmps186
  obtain ⟨w2, hw2⟩ : ∃ w2, w2 = w.setCell ⟨N, 2, none⟩ (.string k) := ⟨_, rfl⟩
  have HN2 : Hid (NodAt w2 N noB 0 k noP noS) := Lib.hid (by rw [hw2]; exact blk_set HN.out 2 (.string k))
  have HC2 : Hid (Ch (· = N) w w2) := Lib.hid (by rw [hw2]; exact ch_set _ _ _ _)
  clear x3 z3
  go_upto_region 33 with fail
  rw [← hw2]
  clear hw2 x2 z2 x4
  have b3 : (w2.alloc (.cells #[.string ⟨#[]⟩, .int .i64 0, .string ⟨#[]⟩, .pointer none, .slice none 0 0] 237)).cell? ⟨N, 3, none⟩ = some (.pointer none) := blk_cell (blk_ch HN2.out (ch_alloc (fun _ => False) _ _) (fun h => h)) 3 rfl
  have f3 : (w2.alloc (.cells #[.string ⟨#[]⟩, .int .i64 0, .string ⟨#[]⟩, .pointer none, .slice none 0 0] 237)).frozen? ⟨N, 3, none⟩ = false := blk_free (blk_ch HN2.out (ch_alloc (fun _ => False) _ _) (fun h => h)) 3
  have HNL : Hid (N < w2.heap.size) := Lib.hid (blk_lt HN2.out)
  obtain ⟨w3, hw3⟩ : ∃ w3, w3 = (w2.alloc (.cells #[.string ⟨#[]⟩, .int .i64 0, .string ⟨#[]⟩, .pointer none, .slice none 0 0] 237)).setCell ⟨N, 3, none⟩ (ptr w2.heap.size) := ⟨_, rfl⟩
  have HM : Hid (NodAt w3 w2.heap.size noB 0 noB noP noS) := Lib.hid (by rw [hw3]; exact (heap_setCell_other _ ⟨N, 3, none⟩ _ _ (by have := HNL.out; simp; omega)).trans (box_new _ _ _))
  have HN3 : Hid (NodAt w3 N noB 0 k (ptr w2.heap.size) noS) := Lib.hid (by rw [hw3]; exact blk_set (blk_ch HN2.out (ch_alloc (fun _ => False) _ _) (fun h => h)) 3 (ptr w2.heap.size))
  have HC3 : Hid (Ch (· = N) w w3) := Lib.hid (by rw [hw3]; exact (HC2.out.trans (ch_alloc _ _ _)).trans (ch_set _ _ _ _))
  have HZ3 : Hid (w.heap.size ≤ w2.heap.size ∧ w2.heap.size < w3.heap.size) := Lib.hid ⟨HC2.out.size, by rw [hw3]; simp⟩
  go_upto_region 34 with fail
  rw [← hw3]
  clear hw3 b3 f3
  have x3 : w3.cell? ⟨N, 3, none⟩ = some (ptr w2.heap.size) := blk_cell HN3.out 3 rfl
  go_wp2_with (go_at_call 186
               refine (addEmpty_any w3 w2.heap.size rv v p HM.out).mono ?_
               rintro e w5 ⟨rfl, hn, hc⟩
               have HN5 := Lib.hid hn; have HC5 := Lib.hid hc
               clear hn hc)
  go_end0
  refine ⟨rfl, w2.heap.size, HZ3.out.1, Nat.lt_of_lt_of_le HZ3.out.2 HC5.out.size, ?_, HN5.out, ?_⟩
  · exact blk_ch HN3.out HC5.out (by have := HNL.out; omega)
  · exact ch_step HC3.out HC5.out (fun q e => .inr (by have e1 : q = w2.heap.size := e; have := HZ3.out.1; omega))
set_option maxRecDepth 100000 in
set_option maxHeartbeats 8000000 in
theorem addSplitA_any (w : World) (N r : Nat) (X : Option Addr) (gr : Array Value) (v : ByteArray) (p : Int) (hN : NodAt w N noB 0 ⟨#[56]⟩ (.pointer X) noS) (hr : w.heap[r]? = some (.cells gr 239 (0, 0))) (g5 : gr[5]? = some (.int .i64 4)) (gP : gr[62]? = some (.int .u8 2)) (gY : gr[55]? = some (.int .u8 1)) :
    Calls Tryz.prog 186 #[ptr N, .string ⟨#[49, 48]⟩, .string v, .int .i64 p, ptr r] w fun e w' => e = .returned (.tuple #[]) ∧ ∃ T K, w.heap.size ≤ T ∧ T < w'.heap.size ∧ w.heap.size ≤ K ∧ K < w'.heap.size ∧ NodAt w' N noB 0 noB noP (.slice (some ⟨T, 0, none⟩) 4 4) ∧ w'.heap[T]? = some (.cells #[.pointer none, ptr K, .pointer X, .pointer none] 234 (0, 0)) ∧ (∃ M, w.heap.size ≤ M ∧ M < w'.heap.size ∧ NodAt w' K noB 0 ⟨#[48]⟩ (ptr M) noS ∧ NodAt w' M v p noB noP noS) ∧ Ch (· = N) w w' := by
  have hlt := blk_lt hN
  have hne : r ≠ N := by
    intro e
    subst e
    unfold NodAt at hN
    rw [hr] at hN
    injection hN with h1
    injection h1 with h1 h2
    exact absurd h2 (by decide)
  have x2 : w.cell? ⟨N, 2, none⟩ = some (.string ⟨#[56]⟩) := blk_cell hN 2 rfl
  have x3 : w.cell? ⟨N, 3, none⟩ = some (.pointer X) := blk_cell hN 3 rfl
  have hk : (⟨#[49, 48]⟩ : ByteArray).toList.isEmpty = false := by simp
  have hp : (⟨#[56]⟩ : ByteArray).toList.isEmpty = false := by simp
  have HN := Lib.hid hN; have HR := Lib.hid hr; have HLT := Lib.hid hlt; have HNE := Lib.hid hne
  clear hN hr hlt hne
  go_enter Tryz.func186, Tryz.ntmps186
  go_wp2_with fail
  go_loopw [10] (fun u wr => u = .int .i64 0 ∧ wr = w) (fun _ _ => 0)
  case atStart => exact ⟨rfl, rfl⟩
  case round =>
    obtain ⟨rfl, rfl⟩ := hrel
    have e1 : ((({ data := #[56] } : ByteArray)[0]'(by decide)).toNat : Int) = 56 := rfl
    have e2 : ((({ data := #[49, 48] } : ByteArray)[0]'(by decide)).toNat : Int) = 49 := rfl
    have n1 : ((56 : Int) != 49) = true := by decide
    go_wp2_with fail
    go_quiet (fail)
    obtain ⟨w0, hw0⟩ : ∃ w0, w0 = wr.drewN nq := ⟨_, rfl⟩
    have HN0 : Hid (NodAt w0 N noB 0 ⟨#[56]⟩ (.pointer X) noS) := Lib.hid (by rw [hw0]; exact HN.out)
    have HR0 : Hid (w0.heap[r]? = some (.cells gr 239 (0, 0))) := Lib.hid (by rw [hw0]; exact HR.out)
    have HC0 : Hid (Ch (· = N) wr w0) := Lib.hid (by rw [hw0]; exact ch_drewN (Ch.refl _ _))
    rw [← hw0]
    clear hw0 x2 x3
    have x2 : w0.cell? ⟨N, 2, none⟩ = some (.string ⟨#[56]⟩) := blk_cell HN0.out 2 rfl
    have x3 : w0.cell? ⟨N, 3, none⟩ = some (.pointer X) := blk_cell HN0.out 3 rfl
    obtain ⟨w1, hw1⟩ : ∃ w1, w1 = w0.alloc (.cells #[.string ⟨#[]⟩, .int .i64 0, .string ⟨#[]⟩, .pointer none, .slice none 0 0] 237) := ⟨_, rfl⟩
    have HN1 : Hid (NodAt w1 N noB 0 ⟨#[56]⟩ (.pointer X) noS) := Lib.hid (by rw [hw1]; exact blk_ch HN0.out (ch_alloc (fun _ => False) _ _) (fun h => h))
    have HR1 : Hid (w1.heap[r]? = some (.cells gr 239 (0, 0))) := Lib.hid (by rw [hw1]; exact blk_ch HR0.out (ch_alloc (fun _ => False) _ _) (fun h => h))
    have HK1 : Hid (NodAt w1 w0.heap.size noB 0 noB noP noS) := Lib.hid (by rw [hw1]; exact box_new _ _ _)
    have HC1 : Hid (Ch (· = N) wr w1) := Lib.hid (by rw [hw1]; exact HC0.out.trans (ch_alloc _ _ _))
    have HS1 : Hid (w1.heap.size = w0.heap.size + 1) := Lib.hid (by rw [hw1]; simp)
    go_upto_region 17 with fail
    rw [← hw1]
    clear hw1 x2 x3
    have x5 : w1.cell? ⟨r, 5, none⟩ = some (.int .i64 4) := blk_cell HR1.out 5 g5
    have hmk := run_mkTab w1
    obtain ⟨w2, hw2⟩ : ∃ w2, w2 = w1.alloc (.cells #[.pointer none, .pointer none, .pointer none, .pointer none] 234) := ⟨_, rfl⟩
    have hHN2 : NodAt w2 N noB 0 ⟨#[56]⟩ (.pointer X) noS := by rw [hw2]; exact blk_ch HN1.out (ch_alloc (fun _ => False) _ _) (fun h => h)
    have HR2 : Hid (w2.heap[r]? = some (.cells gr 239 (0, 0))) := Lib.hid (by rw [hw2]; exact blk_ch HR1.out (ch_alloc (fun _ => False) _ _) (fun h => h))
    have HT2 : Hid (w2.heap[w1.heap.size]? = some (.cells #[.pointer none, .pointer none, .pointer none, .pointer none] 234 (0, 0))) := Lib.hid (by rw [hw2]; exact box_new _ _ _)
    have HK2 : Hid (NodAt w2 w0.heap.size noB 0 noB noP noS) := Lib.hid (by rw [hw2]; exact blk_ch HK1.out (ch_alloc (fun _ => False) _ _) (fun h => h))
    have HC2 : Hid (Ch (· = N) wr w2) := Lib.hid (by rw [hw2]; exact HC1.out.trans (ch_alloc _ _ _))
    have HS2 : Hid (w2.heap.size = w0.heap.size + 2) := Lib.hid (by rw [hw2]; have := HS1.out; simp; omega)
    rw [← hw2] at hmk
    have x4 : w2.cell? ⟨N, 4, none⟩ = some (.slice none 0 0) := blk_cell hHN2 4 rfl
    have z4 : w2.frozen? ⟨N, 4, none⟩ = false := blk_free hHN2 4
    have HN2 := Lib.hid hHN2
    obtain ⟨w3, hw3⟩ : ∃ w3, w3 = w2.setCell ⟨N, 4, none⟩ (.slice (some ⟨w1.heap.size, 0, none⟩) 4 4) := ⟨_, rfl⟩
    clear hw2 hHN2
    go_upto_region 18 with fail
    rw [← hw3]
    have HN3 : Hid (NodAt w3 N noB 0 ⟨#[56]⟩ (.pointer X) (.slice (some ⟨w1.heap.size, 0, none⟩) 4 4)) := Lib.hid (by rw [hw3]; exact blk_set HN2.out 4 _)
    have HNS : Hid (N < w0.heap.size ∧ r < w0.heap.size) := Lib.hid ⟨blk_lt HN0.out, blk_lt HR0.out⟩
    have hc3 : Ch (· = N) w2 w3 := by rw [hw3]; exact ch_set _ _ _ _
    have HR3 : Hid (w3.heap[r]? = some (.cells gr 239 (0, 0))) := Lib.hid (blk_ch HR2.out hc3 HNE.out)
    have HT3 : Hid (w3.heap[w1.heap.size]? = some (.cells #[.pointer none, .pointer none, .pointer none, .pointer none] 234 (0, 0))) := Lib.hid (blk_ch HT2.out hc3 (by have := HS1.out; have := HNS.out; omega))
    have HK3 : Hid (NodAt w3 w0.heap.size noB 0 noB noP noS) := Lib.hid (blk_ch HK2.out hc3 (by have := HNS.out; omega))
    have HC3 : Hid (Ch (· = N) wr w3) := Lib.hid (HC2.out.trans hc3)
    clear hw3 hc3 x4 z4 hmk x5
    have x4 : w3.cell? ⟨N, 4, none⟩ = some (.slice (some ⟨w1.heap.size, 0, none⟩) 4 4) := blk_cell HN3.out 4 rfl
    have x2 : w3.cell? ⟨N, 2, none⟩ = some (.string ⟨#[56]⟩) := blk_cell HN3.out 2 rfl
    have xm : w3.cell? ⟨r, 62, none⟩ = some (.int .u8 2) := blk_cell HR3.out 62 gP
    have xt : w3.drew.cell? ⟨w1.heap.size, 2, none⟩ = some (.pointer none) := blk_cell (w := w3.drew) HT3.out 2 rfl
    have zt : w3.drew.frozen? ⟨w1.heap.size, 2, none⟩ = false := blk_free (w := w3.drew) HT3.out 2
    go_still_tail 16, (by kernel_rfl)
    change wpList _ _ _ _ _ w3.drew
    obtain ⟨w4, hw4⟩ : ∃ w4, w4 = (w3.setCell ⟨w1.heap.size, 2, none⟩ (.pointer X)).drew := ⟨_, rfl⟩
    have hc4 : Ch (· = w1.heap.size) w3 w4 := by rw [hw4]; exact ch_drew (ch_set _ _ _ _)
    have HT4 : Hid (w4.heap[w1.heap.size]? = some (.cells #[.pointer none, .pointer none, .pointer X, .pointer none] 234 (0, 0))) := Lib.hid (by rw [hw4]; exact blk_set (w := w3) HT3.out 2 _)
    have HTN : Hid (N ≠ w1.heap.size ∧ r ≠ w1.heap.size ∧ w0.heap.size ≠ w1.heap.size ∧ w0.heap.size ≠ N ∧ N < w0.heap.size ∧ w1.heap.size = w0.heap.size + 1) := Lib.hid (by have := HS1.out; have := HNS.out; omega)
    have HN4 : Hid (NodAt w4 N noB 0 ⟨#[56]⟩ (.pointer X) (.slice (some ⟨w1.heap.size, 0, none⟩) 4 4)) := Lib.hid (blk_ch HN3.out hc4 HTN.out.1)
    have HR4 : Hid (w4.heap[r]? = some (.cells gr 239 (0, 0))) := Lib.hid (blk_ch HR3.out hc4 HTN.out.2.1)
    have HK4 : Hid (NodAt w4 w0.heap.size noB 0 noB noP noS) := Lib.hid (blk_ch HK3.out hc4 HTN.out.2.2.1)
    have HC4 : Hid (Ch (· = N) wr w4) := Lib.hid (ch_step HC3.out hc4 (fun q e => .inr (by have e1 : q = w1.heap.size := e; have := HC1.out.size; omega)))
    clear hc4
    go_upto_region 19 with fail
    rw [← hw4]
    clear hw4 xt zt x4 x2 xm
    as_aux_lemma =>
    have x4 : w4.cell? ⟨N, 4, none⟩ = some (.slice (some ⟨w1.heap.size, 0, none⟩) 4 4) := blk_cell HN4.out 4 rfl
    have xm : w4.cell? ⟨r, 55, none⟩ = some (.int .u8 1) := blk_cell HR4.out 55 gY
    have xt : w4.drew.cell? ⟨w1.heap.size, 1, none⟩ = some (.pointer none) := blk_cell (w := w4.drew) HT4.out 1 rfl
    have zt : w4.drew.frozen? ⟨w1.heap.size, 1, none⟩ = false := blk_free (w := w4.drew) HT4.out 1
    go_still_tail 13, (by kernel_rfl)
    change wpList _ _ _ _ _ w4.drew
    obtain ⟨w5, hw5⟩ : ∃ w5, w5 = (w4.setCell ⟨w1.heap.size, 1, none⟩ (ptr w0.heap.size)).drew := ⟨_, rfl⟩
    have hc5 : Ch (· = w1.heap.size) w4 w5 := by rw [hw5]; exact ch_drew (ch_set _ _ _ _)
    have HT5 : Hid (w5.heap[w1.heap.size]? = some (.cells #[.pointer none, ptr w0.heap.size, .pointer X, .pointer none] 234 (0, 0))) := Lib.hid (by rw [hw5]; exact blk_set (w := w4) HT4.out 1 _)
    have HN5 : Hid (NodAt w5 N noB 0 ⟨#[56]⟩ (.pointer X) (.slice (some ⟨w1.heap.size, 0, none⟩) 4 4)) := Lib.hid (blk_ch HN4.out hc5 HTN.out.1)
    have HK5 : Hid (NodAt w5 w0.heap.size noB 0 noB noP noS) := Lib.hid (blk_ch HK4.out hc5 HTN.out.2.2.1)
    have HC5 : Hid (Ch (· = N) wr w5) := Lib.hid (ch_step HC4.out hc5 (fun q e => .inr (by have e1 : q = w1.heap.size := e; have := HC1.out.size; omega)))
    clear hc5
    go_upto_region 20 with fail
    rw [← hw5]
    clear hw5 xt zt x4 xm
    as_aux_lemma =>
    have x2 : w5.cell? ⟨N, 2, none⟩ = some (.string ⟨#[56]⟩) := blk_cell HN5.out 2 rfl
    have x3 : w5.cell? ⟨N, 3, none⟩ = some (.pointer X) := blk_cell HN5.out 3 rfl
    have z2 : w5.frozen? ⟨N, 2, none⟩ = false := blk_free HN5.out 2
    have z3 : w5.frozen? ⟨N, 3, none⟩ = false := blk_free HN5.out 3
    obtain ⟨w6, hw6⟩ : ∃ w6, w6 = (w5.setCell ⟨N, 2, none⟩ (.string ⟨#[]⟩)).setCell ⟨N, 3, none⟩ (.pointer none) := ⟨_, rfl⟩
    have hc6 : Ch (· = N) w5 w6 := by rw [hw6]; exact (ch_set _ _ _ _).trans (ch_set _ _ _ _)
    have HN6 : Hid (NodAt w6 N noB 0 noB noP (.slice (some ⟨w1.heap.size, 0, none⟩) 4 4)) := Lib.hid (by rw [hw6]; exact blk_set (blk_set HN5.out 2 (.string ⟨#[]⟩)) 3 (.pointer none))
    have HT6 := Lib.hid (blk_ch HT5.out hc6 (fun e => HTN.out.1 e.symm))
    have HK6 : Hid (NodAt w6 w0.heap.size noB 0 noB noP noS) := Lib.hid (blk_ch HK5.out hc6 HTN.out.2.2.2.1)
    have HC6 : Hid (Ch (· = N) wr w6) := Lib.hid (HC5.out.trans hc6)
    have HZ6 : Hid (wr.heap.size ≤ w0.heap.size ∧ w1.heap.size < w6.heap.size) := Lib.hid ⟨HC0.out.size, blk_lt HT6.out⟩
    clear hc6
    go_upto_region 22 with fail
    rw [← hw6]
    clear hw6 x2 x3 z2 z3
    as_aux_lemma =>
    have ex : ({ data := #[49, 48] } : ByteArray).extract 1 2 = { data := #[48] } := by kernel_rfl
    have HKL : Hid ((⟨#[48]⟩ : ByteArray).toList.isEmpty = false) := Lib.hid (by simp)
    go_wp2_with (go_at_call 186
                 refine (addLeaf_any w6 w0.heap.size (ptr r) ⟨#[48]⟩ v p HK6.out HKL.out).mono ?_
                 rintro e w7 ⟨rfl, M, hm1, hm2, hk, hm, hc⟩
                 have HM7 := Lib.hid hm; have HK7 := Lib.hid hk; have HC7 := Lib.hid hc; have HM1 := Lib.hid hm1; have HM2 := Lib.hid hm2
                 clear hm1 hm2 hk hm hc)
    go_end0
    refine ⟨rfl, w1.heap.size, w0.heap.size, ?_, ?_, HZ6.out.1, ?_, ?_, ?_, ⟨M, ?_, HM2.out, HK7.out, HM7.out⟩, ?_⟩
    · have := HTN.out; have := HZ6.out; omega
    · exact Nat.lt_of_lt_of_le HZ6.out.2 HC7.out.size
    · have := HTN.out; have := HZ6.out; have := HC7.out.size; omega
    · exact blk_ch HN6.out HC7.out (fun e => HTN.out.2.2.2.1 e.symm)
    · exact blk_ch HT6.out HC7.out (fun e => HTN.out.2.2.1 e.symm)
    · have := HM1.out; have := HC6.out.size; omega
    · exact ch_step HC6.out HC7.out (fun q e => .inr (by have e1 : q = w0.heap.size := e; have := HZ6.out; omega))
set_option maxRecDepth 100000 in
set_option maxHeartbeats 8000000 in
theorem addSplitB_any (w : World) (N r : Nat) (X : Option Addr) (gr : Array Value) (v : ByteArray) (p : Int) (hN : NodAt w N noB 0 ⟨#[48]⟩ (.pointer X) noS) (hr : w.heap[r]? = some (.cells gr 239 (0, 0))) (g5 : gr[5]? = some (.int .i64 4)) (gP : gr[54]? = some (.int .u8 0)) (gY : gr[55]? = some (.int .u8 1)) :
    Calls Tryz.prog 186 #[ptr N, .string ⟨#[49]⟩, .string v, .int .i64 p, ptr r] w fun e w' => e = .returned (.tuple #[]) ∧ ∃ T K, w.heap.size ≤ T ∧ T < w'.heap.size ∧ w.heap.size ≤ K ∧ K < w'.heap.size ∧ NodAt w' N noB 0 noB noP (.slice (some ⟨T, 0, none⟩) 4 4) ∧ w'.heap[T]? = some (.cells #[.pointer X, ptr K, .pointer none, .pointer none] 234 (0, 0)) ∧ (NodAt w' K v p noB noP noS) ∧ Ch (· = N) w w' := by
  have hlt := blk_lt hN
  have hne : r ≠ N := by
    intro e
    subst e
    unfold NodAt at hN
    rw [hr] at hN
    injection hN with h1
    injection h1 with h1 h2
    exact absurd h2 (by decide)
  have x2 : w.cell? ⟨N, 2, none⟩ = some (.string ⟨#[48]⟩) := blk_cell hN 2 rfl
  have x3 : w.cell? ⟨N, 3, none⟩ = some (.pointer X) := blk_cell hN 3 rfl
  have hk : (⟨#[49]⟩ : ByteArray).toList.isEmpty = false := by simp
  have hp : (⟨#[48]⟩ : ByteArray).toList.isEmpty = false := by simp
  have HN := Lib.hid hN; have HR := Lib.hid hr; have HLT := Lib.hid hlt; have HNE := Lib.hid hne
  clear hN hr hlt hne
  go_enter Tryz.func186, Tryz.ntmps186
  go_wp2_with fail
  go_loopw [10] (fun u wr => u = .int .i64 0 ∧ wr = w) (fun _ _ => 0)
  case atStart => exact ⟨rfl, rfl⟩
  case round =>
    obtain ⟨rfl, rfl⟩ := hrel
    have e1 : ((({ data := #[48] } : ByteArray)[0]'(by decide)).toNat : Int) = 48 := rfl
    have e2 : ((({ data := #[49] } : ByteArray)[0]'(by decide)).toNat : Int) = 49 := rfl
    have n1 : ((48 : Int) != 49) = true := by decide
    go_wp2_with fail
    go_quiet (fail)
    obtain ⟨w0, hw0⟩ : ∃ w0, w0 = wr.drewN nq := ⟨_, rfl⟩
    have HN0 : Hid (NodAt w0 N noB 0 ⟨#[48]⟩ (.pointer X) noS) := Lib.hid (by rw [hw0]; exact HN.out)
    have HR0 : Hid (w0.heap[r]? = some (.cells gr 239 (0, 0))) := Lib.hid (by rw [hw0]; exact HR.out)
    have HC0 : Hid (Ch (· = N) wr w0) := Lib.hid (by rw [hw0]; exact ch_drewN (Ch.refl _ _))
    rw [← hw0]
    clear hw0 x2 x3
    have x2 : w0.cell? ⟨N, 2, none⟩ = some (.string ⟨#[48]⟩) := blk_cell HN0.out 2 rfl
    have x3 : w0.cell? ⟨N, 3, none⟩ = some (.pointer X) := blk_cell HN0.out 3 rfl
    obtain ⟨w1, hw1⟩ : ∃ w1, w1 = w0.alloc (.cells #[.string ⟨#[]⟩, .int .i64 0, .string ⟨#[]⟩, .pointer none, .slice none 0 0] 237) := ⟨_, rfl⟩
    have HN1 : Hid (NodAt w1 N noB 0 ⟨#[48]⟩ (.pointer X) noS) := Lib.hid (by rw [hw1]; exact blk_ch HN0.out (ch_alloc (fun _ => False) _ _) (fun h => h))
    have HR1 : Hid (w1.heap[r]? = some (.cells gr 239 (0, 0))) := Lib.hid (by rw [hw1]; exact blk_ch HR0.out (ch_alloc (fun _ => False) _ _) (fun h => h))
    have HK1 : Hid (NodAt w1 w0.heap.size noB 0 noB noP noS) := Lib.hid (by rw [hw1]; exact box_new _ _ _)
    have HC1 : Hid (Ch (· = N) wr w1) := Lib.hid (by rw [hw1]; exact HC0.out.trans (ch_alloc _ _ _))
    have HS1 : Hid (w1.heap.size = w0.heap.size + 1) := Lib.hid (by rw [hw1]; simp)
    go_upto_region 17 with fail
    rw [← hw1]
    clear hw1 x2 x3
    have x5 : w1.cell? ⟨r, 5, none⟩ = some (.int .i64 4) := blk_cell HR1.out 5 g5
    have hmk := run_mkTab w1
    obtain ⟨w2, hw2⟩ : ∃ w2, w2 = w1.alloc (.cells #[.pointer none, .pointer none, .pointer none, .pointer none] 234) := ⟨_, rfl⟩
    have hHN2 : NodAt w2 N noB 0 ⟨#[48]⟩ (.pointer X) noS := by rw [hw2]; exact blk_ch HN1.out (ch_alloc (fun _ => False) _ _) (fun h => h)
    have HR2 : Hid (w2.heap[r]? = some (.cells gr 239 (0, 0))) := Lib.hid (by rw [hw2]; exact blk_ch HR1.out (ch_alloc (fun _ => False) _ _) (fun h => h))
    have HT2 : Hid (w2.heap[w1.heap.size]? = some (.cells #[.pointer none, .pointer none, .pointer none, .pointer none] 234 (0, 0))) := Lib.hid (by rw [hw2]; exact box_new _ _ _)
    have HK2 : Hid (NodAt w2 w0.heap.size noB 0 noB noP noS) := Lib.hid (by rw [hw2]; exact blk_ch HK1.out (ch_alloc (fun _ => False) _ _) (fun h => h))
    have HC2 : Hid (Ch (· = N) wr w2) := Lib.hid (by rw [hw2]; exact HC1.out.trans (ch_alloc _ _ _))
    have HS2 : Hid (w2.heap.size = w0.heap.size + 2) := Lib.hid (by rw [hw2]; have := HS1.out; simp; omega)
    rw [← hw2] at hmk
    have x4 : w2.cell? ⟨N, 4, none⟩ = some (.slice none 0 0) := blk_cell hHN2 4 rfl
    have z4 : w2.frozen? ⟨N, 4, none⟩ = false := blk_free hHN2 4
    have HN2 := Lib.hid hHN2
    obtain ⟨w3, hw3⟩ : ∃ w3, w3 = w2.setCell ⟨N, 4, none⟩ (.slice (some ⟨w1.heap.size, 0, none⟩) 4 4) := ⟨_, rfl⟩
    clear hw2 hHN2
    go_upto_region 18 with fail
    rw [← hw3]
    have HN3 : Hid (NodAt w3 N noB 0 ⟨#[48]⟩ (.pointer X) (.slice (some ⟨w1.heap.size, 0, none⟩) 4 4)) := Lib.hid (by rw [hw3]; exact blk_set HN2.out 4 _)
    have HNS : Hid (N < w0.heap.size ∧ r < w0.heap.size) := Lib.hid ⟨blk_lt HN0.out, blk_lt HR0.out⟩
    have hc3 : Ch (· = N) w2 w3 := by rw [hw3]; exact ch_set _ _ _ _
    have HR3 : Hid (w3.heap[r]? = some (.cells gr 239 (0, 0))) := Lib.hid (blk_ch HR2.out hc3 HNE.out)
    have HT3 : Hid (w3.heap[w1.heap.size]? = some (.cells #[.pointer none, .pointer none, .pointer none, .pointer none] 234 (0, 0))) := Lib.hid (blk_ch HT2.out hc3 (by have := HS1.out; have := HNS.out; omega))
    have HK3 : Hid (NodAt w3 w0.heap.size noB 0 noB noP noS) := Lib.hid (blk_ch HK2.out hc3 (by have := HNS.out; omega))
    have HC3 : Hid (Ch (· = N) wr w3) := Lib.hid (HC2.out.trans hc3)
    clear hw3 hc3 x4 z4 hmk x5
    have x4 : w3.cell? ⟨N, 4, none⟩ = some (.slice (some ⟨w1.heap.size, 0, none⟩) 4 4) := blk_cell HN3.out 4 rfl
    have x2 : w3.cell? ⟨N, 2, none⟩ = some (.string ⟨#[48]⟩) := blk_cell HN3.out 2 rfl
    have xm : w3.cell? ⟨r, 54, none⟩ = some (.int .u8 0) := blk_cell HR3.out 54 gP
    have xt : w3.drew.cell? ⟨w1.heap.size, 0, none⟩ = some (.pointer none) := blk_cell (w := w3.drew) HT3.out 0 rfl
    have zt : w3.drew.frozen? ⟨w1.heap.size, 0, none⟩ = false := blk_free (w := w3.drew) HT3.out 0
    go_still_tail 16, (by kernel_rfl)
    change wpList _ _ _ _ _ w3.drew
    obtain ⟨w4, hw4⟩ : ∃ w4, w4 = (w3.setCell ⟨w1.heap.size, 0, none⟩ (.pointer X)).drew := ⟨_, rfl⟩
    have hc4 : Ch (· = w1.heap.size) w3 w4 := by rw [hw4]; exact ch_drew (ch_set _ _ _ _)
    have HT4 : Hid (w4.heap[w1.heap.size]? = some (.cells #[.pointer X, .pointer none, .pointer none, .pointer none] 234 (0, 0))) := Lib.hid (by rw [hw4]; exact blk_set (w := w3) HT3.out 0 _)
    have HTN : Hid (N ≠ w1.heap.size ∧ r ≠ w1.heap.size ∧ w0.heap.size ≠ w1.heap.size ∧ w0.heap.size ≠ N ∧ N < w0.heap.size ∧ w1.heap.size = w0.heap.size + 1) := Lib.hid (by have := HS1.out; have := HNS.out; omega)
    have HN4 : Hid (NodAt w4 N noB 0 ⟨#[48]⟩ (.pointer X) (.slice (some ⟨w1.heap.size, 0, none⟩) 4 4)) := Lib.hid (blk_ch HN3.out hc4 HTN.out.1)
    have HR4 : Hid (w4.heap[r]? = some (.cells gr 239 (0, 0))) := Lib.hid (blk_ch HR3.out hc4 HTN.out.2.1)
    have HK4 : Hid (NodAt w4 w0.heap.size noB 0 noB noP noS) := Lib.hid (blk_ch HK3.out hc4 HTN.out.2.2.1)
    have HC4 : Hid (Ch (· = N) wr w4) := Lib.hid (ch_step HC3.out hc4 (fun q e => .inr (by have e1 : q = w1.heap.size := e; have := HC1.out.size; omega)))
    clear hc4
    go_upto_region 19 with fail
    rw [← hw4]
    clear hw4 xt zt x4 x2 xm
    as_aux_lemma =>
    have x4 : w4.cell? ⟨N, 4, none⟩ = some (.slice (some ⟨w1.heap.size, 0, none⟩) 4 4) := blk_cell HN4.out 4 rfl
    have xm : w4.cell? ⟨r, 55, none⟩ = some (.int .u8 1) := blk_cell HR4.out 55 gY
    have xt : w4.drew.cell? ⟨w1.heap.size, 1, none⟩ = some (.pointer none) := blk_cell (w := w4.drew) HT4.out 1 rfl
    have zt : w4.drew.frozen? ⟨w1.heap.size, 1, none⟩ = false := blk_free (w := w4.drew) HT4.out 1
    go_still_tail 13, (by kernel_rfl)
    change wpList _ _ _ _ _ w4.drew
    obtain ⟨w5, hw5⟩ : ∃ w5, w5 = (w4.setCell ⟨w1.heap.size, 1, none⟩ (ptr w0.heap.size)).drew := ⟨_, rfl⟩
    have hc5 : Ch (· = w1.heap.size) w4 w5 := by rw [hw5]; exact ch_drew (ch_set _ _ _ _)
    have HT5 : Hid (w5.heap[w1.heap.size]? = some (.cells #[.pointer X, ptr w0.heap.size, .pointer none, .pointer none] 234 (0, 0))) := Lib.hid (by rw [hw5]; exact blk_set (w := w4) HT4.out 1 _)
    have HN5 : Hid (NodAt w5 N noB 0 ⟨#[48]⟩ (.pointer X) (.slice (some ⟨w1.heap.size, 0, none⟩) 4 4)) := Lib.hid (blk_ch HN4.out hc5 HTN.out.1)
    have HK5 : Hid (NodAt w5 w0.heap.size noB 0 noB noP noS) := Lib.hid (blk_ch HK4.out hc5 HTN.out.2.2.1)
    have HC5 : Hid (Ch (· = N) wr w5) := Lib.hid (ch_step HC4.out hc5 (fun q e => .inr (by have e1 : q = w1.heap.size := e; have := HC1.out.size; omega)))
    clear hc5
    go_upto_region 20 with fail
    rw [← hw5]
    clear hw5 xt zt x4 xm
    as_aux_lemma =>
    have x2 : w5.cell? ⟨N, 2, none⟩ = some (.string ⟨#[48]⟩) := blk_cell HN5.out 2 rfl
    have x3 : w5.cell? ⟨N, 3, none⟩ = some (.pointer X) := blk_cell HN5.out 3 rfl
    have z2 : w5.frozen? ⟨N, 2, none⟩ = false := blk_free HN5.out 2
    have z3 : w5.frozen? ⟨N, 3, none⟩ = false := blk_free HN5.out 3
    obtain ⟨w6, hw6⟩ : ∃ w6, w6 = (w5.setCell ⟨N, 2, none⟩ (.string ⟨#[]⟩)).setCell ⟨N, 3, none⟩ (.pointer none) := ⟨_, rfl⟩
    have hc6 : Ch (· = N) w5 w6 := by rw [hw6]; exact (ch_set _ _ _ _).trans (ch_set _ _ _ _)
    have HN6 : Hid (NodAt w6 N noB 0 noB noP (.slice (some ⟨w1.heap.size, 0, none⟩) 4 4)) := Lib.hid (by rw [hw6]; exact blk_set (blk_set HN5.out 2 (.string ⟨#[]⟩)) 3 (.pointer none))
    have HT6 := Lib.hid (blk_ch HT5.out hc6 (fun e => HTN.out.1 e.symm))
    have HK6 : Hid (NodAt w6 w0.heap.size noB 0 noB noP noS) := Lib.hid (blk_ch HK5.out hc6 HTN.out.2.2.2.1)
    have HC6 : Hid (Ch (· = N) wr w6) := Lib.hid (HC5.out.trans hc6)
    have HZ6 : Hid (wr.heap.size ≤ w0.heap.size ∧ w1.heap.size < w6.heap.size) := Lib.hid ⟨HC0.out.size, blk_lt HT6.out⟩
    clear hc6
    go_upto_region 22 with fail
    rw [← hw6]
    clear hw6 x2 x3 z2 z3
    as_aux_lemma =>
    have ex : ({ data := #[49] } : ByteArray).extract 1 1 = { data := #[] } := by kernel_rfl
    go_wp2_with (go_at_call 186
                 refine (addEmpty_any w6 w0.heap.size (ptr r) v p HK6.out).mono ?_
                 rintro e w7 ⟨rfl, hk, hc⟩
                 have HK7 := Lib.hid hk; have HC7 := Lib.hid hc
                 clear hk hc)
    go_end0
    refine ⟨rfl, w1.heap.size, w0.heap.size, ?_, ?_, HZ6.out.1, ?_, ?_, ?_, HK7.out, ?_⟩
    · have := HTN.out; have := HZ6.out; omega
    · exact Nat.lt_of_lt_of_le HZ6.out.2 HC7.out.size
    · have := HTN.out; have := HZ6.out; have := HC7.out.size; omega
    · exact blk_ch HN6.out HC7.out (fun e => HTN.out.2.2.2.1 e.symm)
    · exact blk_ch HT6.out HC7.out (fun e => HTN.out.2.2.1 e.symm)
    · exact ch_step HC6.out HC7.out (fun q e => .inr (by have e1 : q = w0.heap.size := e; have := HZ6.out; omega))
end Go.Proofs.YtadmbphefpfbmaaGreatDoor
