/- The universal program: strings.Replacer's trie: three calls of add, one after the other (no walk). -/
import Derived.Test.YtadmbphefpfbmaaGreatDoorUvM
namespace Go.Proofs.YtadmbphefpfbmaaGreatDoor
open Go.RowKit
set_option linter.unusedVariables false
set_option linter.unusedSimpArgs false
abbrev GrB (w : World) (r : Nat) (tb : Value) (sz : Int) (ms : List Value) : Prop := w.heap[r]? = some (.cells (grC tb sz ms) 239 (0, 0))
abbrev tabV (T : Nat) : Value := .slice (some ⟨T, 0, none⟩) 4 4
def TabAt (w : World) (T : Nat) (a b c d : Option Addr) : Prop := w.heap[T]? = some (.cells #[.pointer a, .pointer b, .pointer c, .pointer d] 234 (0, 0))
abbrev adr (b : Nat) : Option Addr := some ⟨b, 0, none⟩
/-- The trie behind j keys; all its blocks lie at B or above. -/
def TrS (B : Nat) (v8 v10 v11 : ByteArray) (w : World) (r : Nat) : Nat → Prop
  | 0 => ∃ T, (B ≤ r ∧ B ≤ T) ∧ GrB w r (tabV T) 4 mpL ∧ TabAt w T none none none none
  | 1 => ∃ T N M, (B ≤ r ∧ B ≤ T ∧ B ≤ N ∧ B ≤ M) ∧ GrB w r (tabV T) 4 mpL ∧ TabAt w T none none none (adr N) ∧ NodAt w N noB 0 ⟨#[56]⟩ (ptr M) noS ∧ NodAt w M v8 6 noB noP noS
  | 2 => ∃ T N M U K L, (B ≤ r ∧ B ≤ T ∧ B ≤ N ∧ B ≤ M ∧ B ≤ U ∧ B ≤ K ∧ B ≤ L) ∧ GrB w r (tabV T) 4 mpL ∧ TabAt w T none none none (adr N) ∧ NodAt w N noB 0 noB noP (tabV U) ∧ TabAt w U none (adr K) (adr M) none ∧ NodAt w M v8 6 noB noP noS ∧ NodAt w K noB 0 ⟨#[48]⟩ (ptr L) noS ∧ NodAt w L v10 4 noB noP noS
  | _ => ∃ T N M U K L V J, (B ≤ r ∧ B ≤ T ∧ B ≤ N ∧ B ≤ M ∧ B ≤ U ∧ B ≤ K ∧ B ≤ L ∧ B ≤ V ∧ B ≤ J) ∧ GrB w r (tabV T) 4 mpL ∧ TabAt w T none none none (adr N) ∧ NodAt w N noB 0 noB noP (tabV U) ∧ TabAt w U none (adr K) (adr M) none ∧ NodAt w M v8 6 noB noP noS ∧ NodAt w K noB 0 noB noP (tabV V) ∧ TabAt w V (adr L) (adr J) none none ∧ NodAt w L v10 4 noB noP noS ∧ NodAt w J v11 2 noB noP noS
section
variable {w : World} {r T N M : Nat}
theorem gr_ne_tab {cs ds : Array Value} (h : w.heap[r]? = some (.cells cs 239 (0, 0))) (k : w.heap[T]? = some (.cells ds 234 (0, 0))) : r ≠ T := by
  intro e; subst e; rw [h] at k; injection k with h1; injection h1 with h1 h2; exact absurd h2 (by decide)
theorem gr_ne_nod {cs : Array Value} {v : ByteArray} {p : Int} {q : ByteArray} {nx tb : Value} (h : w.heap[r]? = some (.cells cs 239 (0, 0))) (k : NodAt w N v p q nx tb) : r ≠ N := by
  intro e; subst e; unfold NodAt at k; rw [h] at k; injection k with h1; injection h1 with h1 h2; exact absurd h2 (by decide)
theorem tab_ne_nod {cs : Array Value} {v : ByteArray} {p : Int} {q : ByteArray} {nx tb : Value} (h : w.heap[T]? = some (.cells cs 234 (0, 0))) (k : NodAt w N v p q nx tb) : T ≠ N := by
  intro e; subst e; unfold NodAt at k; rw [h] at k; injection k with h1; injection h1 with h1 h2; exact absurd h2 (by decide)
theorem nod_ne_p {v v' : ByteArray} {p p' : Int} {q q' : ByteArray} {nx tb nx' tb' : Value} (h : NodAt w N v p q nx tb) (k : NodAt w M v' p' q' nx' tb') (hp : p ≠ p') : N ≠ M := by
  intro e; subst e; unfold NodAt at h k; rw [h] at k; injection k with h1; injection h1 with h1 h2; injection h1 with h1; simp only [List.cons.injEq, Value.int.injEq] at h1; exact hp h1.2.1.2
theorem nod_ne_q {v v' : ByteArray} {p p' : Int} {q q' : ByteArray} {nx tb nx' tb' : Value} (h : NodAt w N v p q nx tb) (k : NodAt w M v' p' q' nx' tb') (hp : q ≠ q') : N ≠ M := by
  intro e; subst e; unfold NodAt at h k; rw [h] at k; injection k with h1; injection h1 with h1 h2; injection h1 with h1; simp only [List.cons.injEq, Value.string.injEq] at h1; exact hp h1.2.2.1
end
theorem mpL_at {b : Nat} (h : b < 256) : mpL[b]? = some (.int .u8 (mp b)) := by simp [mpL, List.getElem?_range h]
theorem gr_map {T b : Nat} {x : Int} (h : b < 256) (e : mp b = x) : (grC (tabV T) 4 mpL)[6 + b]? = some (.int .u8 x) := grC_map (by rw [mpL_at h, e])
theorem addStep0 (B : Nat) (v8 v10 v11 : ByteArray) (w : World) (r : Nat) (h : TrS B v8 v10 v11 w r 0) (hB : B ≤ w.heap.size) :
    Calls Tryz.prog 186 #[ptr r, .string (keyB 0), .string v8, .int .i64 6, ptr r] w fun e w' => e = .returned (.tuple #[]) ∧ TrS B v8 v10 v11 w' r 1 ∧ Ch (B ≤ ·) w w' := by
  obtain ⟨T, ⟨b1, b2⟩, hg, ht⟩ := h
  refine (addTop_any w r T _ v8 6 hg (grC_lo rfl) (grC_lo rfl) (gr_map (b := 84) (by omega) rfl) ht).mono ?_
  rintro e w' ⟨rfl, N, M, h1, h2, h3, h4, ht', hn, hm, hc⟩
  exact ⟨rfl, ⟨T, N, M, ⟨b1, b2, by omega, by omega⟩, blk_ch hg hc (gr_ne_tab hg ht), ht', hn, hm⟩, hc.mono (fun q e => by have e1 : q = T := e; show B ≤ q; omega)⟩
theorem addStep1 (B : Nat) (v8 v10 v11 : ByteArray) (w : World) (r : Nat) (h : TrS B v8 v10 v11 w r 1) (hB : B ≤ w.heap.size) :
    Calls Tryz.prog 186 #[ptr r, .string (keyB 1), .string v10, .int .i64 4, ptr r] w fun e w' => e = .returned (.tuple #[]) ∧ TrS B v8 v10 v11 w' r 2 ∧ Ch (B ≤ ·) w w' := by
  obtain ⟨T, N, M, ⟨b1, b2, b3, b4⟩, hg, ht, hn, hm⟩ := h
  refine addDownA_any w r r T N v10 4 (fun w' => TrS B v8 v10 v11 w' r 2 ∧ Ch (B ≤ ·) w w') (blk_cell hg 2 (grC_lo rfl)) (blk_cell hg 4 (grC_lo rfl)) (blk_cell hg 90 (gr_map (b := 84) (by omega) rfl)) (blk_cell ht 3 rfl) (Lib.hid (fun n => ?_))
  refine (addSplitA_any (w.drewN n) N r (adr M) (grC (tabV T) 4 mpL) v10 4 hn hg (grC_lo rfl) (gr_map (b := 56) (by omega) rfl) (gr_map (b := 49) (by omega) rfl)).mono ?_
  rintro e w' ⟨rfl, U, K, h1, h2, h3, h4, hn', hu, ⟨L, h5, h6, hk, hl⟩, hc⟩
  have hc' : Ch (· = N) w w' := ⟨hc.os, hc.tape, hc.output, hc.size, hc.block⟩
  have h1' : w.heap.size ≤ U := h1
  have h3' : w.heap.size ≤ K := h3
  have h5' : w.heap.size ≤ L := h5
  exact ⟨rfl, ⟨T, N, M, U, K, L, ⟨b1, b2, b3, b4, by omega, by omega, by omega⟩, blk_ch hg hc' (gr_ne_nod hg hn), blk_ch ht hc' (tab_ne_nod ht hn), hn', hu, blk_ch hm hc' (nod_ne_p hm hn (by decide)), hk, hl⟩, hc'.mono (fun q e => by have e1 : q = N := e; show B ≤ q; omega)⟩
theorem addStep2 (B : Nat) (v8 v10 v11 : ByteArray) (w : World) (r : Nat) (h : TrS B v8 v10 v11 w r 2) (hB : B ≤ w.heap.size) :
    Calls Tryz.prog 186 #[ptr r, .string (keyB 2), .string v11, .int .i64 2, ptr r] w fun e w' => e = .returned (.tuple #[]) ∧ TrS B v8 v10 v11 w' r 3 ∧ Ch (B ≤ ·) w w' := by
  obtain ⟨T, N, M, U, K, L, ⟨b1, b2, b3, b4, b5, b6, b7⟩, hg, ht, hn, hu, hm, hk, hl⟩ := h
  refine addDownB_any w r r T N v11 2 (fun w' => TrS B v8 v10 v11 w' r 3 ∧ Ch (B ≤ ·) w w') (blk_cell hg 2 (grC_lo rfl)) (blk_cell hg 4 (grC_lo rfl)) (blk_cell hg 90 (gr_map (b := 84) (by omega) rfl)) (blk_cell ht 3 rfl) (Lib.hid (fun n => ?_))
  refine addDownC_any (w.drewN n) N r U K v11 2 (fun w' => TrS B v8 v10 v11 w' r 3 ∧ Ch (B ≤ ·) w w') (blk_cell (w := w.drewN n) hn 2 rfl) (blk_cell (w := w.drewN n) hn 4 rfl) (blk_cell (w := w.drewN n) hg 55 (gr_map (b := 49) (by omega) rfl)) (blk_cell (w := w.drewN n) hu 1 rfl) (Lib.hid (fun n' => ?_))
  refine (addSplitB_any ((w.drewN n).drewN n') K r (adr L) (grC (tabV T) 4 mpL) v11 2 hk hg (grC_lo rfl) (gr_map (b := 48) (by omega) rfl) (gr_map (b := 49) (by omega) rfl)).mono ?_
  rintro e w' ⟨rfl, V, J, h1, h2, h3, h4, hk', hv, hj, hc⟩
  have hc' : Ch (· = K) w w' := ⟨hc.os, hc.tape, hc.output, hc.size, hc.block⟩
  have h1' : w.heap.size ≤ V := h1
  have h3' : w.heap.size ≤ J := h3
  exact ⟨rfl, ⟨T, N, M, U, K, L, V, J, ⟨b1, b2, b3, b4, b5, b6, b7, by omega, by omega⟩, blk_ch hg hc' (gr_ne_nod hg hk), blk_ch ht hc' (tab_ne_nod ht hk), blk_ch hn hc' (nod_ne_q hn hk (by decide)), blk_ch hu hc' (tab_ne_nod hu hk), blk_ch hm hc' (nod_ne_p hm hk (by decide)), hk', hv, blk_ch hl hc' (nod_ne_p hl hk (by decide)), hj⟩, hc'.mono (fun q e => by have e1 : q = K := e; show B ≤ q; omega)⟩
end Go.Proofs.YtadmbphefpfbmaaGreatDoor
