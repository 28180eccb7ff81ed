/- The universal program: strings.Replacer: a buffer is made, a buffer is read. -/
import Derived.Test.YtadmbphefpfbmaaGreatDoorUvQ
import Derived.Test.YtadmbphefpfbmaaGreatDoorUvS
import Derived.Laws.IdiomStrings
import Derived.Lib.BufferRead
import Derived.Laws.MakeOwn
namespace Go.Proofs.YtadmbphefpfbmaaGreatDoor
open Go.RowKit
set_option linter.unusedVariables false
set_option linter.unusedSimpArgs false
attribute [local go_sem ↓] Go.wp_at_zero Go.wp_at_succ
theorem infoU8' : (Tryz.prog.info? 5).map (fun i => (i.zero, i.size, i.bytes)) = some (some (.int .u8 0), 1, 1) := by kernel_rfl
theorem run_mkBuf (w : World) (n : Nat) (hn : n ≤ 1000000) : (Instr.makeSlice 317 (.int .i64 0) (.int .i64 (n : Int))).run Tryz.prog w = .ok (.slice (some ⟨w.heap.size, 0, none⟩) 0 n) (w.alloc (.cells (madeCells #[.int .u8 0] n) 5)) := by
  obtain ⟨i, hi, hz, hs, hb⟩ := info_parts infoU8'
  have h := run_make (P := Tryz.prog) w 317 5 i (.int .u8 0) Tryz.underlying317 hi hz .i64 .i64 0 (n : Int) (Int.le_refl _) (by omega) (by rw [hb]; omega) (by omega)
  rw [hs] at h
  simp at h
  exact h
theorem own_mkBuf (w : World) (n : Nat) (hn : n ≤ 1000000) : (w.alloc (.cells (madeCells #[.int .u8 0] n) 5)).ownsRow w.heap.size 5 1 (.slice (some ⟨w.heap.size, 0, none⟩) 0 n) 0 [] :=
  World.ownsRow_made w _ n (Nat.le_refl _) (by unfold maxLen; omega) (by rw [size_madeCells]; omega)
/-- A buffer read as a string. -/
theorem bufStr (w : World) (B g : Nat) (t : ByteArray) (h : BufAt w B g (nm t)) : ∃ A c, w.cell? ⟨g, 0, none⟩ = some (.slice A t.size c) ∧ (convert 317 9 (.slice A t.size c)).run Tryz.prog w = .ok (.string t) w := by
  obtain ⟨A, c, hx, ho⟩ := h
  rw [nm_size] at hx ho
  refine ⟨A, c, blk_cell hx 0 rfl, ?_⟩
  rcases ho.2 with ⟨e1, e2⟩ | ⟨b, cap, cur, e1, _⟩
  · simp only [Value.slice.injEq] at e1
    obtain ⟨rfl, e3, e4⟩ := e1
    have ht : t = ⟨#[]⟩ := nm_inj (by have h1 : (nm t).length = 0 := by rw [nm_size]; exact e3
                                      rw [List.length_eq_zero_iff.1 h1]; rfl)
    rw [e3, ht]
    exact Lib.run_convert_nil_bytes w _ _ _ c Tryz.underlying317 Tryz.underlying5 Tryz.underlying9
  · simp only [Value.slice.injEq] at e1
    obtain ⟨rfl, e3, e4⟩ := e1
    have hl : t.data.toList.length = t.size := by simp
    have h1 := run_convert_bytes_back (P := Tryz.prog) w 317 9 5 ⟨b, 0, none⟩ c t.data.toList Tryz.underlying317 Tryz.underlying5 Tryz.underlying9 (fun j hj => by
      have h2 := ho.cells (g := b) rfl j (.int .u8 ((t.data.toList[j]'hj).toNat : Int)) (by simp only [bcells, nm, List.getElem?_map, List.getElem?_eq_getElem hj, Option.map_some])
      exact h2)
    rw [hl] at h1
    rw [h1]
end Go.Proofs.YtadmbphefpfbmaaGreatDoor
