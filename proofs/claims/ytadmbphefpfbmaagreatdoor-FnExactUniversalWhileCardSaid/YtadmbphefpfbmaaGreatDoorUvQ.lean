/- The universal program: strings.Replacer: the writer of a buffer. -/
import Derived.Test.YtadmbphefpfbmaaGreatDoorUvL
import Derived.Handy
import Derived.Lib.AppendStr
namespace Go.Proofs.YtadmbphefpfbmaaGreatDoor
open Go.RowKit
set_option linter.unusedVariables false
set_option linter.unusedSimpArgs false
attribute [local go_sem ↓] Go.wp_at_zero Go.wp_at_succ
theorem ownBlkNot {w : World} {base e s n g T : Nat} {v : Value} {vs : List Value} {cs : Array Value} (hg : w.heap[g]? = some (.cells cs T (0, 0))) (hT : T ≠ e) (h : w.ownsRow base e s v n vs) : ¬ Fo v g := fun hf => by
  rcases h.2 with ⟨rfl, _⟩ | ⟨g', cap, cur, rfl, _, hgg, _⟩
  · simp [Fo, Value.ownBlock] at hf
  · obtain rfl : g' = g := by simpa [Fo, Value.ownBlock] using hf
    rw [hg] at hgg
    injection hgg with h1
    injection h1 with h1 h2
    exact hT h2
def bcells (l : List Nat) : List Value := l.map (fun x : Nat => Value.int .u8 (x : Int))
theorem strCells_nm (s : ByteArray) : Lib.strCells s = bcells (nm s) := by simp [Lib.strCells, bcells, nm]
/-- A buffer: a variable in block g that holds a row of bytes of its own. -/
def BufAt (w : World) (B g : Nat) (l : List Nat) : Prop := ∃ A c, w.heap[g]? = some (.cells #[.slice A l.length c] 317 (0, 0)) ∧ w.ownsRow B 5 1 (.slice A l.length c) l.length (bcells l)
abbrev bufV (g : Nat) : Value := .iface 318 (ptr g)
theorem assertW (w : World) (g : Nat) : (Instr.typeAssert (bufV g) 320 322 true).run Tryz.prog w = .ok (.tuple #[bufV g, .bool true]) w := by kernel_rfl
set_option maxRecDepth 100000 in
set_option maxHeartbeats 8000000 in
theorem getWriter_any (w : World) (g : Nat) : Calls Tryz.prog 283 #[bufV g] w fun e w' => e = .returned (bufV g) ∧ w' = w := by
  have ha := assertW w g
  go_enter Tryz.func283, Tryz.ntmps283
  go_wp2_with fail
  go_ret
  exact ⟨rfl, rfl⟩
set_option maxRecDepth 100000 in
set_option maxHeartbeats 8000000 in
theorem bufWrite_any (w : World) (B g : Nat) (l : List Nat) (s : ByteArray) (hb : BufAt w B g l) (hB : B ≤ w.heap.size) (hg : B ≤ g) (hl : l.length + s.size ≤ 1000000) :
    Calls Tryz.prog 302 #[ptr g, .string s] w fun e w' => e = .returned (.tuple #[.int .i64 (s.size : Int), .nilIface]) ∧ BufAt w' B g (l ++ nm s) ∧ Below B w w' := by
  obtain ⟨A, c, hx, ho⟩ := hb
  obtain ⟨i0, hi, hz0, hz1, hz2⟩ := info_parts (P := Tryz.prog) (e := 5) (z := .int .u8 0) (size := 1) (bytes := 1) (by kernel_rfl)
  have hne : ¬ (Fo (.slice A l.length c) g) := ownBlkNot hx (by decide) ho
  have x0 : w.cell? ⟨g, 0, none⟩ = some (.slice A l.length c) := blk_cell hx 0 rfl
  have z0 : w.frozen? ⟨g, 0, none⟩ = false := blk_free hx 0
  have HX := Lib.hid hx; have HO := Lib.hid ho; have HNE := Lib.hid hne; have HBS := Lib.hid hB; have HBG := Lib.hid hg; have HLL := Lib.hid hl
  clear hx ho hne hB hg hl
  go_enter Tryz.func302, Tryz.ntmps302
  go_wp2_with (at_builtin; go_must (refine Lib.wpList_append_own_string _ rfl _ _ 317 9 rfl B 5 i0 Tryz.underlying317 Tryz.underlying9 hi hz0 hz1 hz2 _ _ _ (by rfl) HO.out s (by rfl) ?c3 ?c4 ?c5 ?_))
  case c3 => unfold maxLen; have := HLL.out; omega
  case c4 => have := HLL.out; omega
  case c5 => exact HBS.out
  intro v' w2 ho2 hgr _
  obtain ⟨A', c', rfl, _⟩ := ownN_form ho2
  have hlen : (l ++ nm s).length = l.length + s.size := by rw [List.length_append, nm_size]
  have hcc : bcells l ++ Lib.strCells s = bcells (l ++ nm s) := by rw [strCells_nm]; simp [bcells]
  rw [hcc] at ho2
  have hc2 := ch_row hgr
  have hx2 := blk_ch HX.out hc2 HNE.out
  have y0 : w2.cell? ⟨g, 0, none⟩ = some (.slice A l.length c) := blk_cell hx2 0 rfl
  have v0 : w2.frozen? ⟨g, 0, none⟩ = false := blk_free hx2 0
  have hb2 : Below B w w2 := below_ch (Below.refl _ _) hc2 (fun q hq => (rg_row HO.out q hq).1) HBS.out
  have HX2 := Lib.hid hx2; have HO2 := Lib.hid ho2; have HB2 := Lib.hid hb2; have HLN := Lib.hid hlen
  clear hx2 ho2 hb2 hc2 hcc hlen hgr
  obtain ⟨w3, hw3⟩ : ∃ w3, w3 = w2.setCell ⟨g, 0, none⟩ (.slice A' (l.length + s.size) c') := ⟨_, rfl⟩
  have hc3 : Ch (· = g) w2 w3 := by rw [hw3]; exact ch_set _ _ _ _
  have HBF : Hid (BufAt w3 B g (l ++ nm s)) := Lib.hid ⟨A', c', by rw [HLN.out, hw3]; exact blk_set HX2.out 0 _, by rw [HLN.out]; exact own_ch HO2.out hc3 (fun k hk e => by have e1 : k = g := e; subst e1; exact ownBlkNot HX2.out (by decide) HO2.out hk)⟩
  have HB3 : Hid (Below B w w3) := Lib.hid (below_ch HB2.out hc3 (fun q e => by have e1 : q = g := e; have := HBG.out; omega) (by have := HB2.out.size; have := HBS.out; omega))
  clear hc3
  go_wp2_with fail
  rw [← hw3]
  go_ret2
  exact ⟨rfl, HBF.out, HB3.out⟩
set_option maxRecDepth 100000 in
set_option maxHeartbeats 8000000 in
theorem lookupEnd_any (w : World) (r : Nat) (t : ByteArray) (he : t.toList.isEmpty = true) (x1 : w.cell? ⟨r, 1, none⟩ = some (.int .i64 0)) :
    Calls Tryz.prog 284 #[ptr r, .string t, .bool false] w fun e w' => e = .returned (.tuple #[.string noB, .int .i64 0, .bool false]) ∧ w' = w := by
  go_enter Tryz.func284, Tryz.ntmps284
  go_upto_region 4 with fail
  go_loopw [1, 6, 7, 8, 9, 10, 11] (fun v1 v6 v7 v8 v9 v10 v11 wr => v1 = .string t ∧ v6 = .string noB ∧ v7 = .int .i64 0 ∧ v8 = .bool false ∧ v9 = .int .i64 0 ∧ v10 = ptr r ∧ v11 = .int .i64 0 ∧ wr = w) (fun _ _ _ _ _ _ _ _ => 0)
  case atStart => exact ⟨rfl, rfl, rfl, rfl, rfl, rfl, rfl, rfl⟩
  case round =>
    obtain ⟨rfl, rfl, rfl, rfl, rfl, rfl, rfl, rfl⟩ := hrel
    go_wp2_with fail
    go_ret3
    exact ⟨rfl, rfl⟩
end Go.Proofs.YtadmbphefpfbmaaGreatDoor
