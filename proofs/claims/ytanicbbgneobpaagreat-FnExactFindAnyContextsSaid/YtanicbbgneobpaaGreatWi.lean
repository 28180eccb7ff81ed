/- The windows of a side (program). -/
import Derived.Test.YtanicbbgneobpaaGreatWs
import Derived.Test.YtanicbbgneobpaaGreatGJ
import Derived.Test.YtanicbbgneobpaaGreatSr
import Derived.Test.YtanicbbgneobpaaGreatGE
namespace Go.Proofs.YtanicbbgneobpaaGreat
open Go.RowKit
set_option linter.unusedVariables false
set_option linter.unusedSimpArgs false
theorem wl_gw {xs : List Int} {f len k : Nat} (hl : len ≤ 10) (hx : ∀ x ∈ xs, SmI x) : ∀ ys ∈ wl xs f len k, Gw ys ∧ ys.length = len := by
  intro ys hy
  have h := wl_len xs f len k ys hy
  refine ⟨⟨by omega, fun z hz => ?_⟩, h⟩
  rcases List.mem_cons.1 hy with rfl | hy
  · rw [List.eq_of_mem_replicate hz]; unfold SmI; omega
  · obtain ⟨i, _, rfl⟩ := List.mem_map.1 hy
    obtain ⟨j, _, rfl⟩ := List.mem_map.1 hz
    rw [List.getD_eq_getElem?_getD]
    cases hj : xs[f + i + j]? with
    | none => simp only [Option.getD_none]; unfold SmI; omega
    | some z => exact hx z (List.mem_of_getElem? hj)
theorem cells_gw {xs : List Int} {f len : Nat} (hl : len ≤ 10) (hx : ∀ x ∈ xs, SmI x) : Gw (cellsF xs f len) := by
  have h := wl_gw (f := f) (k := 1) hl hx (cellsF xs f len) (by simp [wl])
  exact h.1
def SetP (w : World) (len : Nat) (xss : List (List Int)) (e : Ending) (w' : World) : Prop := ∃ g mB, e = .returned (.pointer (some ⟨g, 0, none⟩)) ∧ IsSet w' g mB len xss ∧ w.heap.size ≤ g ∧ w.heap.size ≤ mB ∧ Below w.heap.size w w'
set_option maxHeartbeats 4000000 in
set_option maxRecDepth 100000 in
theorem windowsOf_any (w : World) (A : Option Addr) (n c : Nat) (xs : List Int) (hr : Rd w A n (ints xs)) (hn : n ≤ 900) (hx : ∀ x ∈ xs, SmI x) (len : Nat) (hl : 1 ≤ len ∧ len ≤ 4) :
    Calls Tryz.prog 45 #[.slice A n c, .int .i64 len] w (SetP w len (wl xs 1 len (n - 1))) := by
  have HL : Hid (xs.length = n) := Lib.hid (by simpa using hr.1)
  obtain ⟨w0, hw0⟩ : ∃ w0, w0 = (w.alloc (.cells (madeCells #[.int .i64 0] len) 2)).alloc (.cells #[.slice (some ⟨w.heap.size, 0, none⟩) len len] 25) := ⟨_, rfl⟩
  have hB : Below w.heap.size w w0 := by rw [hw0]; exact (below_new w _).trans ((below_new _ _).mono (by simp))
  have hx0 : OwnX w0 (some ⟨w.heap.size + 1, 0, none⟩) 1 1 [.slice (some ⟨w.heap.size, 0, none⟩) len len] [List.replicate len 0] := ownx_one (own_mkz len (by omega) w) (by omega) hw0 (by simp)
  have HST := Lib.hid (setOf_any w0 len (some ⟨w.heap.size + 1, 0, none⟩) 1 1 [List.replicate len 0] hx0.ownp.rdl (by omega) (fun ys hy => by simp at hy; subst hy; exact ⟨by simp; omega, fun z hz => by rw [List.eq_of_mem_replicate hz]; unfold SmI; omega⟩))
  have HB0 := Lib.hid hB
  have hmk := fun w => run_mkz len (by omega) w
  have HR := Lib.hid hr; have HXS := Lib.hid hx
  clear hx0 hB hr hx
  go_enter Tryz.func45, Tryz.ntmps45
  go_upto_region 2 with (rw [← hw0]; go_at_call 42; refine HST.out.mono ?_; rintro e w1 ⟨g, mB, rfl, hs1, hg1, hm1, hb1⟩)
  have HS1 : Hid (IsSet w1 g mB len (wl xs 1 len 0)) := Lib.hid hs1
  have HB1 : Hid (Below w.heap.size w w1) := Lib.hid (HB0.out.trans (hb1.mono HB0.out.size))
  have HG1 : Hid (w.heap.size ≤ g ∧ w.heap.size ≤ mB) := Lib.hid ⟨Nat.le_trans HB0.out.size hg1, Nat.le_trans HB0.out.size hm1⟩
  clear hs1 hb1 hg1 hm1 hmk hw0 HST HB0
  as_aux_lemma =>
  go_wp2_with fail
  go_loopw [6] (fun q wr => ∃ k : Nat, q = .int .i64 ((1 + k : Nat) : Int) ∧ k ≤ n - 1 ∧ IsSet wr g mB len (wl xs 1 len k) ∧ Below w.heap.size w wr) (fun q _ => n - (intOf q).toNat)
  case atStart => exact ⟨0, by simp, Nat.zero_le _, HS1.out, HB1.out⟩
  case round =>
    as_aux_lemma =>
    obtain ⟨k, rfl, hk, hs, hb⟩ := hrel
    have HS := Lib.hid hs; have HB := Lib.hid hb
    by_cases hlt : 1 + k < n
    · have hlt' : ((1 + k : Nat) : Int) < (n : Int) := by omega
      have hk1 : 1 + k ≤ 1000 := by omega
      have HK1 := Lib.hid hk1
      obtain ⟨fk, hfk⟩ : ∃ fk, fk = 1 + k := ⟨_, rfl⟩
      rw [← hfk] at hlt' hk1
      rw [← hfk]
      have HFK := Lib.hid hfk
      have HRX := Lib.hid (HR.out.below hb (Nat.le_refl _))
      have HGC : Hid (Gw (cellsF xs fk len)) := Lib.hid (cells_gw (by omega) HXS.out)
      have HCF : Hid (∀ wx : World, Below wr.heap.size wr wx → Calls Tryz.prog 77 #[.slice A n c, .int .i64 fk, .int .i64 len] wx (RetS wx 2 (ints (cellsF xs fk len)))) := Lib.hid (fun wx hbx => cellsFrom_any wx A n c xs (HRX.out.below hbx (Nat.le_refl _)) (by omega) fk len _ _ rfl rfl hk1 (by omega))
      have HM : Hid ((wl xs 1 len k).length < maxLen) := Lib.hid (by unfold maxLen; rw [wl_size]; omega)
      have x0 : wr.cell? ⟨g, 0, none⟩ = some (.map (some mB)) := blk_cell hs.box 0 rfl
      have HRD : Hid (Below wr.heap.size wr wr.drew) := Lib.hid (below_drewN (n := 1) (Below.refl _ _))
      clear hs hb hfk
      go_wp2_with fail
      (first
        | (go_region_law (first
            | (have hq := HO2.out
               clear hq
               go_simp
               go_at_call 78
               refine (itemOf_k w2 A2 n2 c2 (cellsF xs fk len) (own_rd HO2.out) HN2.out).mono ?_
               rintro e w3 ⟨rfl, hb3⟩
               have HB3 : Hid (Below wr.heap.size wr w3) := Lib.hid (HB2.out.trans (hb3.mono HB2.out.size))
               have hs3 := HS.out.below HB3.out
               obtain ⟨w4, hrun4, hown4, hg4⟩ := hs3.own.update lawIt Tryz.underlying109 HM.out (val := .bool true) (keyIt (pad_len HGC.out.1) HGC.out.pad) (plainElem_bool Tryz.underlying4 true)
               have HS4 := Lib.hid (hs3.add hown4 hg4)
               have HB4 : Hid (Below w.heap.size w w4) := Lib.hid (set_bel (HB.out.trans (HB3.out.mono HB.out.size)) hg4 HG1.out.2 (Nat.le_trans HB.out.size HB3.out.size))
               have x3 : w3.cell? ⟨g, 0, none⟩ = some (.map (some mB)) := blk_cell hs3.box 0 rfl
               clear hb3 hs3 hown4 hg4)
            | (go_simp
               go_at_call 77
               refine (HCF.out _ HRD.out).mono ?_
               rintro e w2 ⟨A2, n2, c2, rfl, ho2, hb2⟩
               have HB2 : Hid (Below wr.heap.size wr w2) := Lib.hid (und1 hb2)
               have HO2 := Lib.hid ho2
               have HN2 : Hid (n2 ≤ 10) := Lib.hid (by have h := ho2.1; simp only [List.length_map, cellsF_len] at h; omega)
               have x2 : w2.cell? ⟨g, 0, none⟩ = some (.map (some mB)) := blk_cell (HS.out.below HB2.out).box 0 rfl
               clear hb2 ho2)))
        | fail)
      all_goals
        as_aux_lemma =>
        go_wp2_with fail
        go_roundw
        case rel => exact ⟨k + 1, (by rw [HFK.out]; congr 1), by omega, by rw [wl_snoc, ← HFK.out]; exact HS4.out, HB4.out⟩
        case measure => rw [HFK.out]; simp only [intOf]; omega
    · have HE : Hid (wl xs 1 len k = wl xs 1 len (n - 1)) := Lib.hid (by rw [show n - 1 = k by omega])
      have hge : ¬ ((1 + k : Nat) : Int) < (n : Int) := by omega
      go_wp2_with fail
      go_ret
      exact ⟨g, mB, rfl, by rw [← HE.out]; exact HS.out, HG1.out.1, HG1.out.2, HB.out⟩
end Go.Proofs.YtanicbbgneobpaaGreat
