/- The universal program: the expression of a tree (both sides). -/
import Derived.Test.YtadmbphefpfbmaaGreatDoorPvP
import Derived.Test.YtadmbphefpfbmaaGreatDoorPqT
namespace Go.Proofs.YtadmbphefpfbmaaGreatDoor
open Go.RowKit
set_option linter.unusedVariables false
set_option linter.unusedSimpArgs false
attribute [local go_sem ↓] Go.wp_at_zero Go.wp_at_succ
def bEl (b : Bool) : El := if b then (2, 0) else (0, 0)
def exT : Tr → Ex
  | .nil => .leaf (0, 0)
  | .node h t => .bin (2, 0) (exT h) (exT t)
theorem exT_els : ∀ t : Tr, (exT t).els = t.bits.map bEl
  | .nil => rfl
  | .node h t => by simp [exT, Ex.els, Tr.bits, exT_els h, exT_els t, bEl]
theorem exT_ok : ∀ t : Tr, (exT t).ok
  | .nil => .inl rfl
  | .node h t => ⟨.inl rfl, exT_ok h, exT_ok t⟩
theorem bEl_step {bs : List Bool} {k : Nat} {b : Bool} (h : bs[k]? = some b) : (bs.take (k + 1)).map bEl = (bs.take k).map bEl ++ [bEl b] := by
  rw [List.take_add_one, h, List.map_append]; rfl
set_option maxHeartbeats 4000000 in
set_option maxRecDepth 100000 in
theorem treeExprY_any (w : World) (lo : Nat) (v : Value) (t : Tr) (h : IsT w lo w.heap.size v t) (hn : t.nodes ≤ 2000) : Calls Tryz.prog 67 #[v] w (RetE w (exT t).els) := by
  have HLI := Lib.hid (fun (w1 : World) (hb : Below w.heap.size w w1) => list_any w1 lo v t (h.up hb) (by omega))
  have HTL : Hid (t.bits.length ≤ 2000) := Lib.hid (by rw [Tr.bits_len]; exact hn)
  obtain ⟨pt, rfl⟩ := h.isPtr
  rw [exT_els]
  obtain ⟨w1, hw1⟩ : ∃ w1, w1 = w.alloc (.cells #[] 110) := ⟨_, rfl⟩
  have HB1 : Hid (Below w.heap.size w w1) := Lib.hid (by rw [hw1]; exact below_new _ _)
  have HO1 : Hid (w1.ownsRow w.heap.size 110 2 (.slice (some ⟨w.heap.size, 0, none⟩) 0 0) 0 (ints (eNums []))) := Lib.hid (by rw [hw1]; exact ownN_lit w #[] 0 2 110 rfl (by omega))
  clear h hn
  generalize t.bits = bs at *
  go_enter Tryz.func67, Tryz.ntmps67
  go_upto_region 2 with fail
  rw [← hw1]
  clear hw1
  go_wp2_with (go_at_call 105
               refine (HLI.out w1 HB1.out).mono ?_
               rintro e w2 ⟨A2, n2, c2, rfl, ho2, hb2⟩
               have HL2 : Hid (bs.length = n2) := Lib.hid (by have h := ho2.1; simpa using h)
               have HO2 := Lib.hid ho2
               have HO3 := Lib.hid (ownN_below HO1.out hb2 (Nat.le_refl _))
               have HB2 : Hid (Below w.heap.size w w2) := Lib.hid (bqcP hb2 HB1.out)
               clear ho2 hb2)
  go_loopw [3, 11] (fun u v wr => ∃ (i : Nat) (A3 : Option Addr) (c3 : Nat), i ≤ n2 ∧ v = .int .i64 (i : Int) ∧ u = .slice A3 i c3 ∧ Hid (wr.ownsRow w.heap.size 110 2 (.slice A3 i c3) i (ints (eNums ((bs.take i).map bEl)))) ∧ Hid (wr.ownsRow w1.heap.size 4 1 (.slice A2 n2 c2) n2 (bools bs)) ∧ Hid (Below w.heap.size w wr)) (fun _ v _ => n2 - (intOf v).toNat)
  case atStart => exact ⟨0, _, _, Nat.zero_le _, rfl, rfl, HO3, HO2, HB2⟩
  case round =>
    clear HO1 HO2 HO3 HB2 HB1
    obtain ⟨i, A3, c3, hi, rfl, rfl, HO3, HO2, HB2⟩ := hrel
    have HII : Hid (i ≤ 1099511627776) := Lib.hid (by have := HL2.out; have := HTL.out; omega)
    by_cases hlt : i < n2
    · have hlt' : (i : Int) < (n2 : Int) := by omega
      have hn9 : n2 ≤ 2000 := by have := HL2.out; have := HTL.out; omega
      obtain ⟨b, hb⟩ := get_some (xs := bs) (k := i) (by have := HL2.out; omega)
      obtain ⟨g, rfl, hg, hgs, q0, _⟩ := own_get HO2.out (k := i) (u := .bool b) (by simp [bools, hb])
      have HST := Lib.hid (bEl_step hb)
      clear hb hg
      cases b with
      | false =>
        go_wp2_with (at_builtin; go_must (refine wpList_app1N eltEl rfl _ _ rfl wr w.heap.size (.slice A3 i c3) i (ints (eNums ((bs.take i).map bEl))) (by rfl) HO3.out #[.int .i64 0, .int .i64 0] rfl (oneEl _ _) (by rfl) HB2.out.size HII.out ?_); rintro A6 c6 w6 ho6 hb6 hg6
                     rw [snoc_nums] at ho6
                     have HO6 : Hid (w6.ownsRow w.heap.size 110 2 (.slice A6 (i + 1) c6) (i + 1) (ints (eNums ((bs.take (i + 1)).map bEl)))) := Lib.hid (by rw [HST.out]; exact ho6)
                     have HO7 := Lib.hid (own_ch HO2.out (ch_row hg6) (fun q h1 h2 => own_types HO2.out HO3.out (by decide) q h1 h2))
                     have HB6 : Hid (Below w.heap.size w w6) := Lib.hid (HB2.out.trans hb6)
                     clear ho6 hb6 hg6)
        go_roundw
        case rel => exact ⟨i + 1, A6, c6, by omega, by go_num, rfl, HO6, HO7, HB6⟩
        case measure => simp [intOf]; omega
      | true =>
        go_wp2_with (at_builtin; go_must (refine wpList_app1N eltEl rfl _ _ rfl wr w.heap.size (.slice A3 i c3) i (ints (eNums ((bs.take i).map bEl))) (by rfl) HO3.out #[.int .i64 2, .int .i64 0] rfl (oneEl _ _) (by rfl) HB2.out.size HII.out ?_); rintro A6 c6 w6 ho6 hb6 hg6
                     rw [snoc_nums] at ho6
                     have HO6 : Hid (w6.ownsRow w.heap.size 110 2 (.slice A6 (i + 1) c6) (i + 1) (ints (eNums ((bs.take (i + 1)).map bEl)))) := Lib.hid (by rw [HST.out]; exact ho6)
                     have HO7 := Lib.hid (own_ch HO2.out (ch_row hg6) (fun q h1 h2 => own_types HO2.out HO3.out (by decide) q h1 h2))
                     have HB6 : Hid (Below w.heap.size w w6) := Lib.hid (HB2.out.trans hb6)
                     clear ho6 hb6 hg6)
        go_roundw
        case rel => exact ⟨i + 1, A6, c6, by omega, by go_num, rfl, HO6, HO7, HB6⟩
        case measure => simp [intOf]; omega
    · obtain rfl : i = n2 := by omega
      have HE : Hid (bs.take i = bs) := Lib.hid (List.take_of_length_le (by have := HL2.out; omega))
      go_wp2_with fail
      go_ret
      have h := HO3.out
      rw [HE.out] at h
      exact ⟨A3, i, c3, rfl, h, HB2.out⟩
end Go.Proofs.YtadmbphefpfbmaaGreatDoor
