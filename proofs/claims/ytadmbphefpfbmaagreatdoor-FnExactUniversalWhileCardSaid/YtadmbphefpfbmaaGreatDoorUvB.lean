/- The universal program: the text of a tag (program), the expression of a tag (reference). -/
import Derived.Test.YtadmbphefpfbmaaGreatDoorUvA
namespace Go.Proofs.YtadmbphefpfbmaaGreatDoor
open Go.RowKit
set_option linter.unusedVariables false
set_option linter.unusedSimpArgs false
attribute [local go_sem ↓] Go.wp_at_zero Go.wp_at_succ
/-- The text of a tag. -/
def tagB (k : Nat) : ByteArray := (exT (tagTr k)).bs
set_option maxHeartbeats 1000000 in
theorem tagText_any (w : World) (k : Nat) (hk : k ≤ 11) (x : Int) (hx : x = (k : Int)) : Calls Tryz.prog 35 #[.int .i64 x] w (fun e w' => e = .returned (.string (tagB k)) ∧ Below w.heap.size w w') := by
  have HT := Lib.hid (tagTree_any w k hk x hx)
  clear hk hx
  go_enter Tryz.func35, Tryz.ntmps35
  go_wp2_with (first
    | (go_at_call 66
       refine (exprTextY_any (exT (tagTr k)) (exT_ok _) w3 A3 n3 c3 (ownN_rd HO3.out) HN3.out (ownN_cap HO3.out)).mono ?_
       rintro e w4 ⟨rfl, hb4⟩
       have HB4 : Hid (Below w.heap.size w w4) := Lib.hid (bqcP hb4 HB3.out)
       clear hb4)
    | (go_at_call 67
       refine (treeExprY_any w2 _ v2 (tagTr k) HV2.out (by have := tag_nodes k; omega)).mono ?_
       rintro e w3 ⟨A3, n3, c3, rfl, ho3, hb3⟩
       have HO3 := Lib.hid ho3
       have HN3 : Hid (n3 ≤ 1000) := Lib.hid (by have h := own_el ho3; rw [exT_els, List.length_map, Tr.bits_len] at h; have := tag_nodes k; omega)
       have HB3 : Hid (Below w.heap.size w w3) := Lib.hid (bqcP hb3 HB2.out)
       clear ho3 hb3)
    | (go_at_call 68
       refine HT.out.mono ?_
       rintro e w2 ⟨v2, rfl, hv2, hb2⟩
       have HV2 := Lib.hid hv2; have HB2 := Lib.hid hb2
       clear hv2 hb2))
  go_ret
  exact ⟨rfl, HB4.out⟩
set_option maxHeartbeats 4000000 in
set_option maxRecDepth 100000 in
theorem l23Expr_any (w : World) (A : Option Addr) (n c : Nat) (bs : List Bool) (hr : Rd w A n (bools bs)) (hn : n ≤ 2000) : Calls Tryz.prog 100 #[.slice A n c] w (RetE w (bs.map bEl)) := by
  have HL : Hid (bs.length = n) := Lib.hid (by have h := hr.1; simpa using h)
  have HR := Lib.hid hr
  have HNN := Lib.hid hn
  obtain ⟨w1, hw1⟩ : ∃ w1, w1 = w.alloc (.cells #[] 110) := ⟨_, rfl⟩
  have HB1 : Hid (Below w.heap.size w w1) := Lib.hid (by rw [hw1]; exact below_new _ _)
  have HO1 : Hid (w1.ownsRow w.heap.size 110 2 (.slice (some ⟨w.heap.size, 0, none⟩) 0 0) 0 (ints (eNums []))) := Lib.hid (by rw [hw1]; exact ownN_lit w #[] 0 2 110 rfl (by omega))
  clear hr hn
  go_enter Tryz.func100, Tryz.ntmps100
  go_upto_region 3 with fail
  rw [← hw1]
  clear hw1
  go_loopw [3, 4] (fun u v wr => ∃ (i : Nat) (A3 : Option Addr) (c3 : Nat), i ≤ n ∧ v = .int .i64 (i : Int) ∧ u = .slice A3 i c3 ∧ Hid (wr.ownsRow w.heap.size 110 2 (.slice A3 i c3) i (ints (eNums ((bs.take i).map bEl)))) ∧ Hid (Below w.heap.size w wr)) (fun _ v _ => n - (intOf v).toNat)
  case atStart => exact ⟨0, _, _, Nat.zero_le _, rfl, rfl, HO1, HB1⟩
  case round =>
    clear HO1 HB1
    obtain ⟨i, A3, c3, hi, rfl, rfl, HO3, HB3⟩ := hrel
    have HII : Hid (i ≤ 1099511627776) := Lib.hid (by have := HNN.out; omega)
    by_cases hlt : i < n
    · have hlt' : (i : Int) < (n : Int) := by omega
      have hn9 := HNN.out
      obtain ⟨b, hb⟩ := get_some (xs := bs) (k := i) (by have := HL.out; omega)
      obtain ⟨g, off, rfl, hg, q0⟩ := (HR.out.below HB3.out (Nat.le_refl _)).at_ (k := i) (u := .bool b) (by simp [bools, hb])
      have HST := Lib.hid (bEl_step hb)
      have hb4 := below_new wr (.cells #[.int .i64 0, .int .i64 0] 110)
      have hb5 := below_new wr (.cells #[.int .i64 2, .int .i64 0] 110)
      have HO4 := Lib.hid (ownN_below HO3.out hb4 (Nat.le_refl _))
      have HO5 := Lib.hid (ownN_below HO3.out hb5 (Nat.le_refl _))
      have HB4 : Hid (Below w.heap.size w (wr.alloc (.cells #[.int .i64 0, .int .i64 0] 110))) := Lib.hid (bqcP hb4 HB3.out)
      have HB5 : Hid (Below w.heap.size w (wr.alloc (.cells #[.int .i64 2, .int .i64 0] 110))) := Lib.hid (bqcP hb5 HB3.out)
      have q1 := (hb4.cell (p := ⟨g, off + i, none⟩) hg).trans q0
      clear hb hb4 hb5
      cases b with
      | false =>
        obtain ⟨w4, hw4⟩ : ∃ w4, w4 = wr.alloc (.cells #[.int .i64 0, .int .i64 0] 110) := ⟨_, rfl⟩
        have HX4 : Hid (w4.heap[wr.heap.size]? = some (.cells #[.int .i64 0, .int .i64 0] 110 (0, 0))) := Lib.hid (by rw [hw4]; exact box_new _ _ _)
        rw [← hw4] at HO4 HB4
        clear HO5 HB5
        go_upto_region 8 with fail
        rw [← hw4]
        clear hw4
        have x0 := blk_cell HX4.out 0 rfl
        have x1 := blk_cell HX4.out 1 rfl
        go_wp2_with (at_builtin; go_must (refine wpList_app1N eltEl rfl _ _ rfl w4 w.heap.size (.slice A3 i c3) i (ints (eNums ((bs.take i).map bEl))) (by rfl) HO4.out #[.int .i64 0, .int .i64 0] rfl (oneEl _ _) (by rfl) HB4.out.size HII.out ?_); rintro A6 c6 w6 ho6 hb6 hg6
                     rw [snoc_nums] at ho6
                     have HO6 : Hid (w6.ownsRow w.heap.size 110 2 (.slice A6 (i + 1) c6) (i + 1) (ints (eNums ((bs.take (i + 1)).map bEl)))) := Lib.hid (by rw [HST.out]; exact ho6)
                     have HB6 : Hid (Below w.heap.size w w6) := Lib.hid (HB4.out.trans hb6)
                     clear ho6 hb6 hg6)
        go_roundw
        case rel => exact ⟨i + 1, A6, c6, by omega, by go_num, rfl, HO6, HB6⟩
        case measure => simp [intOf]; omega
      | true =>
        obtain ⟨w4, hw4⟩ : ∃ w4, w4 = wr.alloc (.cells #[.int .i64 2, .int .i64 0] 110) := ⟨_, rfl⟩
        have HX4 : Hid (w4.heap[wr.heap.size]? = some (.cells #[.int .i64 2, .int .i64 0] 110 (0, 0))) := Lib.hid (by rw [hw4]; exact box_new _ _ _)
        rw [← hw4] at HO5 HB5
        clear HO4 HB4
        go_upto_region 8 with fail
        rw [← hw4]
        clear hw4
        have x0 := blk_cell HX4.out 0 rfl
        have x1 := blk_cell HX4.out 1 rfl
        go_wp2_with (at_builtin; go_must (refine wpList_app1N eltEl rfl _ _ rfl w4 w.heap.size (.slice A3 i c3) i (ints (eNums ((bs.take i).map bEl))) (by rfl) HO5.out #[.int .i64 2, .int .i64 0] rfl (oneEl _ _) (by rfl) HB5.out.size HII.out ?_); rintro A6 c6 w6 ho6 hb6 hg6
                     rw [snoc_nums] at ho6
                     have HO6 : Hid (w6.ownsRow w.heap.size 110 2 (.slice A6 (i + 1) c6) (i + 1) (ints (eNums ((bs.take (i + 1)).map bEl)))) := Lib.hid (by rw [HST.out]; exact ho6)
                     have HB6 : Hid (Below w.heap.size w w6) := Lib.hid (HB5.out.trans hb6)
                     clear ho6 hb6 hg6)
        go_roundw
        case rel => exact ⟨i + 1, A6, c6, by omega, by go_num, rfl, HO6, HB6⟩
        case measure => simp [intOf]; omega
    · obtain rfl : i = n := by omega
      have HE : Hid (bs.take i = bs) := Lib.hid (List.take_of_length_le (by have := HL.out; omega))
      go_wp2_with fail
      go_ret
      have h := HO3.out
      rw [HE.out] at h
      exact ⟨A3, i, c3, rfl, h, HB3.out⟩
end Go.Proofs.YtadmbphefpfbmaaGreatDoor
