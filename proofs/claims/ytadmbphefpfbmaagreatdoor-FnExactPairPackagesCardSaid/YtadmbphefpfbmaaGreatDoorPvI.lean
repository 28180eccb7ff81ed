/- A program with one variable (program): places, placed expressions. -/
import Derived.Test.YtadmbphefpfbmaaGreatDoorPvP
import Derived.Test.YtadmbphefpfbmaaGreatDoorRpE
namespace Go.Proofs.YtadmbphefpfbmaaGreatDoor
open Go.RowKit
set_option linter.unusedVariables false
set_option linter.unusedSimpArgs false
attribute [local go_sem ↓] Go.wp_at_zero Go.wp_at_succ
theorem rep_nums (a b : Int) : ∀ N : Nat, repE (ints (eNums [(a, b)])) N = ints (eNums (List.replicate N (a, b)))
  | 0 => rfl
  | N + 1 => by
    have h := rep_nums a b N
    have e : repE (ints (eNums [(a, b)])) (N + 1) = ints (eNums [(a, b)]) ++ repE (ints (eNums [(a, b)])) N := by simp [repE, List.replicate_succ]
    rw [e, h, app_nums', List.replicate_succ]
    rfl
set_option maxHeartbeats 4000000 in
set_option maxRecDepth 100000 in
theorem placeOf_any (w : World) (k n : Nat) (hk : k ≤ 80) (hn : n ≤ 100) : Calls Tryz.prog 87 #[.int .i64 (k : Int), .int .i64 (n : Int)] w (RetE w (placeE k n)) := by
  obtain ⟨w1, hw1⟩ : ∃ w1, w1 = w.alloc (.cells #[.int .i64 4, .int .i64 0] 110) := ⟨_, rfl⟩
  have HB1 : Hid (Below w.heap.size w w1) := Lib.hid (by rw [hw1]; exact below_new _ _)
  have hl1 : w1.ownsRow w.heap.size 110 2 (.slice (some ⟨w.heap.size, 0, none⟩) 1 1) 1 (ints (eNums [(4, 0)])) := by rw [hw1]; exact lit_elG w 4 0
  have HRP := Lib.hid (repeatE_any w1 w.heap.size 0 1 k (ints (eNums [(4, 0)])) rfl (ints_one1 _) (ownN_rd hl1) hk)
  have HK : Hid (k ≤ 80 ∧ n ≤ 100) := Lib.hid ⟨hk, hn⟩
  have hw9 : IntKind.i64.wrap ((n : Int) - 1) = (n : Int) - 1 := IntWalk.i64_in _ (by omega)
  have HW1 := Lib.hid hw1
  clear hk hn hl1 hw1
  go_enter Tryz.func87, Tryz.ntmps87
  go_upto_region 2 with (first
    | (go_at_call 132
       rw [← HW1.out]
       refine HRP.out.mono ?_
       rintro e w2 ⟨A2, c2, rfl, ho2, hb2⟩
       rw [rep_nums] at ho2
       have HO2 := Lib.hid (ownN_base ho2 HB1.out.size)
       have HB2 : Hid (Below w.heap.size w w2) := Lib.hid (bqcP hb2 HB1.out)
       clear ho2 hb2)
    | (at_builtin; go_must (refine wpList_app1N eltEl rfl _ _ rfl w2 w.heap.size (.slice A2 k c2) k (ints (eNums (List.replicate k (4, 0)))) (by rfl) HO2.out #[.int .i64 1, .int .i64 0] rfl (oneEl _ _) (by rfl) HB2.out.size (by have := HK.out; omega) ?_); rintro A3 c3 w3 ho3 hb3 hg3
       rw [snoc_nums] at ho3
       have HO3 := Lib.hid ho3
       have HB3 : Hid (Below w.heap.size w w3) := Lib.hid (HB2.out.trans hb3)
       clear ho3 hb3 hg3))
  clear HW1
  by_cases h : k + 1 < n
  · have HP : Hid (placeE k n = [(3, 0)] ++ (List.replicate k (4, 0) ++ [(1, 0)])) := Lib.hid (by unfold placeE; rw [if_pos h])
    have h1 : (k : Int) < (n : Int) - 1 := by omega
    clear h
    go_wp2_with (at_builtin; go_must (refine wpList_appSN eltEl rfl _ _ rfl (w3.alloc (.cells #[.int .i64 3, .int .i64 0] 110)) w3.heap.size (.slice (some ⟨w3.heap.size, 0, none⟩) 1 1) 1 (ints (eNums [(3, 0)])) (by rfl) (lit_elG w3 3 0) A3 (k + 1) c3 (ints (eNums (List.replicate k (4, 0) ++ [(1, 0)]))) (by rfl) ((ownN_rd HO3.out).alloc _) (ints_one1 _) (by simp) (by have := HK.out; omega) ?_); rintro A4 c4 w4 ho4 hb4 hg4
                 rw [app_nums', ← HP.out] at ho4
                 have HO4 := Lib.hid (ownN_base ho4 HB3.out.size)
                 have HB4 : Hid (Below w.heap.size w w4) := Lib.hid (bqcP ((below_new w3 (.cells #[.int .i64 3, .int .i64 0] 110)).trans hb4) HB3.out)
                 clear ho4 hb4 hg4)
    go_ret
    exact ⟨A4, _, c4, rfl, HO4.out, HB4.out⟩
  · have HP : Hid (placeE k n = List.replicate k (4, 0) ++ [(1, 0)]) := Lib.hid (by unfold placeE; rw [if_neg h]; rfl)
    have h1 : ¬ (k : Int) < (n : Int) - 1 := by omega
    clear h
    go_wp2_with fail
    go_ret
    have h3 := HO3.out
    rw [← HP.out] at h3
    exact ⟨A3, _, c3, rfl, h3, HB3.out⟩
set_option maxHeartbeats 4000000 in
set_option maxRecDepth 100000 in
theorem placedExpr_any (w : World) (A : Option Addr) (m c n : Nat) (es : List El) (hr : RdE w A m es) (hm : m ≤ 1000) (hn : n ≤ 100) (hv : ∀ e ∈ es, 0 ≤ e.2 ∧ e.2 ≤ 5) : Calls Tryz.prog 92 #[.slice A m c, .int .i64 (n : Int)] w (RetE w (moveE n es)) := by
  obtain ⟨w1, hw1⟩ : ∃ w1, w1 = w.alloc (.cells #[] 110) := ⟨_, rfl⟩
  have HB1 : Hid (Below w.heap.size w w1) := Lib.hid (by rw [hw1]; exact below_new _ _)
  have HO1 : Hid (w1.ownsRow w.heap.size 110 2 (.slice (some ⟨w.heap.size, 0, none⟩) 0 0) 0 (ints (eNums []))) := Lib.hid (by rw [hw1]; exact ownN_lit w #[] 0 2 110 rfl (by omega))
  have HL : Hid (es.length = m) := Lib.hid (rdE_len hr)
  have HM := Lib.hid hm; have HN := Lib.hid hn; have HV := Lib.hid hv
  have HR := Lib.hid hr
  clear hr hm hn hv
  go_enter Tryz.func92, Tryz.ntmps92
  go_upto_region 2 with fail
  rw [← hw1]
  clear hw1
  go_wp2_with fail
  go_loopw [5, 11] (fun v u wr => ∃ (i q : Nat) (A5 : Option Addr) (c5 : Nat), i ≤ m ∧ u = .int .i64 (i : Int) ∧ v = .slice A5 q c5 ∧ Hid (wr.ownsRow w.heap.size 110 2 (.slice A5 q c5) q (ints (eNums (moveE n (es.take i))))) ∧ Hid (q ≤ 7 * i) ∧ Hid (Below w.heap.size w wr)) (fun _ u _ => m - (intOf u).toNat)
  case atStart => exact ⟨0, _, _, _, Nat.zero_le _, rfl, rfl, HO1, Lib.hid (by omega), HB1⟩
  case round =>
    clear HO1 HB1
    obtain ⟨i, q, A5, c5, hi, rfl, rfl, HO5, HQ5, HB5⟩ := hrel
    by_cases hlt : i < m
    · have hlt' : (i : Int) < (m : Int) := by omega
      obtain ⟨e, he⟩ := get_some (xs := es) (k := i) (by rw [HL.out]; exact hlt)
      obtain ⟨b, off, rfl, hbs, q0, q1⟩ := rdE (HR.out.below HB5.out (Nat.le_refl _)) he
      have hst := move_step (n := n) he
      have hev := HV.out e (List.mem_of_getElem? he)
      obtain ⟨ek, ev⟩ := e
      simp only at q0 q1 hst hev
      have hi0 : (0 : Int) ≤ (i : Int) := by omega
      have hm9 := HM.out
      have HX1 : Hid (q ≤ 1000000) := Lib.hid (by have := HQ5.out; omega)
      obtain ⟨w2, hw2⟩ : ∃ w2, w2 = wr.alloc (.cells #[.int .i64 ek, .int .i64 ev] 110) := ⟨_, rfl⟩
      have hb2 : Below wr.heap.size wr w2 := by rw [hw2]; exact below_new _ _
      have hx2 : w2.heap[wr.heap.size]? = some (.cells #[.int .i64 ek, .int .i64 ev] 110 (0, 0)) := by rw [hw2]; exact box_new _ _ _
      have HX2 := Lib.hid hx2
      have HO2 := Lib.hid (ownN_below HO5.out hb2 (Nat.le_refl _))
      have HB2 : Hid (Below w.heap.size w w2) := Lib.hid (bqcP hb2 HB5.out)
      clear he hb2
      go_upto_region 5 with fail
      rw [← hw2]
      clear hw2 q0 q1
      have x0 := blk_cell HX2.out 0 rfl
      have x1 := blk_cell HX2.out 1 rfl
      clear hx2
      by_cases hek : ek = 1
      · subst hek
        obtain ⟨d, rfl⟩ : ∃ d : Nat, ev = (d : Int) := ⟨ev.toNat, by omega⟩
        rw [if_pos rfl] at hst
        simp only [Int.toNat_natCast] at hst
        have HST := Lib.hid hst
        have HPL : Hid ((placeE d n).length ≤ 7) := Lib.hid (by have := placeE_len d n; omega)
        have HPC := Lib.hid (placeOf_any w2 d n (by omega) HN.out)
        clear hst hev
        go_wp2_with (first
          | (go_at_call 87
             refine HPC.out.mono ?_
             rintro e w6 ⟨A6, n6, c6, rfl, ho6, hb6⟩
             have HR6 := Lib.hid (ownN_rd ho6)
             have HN6 : Hid (n6 ≤ 7) := Lib.hid (by have := own_el ho6; have := HPL.out; omega)
             have HO6 := Lib.hid (ownN_below HO2.out hb6 (Nat.le_refl _))
             have HB6 : Hid (Below w.heap.size w w6) := Lib.hid (bqcP hb6 HB2.out)
             clear ho6 hb6)
          | (at_builtin; go_must (refine wpList_appSN eltEl rfl _ _ rfl w6 w.heap.size (.slice A5 q c5) q _ (by rfl) HO6.out A6 n6 c6 (ints (eNums (placeE d n))) (by rfl) HR6.out (ints_one1 _) HB6.out.size (by have := HX1.out; have := HN6.out; omega) ?_); rintro A7 c7 w7 ho7 hb7 hg7
             rw [app_nums', ← HST.out] at ho7
             have HO7 := Lib.hid ho7
             have HB7 : Hid (Below w.heap.size w w7) := Lib.hid (HB6.out.trans hb7)
             clear ho7 hb7 hg7))
        go_roundw
        case rel => exact ⟨i + 1, _, A7, c7, by omega, by go_num, rfl, HO7, Lib.hid (by have := HQ5.out; have := HN6.out; omega), HB7⟩
        case measure => simp [intOf]; omega
      · rw [if_neg hek] at hst
        have HST := Lib.hid hst
        have hek2 : (ek == 1) = false := by rw [beq_eq_false_iff_ne]; exact hek
        clear hst hev hek
        go_wp2_with (at_builtin; go_must (refine wpList_app1N eltEl rfl _ _ rfl w2 w.heap.size (.slice A5 q c5) q _ (by rfl) HO2.out #[.int .i64 ek, .int .i64 ev] rfl (oneEl _ _) (by rfl) HB2.out.size (by have := HX1.out; omega) ?_); rintro A7 c7 w7 ho7 hb7 hg7
                     rw [snoc_nums, ← HST.out] at ho7
                     have HO7 := Lib.hid ho7
                     have HB7 : Hid (Below w.heap.size w w7) := Lib.hid (HB2.out.trans hb7)
                     clear ho7 hb7 hg7)
        go_roundw
        case rel => exact ⟨i + 1, _, A7, c7, by omega, by go_num, rfl, HO7, Lib.hid (by have := HQ5.out; omega), HB7⟩
        case measure => simp [intOf]; omega
    · obtain rfl : i = m := by omega
      have h1 := HO5.out
      rw [List.take_of_length_le (by rw [HL.out]; omega)] at h1
      have HO6 := Lib.hid h1
      clear h1
      go_wp2_with fail
      go_ret
      exact ⟨A5, q, c5, rfl, HO6.out, HB5.out⟩
end Go.Proofs.YtadmbphefpfbmaaGreatDoor
