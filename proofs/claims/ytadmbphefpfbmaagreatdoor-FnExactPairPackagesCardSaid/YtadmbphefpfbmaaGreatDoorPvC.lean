/- A program with one variable (program): the closure on commands, mapped. -/
import Derived.Test.YtadmbphefpfbmaaGreatDoorPvK
namespace Go.Proofs.YtadmbphefpfbmaaGreatDoor
open Go.RowKit
set_option linter.unusedVariables false
set_option linter.unusedSimpArgs false
attribute [local go_sem ↓] Go.wp_at_zero Go.wp_at_succ
set_option maxHeartbeats 1000000 in
theorem cloneX_any (w : World) (base : Nat) (b off n c : Nat) (es : List (List El)) (h : LX w base (some ⟨b, off, none⟩) n c es) (hn : n ≤ 1000000) :
    Calls Tryz.prog 93 #[.slice (some ⟨b, off, none⟩) n c] w (fun e w' => ∃ A' c', e = .returned (.slice A' n c') ∧ LX w' w.heap.size A' n c' es ∧ Below w.heap.size w w') := by
  have hnil := fun (w : World) => Lib.run_eql_slice_nil (P := Tryz.prog) w 131 42 (some ⟨b, off, none⟩) n c 0 0 Tryz.underlying131
  have hown := own_lit w #[] 0 42 rfl (by omega)
  obtain ⟨us, h1, h2⟩ := h
  have hone : ∀ u ∈ us, u.oneCell' = true := by
    intro u hu
    obtain ⟨i, hi, rfl⟩ := List.mem_iff_getElem.1 hu
    obtain ⟨x, hx⟩ := get_some (xs := es) (k := i) (by rw [← h2.1]; exact hi)
    obtain ⟨A', n', c', e, _⟩ := h2.2 i _ x (List.getElem?_eq_getElem hi) hx
    rw [e]; rfl
  have HI := Lib.hid h2
  clear h2
  go_enter Tryz.func93, Tryz.ntmps93
  go_wp2_with (at_builtin; go_must (refine wpList_appS eltXS rfl _ _ rfl (w.alloc (.cells #[] 42)) w.heap.size _ 0 _ (by rfl) hown _ n c us (by rfl) ((own_rd h1).alloc _) hone (by simp) (by omega) ?_); rintro A1 c1 w1 hown1 hb1)
  go_ret
  simp only [Nat.zero_add, List.nil_append] at hown1
  have hb := (below_new w (.cells #[] 42)).trans hb1
  exact ⟨A1, c1, by simp, ⟨us, hown1, HI.out.below hb⟩, hb⟩
/-- What the closure leaves. -/
def CloP (w : World) (x : Cmd) (e : Ending) (w' : World) : Prop := ∃ A n c, e = .returned (.agg #[.int .i64 x.k, .int .i64 x.v, .int .i64 x.l, .slice A n c]) ∧ w'.ownsRow w.heap.size 110 2 (.slice A n c) n (ints (eNums x.e)) ∧ n ≤ 100000 ∧ Below w.heap.size w w'
set_option maxHeartbeats 8000000 in
set_option maxRecDepth 100000 in
theorem clos_any (w : World) (xk xv xl : Int) (xe : List El) (Av : Option Addr) (m cv : Nat) (hre : RdE w Av m xe) (hwf : wfE xe = true) (hkv : (xk = 0 ∧ 0 ≤ xv ∧ xv ≤ 5 ∧ xl = 0) ∨ (xk = 1 ∧ xv = 0)) (N : Nat) (hN : 2 ≤ N ∧ N ≤ 6) (hvN : xk = 0 → xv < N) (B4 B8 : Nat) (Ap : Option Addr) (cp base : Nat)
    (hx4 : w.heap[B4]? = some (.cells #[.int .i64 (N : Int)] 2 (0, 0))) (hx8 : w.heap[B8]? = some (.cells #[.slice Ap N cp] 131 (0, 0))) (hlx : LX w base Ap N cp (placesE N)) :
    Calls Tryz.prog 91 #[.agg #[.int .i64 xk, .int .i64 xv, .int .i64 xl, .slice Av m cv], .pointer (some ⟨B4, 0, none⟩), .pointer (some ⟨B8, 0, none⟩)] w (CloP w (oneC N ⟨xk, xv, xl, xe⟩)) := by
  obtain ⟨w1, hw1⟩ : ∃ w1, w1 = w.alloc (.cells #[.int .i64 xk, .int .i64 xv, .int .i64 xl, .slice Av m cv] 44) := ⟨_, rfl⟩
  obtain ⟨w2, hw2⟩ : ∃ w2, w2 = w1.alloc (.cells #[.int .i64 0, .int .i64 0, .int .i64 0, .slice none 0 0] 44) := ⟨_, rfl⟩
  have hs1 : w1.heap.size = w.heap.size + 1 := by rw [hw1]; simp
  have hb1 : Below w.heap.size w w1 := by rw [hw1]; exact below_new _ _
  have hb2 : Below w1.heap.size w1 w2 := by rw [hw2]; exact below_new _ _
  have hb12 : Below w.heap.size w w2 := bqcP hb2 hb1
  have HB2 := Lib.hid hb12
  have HSZ : Hid (w2.heap.size = w.heap.size + 2) := Lib.hid (by rw [hw2]; simp [hs1])
  obtain ⟨gp, rfl⟩ : ∃ gp, Ap = some ⟨gp, 0, none⟩ := by
    obtain ⟨us, l1, l2⟩ := hlx
    obtain ⟨u, hu⟩ := get_some (xs := us) (k := 0) (by rw [l2.1, places_len]; omega)
    obtain ⟨g, e, _⟩ := own_get l1 hu
    exact ⟨g, e⟩
  have HX3 : Hid (w2.heap[w.heap.size]? = some (.cells #[.int .i64 xk, .int .i64 xv, .int .i64 xl, .slice Av m cv] 44 (0, 0))) := Lib.hid (blk_bel (by rw [hw1]; exact box_new _ _ _) hb2)
  have HXR : Hid (w2.heap[w.heap.size + 1]? = some (.cells #[.int .i64 0, .int .i64 0, .int .i64 0, .slice none 0 0] 44 (0, 0))) := Lib.hid (by rw [hw2, ← hs1]; exact box_new _ _ _)
  have HX4 := Lib.hid (blk_bel hx4 hb12)
  have HX8 := Lib.hid (blk_bel hx8 hb12)
  have HLX := Lib.hid (hlx.below hb12)
  have HPE := Lib.hid (placedExpr_any w2 Av m cv N xe (hre.below hb12 (Nat.le_refl _)) (by have := rdE_len hre; have := (wfE_mem hwf).1; omega) (by omega) (fun e he => ⟨((wfE_mem hwf).2 e he).2.2.1, ((wfE_mem hwf).2 e he).2.2.2⟩))
  have HML : Hid ((moveE N xe).length ≤ 300) := Lib.hid (by have := moveE_len N xe (fun y hy => ((wfE_mem hwf).2 y hy).2.2.2); have := (wfE_mem hwf).1; omega)
  have HWF := Lib.hid hwf; have HN := Lib.hid hN; have HVN := Lib.hid hvN; have HKV := Lib.hid hkv
  have HW2 : w2 = (w.alloc (.cells #[.int .i64 xk, .int .i64 xv, .int .i64 xl, .slice Av m cv] 44)).alloc (.cells #[.int .i64 0, .int .i64 0, .int .i64 0, .slice none 0 0] 44) := by rw [hw2, hw1]
  clear hw1 hw2 hs1 hb1 hb2 hb12 hx4 hx8 hlx hre hwf hN hvN hkv
  go_enter Tryz.func91, Tryz.ntmps91
  go_upto_region 1 with fail
  rw [← HW2]
  clear HW2
  have y3 := blk_cell HX3.out 3 rfl
  have y4 := blk_cell HX4.out 0 rfl
  go_upto_region 2 with (go_at_call 92
                         refine HPE.out.mono ?_
                         rintro e w3 ⟨A5, n5, c5, rfl, ho5, hb5⟩
                         have HV5 := Lib.hid ho5
                         have HN5 : Hid (n5 ≤ 300) := Lib.hid (by have := own_el ho5; have := HML.out; omega)
                         have HB5 : Hid (Below w2.heap.size w2 w3) := Lib.hid hb5
                         have hz3 := blk_bel HX3.out hb5
                         have z3 := blk_cell hz3 3 rfl
                         have f3 := blk_free hz3 3
                         clear ho5 hb5)
  obtain ⟨w4, hw4⟩ : ∃ w4, w4 = w3.setCell ⟨w.heap.size, 3, none⟩ (.slice A5 n5 c5) := ⟨_, rfl⟩
  have hc4 : Ch (· = w.heap.size) w3 w4 := by rw [hw4]; exact ch_set _ _ _ _
  have HB3 : Hid (Below w.heap.size w w3) := Lib.hid (bqcP HB5.out HB2.out)
  have HB4 : Hid (Below w.heap.size w w4) := Lib.hid (below_ch HB3.out hc4 (fun q e => by rw [show q = w.heap.size from e]; exact Nat.le_refl _) HB3.out.size)
  have hne : ∀ {q : Nat} {cs : Array Value} {T : Nat}, w3.heap[q]? = some (.cells cs T (0, 0)) → T ≠ 44 → q ≠ w.heap.size := fun h hT e => by subst e; exact blk_ne hz3 h (fun e => hT e.symm) rfl
  have HY3 : Hid (w4.heap[w.heap.size]? = some (.cells #[.int .i64 xk, .int .i64 xv, .int .i64 xl, .slice A5 n5 c5] 44 (0, 0))) := Lib.hid (by rw [hw4]; simpa using blk_set hz3 3 (.slice A5 n5 c5))
  have HYR : Hid (w4.heap[w.heap.size + 1]? = some (.cells #[.int .i64 0, .int .i64 0, .int .i64 0, .slice none 0 0] 44 (0, 0))) := Lib.hid (blk_ch (blk_bel HXR.out HB5.out) hc4 (fun e => by have e2 : w.heap.size + 1 = w.heap.size := e; omega))
  have HY8 : Hid (w4.heap[B8]? = some (.cells #[.slice (some ⟨gp, 0, none⟩) N cp] 131 (0, 0))) := Lib.hid (blk_ch (blk_bel HX8.out HB5.out) hc4 (hne (blk_bel HX8.out HB5.out) (by decide)))
  have HLY : Hid (LX w4 base (some ⟨gp, 0, none⟩) N cp (placesE N)) := Lib.hid (by
    obtain ⟨us, l1, l2⟩ := HLX.out.below HB5.out
    exact ⟨us, own_ch l1 hc4 (fun q hq e => by obtain ⟨ds, hd⟩ := own_foP l1 hq; exact hne hd (by decide) e), l2.ch hc4 (fun q e ds hd => hne hd (by decide) e)⟩)
  have HVY := Lib.hid (own_ch HV5.out hc4 (fun q hq e => by obtain ⟨ds, hd⟩ := own_foP HV5.out hq; exact hne hd (by decide) e))
  rw [← hw4]
  clear hw4 hc4 hne hz3 z3 f3 y3 y4 HX3 HXR HX8 HLX HV5 HX4 HPE
  have z0 := blk_cell HY3.out 0 rfl
  have z1 := blk_cell HY3.out 1 rfl
  have z2 := blk_cell HY3.out 2 rfl
  have z3 := blk_cell HY3.out 3 rfl
  have z8 := blk_cell HY8.out 0 rfl
  rcases HKV.out with ⟨hk2, hv0, hv5, hl0⟩ | ⟨hk2, hv0⟩
  · skip
    subst hk2 hl0
    obtain ⟨vv, rfl⟩ : ∃ vv : Nat, xv = (vv : Int) := ⟨xv.toNat, by omega⟩
    have hvn : vv < N := by have := HVN.out rfl; omega
    have HOC : Hid (oneC N ⟨0, (vv : Int), 0, xe⟩ = ⟨0, 0, 0, packE (rowE N ⟨0, (vv : Int), 0, xe⟩)⟩) := Lib.hid rfl
    have HVB : Hid (vv < N ∧ N ≤ 6) := Lib.hid ⟨hvn, HN.out.2⟩
    have HCL := Lib.hid (cloneX_any w4 base gp 0 N cp (placesE N) HLY.out (by have := HN.out; omega))
    clear hv0 hv5 hvn
    go_upto_region 4 with (go_at_call 93
                           refine HCL.out.mono ?_
                           rintro e w5 ⟨A6, c6, rfl, hl6, hb6⟩
                           have HL6 := Lib.hid hl6
                           have HB6 : Hid (Below w4.heap.size w4 w5) := Lib.hid hb6
                           clear hl6 hb6)
    obtain ⟨us6, l1, l2⟩ := HL6.out
    obtain ⟨u6, hu6⟩ := get_some (xs := us6) (k := vv) (by rw [l2.1, places_len]; exact HVB.out.1)
    obtain ⟨g6, rfl, hg6, hgs6, hq6, hf6⟩ := own_get l1 hu6
    have HO6 := Lib.hid l1; have HI6 := Lib.hid l2; have HG6 := Lib.hid hg6
    have HV6 := Lib.hid (ownN_below HVY.out HB6.out (Nat.le_refl _))
    have HY36 := Lib.hid (blk_bel HY3.out HB6.out)
    have HYR6 := Lib.hid (blk_bel HYR.out HB6.out)
    clear z0 z1 z2 z3 z8 l1 l2 hu6 hg6
    have z1 := blk_cell HY36.out 1 rfl
    have z3 := blk_cell HY36.out 3 rfl
    have i0 : (0 : Int) ≤ (vv : Int) := by omega
    have i1 : (vv : Int) < (N : Int) := by have := HVB.out; omega
    have i2 : N ≤ 6 := HVB.out.2
    go_upto_region 5 with fail
    obtain ⟨w6, hw6⟩ : ∃ w6, w6 = w5.setCell ⟨g6, vv, none⟩ (.slice A5 n5 c5) := ⟨_, rfl⟩
    have hc6 : Ch (· = g6) w5 w6 := by rw [hw6]; exact ch_set _ _ _ _
    have hg6t : ∀ {q : Nat} {cs : Array Value} {T : Nat}, w5.heap[q]? = some (.cells cs T (0, 0)) → T ≠ 42 → q ≠ g6 := fun h hT e => by
      rw [e] at h
      obtain ⟨ds, hd⟩ := own_foP HO6.out (k := g6) rfl
      exact blk_ne hd h (fun e => hT e.symm) rfl
    have HV6b := Lib.hid (own_ch HV6.out hc6 (fun q hq e => by obtain ⟨ds, hd⟩ := own_foP HV6.out hq; exact hg6t hd (by decide) e))
    have HL7 : Hid (LX w6 w4.heap.size (some ⟨g6, 0, none⟩) N c6 (rowE N ⟨0, (vv : Int), 0, xe⟩)) := Lib.hid (by
      rw [← row_set (x := ⟨0, (vv : Int), 0, xe⟩) rfl HVB.out.1]
      refine ⟨us6.set vv (.slice A5 n5 c5), by rw [hw6]; exact own_put HO6.out vv _, ?_⟩
      exact (HI6.out.ch hc6 (fun q e ds hd => hg6t hd (by decide) e)).set (by have := HN5.out; omega) (ownN_cap HV6b.out) (ownN_base HV6b.out (Nat.zero_le _)))
    have HY37 := Lib.hid (blk_ch HY36.out hc6 (hg6t HY36.out (by decide)))
    have HYR7 := Lib.hid (blk_ch HYR6.out hc6 (hg6t HYR6.out (by decide)))
    have HB7 : Hid (Below w4.heap.size w4 w6) := Lib.hid (below_ch HB6.out hc6 (fun q e => by rw [show q = g6 from e]; exact HG6.out) HB6.out.size)
    rw [← hw6]
    clear hw6 hc6 hg6t z1 z3 hq6 hf6 hgs6 i0 i1 i2
    obtain ⟨ea, eb, er, hrow⟩ : ∃ ea eb er, rowE N ⟨0, (vv : Int), 0, xe⟩ = ea :: eb :: er := by
      have hl := rowE_len N ⟨0, (vv : Int), 0, xe⟩
      have hN2 := HN.out.1
      match hh : rowE N ⟨0, (vv : Int), 0, xe⟩ with
      | [] => rw [hh] at hl; simp at hl; omega
      | [_] => rw [hh] at hl; simp at hl; omega
      | a :: b :: r => exact ⟨a, b, r, rfl⟩
    have hsum := row_sum (x := ⟨0, (vv : Int), 0, xe⟩) HN.out.2 HWF.out
    have hpkl : (packE (rowE N ⟨0, (vv : Int), 0, xe⟩)).length ≤ 2000 := by have h1 := packE_len (rowE N ⟨0, (vv : Int), 0, xe⟩); rw [rowE_len] at h1; have := HN.out; omega
    have HPKL := Lib.hid hpkl
    have hrd := HL7.out.rdy
    rw [hrow] at hrd hsum
    have hpk := packed2_any ea eb er w6 (some ⟨g6, 0, none⟩) N c6 hrd HL7.out.cap (by have := HN.out; omega) (by have := HN.out; omega)
    rw [← hrow] at hpk
    have HPK := Lib.hid hpk
    clear hrow hsum hpkl hrd hpk
    go_upto_region 6 with (go_at_call 89
                           refine HPK.out.mono ?_
                           rintro e w7 ⟨A7, n7, c7, rfl, ho7, hb7⟩
                           have HV7 := Lib.hid ho7
                           have HN7 : Hid (n7 ≤ 2000) := Lib.hid (by have := own_el ho7; have := HPKL.out; omega)
                           have HB8 : Hid (Below w4.heap.size w4 w7) := Lib.hid (bqcP hb7 HB7.out)
                           have hz3 := blk_bel HY37.out hb7
                           have HZ3 := Lib.hid hz3
                           have HZR := Lib.hid (blk_bel HYR7.out hb7)
                           have z1 := blk_cell hz3 1 rfl
                           have z3 := blk_cell hz3 3 rfl
                           have f1 := blk_free hz3 1
                           have f3 := blk_free hz3 3
                           clear ho7 hb7 hz3)
    obtain ⟨w8, hw8⟩ : ∃ w8, w8 = (w7.setCell ⟨w.heap.size, 1, none⟩ (.int .i64 0)).setCell ⟨w.heap.size, 3, none⟩ (.slice A7 n7 c7) := ⟨_, rfl⟩
    have hc8 : Ch (· = w.heap.size) w7 w8 := by rw [hw8]; exact (ch_set _ _ _ _).trans (ch_set _ _ _ _)
    have hg8t : ∀ {q : Nat} {cs : Array Value} {T : Nat}, w7.heap[q]? = some (.cells cs T (0, 0)) → T ≠ 44 → q ≠ w.heap.size := fun h hT e => by
      subst e
      exact blk_ne HZ3.out h (fun e => hT e.symm) rfl
    have HV8 := Lib.hid (own_ch HV7.out hc8 (fun q hq e => by obtain ⟨ds, hd⟩ := own_foP HV7.out hq; exact hg8t hd (by decide) e))
    have HY38 : Hid (w8.heap[w.heap.size]? = some (.cells #[.int .i64 0, .int .i64 0, .int .i64 0, .slice A7 n7 c7] 44 (0, 0))) := Lib.hid (by rw [hw8]; simpa using blk_set (blk_set HZ3.out 1 (.int .i64 0)) 3 (.slice A7 n7 c7))
    have HYRw8 : Hid (w8.heap[w.heap.size + 1]? = some (.cells #[.int .i64 0, .int .i64 0, .int .i64 0, .slice none 0 0] 44 (0, 0))) := Lib.hid (blk_ch HZR.out hc8 (fun e => by have e2 : w.heap.size + 1 = w.heap.size := e; omega))
    have HB9 : Hid (Below w.heap.size w w8) := Lib.hid (below_ch (bqcP HB8.out HB4.out) hc8 (fun q e => by rw [show q = w.heap.size from e]; exact Nat.le_refl _) (bqcP HB8.out HB4.out).size)
    rw [← hw8]
    clear hw8 hc8 hg8t z1 z3 f1 f3
    have z0 := blk_cell HY38.out 0 rfl
    have z1 := blk_cell HY38.out 1 rfl
    have z2 := blk_cell HY38.out 2 rfl
    have z3 := blk_cell HY38.out 3 rfl
    have z8 := z0
    have HNB : Hid (n7 ≤ 2000) := HN7
    have HLW : Hid (w.heap.size ≤ w6.heap.size) := Lib.hid (bqcP HB7.out HB4.out).size
    have f0 := blk_free HYRw8.out 0
    have f1 := blk_free HYRw8.out 1
    have f2 := blk_free HYRw8.out 2
    have f3 := blk_free HYRw8.out 3
    have x0 := blk_cell HYRw8.out 0 rfl
    have x1 := blk_cell HYRw8.out 1 rfl
    have x2 := blk_cell HYRw8.out 2 rfl
    have x3 := blk_cell HYRw8.out 3 rfl
    go_wp2_with fail
    have hz := blk_set (blk_set (blk_set (blk_set HYRw8.out 0 (.int .i64 0)) 1 (.int .i64 0)) 2 (.int .i64 0)) 3 (.slice A7 n7 c7)
    have hch := (((ch_set w8 (w.heap.size + 1) 0 (.int .i64 0)).trans (ch_set _ (w.heap.size + 1) 1 (.int .i64 0))).trans (ch_set _ (w.heap.size + 1) 2 (.int .i64 0))).trans (ch_set _ (w.heap.size + 1) 3 (.slice A7 n7 c7))
    have hb2 := below_ch HB9.out hch (fun q e => by rw [show q = w.heap.size + 1 from e]; exact Nat.le_succ _) HB9.out.size
    have hv2 := own_ch HV8.out hch (fun q hq e => by
      obtain ⟨ds, hd⟩ := own_foP HV8.out hq
      have e2 : q = w.heap.size + 1 := e
      subst e2
      exact blk_ne HYRw8.out hd (by decide) rfl)
    generalize ((((w8.setCell ⟨w.heap.size + 1, 0, none⟩ (.int .i64 0)).setCell ⟨w.heap.size + 1, 1, none⟩ (.int .i64 0)).setCell ⟨w.heap.size + 1, 2, none⟩ (.int .i64 0)).setCell ⟨w.heap.size + 1, 3, none⟩ (.slice A7 n7 c7)) = w9 at hz hb2 hv2 ⊢
    have hz9 : w9.heap[w.heap.size + 1]? = some (.cells #[.int .i64 0, .int .i64 0, .int .i64 0, (.slice A7 n7 c7)] 44 (0, 0)) := by simpa using hz
    clear hz hch x0 x1 x2 x3 f0 f1 f2 f3 z0 z1 z2 z3 z8
    refine bodyPost_ret (v := .agg #[.int .i64 0, .int .i64 0, .int .i64 0, (.slice A7 n7 c7)]) (by simp [results, Tryz.results91, go_sem, blk_cell hz9 0 rfl, blk_cell hz9 1 rfl, blk_cell hz9 2 rfl, blk_cell hz9 3 rfl]) rfl ?_
    rw [HOC.out]
    exact ⟨_, _, _, rfl, ownN_base hv2 (by exact HLW.out), by have := HNB.out; omega, hb2⟩
  · skip
    subst hk2 hv0
    have HOC : Hid (oneC N ⟨1, 0, xl, xe⟩ = ⟨1, 0, xl, moveE N xe⟩) := Lib.hid rfl
    have HYRw4 := HYR
    have HNB : Hid (n5 ≤ 300) := HN5
    have f0 := blk_free HYRw4.out 0
    have f1 := blk_free HYRw4.out 1
    have f2 := blk_free HYRw4.out 2
    have f3 := blk_free HYRw4.out 3
    have x0 := blk_cell HYRw4.out 0 rfl
    have x1 := blk_cell HYRw4.out 1 rfl
    have x2 := blk_cell HYRw4.out 2 rfl
    have x3 := blk_cell HYRw4.out 3 rfl
    go_wp2_with fail
    have hz := blk_set (blk_set (blk_set (blk_set HYRw4.out 0 (.int .i64 1)) 1 (.int .i64 0)) 2 (.int .i64 xl)) 3 (.slice A5 n5 c5)
    have hch := (((ch_set w4 (w.heap.size + 1) 0 (.int .i64 1)).trans (ch_set _ (w.heap.size + 1) 1 (.int .i64 0))).trans (ch_set _ (w.heap.size + 1) 2 (.int .i64 xl))).trans (ch_set _ (w.heap.size + 1) 3 (.slice A5 n5 c5))
    have hb2 := below_ch HB4.out hch (fun q e => by rw [show q = w.heap.size + 1 from e]; exact Nat.le_succ _) HB4.out.size
    have hv2 := own_ch HVY.out hch (fun q hq e => by
      obtain ⟨ds, hd⟩ := own_foP HVY.out hq
      have e2 : q = w.heap.size + 1 := e
      subst e2
      exact blk_ne HYRw4.out hd (by decide) rfl)
    generalize ((((w4.setCell ⟨w.heap.size + 1, 0, none⟩ (.int .i64 1)).setCell ⟨w.heap.size + 1, 1, none⟩ (.int .i64 0)).setCell ⟨w.heap.size + 1, 2, none⟩ (.int .i64 xl)).setCell ⟨w.heap.size + 1, 3, none⟩ (.slice A5 n5 c5)) = w9 at hz hb2 hv2 ⊢
    have hz9 : w9.heap[w.heap.size + 1]? = some (.cells #[.int .i64 1, .int .i64 0, .int .i64 xl, (.slice A5 n5 c5)] 44 (0, 0)) := by simpa using hz
    clear hz hch x0 x1 x2 x3 f0 f1 f2 f3 z0 z1 z2 z3 z8
    refine bodyPost_ret (v := .agg #[.int .i64 1, .int .i64 0, .int .i64 xl, (.slice A5 n5 c5)]) (by simp [results, Tryz.results91, go_sem, blk_cell hz9 0 rfl, blk_cell hz9 1 rfl, blk_cell hz9 2 rfl, blk_cell hz9 3 rfl]) rfl ?_
    rw [HOC.out]
    exact ⟨_, _, _, rfl, ownN_base hv2 (by exact HB2.out.size), by have := HNB.out; omega, hb2⟩
end Go.Proofs.YtadmbphefpfbmaaGreatDoor
