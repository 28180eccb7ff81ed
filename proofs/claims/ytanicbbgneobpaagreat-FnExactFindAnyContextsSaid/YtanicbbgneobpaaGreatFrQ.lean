/- FindContexts, FindAnyContexts (reference). Written by mk_frq.py. -/
import Derived.Test.YtanicbbgneobpaaGreatFrF
import Derived.Test.YtanicbbgneobpaaGreatFdA
namespace Go.Proofs.YtanicbbgneobpaaGreat
open Go.RowKit
set_option linter.unusedVariables false
set_option linter.unusedSimpArgs false
set_option maxHeartbeats 8000000 in
set_option maxRecDepth 100000 in
theorem specFindContexts_any (w : World) (s t : Int) (A : Option Addr) (n c : Nat) (rs : List Rul) (hr : Rd w A (n * 3) (ints (flatR rs))) (hn : n ≤ 1099511627776) (m : Int) :
    Calls Tryz.prog 17 #[mchV s t A n c, .int .i64 m] w (PfP w (fcP s t rs m)) := by
  obtain ⟨w0, hw0⟩ : ∃ w0, w0 = (w.alloc (.cells #[.int .i64 s, .int .i64 t, .slice A n c] 37)).alloc (.cells pfZq 39) := ⟨_, rfl⟩
  have hB : Below w.heap.size w w0 := by rw [hw0]; exact (below_new w _).trans ((below_new _ _).mono (by simp))
  have hx0 : w0.heap[w.heap.size]? = some (.cells #[.int .i64 s, .int .i64 t, .slice A n c] 37 (0, 0)) := by rw [hw0]; exact blk_alloc (box_new w _ _) _
  have hz : w0.heap[w.heap.size + 1]? = some (.cells pfZq 39 (0, 0)) := by rw [hw0]; have h := box_new (w.alloc (.cells #[.int .i64 s, .int .i64 t, .slice A n c] 37)) pfZq 39; simpa using h
  have HX0 := Lib.hid hx0; have HZ := Lib.hid hz; have HB := Lib.hid hB
  have HR := Lib.hid (hr.below hB (Nat.le_refl _)); have HNN := Lib.hid hn
  have HSZ : Hid (w.heap.size + 1 < w0.heap.size) := Lib.hid (blk_lt hz)
  have HVM : Hid (Calls Tryz.prog 27 #[.pointer (some ⟨w.heap.size, 0, none⟩)] w0 (RetV w0 (.bool (okM s t rs)))) := Lib.hid (l05Is_any w0 w.heap.size s t A n c HX0.out rs HR.out HNN.out)
  clear hB hx0 hz hr hn
  cases hok : okM s t rs with
  | false =>
    have HO : Hid (fcP s t rs m = (0, [], [], 1)) := Lib.hid (by unfold fcP; rw [hok]; rfl)
    rw [hok] at HVM
    clear hok
    go_enter Tryz.func17, Tryz.ntmps17
    go_upto_region 1 with fail
    rw [← hw0]
    clear hw0
    go_wp2_with fail
    refine HVM.out.mono ?_
    rintro e w2 ⟨rfl, hb2⟩
    have HB2 := Lib.hid hb2
    have hzb := blk_bel HZ.out hb2
    have z0 := blk_cell hzb 0 rfl
    have z1 := blk_cell hzb 1 rfl
    have z2 := blk_cell hzb 2 rfl
    have f0 := blk_free hzb 0
    have f1 := blk_free hzb 1
    have f2 := blk_free hzb 2
    clear hb2 hzb
    go_wp2_with fail
    exact bodyPost_ret (v := .tuple #[prfV 0 none 0 0 none 0 0, .int .i64 1]) (by simp [results, Tryz.results17, go_sem, z0, z1, z2]) rfl (by rw [HO.out]; exact pfp_err (HB.out.trans (HB2.out.mono HB.out.size)) (Nat.le_succ _))
  | true =>
    have HOK := Lib.hid hok
    rw [hok] at HVM
    cases hi : inB m 1 4 with
    | false =>
      have HO : Hid (fcP s t rs m = (0, [], [], 2)) := Lib.hid (by unfold fcP; rw [hok, hi]; rfl)
      have HI := Lib.hid hi
      clear hok hi
      go_enter Tryz.func17, Tryz.ntmps17
      go_upto_region 1 with fail
      rw [← hw0]
      clear hw0
      go_wp2_with fail
      refine HVM.out.mono ?_
      rintro e w2 ⟨rfl, hb2⟩
      have HB2 := Lib.hid hb2
      have hzb := blk_bel HZ.out hb2
      have z0 := blk_cell hzb 0 rfl
      have z1 := blk_cell hzb 1 rfl
      have z2 := blk_cell hzb 2 rfl
      have f0 := blk_free hzb 0
      have f1 := blk_free hzb 1
      have f2 := blk_free hzb 2
      clear hb2 hzb
      go_wp2_with fail
      refine (l29Size_any _ _).mono ?_
      rw [HI.out]
      rintro e w3 ⟨rfl, rfl⟩
      go_wp2_with fail
      exact bodyPost_ret (v := .tuple #[prfV 0 none 0 0 none 0 0, .int .i64 2]) (by simp [results, Tryz.results17, go_sem, z0, z1, z2]) rfl (by rw [HO.out]; exact pfp_err (HB.out.trans (HB2.out.mono HB.out.size)) (Nat.le_succ _))
    | true =>
      have HI := Lib.hid hi
      obtain ⟨N, rfl⟩ : ∃ N : Nat, m = (N : Int) := ⟨m.toNat, by have h := inB_true.1 hi; omega⟩
      obtain ⟨sn, rfl⟩ : ∃ sn : Nat, s = (sn : Int) := ⟨s.toNat, by have h := (okM_all hok).1; omega⟩
      have HN4 : Hid (1 ≤ N ∧ N ≤ 4) := Lib.hid (by have h := inB_true.1 hi; omega)
      have HO : Hid (fcP (sn : Int) t rs N = (fdP sn rs N (st0 N))) := Lib.hid (by unfold fcP; rw [hok, hi]; simp)
      clear hok hi
      go_enter Tryz.func17, Tryz.ntmps17
      go_upto_region 1 with fail
      rw [← hw0]
      clear hw0
      go_wp2_with fail
      refine HVM.out.mono ?_
      rintro e w2 ⟨rfl, hb2⟩
      have HB2 := Lib.hid hb2
      have hzb := blk_bel HZ.out hb2
      have z0 := blk_cell hzb 0 rfl
      have z1 := blk_cell hzb 1 rfl
      have z2 := blk_cell hzb 2 rfl
      have f0 := blk_free hzb 0
      have f1 := blk_free hzb 1
      have f2 := blk_free hzb 2
      clear hb2 hzb
      go_wp2_with fail
      refine (l29Size_any _ _).mono ?_
      rw [HI.out]
      rintro e w3 ⟨rfl, rfl⟩
      have HMW : Hid (BM w2 w.heap.size sn t A n c) := Lib.hid (blk_bel HX0.out HB2.out)
      have HCC := Lib.hid (l29Find_any w2 w.heap.size sn t A n c rs HMW.out (HR.out.below HB2.out (Nat.le_refl _)) HNN.out HOK.out N HN4.out)
      go_wp2_with fail
      refine HCC.out.mono ?_
      rintro e w4 hP
      obtain ⟨A9, n9, c9, A10, n10, c10, F9, rfl, ho9, hp9, hF9, hd9, hb9⟩ := hP
      have HP9 := Lib.hid (show PfP w2 (fdP sn rs N (st0 N)) _ w4 from ⟨A9, n9, c9, A10, n10, c10, F9, rfl, ho9, hp9, hF9, hd9, hb9⟩)
      have hzb := blk_bel (blk_bel HZ.out HB2.out) hb9
      replace z0 := blk_cell hzb 0 rfl
      replace z1 := blk_cell hzb 1 rfl
      replace z2 := blk_cell hzb 2 rfl
      replace f0 := blk_free hzb 0
      replace f1 := blk_free hzb 1
      replace f2 := blk_free hzb 2
      clear hzb ho9 hp9 hF9 hd9 hb9
      generalize (fdP sn rs N (st0 N)) = R at *
      go_wp2_with fail
      exact bodyPost_ret (v := .tuple #[prfV R.1 A9 n9 c9 A10 n10 c10, .int .i64 R.2.2.2]) (by simp [results, Tryz.results17, go_sem, z0, z1, z2]) rfl (by rw [HO.out]; exact pfp_set HP9.out (HB.out.trans (HB2.out.mono HB.out.size)) (Nat.le_succ _) (Nat.lt_of_lt_of_le HSZ.out HB2.out.size))
theorem wrap_n2 {k N : Nat} (h : k < N) (h2 : N ≤ 4) : IntKind.i64.wrap ((k : Int) + 1 + 1) = (k : Int) + 1 + 1 := IntWalk.i64_in _ (by omega)
theorem fun_of_err {s : Nat} {rs : List Rul} {k : Nat} (h : ¬ (anyG s rs k).2.2.2 = 0) (hk : 1 ≤ k) : anyG s rs k = (0, [], [], (anyG s rs k).2.2.2) := by
  obtain ⟨j, rfl⟩ : ∃ j, k = j + 1 := ⟨k - 1, by omega⟩
  by_cases hj : (anyG s rs j).2.2.2 = 0
  · have e : anyG s rs (j + 1) = anyG s rs j := anyG_yes hj _ (Nat.le_succ _)
    rw [e] at h
    exact absurd hj h
  · rw [anyG_no hj] at h ⊢
    exact fdP_err h
set_option maxHeartbeats 8000000 in
set_option maxRecDepth 100000 in
theorem l29Any_any (w : World) (gm : Nat) (s : Nat) (t : Int) (A : Option Addr) (n c : Nat) (rs : List Rul) (hm : BM w gm s t A n c) (hr : Rd w A (n * 3) (ints (flatR rs))) (hn : n ≤ 1099511627776) (hok : okM s t rs = true) (N : Nat) (hN : 1 ≤ N ∧ N ≤ 4) :
    Calls Tryz.prog 61 #[.pointer (some ⟨gm, 0, none⟩), .int .i64 N] w (PfP w (anyG s rs N)) := by
  obtain ⟨w0, hw0⟩ : ∃ w0, w0 = (w.alloc (.cells pfZq 39)).alloc (.cells pfZq 39) := ⟨_, rfl⟩
  have hB : Below w.heap.size w w0 := by rw [hw0]; exact (below_new w _).trans ((below_new _ _).mono (by simp))
  have hz : w0.heap[w.heap.size]? = some (.cells pfZq 39 (0, 0)) := by rw [hw0]; exact blk_alloc (box_new w _ _) _
  have hp : w0.heap[w.heap.size + 1]? = some (.cells pfZq 39 (0, 0)) := by rw [hw0]; have h := box_new (w.alloc (.cells pfZq 39)) pfZq 39; simpa using h
  have HZ := Lib.hid hz; have HPB := Lib.hid hp; have HB := Lib.hid hB; have HN4 := Lib.hid hN
  have HS0 : Hid (w0.heap.size = w.heap.size + 2) := Lib.hid (by rw [hw0]; simp)
  have HFF : Hid (∀ (wx : World) (k : Nat), Below w.heap.size w wx → k < N → Calls Tryz.prog 52 #[.pointer (some ⟨gm, 0, none⟩), .int .i64 ((k : Int) + 1)] wx (PfP wx (fdP s rs (k + 1) (st0 (k + 1))))) := Lib.hid (fun wx k hbx hk => l29Find_any wx gm s t A n c rs (hm.bel hbx) (hr.below hbx (Nat.le_refl _)) hn hok (k + 1) (by have := HN4.out; omega))
  clear hB hz hp hm hr hn hok hN
  go_enter Tryz.func61, Tryz.ntmps61
  go_upto_region 2 with fail
  rw [← hw0]
  clear hw0
  as_aux_lemma =>
  go_wp2_with fail
  go_loopw [7, 8] (fun q i wr => ∃ (k : Nat) (x : Int) (A9 : Option Addr) (n9 c9 : Nat) (A10 : Option Addr) (n10 c10 : Nat), k ≤ N ∧ i = .int .i64 ((k : Int) + 1) ∧ q = .int .i64 (anyG s rs k).2.2.2 ∧ wr.heap[w.heap.size + 1]? = some (.cells #[.int .i64 x, .slice A9 n9 c9, .slice A10 n10 c10] 39 (0, 0)) ∧ wr.heap[w.heap.size]? = some (.cells pfZq 39 (0, 0)) ∧ Hid (¬ (anyG s rs k).2.2.2 = 0) ∧ Below w.heap.size w wr ∧ Hid (w0.heap.size ≤ wr.heap.size)) (fun _ i _ => N + 1 - (intOf i).toNat)
  case atStart => exact ⟨0, 0, none, 0, 0, none, 0, 0, Nat.zero_le _, rfl, rfl, HPB.out, HZ.out, Lib.hid (by show ¬ (3 : Int) = 0; decide), HB.out, Lib.hid (Nat.le_refl _)⟩
  case round =>
    as_aux_lemma =>
    obtain ⟨k, x, A9, n9, c9, A10, n10, c10, hk, rfl, rfl, hbox, hzr, HC, hb, HSW⟩ := hrel
    have HBX := Lib.hid hbox; have HBR := Lib.hid hb; have HZR := Lib.hid hzr
    by_cases hlt : k < N
    · have HLT := Lib.hid hlt
      have hwk := wrap_n2 hlt HN4.out.2
      have hlti : (k : Int) + 1 ≤ (N : Int) := by omega
      obtain ⟨R, hR⟩ : ∃ R, R = fdP s rs (k + 1) (st0 (k + 1)) := ⟨_, rfl⟩
      have HFC := HFF.out wr k hb hlt
      rw [← hR] at HFC
      replace HFC := Lib.hid HFC
      have HAN : Hid (anyG s rs (k + 1) = R) := Lib.hid (by rw [hR]; exact anyG_no HC.out)
      have HKR : Hid (fdP s rs (k + 1) (st0 (k + 1)) = R) := Lib.hid hR.symm
      clear hR hbox hb hzr hlt
      go_wp2_with fail
      refine HFC.out.mono ?_
      rintro e w5 ⟨A7, n7, c7, A8, n8, c8, F7, rfl, ho7, hp7, hF7, hd7, hb5⟩
      have HP5 : Hid (PfO w0.heap.size R A7 n7 c7 A8 n8 c8 w5) := Lib.hid (pfo_of HSW.out ho7 hp7 hF7 hd7)
      have HB5 : Hid (Below w.heap.size w w5) := Lib.hid (HBR.out.trans (hb5.mono HBR.out.size))
      have HS5 : Hid (w0.heap.size ≤ w5.heap.size) := Lib.hid (Nat.le_trans HSW.out hb5.size)
      have hp5 := blk_bel HBX.out hb5
      have HX5 := Lib.hid hp5
      have HZ5 := Lib.hid (blk_bel HZR.out hb5)
      have p0 := blk_cell hp5 0 rfl
      have p1 := blk_cell hp5 1 rfl
      have p2 := blk_cell hp5 2 rfl
      have g0 := blk_free hp5 0
      have g1 := blk_free hp5 1
      have g2 := blk_free hp5 2
      obtain ⟨w6, hw6⟩ : ∃ w6, w6 = ((w5.setCell ⟨w.heap.size + 1, 0, none⟩ (.int .i64 R.1)).setCell ⟨w.heap.size + 1, 1, none⟩ (.slice A7 n7 c7)).setCell ⟨w.heap.size + 1, 2, none⟩ (.slice A8 n8 c8) := ⟨_, rfl⟩
      have HX6 : Hid (w6.heap[w.heap.size + 1]? = some (.cells #[.int .i64 R.1, .slice A7 n7 c7, .slice A8 n8 c8] 39 (0, 0))) := Lib.hid (by rw [hw6]; simpa using blk_set (blk_set (blk_set HX5.out 0 (.int .i64 R.1)) 1 (.slice A7 n7 c7)) 2 (.slice A8 n8 c8))
      have HZ6 : Hid (w6.heap[w.heap.size]? = some (.cells pfZq 39 (0, 0))) := Lib.hid (by rw [hw6]; exact blk_far (blk_far (blk_far HZ5.out (by simp)) (by simp)) (by simp))
      have HP6 : Hid (PfO w0.heap.size R A7 n7 c7 A8 n8 c8 w6) := Lib.hid (by rw [hw6]; exact pfo_set HP5.out (by have := HS0.out; omega))
      have HB6 : Hid (Below w.heap.size w w6) := Lib.hid (by rw [hw6]; exact below_setq HB5.out (Nat.le_succ _))
      have HS6 : Hid (w0.heap.size ≤ w6.heap.size) := Lib.hid (by rw [hw6]; simpa using HS5.out)
      clear ho7 hp7 hF7 hd7 hb5 hp5
      by_cases h0 : R.2.2.2 = 0
      · have hcmp : (R.2.2.2 == (0 : Int)) = true := by rw [h0]; rfl
        have HRES : Hid (anyG s rs N = R) := Lib.hid (by
          have h1 := anyG_yes (s := s) (rs := rs) (k := k + 1) (by rw [HAN.out]; exact h0) N HLT.out
          rw [h1, HAN.out])
        have HR0 : Hid (R.2.2.2 = 0) := Lib.hid h0
        clear h0
        as_aux_lemma =>
        go_upto_region 8 with fail
        rw [← hw6]
        clear hw6 p0 p1 p2 g0 g1 g2
        have hy6 := HX6.out
        have y0 := blk_cell hy6 0 rfl
        have y1 := blk_cell hy6 1 rfl
        have y2 := blk_cell hy6 2 rfl
        have hzb := HZ6.out
        have z0 := blk_cell hzb 0 rfl
        have z1 := blk_cell hzb 1 rfl
        have z2 := blk_cell hzb 2 rfl
        have f0 := blk_free hzb 0
        have f1 := blk_free hzb 1
        have f2 := blk_free hzb 2
        clear hzb hy6
        go_wp2_with fail
        exact bodyPost_ret (v := .tuple #[prfV R.1 A7 n7 c7 A8 n8 c8, .int .i64 0]) (by simp [results, Tryz.results61, go_sem, z0, z1, z2]) rfl (by
          rw [HRES.out]
          have h := pfo_end (w := w) (pfo_set (q := w.heap.size) (v0 := .int .i64 R.1) (v1 := .slice A7 n7 c7) (v2 := .slice A8 n8 c8) HP6.out (by have := HS0.out; omega)) (by have := HS0.out; omega) (below_setq HB6.out (Nat.le_refl _))
          rw [HR0.out] at h
          exact h)
      · have hcmp : (R.2.2.2 == (0 : Int)) = false := by rw [beq_eq_false_iff_ne]; exact h0
        have HNZ := Lib.hid h0
        clear h0
        as_aux_lemma =>
        go_wp2_with fail
        rw [← hw6]
        go_roundw
        case rel => exact ⟨k + 1, R.1, A7, n7, c7, A8, n8, c8, HLT.out, by go_num, by rw [HAN.out], HX6.out, HZ6.out, Lib.hid (by rw [HAN.out]; exact HNZ.out), HB6.out, HS6⟩
        case measure => have := HLT.out; simp only [intOf]; omega
    · obtain rfl : k = N := by omega
      have hnlt : ¬ ((k : Int) + 1 ≤ (k : Int)) := by omega
      have hw1 := fun_of_err HC.out HN4.out.1
      have HERR : Hid (anyG s rs k = (0, [], [], (anyG s rs k).2.2.2)) := Lib.hid hw1
      clear hw1
      have hzb := hzr
      have z0 := blk_cell hzb 0 rfl
      have z1 := blk_cell hzb 1 rfl
      have z2 := blk_cell hzb 2 rfl
      have f0 := blk_free hzb 0
      have f1 := blk_free hzb 1
      have f2 := blk_free hzb 2
      clear hzb hbox hb hzr
      generalize (anyG s rs k).2.2.2 = CC at *
      go_wp2_with fail
      exact bodyPost_ret (v := .tuple #[prfV 0 none 0 0 none 0 0, .int .i64 CC]) (by simp [results, Tryz.results61, go_sem, z0, z1, z2]) rfl (by rw [HERR.out]; exact pfp_err HBR.out (Nat.le_refl _))
set_option maxHeartbeats 8000000 in
set_option maxRecDepth 100000 in
theorem specFindAnyContexts_any (w : World) (s t : Int) (A : Option Addr) (n c : Nat) (rs : List Rul) (hr : Rd w A (n * 3) (ints (flatR rs))) (hn : n ≤ 1099511627776) (m : Int) :
    Calls Tryz.prog 22 #[mchV s t A n c, .int .i64 m] w (PfP w (faP s t rs m)) := by
  obtain ⟨w0, hw0⟩ : ∃ w0, w0 = (w.alloc (.cells #[.int .i64 s, .int .i64 t, .slice A n c] 37)).alloc (.cells pfZq 39) := ⟨_, rfl⟩
  have hB : Below w.heap.size w w0 := by rw [hw0]; exact (below_new w _).trans ((below_new _ _).mono (by simp))
  have hx0 : w0.heap[w.heap.size]? = some (.cells #[.int .i64 s, .int .i64 t, .slice A n c] 37 (0, 0)) := by rw [hw0]; exact blk_alloc (box_new w _ _) _
  have hz : w0.heap[w.heap.size + 1]? = some (.cells pfZq 39 (0, 0)) := by rw [hw0]; have h := box_new (w.alloc (.cells #[.int .i64 s, .int .i64 t, .slice A n c] 37)) pfZq 39; simpa using h
  have HX0 := Lib.hid hx0; have HZ := Lib.hid hz; have HB := Lib.hid hB
  have HR := Lib.hid (hr.below hB (Nat.le_refl _)); have HNN := Lib.hid hn
  have HSZ : Hid (w.heap.size + 1 < w0.heap.size) := Lib.hid (blk_lt hz)
  have HVM : Hid (Calls Tryz.prog 27 #[.pointer (some ⟨w.heap.size, 0, none⟩)] w0 (RetV w0 (.bool (okM s t rs)))) := Lib.hid (l05Is_any w0 w.heap.size s t A n c HX0.out rs HR.out HNN.out)
  clear hB hx0 hz hr hn
  cases hok : okM s t rs with
  | false =>
    have HO : Hid (faP s t rs m = (0, [], [], 1)) := Lib.hid (by unfold faP; rw [hok]; rfl)
    rw [hok] at HVM
    clear hok
    go_enter Tryz.func22, Tryz.ntmps22
    go_upto_region 1 with fail
    rw [← hw0]
    clear hw0
    go_wp2_with fail
    refine HVM.out.mono ?_
    rintro e w2 ⟨rfl, hb2⟩
    have HB2 := Lib.hid hb2
    have hzb := blk_bel HZ.out hb2
    have z0 := blk_cell hzb 0 rfl
    have z1 := blk_cell hzb 1 rfl
    have z2 := blk_cell hzb 2 rfl
    have f0 := blk_free hzb 0
    have f1 := blk_free hzb 1
    have f2 := blk_free hzb 2
    clear hb2 hzb
    go_wp2_with fail
    exact bodyPost_ret (v := .tuple #[prfV 0 none 0 0 none 0 0, .int .i64 1]) (by simp [results, Tryz.results22, go_sem, z0, z1, z2]) rfl (by rw [HO.out]; exact pfp_err (HB.out.trans (HB2.out.mono HB.out.size)) (Nat.le_succ _))
  | true =>
    have HOK := Lib.hid hok
    rw [hok] at HVM
    cases hi : inB m 1 4 with
    | false =>
      have HO : Hid (faP s t rs m = (0, [], [], 2)) := Lib.hid (by unfold faP; rw [hok, hi]; rfl)
      have HI := Lib.hid hi
      clear hok hi
      go_enter Tryz.func22, Tryz.ntmps22
      go_upto_region 1 with fail
      rw [← hw0]
      clear hw0
      go_wp2_with fail
      refine HVM.out.mono ?_
      rintro e w2 ⟨rfl, hb2⟩
      have HB2 := Lib.hid hb2
      have hzb := blk_bel HZ.out hb2
      have z0 := blk_cell hzb 0 rfl
      have z1 := blk_cell hzb 1 rfl
      have z2 := blk_cell hzb 2 rfl
      have f0 := blk_free hzb 0
      have f1 := blk_free hzb 1
      have f2 := blk_free hzb 2
      clear hb2 hzb
      go_wp2_with fail
      refine (l29Size_any _ _).mono ?_
      rw [HI.out]
      rintro e w3 ⟨rfl, rfl⟩
      go_wp2_with fail
      exact bodyPost_ret (v := .tuple #[prfV 0 none 0 0 none 0 0, .int .i64 2]) (by simp [results, Tryz.results22, go_sem, z0, z1, z2]) rfl (by rw [HO.out]; exact pfp_err (HB.out.trans (HB2.out.mono HB.out.size)) (Nat.le_succ _))
    | true =>
      have HI := Lib.hid hi
      obtain ⟨N, rfl⟩ : ∃ N : Nat, m = (N : Int) := ⟨m.toNat, by have h := inB_true.1 hi; omega⟩
      obtain ⟨sn, rfl⟩ : ∃ sn : Nat, s = (sn : Int) := ⟨s.toNat, by have h := (okM_all hok).1; omega⟩
      have HN4 : Hid (1 ≤ N ∧ N ≤ 4) := Lib.hid (by have h := inB_true.1 hi; omega)
      have HO : Hid (faP (sn : Int) t rs N = (anyG sn rs N)) := Lib.hid (by unfold faP; rw [hok, hi]; simp)
      clear hok hi
      go_enter Tryz.func22, Tryz.ntmps22
      go_upto_region 1 with fail
      rw [← hw0]
      clear hw0
      go_wp2_with fail
      refine HVM.out.mono ?_
      rintro e w2 ⟨rfl, hb2⟩
      have HB2 := Lib.hid hb2
      have hzb := blk_bel HZ.out hb2
      have z0 := blk_cell hzb 0 rfl
      have z1 := blk_cell hzb 1 rfl
      have z2 := blk_cell hzb 2 rfl
      have f0 := blk_free hzb 0
      have f1 := blk_free hzb 1
      have f2 := blk_free hzb 2
      clear hb2 hzb
      go_wp2_with fail
      refine (l29Size_any _ _).mono ?_
      rw [HI.out]
      rintro e w3 ⟨rfl, rfl⟩
      have HMW : Hid (BM w2 w.heap.size sn t A n c) := Lib.hid (blk_bel HX0.out HB2.out)
      have HCC := Lib.hid (l29Any_any w2 w.heap.size sn t A n c rs HMW.out (HR.out.below HB2.out (Nat.le_refl _)) HNN.out HOK.out N HN4.out)
      go_wp2_with fail
      refine HCC.out.mono ?_
      rintro e w4 hP
      obtain ⟨A9, n9, c9, A10, n10, c10, F9, rfl, ho9, hp9, hF9, hd9, hb9⟩ := hP
      have HP9 := Lib.hid (show PfP w2 (anyG sn rs N) _ w4 from ⟨A9, n9, c9, A10, n10, c10, F9, rfl, ho9, hp9, hF9, hd9, hb9⟩)
      have hzb := blk_bel (blk_bel HZ.out HB2.out) hb9
      replace z0 := blk_cell hzb 0 rfl
      replace z1 := blk_cell hzb 1 rfl
      replace z2 := blk_cell hzb 2 rfl
      replace f0 := blk_free hzb 0
      replace f1 := blk_free hzb 1
      replace f2 := blk_free hzb 2
      clear hzb ho9 hp9 hF9 hd9 hb9
      generalize (anyG sn rs N) = R at *
      go_wp2_with fail
      exact bodyPost_ret (v := .tuple #[prfV R.1 A9 n9 c9 A10 n10 c10, .int .i64 R.2.2.2]) (by simp [results, Tryz.results22, go_sem, z0, z1, z2]) rfl (by rw [HO.out]; exact pfp_set HP9.out (HB.out.trans (HB2.out.mono HB.out.size)) (Nat.le_succ _) (Nat.lt_of_lt_of_le HSZ.out HB2.out.size))
end Go.Proofs.YtanicbbgneobpaaGreat
