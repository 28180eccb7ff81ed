/- FindContexts, FindAnyContexts (program). Written by mk_fdk.py. -/
import Derived.Test.YtanicbbgneobpaaGreatFdJ
namespace Go.Proofs.YtanicbbgneobpaaGreat
open Go.RowKit
set_option linter.unusedVariables false
set_option linter.unusedSimpArgs false
set_option maxHeartbeats 8000000 in
set_option maxRecDepth 100000 in
theorem implFindContexts_any (w : World) (s t : Int) (A : Option Addr) (n c : Nat) (rs : List Rul) (hr : Rd w A (n * 3) (ints (flatR rs))) (hn : n ≤ 1099511627776) (m : Int) :
    Calls Tryz.prog 18 #[mchV s t A n c, .int .i64 m] w (PfP w (fcP s t rs m)) := by
  obtain ⟨w0, hw0⟩ : ∃ w0, w0 = (w.alloc (.cells #[.int .i64 s, .int .i64 t, .slice A n c] 37)).alloc (.cells pfZq 39) := ⟨_, rfl⟩
  have hB : Below w.heap.size w w0 := by rw [hw0]; exact (below_new w _).trans ((below_new _ _).mono (by simp))
  have hx0 : w0.heap[w.heap.size]? = some (.cells #[.int .i64 s, .int .i64 t, .slice A n c] 37 (0, 0)) := by rw [hw0]; exact blk_alloc (box_new w _ _) _
  have hz : w0.heap[w.heap.size + 1]? = some (.cells pfZq 39 (0, 0)) := by rw [hw0]; have h := box_new (w.alloc (.cells #[.int .i64 s, .int .i64 t, .slice A n c] 37)) pfZq 39; simpa using h
  have HX0 := Lib.hid hx0; have HZ := Lib.hid hz; have HB := Lib.hid hB
  have HR := Lib.hid (hr.below hB (Nat.le_refl _)); have HNN := Lib.hid hn
  have HSZ : Hid (w.heap.size + 1 < w0.heap.size) := Lib.hid (blk_lt hz)
  have HVM : Hid (∀ wx : World, Below w0.heap.size w0 wx → Calls Tryz.prog 53 #[mchV s t A n c] wx (RetV wx (.bool (okM s t rs)))) := Lib.hid (fun wx hbx => ValidMachine_any wx s t A n c rs (HR.out.below hbx (Nat.le_refl _)) HNN.out)
  have x0 := blk_cell hx0 0 rfl
  have x1 := blk_cell hx0 1 rfl
  have x2 := blk_cell hx0 2 rfl
  clear hB hx0 hz hr hn
  cases hok : okM s t rs with
  | false =>
    have HO : Hid (fcP s t rs m = (0, [], [], 1)) := Lib.hid (by unfold fcP; rw [hok]; rfl)
    rw [hok] at HVM
    clear hok
    go_enter Tryz.func18, Tryz.ntmps18
    go_upto_region 1 with fail
    rw [← hw0]
    clear hw0
    go_wp2_with fail
    refine (HVM.out w0 (Below.refl _ _)).mono ?_
    rintro e w2 ⟨rfl, hb2⟩
    have HB2 := Lib.hid hb2
    have hzb := blk_bel HZ.out hb2
    have z0 := blk_cell hzb 0 rfl
    have z1 := blk_cell hzb 1 rfl
    have z2 := blk_cell hzb 2 rfl
    have f0 := blk_free hzb 0
    have f1 := blk_free hzb 1
    have f2 := blk_free hzb 2
    clear hb2 hzb x0 x1 x2
    go_wp2_with fail
    exact bodyPost_ret (v := .tuple #[prfV 0 none 0 0 none 0 0, .int .i64 1]) (by simp [results, Tryz.results18, go_sem, z0, z1, z2]) rfl (by rw [HO.out]; exact pfp_err (HB.out.trans (HB2.out.mono HB.out.size)) (Nat.le_succ _))
  | true =>
    have HOK := Lib.hid hok
    rw [hok] at HVM
    cases hi : inB m 1 4 with
    | false =>
      have HO : Hid (fcP s t rs m = (0, [], [], 2)) := Lib.hid (by unfold fcP; rw [hok, hi]; rfl)
      have HI := Lib.hid hi
      clear hok hi
      go_enter Tryz.func18, Tryz.ntmps18
      go_upto_region 1 with fail
      rw [← hw0]
      clear hw0
      go_wp2_with fail
      refine (HVM.out w0 (Below.refl _ _)).mono ?_
      rintro e w2 ⟨rfl, hb2⟩
      have HB2 := Lib.hid hb2
      have hx2 := blk_bel HX0.out hb2
      clear x0 x1 x2
      have x0 := blk_cell hx2 0 rfl
      have x1 := blk_cell hx2 1 rfl
      have x2 := blk_cell hx2 2 rfl
      have hzb := blk_bel HZ.out hb2
      have z0 := blk_cell hzb 0 rfl
      have z1 := blk_cell hzb 1 rfl
      have z2 := blk_cell hzb 2 rfl
      have f0 := blk_free hzb 0
      have f1 := blk_free hzb 1
      have f2 := blk_free hzb 2
      clear hb2 hx2 hzb
      go_wp2_with fail
      refine (contextSizeOk_any _ _).mono ?_
      rw [HI.out]
      rintro e w3 ⟨rfl, rfl⟩
      clear x0 x1 x2
      go_wp2_with fail
      exact bodyPost_ret (v := .tuple #[prfV 0 none 0 0 none 0 0, .int .i64 2]) (by simp [results, Tryz.results18, go_sem, z0, z1, z2]) rfl (by rw [HO.out]; exact pfp_err (HB.out.trans (HB2.out.mono HB.out.size)) (Nat.le_succ _))
    | true =>
      have HI := Lib.hid hi
      obtain ⟨N, rfl⟩ : ∃ N : Nat, m = (N : Int) := ⟨m.toNat, by have h := inB_true.1 hi; omega⟩
      obtain ⟨sn, rfl⟩ : ∃ sn : Nat, s = (sn : Int) := ⟨s.toNat, by have h := (okM_all hok).1; omega⟩
      have HN4 : Hid (1 ≤ N ∧ N ≤ 4) := Lib.hid (by have h := inB_true.1 hi; omega)
      have HO : Hid (fcP (sn : Int) t rs N = (fdP sn rs N (st0 N))) := Lib.hid (by unfold fcP; rw [hok, hi]; simp)
      clear hok hi
      go_enter Tryz.func18, Tryz.ntmps18
      go_upto_region 1 with fail
      rw [← hw0]
      clear hw0
      go_wp2_with fail
      refine (HVM.out w0 (Below.refl _ _)).mono ?_
      rintro e w2 ⟨rfl, hb2⟩
      have HB2 := Lib.hid hb2
      have hx2 := blk_bel HX0.out hb2
      clear x0 x1 x2
      have x0 := blk_cell hx2 0 rfl
      have x1 := blk_cell hx2 1 rfl
      have x2 := blk_cell hx2 2 rfl
      have hzb := blk_bel HZ.out hb2
      have z0 := blk_cell hzb 0 rfl
      have z1 := blk_cell hzb 1 rfl
      have z2 := blk_cell hzb 2 rfl
      have f0 := blk_free hzb 0
      have f1 := blk_free hzb 1
      have f2 := blk_free hzb 2
      clear hb2 hx2 hzb
      go_wp2_with fail
      refine (contextSizeOk_any _ _).mono ?_
      rw [HI.out]
      rintro e w3 ⟨rfl, rfl⟩
      go_wp2_with fail
      refine (findContexts_any _ sn t A n c rs (HR.out.below HB2.out (Nat.le_refl _)) HNN.out HOK.out N HN4.out).mono ?_
      rintro e w4 hP
      obtain ⟨A9, n9, c9, A10, n10, c10, F9, rfl, ho9, hp9, hF9, hd9, hb9⟩ := hP
      have HP9 := Lib.hid (show PfP w2 (fdP sn rs N (st0 N)) _ w4 from ⟨A9, n9, c9, A10, n10, c10, F9, rfl, ho9, hp9, hF9, hd9, hb9⟩)
      have hzb := blk_bel (blk_bel HZ.out HB2.out) hb9
      replace z0 := blk_cell hzb 0 rfl
      replace z1 := blk_cell hzb 1 rfl
      replace z2 := blk_cell hzb 2 rfl
      replace f0 := blk_free hzb 0
      replace f1 := blk_free hzb 1
      replace f2 := blk_free hzb 2
      clear hzb ho9 hp9 hF9 hd9 hb9 x0 x1 x2
      generalize fdP sn rs N (st0 N) = R at *
      go_wp2_with fail
      exact bodyPost_ret (v := .tuple #[prfV R.1 A9 n9 c9 A10 n10 c10, .int .i64 R.2.2.2]) (by simp [results, Tryz.results18, go_sem, z0, z1, z2]) rfl (by rw [HO.out]; exact pfp_set HP9.out (HB.out.trans (HB2.out.mono HB.out.size)) (Nat.le_succ _) (Nat.lt_of_lt_of_le HSZ.out HB2.out.size))
end Go.Proofs.YtanicbbgneobpaaGreat
