/- Programs of registers: stores, runs (program). -/
import Derived.Test.YtgnboemmlohahaaRrC
import Derived.Test.YtgnboemmlohahaaRrU
namespace Go.Proofs.Ytgnboemmlohahaa
open Go.RowKit
set_option linter.unusedVariables false
set_option linter.unusedSimpArgs false
attribute [local go_sem ↓] Go.wp_at_zero Go.wp_at_succ
set_option maxHeartbeats 400000 in
theorem budgetOk_any (w : World) (x : Int) : Calls Try.prog 23 #[.int .i64 x] w fun e w' => e = .returned (.bool (inB x 1 20000)) ∧ w = w' := by
  go_enter Try.func23, Try.ntmps23
  go_wp2_with (go_at_call 36; refine (within_any _ _ _ _).mono ?_; rintro e w' ⟨rfl, rfl⟩)
  go_ret
  exact ⟨rfl, rfl⟩
theorem good_all {n : Nat} {b : Int} {x : Sto} (h : GoodS n b x) (hb : b ≤ 1000000) : allIn x.cs 0 1000000 = true := allIn_true.2 fun c hc => by have := h.bd c hc; omega
set_option maxHeartbeats 2000000 in
set_option maxRecDepth 100000 in
theorem storeOf_yes (w : World) (A : Option Addr) (n c : Nat) (x : Sto) (b : Int) (hg : GoodS n b x) (hb : b ≤ 1000000) (hn : n ≤ 400) (A2 : Option Addr) (c2 : Nat) (hr : Rd w A2 24 (ints x.cs)) :
    Calls Try.prog 22 #[.slice A n c, .agg #[.int .i64 x.at_, .slice A2 24 c2]] w (RetV w (.bool true)) := by
  obtain ⟨at_, cs⟩ := x
  have HI : Hid (inB at_ 0 (n : Int) = true) := Lib.hid (inB_true.2 ⟨hg.lo, hg.hi⟩)
  have HA : Hid (allIn cs 0 1000000 = true) := Lib.hid (good_all hg hb)
  obtain ⟨w1, hw1⟩ : ∃ w1, w1 = w.alloc (.cells #[.int .i64 at_, .slice A2 24 c2] 31) := ⟨_, rfl⟩
  have hx1 : w1.heap[w.heap.size]? = some (.cells #[.int .i64 at_, .slice A2 24 c2] 31 (0, 0)) := by rw [hw1]; exact box_new _ _ _
  have hb1 : Below w.heap.size w w1 := by rw [hw1]; exact below_new _ _
  have HR := Lib.hid (hr.below hb1 (Nat.le_refl _))
  have HB1 := Lib.hid hb1
  have x0 := blk_cell hx1 0 rfl
  have x1 := blk_cell hx1 1 rfl
  clear hg hr hx1 hb1
  go_enter Try.func22, Try.ntmps22
  go_upto_region 1 with fail
  rw [← hw1]
  clear hw1
  go_quiet (first
    | (go_at_call 21; exact Calls.quiet_of_same ((sizeInstr_any _ _ _ _ (by omega)).mono fun e w' h => ⟨h.1, h.2.symm⟩))
    | (go_at_call 36; exact Calls.quiet_of_same ((within_any _ _ _ _).mono fun e w' h => ⟨h.1.trans (by rw [HI.out]), h.2.symm⟩))
    | (go_at_call 17; exact Calls.quiet_of_same ((allWithin_any _ A2 24 c2 cs (by exact HR.out) (by omega) _ _).mono fun e w' h => ⟨h.1.trans (by rw [HA.out]), h.2.symm⟩)))
  go_wp2_with fail
  go_ret
  exact ⟨rfl, below_drewN HB1.out⟩
set_option maxHeartbeats 2000000 in
theorem ValidStore_yes (w : World) (A : Option Addr) (n c : Nat) (p : List Ins) (hp : Rd w A (n * 4) (ints (flatI p))) (hok : okProg p = true) (x : Sto) (b : Int) (hg : GoodS p.length b x) (hb : b ≤ 1000000) (A2 : Option Addr) (c2 : Nat) (hr : Rd w A2 24 (ints x.cs)) :
    Calls Try.prog 9 #[.slice A n c, .agg #[.int .i64 x.at_, .slice A2 24 c2]] w (RetV w (.bool true)) := by
  have hn : n ≤ 400 := by have := ok_len hok; have := rd_len hp; omega
  rw [rd_len hp] at hg
  obtain ⟨w1, hw1⟩ : ∃ w1, w1 = w.alloc (.cells #[.int .i64 x.at_, .slice A2 24 c2] 31) := ⟨_, rfl⟩
  have hx1 : w1.heap[w.heap.size]? = some (.cells #[.int .i64 x.at_, .slice A2 24 c2] 31 (0, 0)) := by rw [hw1]; exact box_new _ _ _
  have hb1 : Below w.heap.size w w1 := by rw [hw1]; exact below_new _ _
  have HX1 := Lib.hid hx1
  have HB1 := Lib.hid hb1
  have H1 := ValidProgram_any w1 A n c p (hp.below hb1 (Nat.le_refl _)) (by omega)
  rw [hok] at H1
  replace H1 := Lib.hid H1
  have H2 := Lib.hid (fun (w2 : World) (hb2 : Below w.heap.size w w2) => storeOf_yes w2 A n c x b hg hb hn A2 c2 (hr.below hb2 (Nat.le_refl _)))
  clear hg hr hx1 hb1 hp hok
  go_enter Try.func9, Try.ntmps9
  go_upto_region 1 with fail
  rw [← hw1]
  clear hw1
  go_wp2_with (first
    | (go_at_call 8
       refine H1.out.mono ?_
       rintro e w2 ⟨rfl, hb2⟩
       have HB2 : Hid (Below w.heap.size w w2) := Lib.hid (bqc hb2 HB1.out)
       have H22 := Lib.hid (H2.out w2 HB2.out)
       have hx2 := blk_bel HX1.out hb2
       have x0 := blk_cell hx2 0 rfl
       have x1 := blk_cell hx2 1 rfl
       clear hb2 hx2)
    | (go_at_call 22
       refine H22.out.mono ?_
       rintro e w3 ⟨rfl, hb3⟩
       have HB3 : Hid (Below w.heap.size w w3) := Lib.hid (bqc hb3 HB2.out)
       clear hb3))
  go_ret
  exact ⟨rfl, HB3.out⟩
set_option maxHeartbeats 2000000 in
set_option maxRecDepth 100000 in
theorem copyStore_any (w : World) (t : Int) (A2 : Option Addr) (c2 : Nat) (cs : List Int) (hr : Rd w A2 24 (ints cs)) :
    Calls Try.prog 24 #[.agg #[.int .i64 t, .slice A2 24 c2]] w (fun e w' => ∃ g c, e = .returned (.agg #[.int .i64 t, .slice (some ⟨g, 0, none⟩) 24 c]) ∧ w'.ownsRow w.heap.size 2 1 (.slice (some ⟨g, 0, none⟩) 24 c) 24 (ints cs) ∧ Below w.heap.size w w') := by
  obtain ⟨wa, hwa⟩ : ∃ wa, wa = w.alloc (.cells #[.int .i64 t, .slice A2 24 c2] 31) := ⟨_, rfl⟩
  obtain ⟨w1, hw1⟩ : ∃ w1, w1 = wa.alloc (.cells #[.int .i64 0, .slice none 0 0] 31) := ⟨_, rfl⟩
  have hba : Below w.heap.size w wa := by rw [hwa]; exact below_new _ _
  have hb1 : Below w.heap.size w w1 := by rw [hw1]; exact bqa hba
  have hx1 : w1.heap[w.heap.size]? = some (.cells #[.int .i64 t, .slice A2 24 c2] 31 (0, 0)) := by rw [hw1]; refine blk_alloc ?_ _; rw [hwa]; exact box_new _ _ _
  have sa : wa.heap.size = w.heap.size + 1 := by rw [hwa]; simp
  have hz1 : w1.heap[w.heap.size + 1]? = some (.cells #[.int .i64 0, .slice none 0 0] 31 (0, 0)) := by rw [hw1, ← sa]; exact box_new _ _ _
  have HCL := Lib.hid (clone_any w1.drew A2 24 c2 cs (hr.below (bqd hb1) (Nat.le_refl _)) (by omega))
  have hW : w1 = (w.alloc (.cells #[.int .i64 t, .slice A2 24 c2] 31)).alloc (.cells #[.int .i64 0, .slice none 0 0] 31) := by rw [hw1, hwa]
  have HX1 := Lib.hid hx1; have HZ1 := Lib.hid hz1; have HB1 := Lib.hid hb1
  have HL : Hid (cs.length = 24) := Lib.hid (by simpa using hr.1)
  clear hwa hw1 hba hb1 hx1 sa hz1 hr
  go_enter Try.func24, Try.ntmps24
  go_upto_region 1 with fail
  rw [← hW]
  clear hW
  have x0 := blk_cell HX1.out 0 rfl
  have x1 := blk_cell HX1.out 1 rfl
  have z0 := blk_cell HZ1.out 0 rfl
  have z1 := blk_cell HZ1.out 1 rfl
  have f0 := blk_free HZ1.out 0
  have f1 := blk_free HZ1.out 1
  go_wp2_with fail
  (first | (go_region_law (first
    | (go_simp; go_at_call 39
       refine HCL.out.mono ?_
       rintro e w4 ⟨A4, n4, c4, rfl, ho4, hb4⟩
       replace hb4 : Below w1.heap.size w1 w4 := bqc hb4 (bqd (Below.refl _ _))
       obtain rfl : n4 = 24 := by have h5 := ho4.1; simp only [List.length_map, HL.out, Nat.mul_one] at h5; exact h5.symm
       obtain ⟨v4, hv4⟩ := get_some (xs := cs) (k := 0) (by rw [HL.out]; omega)
       obtain ⟨g4, rfl, -⟩ := own_get ho4 (ints_get hv4)
       clear hv4
       have HX4 := Lib.hid (blk_bel HX1.out hb4)
       have HZ4 := Lib.hid (blk_bel HZ1.out hb4)
       have HO4 := Lib.hid (own_base ho4 HB1.out.size)
       have HB4 : Hid (Below w.heap.size w w4) := Lib.hid (bqc hb4 HB1.out)
       have x0 := blk_cell HX4.out 0 rfl
       have x1 := blk_cell HX4.out 1 rfl
       have z0 := blk_cell HZ4.out 0 rfl
       have z1 := blk_cell HZ4.out 1 rfl
       have f0 := blk_free HZ4.out 0
       have f1 := blk_free HZ4.out 1
       clear ho4 hb4))) | fail)
  all_goals
    as_aux_lemma =>
    go_wp2_with fail
    refine bodyPost_ret (v := .agg #[.int .i64 t, .slice (some ⟨g4, 0, none⟩) 24 c4]) (by simp [results, Try.results24, go_sem, z0, z1]) rfl ⟨g4, c4, rfl, ?_, ?_⟩
    · have h5 := blk_set HZ4.out 0 (.int .i64 t)
      exact own_ch (own_ch HO4.out (ch_set _ _ _ _) (fun k hk e => ow_not HZ4.out (by decide) HO4.out (by rw [← e]; exact hk))) (ch_set _ _ _ _) (fun k hk e => ow_not HZ4.out (by decide) HO4.out (by rw [← e]; exact hk))
    · exact (HB4.out.setCell (by simp) _).setCell (by simp) _
/-- What a run of a program returns. -/
def RunR (w : World) (p : List Ins) (x : Sto) (most : Nat) (e : Ending) (w' : World) : Prop :=
  ∃ (k g c : Nat), k ≤ most ∧ (∀ j, j < k → (itS p x j).at_ ≠ (p.length : Int)) ∧ ((itS p x k).at_ = (p.length : Int) ∨ k = most) ∧ e = .returned (.tuple #[.agg #[.int .i64 (itS p x k).at_, .slice (some ⟨g, 0, none⟩) 24 c], .int .i64 (k : Int), .bool ((itS p x k).at_ == (p.length : Int)), .int .i64 0]) ∧ w'.ownsRow w.heap.size 2 1 (.slice (some ⟨g, 0, none⟩) 24 c) 24 (ints (itS p x k).cs) ∧ Below w.heap.size w w'
set_option maxHeartbeats 4000000 in
set_option maxRecDepth 100000 in
theorem RunProgram_any (w : World) (A : Option Addr) (n c : Nat) (p : List Ins) (hp : Rd w A (n * 4) (ints (flatI p))) (hok : okProg p = true) (x : Sto) (b : Int) (hg : GoodS p.length b x) (hb : 0 ≤ b ∧ b ≤ 900000) (A2 : Option Addr) (c2 : Nat) (hr : Rd w A2 24 (ints x.cs)) (most : Nat) (hm : 1 ≤ most ∧ most ≤ 20000) :
    Calls Try.prog 10 #[.slice A n c, .agg #[.int .i64 x.at_, .slice A2 24 c2], .int .i64 (most : Int)] w (RunR w p x most) := by
  obtain ⟨wa, hwa⟩ : ∃ wa, wa = w.alloc (.cells #[.int .i64 x.at_, .slice A2 24 c2] 31) := ⟨_, rfl⟩
  obtain ⟨w1, hw1⟩ : ∃ w1, w1 = wa.alloc (.cells #[.int .i64 0, .slice none 0 0] 31) := ⟨_, rfl⟩
  have hba : Below w.heap.size w wa := by rw [hwa]; exact below_new _ _
  have hb1 : Below w.heap.size w w1 := by rw [hw1]; exact bqa hba
  have hx1 : w1.heap[w.heap.size]? = some (.cells #[.int .i64 x.at_, .slice A2 24 c2] 31 (0, 0)) := by rw [hw1]; refine blk_alloc ?_ _; rw [hwa]; exact box_new _ _ _
  have sa : wa.heap.size = w.heap.size + 1 := by rw [hwa]; simp
  have hz1 : w1.heap[w.heap.size + 1]? = some (.cells #[.int .i64 0, .slice none 0 0] 31 (0, 0)) := by rw [hw1, ← sa]; exact box_new _ _ _
  have hW : w1 = (w.alloc (.cells #[.int .i64 x.at_, .slice A2 24 c2] 31)).alloc (.cells #[.int .i64 0, .slice none 0 0] 31) := by rw [hw1, hwa]
  have HX1 := Lib.hid hx1; have HZ1 := Lib.hid hz1; have HB1 := Lib.hid hb1
  have HV := Lib.hid (fun (w2 : World) (hb2 : Below w.heap.size w w2) => ValidStore_yes w2 A n c p (hp.below hb2 (Nat.le_refl _)) hok x b hg (by omega) A2 c2 (hr.below hb2 (Nat.le_refl _)))
  have HCS := Lib.hid (fun (w2 : World) (hb2 : Below w.heap.size w w2) => copyStore_any w2 x.at_ A2 c2 x.cs (hr.below hb2 (Nat.le_refl _)))
  have HRS := Lib.hid (fun (w2 : World) (hb2 : Below w.heap.size w w2) (gx gc c5 : Nat) (hs : SB w2 w.heap.size gx gc c5 x) => runStore_any w w2 hb2 A n c p hp hok gx gc c5 x hs b hg most hm.2 hb)
  have HBU : Hid (inB (most : Int) 1 20000 = true) := Lib.hid (inB_true.2 (by omega))
  have HS1 : Hid (w1.heap.size = w.heap.size + 2) := Lib.hid (by rw [hw1]; simp [sa])
  have HVV := Lib.hid (HV.out w1 HB1.out)
  clear hwa hw1 hba hb1 hx1 sa hz1 hr hp hok hg hb
  go_enter Try.func10, Try.ntmps10
  go_upto_region 1 with fail
  rw [← hW]
  clear hW
  have x0 := blk_cell HX1.out 0 rfl
  have x1 := blk_cell HX1.out 1 rfl
  go_upto_region 5 with (first
    | (go_at_call 9
       refine HVV.out.mono ?_
       rintro e w2 ⟨rfl, hb2⟩
       have HX2 := Lib.hid (blk_bel HX1.out hb2)
       have HZ2 := Lib.hid (blk_bel HZ1.out hb2)
       have HB2 : Hid (Below w.heap.size w w2) := Lib.hid (bqc hb2 HB1.out)
       have HCC := Lib.hid (HCS.out w2 HB2.out)
       have HS2 : Hid (w.heap.size + 2 ≤ w2.heap.size) := Lib.hid (by have := hb2.size; have := HS1.out; omega)
       clear hb2)
    | (go_at_call 23; refine (budgetOk_any _ _).mono ?_; rw [HBU.out]; rintro e w' ⟨rfl, rfl⟩))
  clear x0 x1
  have x0 := blk_cell HX2.out 0 rfl
  have x1 := blk_cell HX2.out 1 rfl
  go_upto_region 6 with (go_at_call 24
                         refine HCC.out.mono ?_
                         rintro e w3 ⟨g3, c3, rfl, ho3, hb3⟩
                         have HO3 := Lib.hid ho3
                         have HZ3 := Lib.hid (blk_bel HZ2.out hb3)
                         have HB3 : Hid (Below w.heap.size w w3) := Lib.hid (bqc hb3 HB2.out)
                         have HS3 : Hid (w.heap.size + 2 ≤ w3.heap.size) := Lib.hid (by have := hb3.size; have := HS2.out; omega)
                         clear hb3 ho3 x0 x1)
  obtain ⟨w4, hw4⟩ : ∃ w4, w4 = w3.alloc (.cells #[.int .i64 x.at_, .slice (some ⟨g3, 0, none⟩) 24 c3] 31) := ⟨_, rfl⟩
  have hx4 : w4.heap[w3.heap.size]? = some (.cells #[.int .i64 x.at_, .slice (some ⟨g3, 0, none⟩) 24 c3] 31 (0, 0)) := by rw [hw4]; exact box_new _ _ _
  have hb4 : Below w3.heap.size w3 w4 := by rw [hw4]; exact below_new _ _
  have HZ4 := Lib.hid (blk_bel HZ3.out hb4)
  have HB4 : Hid (Below w.heap.size w w4) := Lib.hid (bqc hb4 HB3.out)
  have hsb : SB w4 w.heap.size w3.heap.size g3 c3 x := ⟨hx4, own_base (own_below HO3.out hb4 (Nat.le_refl _)) (by have := HB2.out.size; exact this), HB3.out.size⟩
  have HSB := Lib.hid hsb
  have HRR := Lib.hid (HRS.out w4 HB4.out w3.heap.size g3 c3 hsb)
  rw [← hw4]
  clear hw4 hx4 hb4 hsb
  go_upto_region 7 with (go_at_call 25
                         refine HRR.out.mono ?_
                         rintro e w6 ⟨k, hk1, hk2, hk3, rfl, hs6, hc6⟩
                         have HK := Lib.hid (And.intro hk1 (And.intro hk2 hk3))
                         have HS6 := Lib.hid hs6
                         have HG := Lib.hid HSB.out.gc
                         have HO := Lib.hid HO3.out.lt
                         have HZ6 := Lib.hid (blk_ch HZ4.out hc6 (fun e => by
                           have h1 := HS3.out
                           have h2 := HO3.out.lt g3 rfl
                           have h3 := HB2.out.size
                           have h4 := HS2.out
                           rcases e with e | e <;> omega))
                         have HB6 : Hid (Below w.heap.size w w6) := Lib.hid (below_ch HB4.out hc6 (fun q e => by
                           have h1 := HB3.out.size
                           have h2 := HG.out.1.1
                           rcases e with e | e <;> omega) HB4.out.size)
                         clear hk1 hk2 hk3 hs6 hc6)
  have x0 := blk_cell HS6.out.box 0 rfl
  have x1 := blk_cell HS6.out.box 1 rfl
  have z0 := blk_cell HZ6.out 0 rfl
  have z1 := blk_cell HZ6.out 1 rfl
  have f0 := blk_free HZ6.out 0
  have f1 := blk_free HZ6.out 1
  go_wp2_with fail
  refine bodyPost_ret (v := .tuple #[.agg #[.int .i64 (itS p x k).at_, .slice (some ⟨g3, 0, none⟩) 24 c3], .int .i64 (k : Int), .bool ((itS p x k).at_ == (p.length : Int)), .int .i64 0]) (by simp [results, Try.results10, go_sem, z0, z1]) rfl ⟨k, g3, c3, HK.out.1, HK.out.2.1, HK.out.2.2, rfl, ?_, ?_⟩
  · have h7 := HS6.out.row
    exact own_ch (own_ch h7 (ch_set _ _ _ _) (fun k hk e => ow_not HZ6.out (by decide) h7 (by rw [← e]; exact hk))) (ch_set _ _ _ _) (fun k hk e => ow_not HZ6.out (by decide) h7 (by rw [← e]; exact hk))
  · exact (HB6.out.setCell (by simp) _).setCell (by simp) _
end Go.Proofs.Ytgnboemmlohahaa
