/- Programs of registers (reference): a flat program is drawn. Printed by mk_rrj.py. -/
import Derived.Test.YtgnboemmlohahaaRrI
namespace Go.Proofs.Ytgnboemmlohahaa
open Go.RowKit
set_option linter.unusedVariables false
set_option linter.unusedSimpArgs false
attribute [local go_sem ↓] Go.wp_at_zero Go.wp_at_succ
theorem src_up {w : World} {g n c lim lim' : Nat} {A : Option Addr} (h : SrcAt w g A n c lim) (hl : lim ≤ lim') : SrcAt w g A n c lim' := by
  obtain ⟨k, s, h1, h2⟩ := h
  exact ⟨k, s, by omega, h2⟩
theorem fl_grow {w wr w' : World} {F : Nat → Prop} {row : Option Nat} (h : Ch F w wr) (hg : wr.grownBy w' row) (hr : ∀ q, row = some q → w.heap.size ≤ q) : Ch F w w' :=
  ⟨hg.os.trans h.os, hg.tape.trans h.tape, hg.output.trans h.output, Nat.le_trans h.size hg.size, fun q hq hn => (hg.block q (Nat.lt_of_lt_of_le hq h.size) (fun e => by have := hr q e.symm; omega)).trans (h.block q hq hn)⟩
set_option maxHeartbeats 8000000 in
set_option maxRecDepth 100000 in
theorem l07DrawFlat_any {w0 w : World} {g n c lim : Nat} {A : Option Addr} {bs : List Int} (hS : SrS w0 g A n bs) (hg : SrcAt w g A n c lim) (hb : Below w0.heap.size w0 w) (hl : lim ≤ 700000000) :
    Calls Try.prog 32 #[.pointer (some ⟨g, 0, none⟩)] w (DrawP w0 w g A n c (lim + 200) 6) := by
  have HPK := Lib.hid (fun (wx : World) (lx : Nat) (h1 : SrcAt wx g A n c lx) (h2 : Below w0.heap.size w0 wx) (h3 : lx ≤ 800000000) (m : Int) (h4 : 1 ≤ m) (h5 : m ≤ 1000000) => pickS hS h1 h2 h3 m h4 h5)
  have HON := Lib.hid (fun (wx : World) (lx : Nat) (h1 : SrcAt wx g A n c lx) (h2 : Below w0.heap.size w0 wx) (h3 : lx ≤ 800000000) => oneS hS h1 h2 h3 2 (by omega) (by omega))
  have HLE : Hid (w0.heap.size ≤ w.heap.size) := Lib.hid hb.size
  obtain ⟨w1, hw1⟩ : ∃ w1, w1 = w.alloc (.cells #[] 49) := ⟨_, rfl⟩
  have hb1 : Below w.heap.size w w1 := by rw [hw1]; exact below_new _ _
  have HS1 : Hid (FlS w0 w g A n c lim (some ⟨w.heap.size, 0, none⟩) 0 0 [] w1) := Lib.hid ⟨by rw [hw1]; exact ownN_lit w #[] 0 4 49 rfl (by omega), hg.below hb1, ch_below hb1, hb.trans (hb1.mono hb.size)⟩
  have HL := Lib.hid hl
  have HGL : Hid (g < w.heap.size) := Lib.hid (by obtain ⟨k, s, _, h⟩ := hg; exact blk_lt h)
  clear hS hg hb hl hb1
  go_enter Try.func32, Try.ntmps32
  go_upto_region 2 with fail
  rw [← hw1]
  clear hw1
  go_upto_region 3 with (go_at_call 14
                         have hh := HPK.out w1 _ HS1.out.src HS1.out.bel (by have := HL.out; omega) 7 (by omega) (by omega)
                         refine hh.mono ?_
                         rintro e w2 ⟨x2, rfl, h10, h11, hs, hc, hb⟩
                         have HS2 := Lib.hid (HS1.out.pick hc hs hb)
                         have HX2 := Lib.hid (And.intro h10 h11)
                         clear h10 h11 hs hc hb hh)
  obtain ⟨N, hN⟩ : ∃ N : Nat, x2 = (N : Int) := ⟨x2.toNat, by have := HX2.out; omega⟩
  subst hN
  have HNB : Hid (N ≤ 6) := Lib.hid (by have := HX2.out; omega)
  have HWN : Hid (IntKind.i64.wrap ((N : Int) + 1) = (N : Int) + 1) := Lib.hid (wr_of (by omega) (by have := HNB.out; omega))
  go_wp2_with fail
  go_loopw [3, 5] (fun v q wr => ∃ (k : Nat) (A1 : Option Addr) (c1 : Nat) (ps : List Ins), k ≤ N ∧ q = .int .i64 k ∧ v = .slice A1 k c1 ∧ Hid (FlS w0 w g A n c (lim + 2 + 16 * k) A1 k c1 ps wr) ∧ Hid (ps.all (okIns (N : Int)) = true)) (fun _ q _ => N - (intOf q).toNat)
  case atStart => exact ⟨0, _, _, _, Nat.zero_le _, by go_num, rfl, HS2, Lib.hid rfl⟩
  case round =>
    obtain ⟨k, A1, c1, ps, hk, rfl, rfl, HS0, HOK⟩ := hrel
    clear HS1 HS2
    by_cases hlt : k < N
    · skip
      obtain ⟨wa, hwa⟩ : ∃ v, v = wr := ⟨_, rfl⟩
      have hla : w.heap.size ≤ wr.heap.size := HS0.out.ch.size
      have HLA := Lib.hid hla
      have HLB : Hid (lim + 2 + 16 * k + 20 ≤ 800000000) := Lib.hid (by have := HNB.out; have := HL.out; omega)
      clear hla hwa
      have hw1 := HWN.out
      go_upto_region 7 with (first
       | (go_at_call 14
          have hh := HPK.out wr _ HS0.out.src HS0.out.bel (by (try clear hw1); have := HLB.out; omega) (2 : Int) (by clear hw1; omega) (by clear hw1; omega)
          refine hh.mono ?_
          rintro e w11 ⟨kd, rfl, h10, h11, hs, hc, hb⟩
          have HS11 := Lib.hid (HS0.out.pick hc hs hb)
          have HX11 : Hid (0 ≤ kd ∧ kd < (2 : Int)) := Lib.hid ⟨h10, h11⟩
          clear h10 h11 hs hc hb hh HS0)
       | (go_at_call 14
          have hh := HPK.out w11 _ HS11.out.src HS11.out.bel (by (try clear hw1); have := HLB.out; omega) (3 : Int) (by clear hw1; omega) (by clear hw1; omega)
          refine hh.mono ?_
          rintro e w12 ⟨rg, rfl, h10, h11, hs, hc, hb⟩
          have HS12 := Lib.hid (HS11.out.pick hc hs hb)
          have HX12 : Hid (0 ≤ rg ∧ rg < (3 : Int)) := Lib.hid ⟨h10, h11⟩
          clear h10 h11 hs hc hb hh HS11)
       | (go_at_call 14
          have hh := HPK.out w12 _ HS12.out.src HS12.out.bel (by (try clear hw1); have := HLB.out; omega) ((N : Int) + 1) (by clear hw1; omega) (by clear hw1; have := HNB.out; omega)
          refine hh.mono ?_
          rintro e w13 ⟨th, rfl, h10, h11, hs, hc, hb⟩
          have HS13 := Lib.hid (HS12.out.pick hc hs hb)
          have HX13 : Hid (0 ≤ th ∧ th < ((N : Int) + 1)) := Lib.hid ⟨h10, h11⟩
          clear h10 h11 hs hc hb hh HS12))
      have HXk := HX11; have HXr := HX12; have HXt := HX13
      obtain ⟨w4, hw4⟩ : ∃ v, v = w13 := ⟨_, rfl⟩
      rw [← hw4] at HS13 ⊢
      have HS4 := HS13
      clear hw4 HS13
      obtain ⟨wb, hwb⟩ : ∃ wb, wb = w4.alloc (.cells #[.int .i64 kd, .int .i64 rg, .int .i64 th, .int .i64 0] 49) := ⟨_, rfl⟩
      have hb : Below w4.heap.size w4 wb := by rw [hwb]; exact below_new _ _
      have HSb := Lib.hid (HS4.out.below hb)
      have HBXb : Hid (wb.heap[w4.heap.size]? = some (.cells #[.int .i64 kd, .int .i64 rg, .int .i64 th, .int .i64 0] 49 (0, 0))) := Lib.hid (by rw [hwb]; exact box_new _ _ _)
      have HLT : Hid (∀ q, Fo (.slice A1 k c1) q → q ≠ w4.heap.size) := Lib.hid (fun q hq => by have := (HS4.out.own.lt q hq).2; omega)
      have HGG : Hid (g ≠ w4.heap.size) := Lib.hid (by have := HGL.out; have := HS4.out.ch.size; omega)
      have HGX : Hid (¬ (w4.heap.size = g)) := Lib.hid (fun e => HGG.out e.symm)
      have HWG : Hid (w.heap.size ≤ w4.heap.size) := Lib.hid HS4.out.ch.size
      rw [← hwb]
      clear hwb hb HS4 hw1
      have HWK : Hid (IntKind.i64.wrap ((k : Int) + 1) = (k : Int) + 1) := Lib.hid (wr_of (by omega) (by have := HNB.out; omega))
      have hwk := HWK.out
      go_upto_region 9 with (go_at_call 14
                             have hh := HPK.out wb _ HSb.out.src HSb.out.bel (by clear hwk; have := HLB.out; omega) 3 (by decide) (by decide)
                             refine hh.mono ?_
                             rintro e w5 ⟨v5, rfl, h10, h11, hs, hc, hb⟩
                             have HS5 := Lib.hid (HSb.out.pick hc hs hb)
                             have HBX5 := Lib.hid (blk_ch HBXb.out hc HGX.out)
                             have x2 := blk_cell HBX5.out 2 rfl
                             have f2 := blk_free HBX5.out 2
                             clear h10 h11 hs hc hb hh)
      · skip
        obtain ⟨w6, hw6⟩ : ∃ w6, w6 = w5.setCell ⟨w4.heap.size, 2, none⟩ (.int .i64 ((k : Int) + 1)) := ⟨_, rfl⟩
        have HS6 : Hid (FlS w0 w g A n c (lim + 2 + 16 * k + 8) A1 k c1 ps w6) := Lib.hid (by rw [hw6]; exact HS5.out.set HLT.out HGG.out HWG.out HLE.out)
        have HBX6 : Hid (w6.heap[w4.heap.size]? = some (.cells #[.int .i64 kd, .int .i64 rg, .int .i64 ((k : Int) + 1), .int .i64 0] 49 (0, 0))) := Lib.hid (by rw [hw6]; simpa using blk_set HBX5.out 2 (.int .i64 ((k : Int) + 1)))
        rw [← hw6]
        clear hw6 x2 f2 HS5 HBX5 HSb HBXb hwk HXt
        have HXt : Hid (0 ≤ (k : Int) + 1 ∧ (k : Int) + 1 < (N : Int) + 1) := Lib.hid (by omega)
        by_cases hk1 : kd = 1
        · skip
          have hkq : (kd == 1) = true := by rw [hk1]; rfl
          have HK1 := Lib.hid hk1
          clear hk1
          have x0 := blk_cell HBX6.out 0 rfl
          have x3 := blk_cell HBX6.out 3 rfl
          have hw1 := HWN.out
          go_upto_region 11 with (first
              | (go_at_call 14
                 have hh := HPK.out w6 _ HS6.out.src HS6.out.bel (by (try clear hw1); have := HLB.out; omega) ((N : Int) + 1) (by clear hw1; omega) (by clear hw1; have := HNB.out; omega)
                 refine hh.mono ?_
                 rintro e w16 ⟨el, rfl, h10, h11, hs, hc, hb⟩
                 have HS16 := Lib.hid (HS6.out.pick hc hs hb)
                 have HXe : Hid (0 ≤ el ∧ el < (N : Int) + 1) := Lib.hid ⟨h10, h11⟩
                 have HBX16 := Lib.hid (blk_ch HBX6.out hc HGX.out)
                 have x0 := blk_cell HBX16.out 0 rfl
                 have x3 := blk_cell HBX16.out 3 rfl
                 have f3 := blk_free HBX16.out 3
                 clear h10 h11 hs hc hb hh HS6 HBX6))
          obtain ⟨w17, hw17⟩ : ∃ w17, w17 = w16.setCell ⟨w4.heap.size, 3, none⟩ (.int .i64 el) := ⟨_, rfl⟩
          have HS17 : Hid (FlS w0 w g A n c (lim + 2 + 16 * k + 10) A1 k c1 ps w17) := Lib.hid (by rw [hw17]; exact HS16.out.set HLT.out HGG.out HWG.out HLE.out)
          have HBX17 : Hid (w17.heap[w4.heap.size]? = some (.cells #[.int .i64 kd, .int .i64 rg, .int .i64 ((k : Int) + 1), .int .i64 el] 49 (0, 0))) := Lib.hid (by rw [hw17]; simpa using blk_set HBX16.out 3 (.int .i64 el))
          rw [← hw17]
          clear hw17 hw1 HS16 HBX16
          clear x0 x3 f3
          go_upto_region 13 with (go_at_call 42
                                  have hh := HON.out w17 _ HS17.out.src HS17.out.bel (by (try clear hw1); have := HLB.out; omega)
                                  refine hh.mono ?_
                                  rintro e w18 ⟨b8, rfl, hs, hc, hb⟩
                                  have HS18 := Lib.hid (HS17.out.pick hc hs hb)
                                  have HBX18 := Lib.hid (blk_ch HBX17.out hc HGX.out)
                                  have x3 := blk_cell HBX18.out 3 rfl
                                  have f3 := blk_free HBX18.out 3
                                  clear hs hc hb hh)
          · skip
            obtain ⟨wf, hwf⟩ : ∃ wf, wf = w18.setCell ⟨w4.heap.size, 3, none⟩ (.int .i64 (N : Int)) := ⟨_, rfl⟩
            have HSf : Hid (FlS w0 w g A n c (lim + 2 + 16 * k + 12) A1 k c1 ps wf) := Lib.hid (by rw [hwf]; exact HS18.out.set HLT.out HGG.out HWG.out HLE.out)
            have HBXf : Hid (wf.heap[w4.heap.size]? = some (.cells #[.int .i64 kd, .int .i64 rg, .int .i64 ((k : Int) + 1), .int .i64 (N : Int)] 49 (0, 0))) := Lib.hid (by rw [hwf]; simpa using blk_set HBX18.out 3 (.int .i64 (N : Int)))
            rw [← hwf]
            clear hwf HS17 HBX17 x3 f3
            have y0 := blk_cell HBXf.out 0 rfl
            have y1 := blk_cell HBXf.out 1 rfl
            have y2 := blk_cell HBXf.out 2 rfl
            have y3 := blk_cell HBXf.out 3 rfl
            have HN0 := Lib.hid (HSf.out.below (below_new wf (.cells #[.int .i64 kd, .int .i64 rg, .int .i64 ((k : Int) + 1), .int .i64 ((N : Int))] 49)))
            have HOK9 : Hid ((ps ++ [(⟨kd, rg, (k : Int) + 1, (N : Int)⟩ : Ins)]).all (okIns (N : Int)) = true) := Lib.hid (by
              rw [List.all_append, HOK.out, Bool.true_and]
              simp only [List.all_cons, List.all_nil, Bool.and_true]
              have h1 := HXk.out; have h2 := HXr.out; have h3 := HXt.out
              exact okIns_mk (by simp only; omega) (by simp only; omega) (.inr ⟨HK1.out, by simp only; omega, by simp only; omega⟩))
            have HKN : Hid (k ≤ 1099511627776) := Lib.hid (by have := HNB.out; omega)
            have hwk := HWK.out
            go_wp2_with (at_builtin; go_must (refine wpList_app1N eltIn rfl _ _ rfl wf w.heap.size _ k _ (by rfl) HSf.out.own #[.int .i64 kd, .int .i64 rg, .int .i64 ((k : Int) + 1), .int .i64 ((N : Int))] rfl (by simp [Value.oneCell']) (by rfl) (by have h5 := HSf.out.ch.size; exact h5) (by exact HKN.out) ?_); rintro A9 c9 w9 ho9 hb9 hg9
                         have HO9 := Lib.hid ho9; have HG9 := Lib.hid hg9
                         clear ho9 hb9 hg9)
            go_roundw
            case rel =>
              clear hwk
              refine ⟨k + 1, A9, c9, _, by omega, by go_num, rfl, Lib.hid ⟨?_, ?_, ?_, ?_⟩, HOK9⟩
              · have h5 := HO9.out
                rw [show (#[.int .i64 kd, .int .i64 rg, .int .i64 ((k : Int) + 1), .int .i64 ((N : Int))] : Array Value).toList = ints (flatI [(⟨kd, rg, (k : Int) + 1, (N : Int)⟩ : Ins)]) from rfl, ints_two, ← flatI_app] at h5
                exact h5
              · exact (src_up HSf.out.src (by omega)).ch (ch_row HG9.out) (HSf.out.src.not (by decide) HSf.out.own)
              · exact fl_grow HSf.out.ch HG9.out (fun q hq => (HSf.out.own.lt q hq).1)
              · exact below_ch HSf.out.bel (ch_row HG9.out) (fun q hq => Nat.le_trans HLE.out (HSf.out.own.lt q hq).1) HSf.out.bel.size
            case measure => clear hwk; simp [intOf]; omega
          · skip
            obtain ⟨wf, hwf⟩ : ∃ wf, wf = w18 := ⟨_, rfl⟩
            rw [← hwf]
            have HSf : Hid (FlS w0 w g A n c (lim + 2 + 16 * k + 12) A1 k c1 ps wf) := Lib.hid (by rw [hwf]; exact HS18.out)
            have HBXf : Hid (wf.heap[w4.heap.size]? = some (.cells #[.int .i64 kd, .int .i64 rg, .int .i64 ((k : Int) + 1), .int .i64 el] 49 (0, 0))) := Lib.hid (by rw [hwf]; exact HBX18.out)
            clear hwf HS17 HBX17 x3 f3
            have y0 := blk_cell HBXf.out 0 rfl
            have y1 := blk_cell HBXf.out 1 rfl
            have y2 := blk_cell HBXf.out 2 rfl
            have y3 := blk_cell HBXf.out 3 rfl
            have HN0 := Lib.hid (HSf.out.below (below_new wf (.cells #[.int .i64 kd, .int .i64 rg, .int .i64 ((k : Int) + 1), .int .i64 (el)] 49)))
            have HOK9 : Hid ((ps ++ [(⟨kd, rg, (k : Int) + 1, el⟩ : Ins)]).all (okIns (N : Int)) = true) := Lib.hid (by
              rw [List.all_append, HOK.out, Bool.true_and]
              simp only [List.all_cons, List.all_nil, Bool.and_true]
              have h1 := HXk.out; have h2 := HXr.out; have h3 := HXt.out; have h4 := HXe.out
              exact okIns_mk (by simp only; omega) (by simp only; omega) (.inr ⟨HK1.out, by simp only; omega, by simp only; omega⟩))
            have HKN : Hid (k ≤ 1099511627776) := Lib.hid (by have := HNB.out; omega)
            have hwk := HWK.out
            go_wp2_with (at_builtin; go_must (refine wpList_app1N eltIn rfl _ _ rfl wf w.heap.size _ k _ (by rfl) HSf.out.own #[.int .i64 kd, .int .i64 rg, .int .i64 ((k : Int) + 1), .int .i64 (el)] rfl (by simp [Value.oneCell']) (by rfl) (by have h5 := HSf.out.ch.size; exact h5) (by exact HKN.out) ?_); rintro A9 c9 w9 ho9 hb9 hg9
                         have HO9 := Lib.hid ho9; have HG9 := Lib.hid hg9
                         clear ho9 hb9 hg9)
            go_roundw
            case rel =>
              clear hwk
              refine ⟨k + 1, A9, c9, _, by omega, by go_num, rfl, Lib.hid ⟨?_, ?_, ?_, ?_⟩, HOK9⟩
              · have h5 := HO9.out
                rw [show (#[.int .i64 kd, .int .i64 rg, .int .i64 ((k : Int) + 1), .int .i64 (el)] : Array Value).toList = ints (flatI [(⟨kd, rg, (k : Int) + 1, el⟩ : Ins)]) from rfl, ints_two, ← flatI_app] at h5
                exact h5
              · exact (src_up HSf.out.src (by omega)).ch (ch_row HG9.out) (HSf.out.src.not (by decide) HSf.out.own)
              · exact fl_grow HSf.out.ch HG9.out (fun q hq => (HSf.out.own.lt q hq).1)
              · exact below_ch HSf.out.bel (ch_row HG9.out) (fun q hq => Nat.le_trans HLE.out (HSf.out.own.lt q hq).1) HSf.out.bel.size
            case measure => clear hwk; simp [intOf]; omega
        · skip
          have hkq : (kd == 1) = false := by rw [beq_eq_false_iff_ne]; exact hk1
          have HK1 := Lib.hid hk1
          clear hk1
          have x0 := blk_cell HBX6.out 0 rfl
          obtain ⟨wf, hwf⟩ : ∃ wf, wf = w6 := ⟨_, rfl⟩
          have HSf : Hid (FlS w0 w g A n c (lim + 2 + 16 * k + 8) A1 k c1 ps wf) := Lib.hid (by rw [hwf]; exact HS6.out)
          have HBXf : Hid (wf.heap[w4.heap.size]? = some (.cells #[.int .i64 kd, .int .i64 rg, .int .i64 ((k : Int) + 1), .int .i64 0] 49 (0, 0))) := Lib.hid (by rw [hwf]; exact HBX6.out)
          go_upto_region 13 with fail
          rw [← hwf]
          clear hwf x0
          have y0 := blk_cell HBXf.out 0 rfl
          have y1 := blk_cell HBXf.out 1 rfl
          have y2 := blk_cell HBXf.out 2 rfl
          have y3 := blk_cell HBXf.out 3 rfl
          have HN0 := Lib.hid (HSf.out.below (below_new wf (.cells #[.int .i64 kd, .int .i64 rg, .int .i64 ((k : Int) + 1), .int .i64 (0)] 49)))
          have HOK9 : Hid ((ps ++ [(⟨kd, rg, (k : Int) + 1, 0⟩ : Ins)]).all (okIns (N : Int)) = true) := Lib.hid (by
            rw [List.all_append, HOK.out, Bool.true_and]
            simp only [List.all_cons, List.all_nil, Bool.and_true]
            have h1 := HXk.out; have h2 := HXr.out; have h3 := HXt.out
            exact okIns_mk (by simp only; omega) (by simp only; omega) (.inl ⟨by have := HK1.out; simp only; omega, rfl⟩))
          have HKN : Hid (k ≤ 1099511627776) := Lib.hid (by have := HNB.out; omega)
          have hwk := HWK.out
          go_wp2_with (at_builtin; go_must (refine wpList_app1N eltIn rfl _ _ rfl wf w.heap.size _ k _ (by rfl) HSf.out.own #[.int .i64 kd, .int .i64 rg, .int .i64 ((k : Int) + 1), .int .i64 (0)] rfl (by simp [Value.oneCell']) (by rfl) (by have h5 := HSf.out.ch.size; exact h5) (by exact HKN.out) ?_); rintro A9 c9 w9 ho9 hb9 hg9
                       have HO9 := Lib.hid ho9; have HG9 := Lib.hid hg9
                       clear ho9 hb9 hg9)
          go_roundw
          case rel =>
            clear hwk
            refine ⟨k + 1, A9, c9, _, by omega, by go_num, rfl, Lib.hid ⟨?_, ?_, ?_, ?_⟩, HOK9⟩
            · have h5 := HO9.out
              rw [show (#[.int .i64 kd, .int .i64 rg, .int .i64 ((k : Int) + 1), .int .i64 (0)] : Array Value).toList = ints (flatI [(⟨kd, rg, (k : Int) + 1, 0⟩ : Ins)]) from rfl, ints_two, ← flatI_app] at h5
              exact h5
            · exact (src_up HSf.out.src (by omega)).ch (ch_row HG9.out) (HSf.out.src.not (by decide) HSf.out.own)
            · exact fl_grow HSf.out.ch HG9.out (fun q hq => (HSf.out.own.lt q hq).1)
            · exact below_ch HSf.out.bel (ch_row HG9.out) (fun q hq => Nat.le_trans HLE.out (HSf.out.own.lt q hq).1) HSf.out.bel.size
          case measure => clear hwk; simp [intOf]; omega
      · skip
        obtain ⟨w6, hw6⟩ : ∃ w6, w6 = w5 := ⟨_, rfl⟩
        have HS6 : Hid (FlS w0 w g A n c (lim + 2 + 16 * k + 8) A1 k c1 ps w6) := Lib.hid (by rw [hw6]; exact HS5.out)
        have HBX6 : Hid (w6.heap[w4.heap.size]? = some (.cells #[.int .i64 kd, .int .i64 rg, .int .i64 th, .int .i64 0] 49 (0, 0))) := Lib.hid (by rw [hw6]; exact HBX5.out)
        rw [← hw6]
        clear hw6 x2 f2 HS5 HBX5 HSb HBXb hwk
        by_cases hk1 : kd = 1
        · skip
          have hkq : (kd == 1) = true := by rw [hk1]; rfl
          have HK1 := Lib.hid hk1
          clear hk1
          have x0 := blk_cell HBX6.out 0 rfl
          have x3 := blk_cell HBX6.out 3 rfl
          have hw1 := HWN.out
          go_upto_region 11 with (first
              | (go_at_call 14
                 have hh := HPK.out w6 _ HS6.out.src HS6.out.bel (by (try clear hw1); have := HLB.out; omega) ((N : Int) + 1) (by clear hw1; omega) (by clear hw1; have := HNB.out; omega)
                 refine hh.mono ?_
                 rintro e w16 ⟨el, rfl, h10, h11, hs, hc, hb⟩
                 have HS16 := Lib.hid (HS6.out.pick hc hs hb)
                 have HXe : Hid (0 ≤ el ∧ el < (N : Int) + 1) := Lib.hid ⟨h10, h11⟩
                 have HBX16 := Lib.hid (blk_ch HBX6.out hc HGX.out)
                 have x0 := blk_cell HBX16.out 0 rfl
                 have x3 := blk_cell HBX16.out 3 rfl
                 have f3 := blk_free HBX16.out 3
                 clear h10 h11 hs hc hb hh HS6 HBX6))
          obtain ⟨w17, hw17⟩ : ∃ w17, w17 = w16.setCell ⟨w4.heap.size, 3, none⟩ (.int .i64 el) := ⟨_, rfl⟩
          have HS17 : Hid (FlS w0 w g A n c (lim + 2 + 16 * k + 10) A1 k c1 ps w17) := Lib.hid (by rw [hw17]; exact HS16.out.set HLT.out HGG.out HWG.out HLE.out)
          have HBX17 : Hid (w17.heap[w4.heap.size]? = some (.cells #[.int .i64 kd, .int .i64 rg, .int .i64 (th), .int .i64 el] 49 (0, 0))) := Lib.hid (by rw [hw17]; simpa using blk_set HBX16.out 3 (.int .i64 el))
          rw [← hw17]
          clear hw17 hw1 HS16 HBX16
          clear x0 x3 f3
          go_upto_region 13 with (go_at_call 42
                                  have hh := HON.out w17 _ HS17.out.src HS17.out.bel (by (try clear hw1); have := HLB.out; omega)
                                  refine hh.mono ?_
                                  rintro e w18 ⟨b8, rfl, hs, hc, hb⟩
                                  have HS18 := Lib.hid (HS17.out.pick hc hs hb)
                                  have HBX18 := Lib.hid (blk_ch HBX17.out hc HGX.out)
                                  have x3 := blk_cell HBX18.out 3 rfl
                                  have f3 := blk_free HBX18.out 3
                                  clear hs hc hb hh)
          · skip
            obtain ⟨wf, hwf⟩ : ∃ wf, wf = w18.setCell ⟨w4.heap.size, 3, none⟩ (.int .i64 (N : Int)) := ⟨_, rfl⟩
            have HSf : Hid (FlS w0 w g A n c (lim + 2 + 16 * k + 12) A1 k c1 ps wf) := Lib.hid (by rw [hwf]; exact HS18.out.set HLT.out HGG.out HWG.out HLE.out)
            have HBXf : Hid (wf.heap[w4.heap.size]? = some (.cells #[.int .i64 kd, .int .i64 rg, .int .i64 (th), .int .i64 (N : Int)] 49 (0, 0))) := Lib.hid (by rw [hwf]; simpa using blk_set HBX18.out 3 (.int .i64 (N : Int)))
            rw [← hwf]
            clear hwf HS17 HBX17 x3 f3
            have y0 := blk_cell HBXf.out 0 rfl
            have y1 := blk_cell HBXf.out 1 rfl
            have y2 := blk_cell HBXf.out 2 rfl
            have y3 := blk_cell HBXf.out 3 rfl
            have HN0 := Lib.hid (HSf.out.below (below_new wf (.cells #[.int .i64 kd, .int .i64 rg, .int .i64 (th), .int .i64 ((N : Int))] 49)))
            have HOK9 : Hid ((ps ++ [(⟨kd, rg, th, (N : Int)⟩ : Ins)]).all (okIns (N : Int)) = true) := Lib.hid (by
              rw [List.all_append, HOK.out, Bool.true_and]
              simp only [List.all_cons, List.all_nil, Bool.and_true]
              have h1 := HXk.out; have h2 := HXr.out; have h3 := HXt.out
              exact okIns_mk (by simp only; omega) (by simp only; omega) (.inr ⟨HK1.out, by simp only; omega, by simp only; omega⟩))
            have HKN : Hid (k ≤ 1099511627776) := Lib.hid (by have := HNB.out; omega)
            have hwk := HWK.out
            go_wp2_with (at_builtin; go_must (refine wpList_app1N eltIn rfl _ _ rfl wf w.heap.size _ k _ (by rfl) HSf.out.own #[.int .i64 kd, .int .i64 rg, .int .i64 (th), .int .i64 ((N : Int))] rfl (by simp [Value.oneCell']) (by rfl) (by have h5 := HSf.out.ch.size; exact h5) (by exact HKN.out) ?_); rintro A9 c9 w9 ho9 hb9 hg9
                         have HO9 := Lib.hid ho9; have HG9 := Lib.hid hg9
                         clear ho9 hb9 hg9)
            go_roundw
            case rel =>
              clear hwk
              refine ⟨k + 1, A9, c9, _, by omega, by go_num, rfl, Lib.hid ⟨?_, ?_, ?_, ?_⟩, HOK9⟩
              · have h5 := HO9.out
                rw [show (#[.int .i64 kd, .int .i64 rg, .int .i64 (th), .int .i64 ((N : Int))] : Array Value).toList = ints (flatI [(⟨kd, rg, th, (N : Int)⟩ : Ins)]) from rfl, ints_two, ← flatI_app] at h5
                exact h5
              · exact (src_up HSf.out.src (by omega)).ch (ch_row HG9.out) (HSf.out.src.not (by decide) HSf.out.own)
              · exact fl_grow HSf.out.ch HG9.out (fun q hq => (HSf.out.own.lt q hq).1)
              · exact below_ch HSf.out.bel (ch_row HG9.out) (fun q hq => Nat.le_trans HLE.out (HSf.out.own.lt q hq).1) HSf.out.bel.size
            case measure => clear hwk; simp [intOf]; omega
          · skip
            obtain ⟨wf, hwf⟩ : ∃ wf, wf = w18 := ⟨_, rfl⟩
            rw [← hwf]
            have HSf : Hid (FlS w0 w g A n c (lim + 2 + 16 * k + 12) A1 k c1 ps wf) := Lib.hid (by rw [hwf]; exact HS18.out)
            have HBXf : Hid (wf.heap[w4.heap.size]? = some (.cells #[.int .i64 kd, .int .i64 rg, .int .i64 (th), .int .i64 el] 49 (0, 0))) := Lib.hid (by rw [hwf]; exact HBX18.out)
            clear hwf HS17 HBX17 x3 f3
            have y0 := blk_cell HBXf.out 0 rfl
            have y1 := blk_cell HBXf.out 1 rfl
            have y2 := blk_cell HBXf.out 2 rfl
            have y3 := blk_cell HBXf.out 3 rfl
            have HN0 := Lib.hid (HSf.out.below (below_new wf (.cells #[.int .i64 kd, .int .i64 rg, .int .i64 (th), .int .i64 (el)] 49)))
            have HOK9 : Hid ((ps ++ [(⟨kd, rg, th, el⟩ : Ins)]).all (okIns (N : Int)) = true) := Lib.hid (by
              rw [List.all_append, HOK.out, Bool.true_and]
              simp only [List.all_cons, List.all_nil, Bool.and_true]
              have h1 := HXk.out; have h2 := HXr.out; have h3 := HXt.out; have h4 := HXe.out
              exact okIns_mk (by simp only; omega) (by simp only; omega) (.inr ⟨HK1.out, by simp only; omega, by simp only; omega⟩))
            have HKN : Hid (k ≤ 1099511627776) := Lib.hid (by have := HNB.out; omega)
            have hwk := HWK.out
            go_wp2_with (at_builtin; go_must (refine wpList_app1N eltIn rfl _ _ rfl wf w.heap.size _ k _ (by rfl) HSf.out.own #[.int .i64 kd, .int .i64 rg, .int .i64 (th), .int .i64 (el)] rfl (by simp [Value.oneCell']) (by rfl) (by have h5 := HSf.out.ch.size; exact h5) (by exact HKN.out) ?_); rintro A9 c9 w9 ho9 hb9 hg9
                         have HO9 := Lib.hid ho9; have HG9 := Lib.hid hg9
                         clear ho9 hb9 hg9)
            go_roundw
            case rel =>
              clear hwk
              refine ⟨k + 1, A9, c9, _, by omega, by go_num, rfl, Lib.hid ⟨?_, ?_, ?_, ?_⟩, HOK9⟩
              · have h5 := HO9.out
                rw [show (#[.int .i64 kd, .int .i64 rg, .int .i64 (th), .int .i64 (el)] : Array Value).toList = ints (flatI [(⟨kd, rg, th, el⟩ : Ins)]) from rfl, ints_two, ← flatI_app] at h5
                exact h5
              · exact (src_up HSf.out.src (by omega)).ch (ch_row HG9.out) (HSf.out.src.not (by decide) HSf.out.own)
              · exact fl_grow HSf.out.ch HG9.out (fun q hq => (HSf.out.own.lt q hq).1)
              · exact below_ch HSf.out.bel (ch_row HG9.out) (fun q hq => Nat.le_trans HLE.out (HSf.out.own.lt q hq).1) HSf.out.bel.size
            case measure => clear hwk; simp [intOf]; omega
        · skip
          have hkq : (kd == 1) = false := by rw [beq_eq_false_iff_ne]; exact hk1
          have HK1 := Lib.hid hk1
          clear hk1
          have x0 := blk_cell HBX6.out 0 rfl
          obtain ⟨wf, hwf⟩ : ∃ wf, wf = w6 := ⟨_, rfl⟩
          have HSf : Hid (FlS w0 w g A n c (lim + 2 + 16 * k + 8) A1 k c1 ps wf) := Lib.hid (by rw [hwf]; exact HS6.out)
          have HBXf : Hid (wf.heap[w4.heap.size]? = some (.cells #[.int .i64 kd, .int .i64 rg, .int .i64 (th), .int .i64 0] 49 (0, 0))) := Lib.hid (by rw [hwf]; exact HBX6.out)
          go_upto_region 13 with fail
          rw [← hwf]
          clear hwf x0
          have y0 := blk_cell HBXf.out 0 rfl
          have y1 := blk_cell HBXf.out 1 rfl
          have y2 := blk_cell HBXf.out 2 rfl
          have y3 := blk_cell HBXf.out 3 rfl
          have HN0 := Lib.hid (HSf.out.below (below_new wf (.cells #[.int .i64 kd, .int .i64 rg, .int .i64 (th), .int .i64 (0)] 49)))
          have HOK9 : Hid ((ps ++ [(⟨kd, rg, th, 0⟩ : Ins)]).all (okIns (N : Int)) = true) := Lib.hid (by
            rw [List.all_append, HOK.out, Bool.true_and]
            simp only [List.all_cons, List.all_nil, Bool.and_true]
            have h1 := HXk.out; have h2 := HXr.out; have h3 := HXt.out
            exact okIns_mk (by simp only; omega) (by simp only; omega) (.inl ⟨by have := HK1.out; simp only; omega, rfl⟩))
          have HKN : Hid (k ≤ 1099511627776) := Lib.hid (by have := HNB.out; omega)
          have hwk := HWK.out
          go_wp2_with (at_builtin; go_must (refine wpList_app1N eltIn rfl _ _ rfl wf w.heap.size _ k _ (by rfl) HSf.out.own #[.int .i64 kd, .int .i64 rg, .int .i64 (th), .int .i64 (0)] rfl (by simp [Value.oneCell']) (by rfl) (by have h5 := HSf.out.ch.size; exact h5) (by exact HKN.out) ?_); rintro A9 c9 w9 ho9 hb9 hg9
                       have HO9 := Lib.hid ho9; have HG9 := Lib.hid hg9
                       clear ho9 hb9 hg9)
          go_roundw
          case rel =>
            clear hwk
            refine ⟨k + 1, A9, c9, _, by omega, by go_num, rfl, Lib.hid ⟨?_, ?_, ?_, ?_⟩, HOK9⟩
            · have h5 := HO9.out
              rw [show (#[.int .i64 kd, .int .i64 rg, .int .i64 (th), .int .i64 (0)] : Array Value).toList = ints (flatI [(⟨kd, rg, th, 0⟩ : Ins)]) from rfl, ints_two, ← flatI_app] at h5
              exact h5
            · exact (src_up HSf.out.src (by omega)).ch (ch_row HG9.out) (HSf.out.src.not (by decide) HSf.out.own)
            · exact fl_grow HSf.out.ch HG9.out (fun q hq => (HSf.out.own.lt q hq).1)
            · exact below_ch HSf.out.bel (ch_row HG9.out) (fun q hq => Nat.le_trans HLE.out (HSf.out.own.lt q hq).1) HSf.out.bel.size
          case measure => clear hwk; simp [intOf]; omega
    · skip
      have hkN : k = N := by omega
      subst hkN
      go_wp2_with fail
      go_ret
      have hl : ps.length = k := rd_lenF (ownN_rd HS0.out.own)
      exact ⟨A1, k, c1, ps, rfl, ⟨HS0.out.own, src_up HS0.out.src (by have := HNB.out; omega), HS0.out.ch, HS0.out.bel⟩, okProg_mk hl (by have := HNB.out; omega) HOK.out, HNB.out⟩
end Go.Proofs.Ytgnboemmlohahaa
