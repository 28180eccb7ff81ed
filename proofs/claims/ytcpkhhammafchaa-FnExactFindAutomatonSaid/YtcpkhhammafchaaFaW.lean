/- FindAutomaton (program): the pairs. -/
import Derived.Test.YtcpkhhammafchaaFaV
namespace Go.Proofs.Ytcpkhhammafchaa
open Go.RowKit
set_option linter.unusedVariables false
set_option linter.unusedSimpArgs false
attribute [local go_sem ↓] Go.wp_at_zero Go.wp_at_succ
/-- What the walk over all pairs leaves. -/
def PrsP (w : World) (gb gp gf sn : Nat) (rs : List Rul) (B : Nat) (e : Ending) (w' : World) : Prop :=
  (faP sn rs B = (0, [], [], 3) ∧ e = .returned (.bool true) ∧ Ch (· = gb) w w') ∨
  (faP sn rs B = (0, [], [], 5) ∧ e = .returned (.bool false) ∧ Ch (· = gb) w w') ∨
  (∃ (row : List Int) (A : Option Addr) (n c : Nat), faP sn rs B = (7, row, [], 0) ∧ e = .returned (.bool false) ∧ Ch (fun q => q = gb ∨ q = gp ∨ q = gf) w w' ∧ w'.heap[gp]? = some (.cells #[.int .i64 7, .slice A n c, .slice none 0 0] 48 (0, 0)) ∧ w'.heap[gf]? = some (.cells #[.bool true] 4 (0, 0)) ∧ w'.ownsRow w.heap.size 2 1 (.slice A n c) n (ints row))
set_option maxHeartbeats 8000000 in
set_option maxRecDepth 100000 in
theorem pairs_any (w0 w : World) (hb0 : Below w0.heap.size w0 w) (gb gm gp gf : Nat) (hgb : w0.heap.size ≤ gb) (sn B : Nat) (hB : 1 ≤ B ∧ B ≤ 20000) (hb : w.heap[gb]? = some (.cells #[.int .i64 (B : Int)] 2 (0, 0))) (hp : w.heap[gp]? = some (.cells #[.int .i64 0, .slice none 0 0, .slice none 0 0] 48 (0, 0))) (hf : w.heap[gf]? = some (.cells #[.bool false] 4 (0, 0)))
    (t : Int) (A : Option Addr) (n c : Nat) (hm : BM w gm (sn : Int) t A n c) (rs : List Rul) (hr : Rd w0 A (n * 3) (ints (flatR rs))) (hok : okM (sn : Int) t rs = true) :
    Calls Try.prog 71 #[.int .i64 (sn : Int), .func (.func 72) #[] #[.pointer (some ⟨gb, 0, none⟩), .pointer (some ⟨gm, 0, none⟩), .pointer (some ⟨gp, 0, none⟩), .pointer (some ⟨gf, 0, none⟩)]] w (PrsP w gb gp gf sn rs B) := by
  have hsn : 2 ≤ sn ∧ sn ≤ 6 := by have := (okM_all hok).1; omega
  have hgl : gb < w.heap.size := blk_lt hb
  have HBX := Lib.hid hb; have HPX := Lib.hid hp; have HFX := Lib.hid hf; have HM := Lib.hid hm; have HR := Lib.hid hr; have HOK := Lib.hid hok; have HB0 := Lib.hid hb0
  have HKP : Hid (∀ (wx : World), Ch (· = gb) w wx → Below w0.heap.size w0 wx ∧ BM wx gm (sn : Int) t A n c ∧ wx.heap[gp]? = some (.cells #[.int .i64 0, .slice none 0 0, .slice none 0 0] 48 (0, 0)) ∧ wx.heap[gf]? = some (.cells #[.bool false] 4 (0, 0))) := Lib.hid (fun wx hc => ⟨below_ch hb0 hc (fun q e => by have e2 : q = gb := e; omega) hb0.size, blk_ch hm hc (fun e => blk_ne hm hb (by decide) e), blk_ch hp hc (fun e => blk_ne hp hb (by decide) e), blk_ch hf hc (fun e => blk_ne hf hb (by decide) e)⟩)
  clear hb0 hb hp hf hm hr hok
  go_enter Try.func71, Try.ntmps71
  go_wp2_with fail
  go_loopw [5] (fun q wr => ∃ st cur : Nat, 1 ≤ st ∧ st ≤ 4 ∧ q = .int .i64 st ∧ Hid (cur = offA sn st) ∧ Hid (missA sn rs cur) ∧ cur ≤ B ∧ Hid (Ch (· = gb) w wr) ∧ Hid (wr.heap[gb]? = some (.cells #[.int .i64 ((B : Int) - (cur : Int))] 2 (0, 0)))) (fun q _ => 4 - (intOf q).toNat)
  case atStart => exact ⟨1, 0, by omega, by omega, by go_num, Lib.hid rfl, Lib.hid (miss_zero _ _), by omega, Lib.hid (Ch.refl _ _), Lib.hid (by rw [show (B : Int) - ((0 : Nat) : Int) = (B : Int) by omega]; exact HBX.out)⟩
  case round =>
    as_aux_lemma =>
    obtain ⟨st, cur, hs1, hs4, rfl, HC, HMI, hcb, HC1, HG1⟩ := hrel
    obtain ⟨wa, rfl⟩ : ∃ v, v = wr := ⟨_, rfl⟩
    by_cases h3 : st ≤ 3
    · as_aux_lemma =>
      have h3i : (st : Int) ≤ 3 := by omega
      obtain ⟨N, hN⟩ : ∃ N, N = nA st sn := ⟨_, rfl⟩
      have HN := Lib.hid hN
      have hNB : 1 ≤ N ∧ N ≤ 129140163 := by rw [hN]; exact nA_le ⟨hs1, h3⟩ hsn
      obtain ⟨nn, hnn⟩ : ∃ nn, nn = st * sn := ⟨_, rfl⟩
      have HNN := Lib.hid hnn
      have hn18 : nn ≤ 1000 := by rw [hnn]; exact Nat.le_trans (Nat.mul_le_mul h3 hsn.2) (by omega)
      clear hN hnn
      go_wp2_with fail
      go_loopw [6] (fun q wr => ∃ i cu : Nat, i ≤ N ∧ q = .int .i64 i ∧ Hid (cu = offA sn st + i * N) ∧ Hid (missA sn rs cu) ∧ cu ≤ B ∧ Hid (Ch (· = gb) w wr) ∧ Hid (wr.heap[gb]? = some (.cells #[.int .i64 ((B : Int) - (cu : Int))] 2 (0, 0)))) (fun q _ => N + 1 - (intOf q).toNat)
      case atStart => exact ⟨0, cur, by omega, by go_num, Lib.hid (by rw [HC.out]; omega), HMI, hcb, HC1, HG1⟩
      case round =>
        as_aux_lemma =>
        clear HC HMI hcb HC1 HG1
        obtain ⟨i, cu, hi, rfl, HC, HMI, hcb, HC1, HG1⟩ := hrel
        obtain ⟨wb, rfl⟩ : ∃ v, v = wr := ⟨_, rfl⟩
        have HL := dfaAt_any wb st sn nn i ⟨hs1, h3⟩ hsn HNN.out.symm (by omega)
        by_cases hlt : i < N
        · as_aux_lemma =>
          have HLT := Lib.hid hlt
          have HDP : Hid (∀ e w', DfP wb st nn i e w' → ∃ g : Nat, e = .returned (.tuple #[dfV (st : Int) (some ⟨g, 0, none⟩) nn nn, .bool true]) ∧ w'.ownsRow w.heap.size 2 1 (.slice (some ⟨g, 0, none⟩) nn nn) nn (ints (rowA st nn i)) ∧ Below wb.heap.size wb w') := Lib.hid (by
            rintro e w' ⟨g, rfl, h1, h2⟩
            refine ⟨g, ?_, ownN_base h1 HC1.out.size, h2⟩
            rw [decide_eq_true (by have h4 := HN.out; unfold nA at h4; rw [HNN.out, ← h4]; exact hlt)])
          replace HL := Lib.hid (HL.mono HDP.out)
          clear HDP
          go_upto_region 8 with (go_at_call 114
                                 refine HL.out.mono ?_
                                 rintro e w2 ⟨g, rfl, hr2, hb2⟩)
          obtain ⟨w3, hw3⟩ : ∃ w3, w3 = w2.alloc (.cells #[.int .i64 (st : Int), .slice (some ⟨g, 0, none⟩) nn nn] 55) := ⟨_, rfl⟩
          have hb23 : Below w2.heap.size w2 w3 := by rw [hw3]; exact below_new _ _
          have HD9 : Hid (BD w3 w2.heap.size (st : Int) (some ⟨g, 0, none⟩) nn nn) := Lib.hid (by rw [hw3]; exact box_new w2 _ _)
          have HR9 := Lib.hid (ownN_below hr2 hb23 (Nat.le_refl _))
          have HB13 : Hid (Below wb.heap.size wb w3) := Lib.hid (bqc hb23 hb2)
          have HC3 : Hid (Ch (· = gb) w w3) := Lib.hid (HC1.out.trans (ch_below HB13.out))
          have HG3 := Lib.hid (blk_bel HG1.out HB13.out)
          have HN9 : Hid (gb ≠ w2.heap.size) := Lib.hid (by have h1 := HC1.out.size; have h2 := hb2.size; omega)
          rw [← hw3]
          clear hw3 hr2 hb2 hb23
          go_wp2_with fail
          go_loopw [9] (fun q wx => ∃ j cv : Nat, j ≤ N ∧ q = .int .i64 j ∧ Hid (cv = offA sn st + i * N + j) ∧ Hid (missA sn rs cv) ∧ cv ≤ B ∧ Hid (Ch (· = gb) w3 wx) ∧ Hid (wx.heap[gb]? = some (.cells #[.int .i64 ((B : Int) - (cv : Int))] 2 (0, 0)))) (fun q _ => N + 1 - (intOf q).toNat)
          case atStart => exact ⟨0, cu, by omega, by go_num, Lib.hid (by rw [HC.out]; omega), HMI, hcb, Lib.hid (Ch.refl _ _), HG3⟩
          case round =>
            as_aux_lemma =>
            clear HC HMI hcb
            obtain ⟨j, cv, hj, rfl, HC, HMI, hcb, HCX, HGX⟩ := hrel
            obtain ⟨wd, rfl⟩ : ∃ v, v = wr := ⟨_, rfl⟩
            have HL2 := dfaAt_any wd st sn nn j ⟨hs1, h3⟩ hsn HNN.out.symm (by omega)
            have HCW : Hid (Ch (· = gb) w wd) := Lib.hid (HC3.out.trans HCX.out)
            by_cases hjt : j < N
            · as_aux_lemma =>
              have HJT := Lib.hid hjt
              have HDP : Hid (∀ e w', DfP wd st nn j e w' → ∃ g : Nat, e = .returned (.tuple #[dfV (st : Int) (some ⟨g, 0, none⟩) nn nn, .bool true]) ∧ w'.ownsRow w.heap.size 2 1 (.slice (some ⟨g, 0, none⟩) nn nn) nn (ints (rowA st nn j)) ∧ Below wd.heap.size wd w') := Lib.hid (by
                rintro e w' ⟨g, rfl, h1, h2⟩
                refine ⟨g, ?_, ownN_base h1 HCW.out.size, h2⟩
                rw [decide_eq_true (by have h4 := HN.out; unfold nA at h4; rw [HNN.out, ← h4]; exact hjt)])
              replace HL2 := Lib.hid (HL2.mono HDP.out)
              clear HDP
              go_upto_region 12 with (go_at_call 114
                                      refine HL2.out.mono ?_
                                      rintro e w4 ⟨g2, rfl, hr4, hb4⟩)
              obtain ⟨w5, hw5⟩ : ∃ w5, w5 = w4.alloc (.cells #[.int .i64 (st : Int), .slice (some ⟨g2, 0, none⟩) nn nn] 55) := ⟨_, rfl⟩
              have hb45 : Below w4.heap.size w4 w5 := by rw [hw5]; exact below_new _ _
              have hd12 : BD w5 w4.heap.size (st : Int) (some ⟨g2, 0, none⟩) nn nn := by rw [hw5]; exact box_new w4 _ _
              have HR12 := Lib.hid (ownN_below hr4 hb45 (Nat.le_refl _))
              have HB5 : Hid (Below wd.heap.size wd w5) := Lib.hid (bqc hb45 hb4)
              have HC35 : Hid (Ch (· = gb) w3 w5) := Lib.hid (HCX.out.trans (ch_below HB5.out))
              have HC5 : Hid (Ch (· = gb) w w5) := Lib.hid (HCW.out.trans (ch_below HB5.out))
              have hd7 : BD w5 w2.heap.size (st : Int) (some ⟨g, 0, none⟩) nn nn := blk_ch HD9.out HC35.out (fun e => HN9.out e.symm)
              obtain ⟨l0, l1⟩ := hd7.cells
              obtain ⟨r0, r1⟩ := hd12.cells
              obtain ⟨k1, k2, k3, k4⟩ := HKP.out w5 HC5.out
              have ho9 := own_ch HR9.out HC35.out (fun q hq e => by have h5 := (HR9.out.lt q hq).1; have e2 : q = gb := e; omega)
              have HV := faVis_any w0 w5 k1 gb gm gp gf hgb ((B : Int) - (cv : Int)) (by omega) (blk_bel HGX.out HB5.out) k3 k4 (sn : Int) t A n c k2 rs HR.out HOK.out w.heap.size hgl (st : Int) _ nn nn (rowA st nn i) ho9 (by rw [HNN.out]; exact row_ok ⟨hs1, h3⟩ hsn) hn18 (st : Int) _ nn nn (rowA st nn j) HR12.out (by rw [HNN.out]; exact row_ok ⟨hs1, h3⟩ hsn) hn18
              replace HV := Lib.hid HV
              rw [← hw5]
              clear hw5 hr4 hb4 hb45 hd12 hd7 k1 k2 k3 k4 ho9
              go_wp2_with (go_at_call 72
                           refine HV.out.mono ?_
                           rintro e w6 (⟨hz, rfl, hb6⟩ | ⟨hz, hav, rfl, hc6, hg6⟩ | ⟨hz, hav, rfl, A6, n6, c6, hc6, hp6, hf6, ho6⟩))
              · as_aux_lemma =>
                have HO : Hid (faP sn rs B = (0, [], [], 5)) := Lib.hid (out5 (st := st) (i := i) (j := j) (by rw [← HN.out, ← HC.out]; omega) ⟨hs1, h3⟩ (by rw [← HN.out]; exact HLT.out) (by rw [← HN.out]; exact HJT.out) (by rw [show B = cv by omega]; exact HMI.out))
                have HC6 : Hid (Ch (· = gb) w w6) := Lib.hid (HC5.out.trans (ch_below hb6))
                clear hz hb6 l0 l1 r0 r1
                go_wp2_with fail
                go_ret
                exact .inr (.inl ⟨HO.out, rfl, HC6.out⟩)
              · as_aux_lemma =>
                have HAV : Hid (avN sn rs st i j = false) := Lib.hid (by rw [← hav, HNN.out]; rfl)
                have HC6 : Hid (Ch (· = gb) w3 w6) := Lib.hid (HC35.out.trans hc6)
                have HG6 := Lib.hid hg6
                have hcv : cv < B := by omega
                clear hz hav hc6 hg6 l0 l1 r0 r1
                go_wp2_with fail
                go_roundw
                case rel => exact ⟨j + 1, cv + 1, HJT.out, by go_num, Lib.hid (by rw [HC.out]; omega), Lib.hid (by
                  have h1 := HMI.out
                  have h2 := HC.out
                  rw [HN.out] at h2
                  rw [h2] at h1
                  rw [h2]
                  exact miss_step h1 hs1 (by rw [← HN.out]; exact HLT.out) (by rw [← HN.out]; exact HJT.out) HAV.out), hcv, HC6, Lib.hid (by rw [show (B : Int) - ((cv + 1 : Nat) : Int) = (B : Int) - (cv : Int) - 1 by omega]; exact HG6.out)⟩
                case measure => have := HJT.out; simp [intOf]; omega
              · as_aux_lemma =>
                have HAV : Hid (avN sn rs st i j = true) := Lib.hid (by rw [← hav, HNN.out]; rfl)
                have HO : Hid (faP sn rs B = (7, prN sn st i j, [], 0)) := Lib.hid (found7 (by rw [← HN.out]; exact HC.out) ⟨hs1, h3⟩ (by rw [← HN.out]; exact HLT.out) (by rw [← HN.out]; exact HJT.out) HMI.out (by omega) HAV.out)
                have HC6 : Hid (Ch (fun q => q = gb ∨ q = gp ∨ q = gf) w w6) := Lib.hid ((HC5.out.mono (fun q e => .inl e)).trans hc6)
                have HP6 := Lib.hid hp6; have HF6 := Lib.hid hf6
                have HO6 : Hid (w6.ownsRow w.heap.size 2 1 (.slice A6 n6 c6) n6 (ints (prN sn st i j))) := Lib.hid (by
                  have h1 := ownN_base ho6 HC5.out.size
                  rw [HNN.out] at h1
                  exact h1)
                clear hz hav hc6 hp6 hf6 ho6 l0 l1 r0 r1
                go_wp2_with fail
                go_ret
                exact .inr (.inr ⟨_, A6, n6, c6, HO.out, rfl, HC6.out, HP6.out, HF6.out, HO6.out⟩)
            · as_aux_lemma =>
              have HDP : Hid (∀ e w', DfP wd st nn j e w' → ∃ g : Nat, e = .returned (.tuple #[dfV (st : Int) (some ⟨g, 0, none⟩) nn nn, .bool false]) ∧ Below wd.heap.size wd w') := Lib.hid (by
                rintro e w' ⟨g, rfl, h1, h2⟩
                refine ⟨g, ?_, h2⟩
                rw [decide_eq_false (by have h4 := HN.out; unfold nA at h4; rw [HNN.out, ← h4]; exact hjt)])
              replace HL2 := Lib.hid (HL2.mono HDP.out)
              clear HDP
              have HJE : Hid (j = N) := Lib.hid (by omega)
              go_wp2_with (go_at_call 114
                           refine HL2.out.mono ?_
                           rintro e w4 ⟨g2, rfl, hb4⟩
                           have HB4 := Lib.hid hb4
                           clear hb4)
              go_roundw
              case rel => exact ⟨i + 1, cv, HLT.out, by go_num, Lib.hid (by rw [HC.out, HJE.out, Nat.add_mul]; omega), HMI, hcb, Lib.hid (HCW.out.trans (ch_below (bqa HB4.out))), Lib.hid (blk_bel HGX.out (bqa HB4.out))⟩
              case measure => have := HLT.out; simp [intOf]; omega
        · as_aux_lemma =>
          have HDP : Hid (∀ e w', DfP wb st nn i e w' → ∃ g : Nat, e = .returned (.tuple #[dfV (st : Int) (some ⟨g, 0, none⟩) nn nn, .bool false]) ∧ Below wb.heap.size wb w') := Lib.hid (by
            rintro e w' ⟨g, rfl, h1, h2⟩
            refine ⟨g, ?_, h2⟩
            rw [decide_eq_false (by have h4 := HN.out; unfold nA at h4; rw [HNN.out, ← h4]; exact hlt)])
          replace HL := Lib.hid (HL.mono HDP.out)
          clear HDP
          have HIE : Hid (i = N) := Lib.hid (by omega)
          go_wp2_with (go_at_call 114
                       refine HL.out.mono ?_
                       rintro e w4 ⟨g2, rfl, hb4⟩
                       have HB4 := Lib.hid hb4
                       clear hb4)
          go_roundw
          case rel => exact ⟨st + 1, cu, by omega, by omega, by go_num, Lib.hid (by rw [HC.out, HIE.out, offA_next hs1, HN.out]), HMI, hcb, Lib.hid (HC1.out.trans (ch_below (bqa HB4.out))), Lib.hid (blk_bel HG1.out (bqa HB4.out))⟩
          case measure => simp [intOf]; omega
    · as_aux_lemma =>
      have h3i : ¬ (st : Int) ≤ 3 := by omega
      obtain rfl : st = 4 := by omega
      have HO : Hid (faP sn rs B = (0, [], [], 3)) := Lib.hid (none3 (by rw [← HC.out]; exact HMI.out) (by rw [← HC.out]; exact hcb))
      go_wp2_with fail
      go_ret
      exact .inl ⟨HO.out, rfl, HC1.out⟩
end Go.Proofs.Ytcpkhhammafchaa
