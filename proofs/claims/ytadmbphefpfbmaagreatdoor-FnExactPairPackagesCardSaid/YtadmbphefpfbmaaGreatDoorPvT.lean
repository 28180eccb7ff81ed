/- A program with one variable (reference): l23One. -/
import Derived.Test.YtadmbphefpfbmaaGreatDoorPvL
import Derived.Deep.RegionLaw
namespace Go.Proofs.YtadmbphefpfbmaaGreatDoor
open Go.RowKit
set_option linter.unusedVariables false
set_option linter.unusedSimpArgs false
attribute [local go_sem ↓] Go.wp_at_zero Go.wp_at_succ
theorem bqd {B : Nat} {a V : World} (h : Below B a V) : Below B a V.drew := below_drew1 h
theorem one_step {cs : List Cmd} {i N : Nat} {x : Cmd} (h : cs[i]? = some x) : (cs.take (i + 1)).map (oneC N) = (cs.take i).map (oneC N) ++ [oneC N x] := by
  rw [List.take_add_one, h]; simp
theorem OutC.one {w : World} {A : Option Addr} {n c b' : Nat} {v : Int} {es : List El} (hv : w.ownsRow b' 110 2 (.slice A n c) n (ints (eNums es))) (hn : n ≤ 1000000000) : OutC (w.alloc (.cells #[.int .i64 0, .int .i64 v, .int .i64 0, .slice A n c] 44)) w.heap.size (some ⟨w.heap.size, 0, none⟩) 1 1 [⟨0, v, 0, es⟩] := by
  have hb := below_new w (.cells #[.int .i64 0, .int .i64 v, .int .i64 0, .slice A n c] 44)
  have hv' := ownN_below hv hb (Nat.le_refl _)
  exact ⟨[.slice A n c], wh_lit w ⟨0, v, 0, es⟩ (.slice A n c), (InnR.snoc (us := []) (cs := []) (x := ⟨0, v, 0, es⟩) ⟨rfl, by simp⟩ hn (ownN_cap hv') (ownN_base hv' (Nat.zero_le _)))⟩
theorem OutC.base {w : World} {b b' n c : Nat} {A : Option Addr} {cs : List Cmd} (h : OutC w b A n c cs) (hb : b' ≤ b) : OutC w b' A n c cs := by
  obtain ⟨us, h1, h2⟩ := h
  exact ⟨us, ownN_base h1 hb, h2⟩
/-- What a program of one variable leaves. -/
def OneP (w : World) (cs : List Cmd) (e : Ending) (w' : World) : Prop := ∃ A m c, e = .returned (.slice A m c) ∧ OutC w' w.heap.size A m c cs ∧ Below w.heap.size w w'
set_option maxHeartbeats 16000000 in
set_option maxRecDepth 100000 in
theorem l23One_any (w : World) (A : Option Addr) (n c : Nat) (cs : List Cmd) (hr : RdC w A n cs) (hok : okC cs = true) (hn : n ≤ 80) (N : Nat) (hN : topV 0 (varsL cs) = (N : Int)) (hN2 : 2 ≤ N) (hN6 : N ≤ 6) : Calls Tryz.prog 84 #[.slice A n c] w (OneP w (oneN N cs)) := by
  have HL : Hid (cs.length = n) := Lib.hid hr.len
  have HM := Lib.hid (okC_mem _ (Nat.le_refl _) hok)
  have hmany := l23Many_any w A n c cs hr hok (by omega)
  rw [hN] at hmany
  have HMN := Lib.hid hmany
  have HR := Lib.hid hr
  have HN : Hid (2 ≤ N ∧ N ≤ 6) := Lib.hid ⟨hN2, hN6⟩
  have HNN := Lib.hid hn
  have g1 : ¬ (N : Int) ≤ 1 := by omega
  clear hr hok hmany hN hN2 hN6 hn
  go_enter Tryz.func84, Tryz.ntmps84
  go_upto_region 4 with (go_at_call 124
                         refine HMN.out.mono ?_
                         rintro e w1 ⟨rfl, hb1⟩
                         have HB1 := Lib.hid hb1
                         clear hb1)
  clear g1
  obtain ⟨w2, hw2⟩ : ∃ w2, w2 = w1.alloc (.cells #[.int .i64 1, .int .i64 0] 110) := ⟨_, rfl⟩
  obtain ⟨w3, hw3⟩ : ∃ w3, w3 = w2.alloc (.cells #[.slice (some ⟨w1.heap.size, 0, none⟩) 1 1] 42) := ⟨_, rfl⟩
  have hs2 : w2.heap.size = w1.heap.size + 1 := by rw [hw2]; simp
  have hb2 : Below w1.heap.size w1 w2 := by rw [hw2]; exact below_new _ _
  have hb3 : Below w2.heap.size w2 w3 := by rw [hw3]; exact below_new _ _
  have HB3 : Hid (Below w.heap.size w w3) := Lib.hid (bqcP (hb2.trans (hb3.mono hb2.size)) HB1.out)
  have HX3 : Hid (LX w3 w.heap.size (some ⟨w1.heap.size + 1, 0, none⟩) 1 1 ((startE N).take 1)) := Lib.hid (by
    rw [start_one (by have := HN.out; omega)]
    have hv : w3.ownsRow w1.heap.size 110 2 (.slice (some ⟨w1.heap.size, 0, none⟩) 1 1) 1 (ints (eNums [(1, 0)])) := by
      have h := lit_elG w1 1 0
      rw [← hw2] at h
      exact ownN_below h hb3 (Nat.le_refl _)
    refine ⟨[.slice (some ⟨w1.heap.size, 0, none⟩) 1 1], ?_, InnX.snoc (us := []) (es := []) ⟨rfl, by simp⟩ (by omega) (by omega) (ownN_base hv (Nat.zero_le _))⟩
    have h := own_lit w2 #[.slice (some ⟨w1.heap.size, 0, none⟩) 1 1] 1 42 rfl (by omega)
    rw [← hw3, hs2] at h
    exact own_base h (by have := HB1.out.size; omega))
  have HW3 : w3 = (w1.alloc (.cells #[.int .i64 1, .int .i64 0] 110)).alloc (.cells #[.slice (some ⟨w1.heap.size, 0, none⟩) 1 1] 42) := by rw [hw3, hw2]
  clear hw2 hw3 hs2 hb2 hb3
  go_upto_region 5 with fail
  rw [← HW3]
  clear HW3
  go_wp2_with fail
  go_loopw [4, 5] (fun v u wr => ∃ (k : Nat) (A5 : Option Addr) (c5 : Nat), 1 ≤ k ∧ k ≤ N ∧ u = .int .i64 (k : Int) ∧ v = .slice A5 k c5 ∧ Hid (LX wr w.heap.size A5 k c5 ((startE N).take k)) ∧ Hid (Below w.heap.size w wr)) (fun _ u _ => N - (intOf u).toNat)
  case atStart => exact ⟨1, _, _, Nat.le_refl _, by have := HN.out; omega, rfl, rfl, HX3, HB3⟩
  case round =>
    clear HX3 HB3
    obtain ⟨k, A5, c5, hk1, hk, rfl, rfl, HX, HB⟩ := hrel
    by_cases hlt : k < N
    · have hlt' : (k : Int) < (N : Int) := by omega
      have hn6 := HN.out.2
      obtain ⟨wa, hwa⟩ : ∃ wa, wa = wr.alloc (.cells #[.int .i64 0, .int .i64 0] 110) := ⟨_, rfl⟩
      have hba : Below wr.heap.size wr wa := by rw [hwa]; exact below_new _ _
      have hva : wa.ownsRow wr.heap.size 110 2 (.slice (some ⟨wr.heap.size, 0, none⟩) 1 1) 1 (ints (eNums [(0, 0)])) := by rw [hwa]; exact lit_elG wr 0 0
      obtain ⟨us, h1, h2⟩ := HX.out.below hba
      have HO := Lib.hid h1; have HI := Lib.hid h2; have HV := Lib.hid hva
      have HBA : Hid (Below w.heap.size w wa) := Lib.hid (bqcP hba HB.out)
      have HST := Lib.hid (start_step hk1 hlt)
      have HWA := Lib.hid hwa
      have HSA : Hid (wa.heap.size = wr.heap.size + 1) := Lib.hid (by rw [hwa]; simp)
      clear hba hva h1 h2 hwa
      go_wp2_with (at_builtin
                   rw [← HWA.out]
                   go_must (refine wpList_app1g eltXS rfl _ _ rfl wa w.heap.size (.slice A5 k c5) k us (by rfl) HO.out (.slice (some ⟨wr.heap.size, 0, none⟩) 1 1) (by rfl) (by rw [HSA.out]; rfl) HBA.out.size (by omega) ?_); rintro A6 c6 w6 ho6 hb6 hg6
                   have HX6 : Hid (LX w6 w.heap.size A6 (k + 1) c6 ((startE N).take (k + 1))) := Lib.hid (by rw [HST.out]; exact LX.snoc HO.out HI.out HV.out (by omega) ho6 hg6)
                   have HB6 : Hid (Below w.heap.size w w6) := Lib.hid (HBA.out.trans hb6)
                   clear ho6 hb6 hg6)
      go_roundw
      case rel => exact ⟨k + 1, A6, c6, by omega, by omega, by go_num, rfl, HX6, HB6⟩
      case measure => simp [intOf]; omega
    · obtain rfl : k = N := by omega
      have HX4 : Hid (LX wr w.heap.size A5 k c5 (startE k)) := Lib.hid (by have h := HX.out; rw [List.take_of_length_le (by rw [startE_len]; omega)] at h; exact h)
      have HPK := Lib.hid (l23Packed_any wr A5 k c5 (startE k) HX4.out.rdy.rdx (by have := HN.out; omega) (by have := start_sum k; have := HN.out; omega))
      have HPL : Hid ((packE (startE k)).length ≤ 1000) := Lib.hid (by have h1 := packE_len (startE k); have h2 := start_sum k; rw [startE_len] at h1; have := HN.out; omega)
      clear HX HMN
      go_upto_region 10 with (first
        | (go_at_call 125
           refine HPK.out.mono ?_
           rintro e w5 ⟨A6, n6, c6, rfl, ho6, hb6⟩
           have HV6 := Lib.hid ho6
           have HB6 : Hid (Below w.heap.size w w5) := Lib.hid (bqcP hb6 HB.out)
           have HN6 : Hid (n6 ≤ 1000) := Lib.hid (by have := own_el ho6; have := HPL.out; omega)
           clear ho6 hb6)
        | (go_at_call 43
           refine (l22Set_any w5 0 A6 n6 c6).mono ?_
           rintro e w6 ⟨rfl, hb⟩
           have HV7 := Lib.hid (ownN_below HV6.out hb (Nat.le_refl _))
           have HB7 : Hid (Below w.heap.size w w6) := Lib.hid (bqcP hb HB6.out)
           clear hb))
      obtain ⟨w7, hw7⟩ : ∃ w7, w7 = w6.alloc (.cells #[.int .i64 0, .int .i64 0, .int .i64 0, .slice A6 n6 c6] 44) := ⟨_, rfl⟩
      have HO7 : Hid (OutC w7 w.heap.size (some ⟨w6.heap.size, 0, none⟩) 1 1 [⟨0, 0, 0, packE (startE k)⟩]) := Lib.hid (by rw [hw7]; exact (OutC.one HV7.out (by have := HN6.out; omega)).base HB7.out.size)
      have HB8 : Hid (Below w.heap.size w w7) := Lib.hid (by rw [hw7]; exact bqcP (below_new _ _) HB7.out)
      clear HV6 HV7 HB6 HB7 HN6 HPK HX4 HB
      rw [← hw7]
      clear hw7
      obtain ⟨P0, hP0⟩ : ∃ P0, P0 = packE (startE k) := ⟨_, rfl⟩
      rw [← hP0] at HO7
      have HP0 := Lib.hid hP0
      clear hP0
      go_wp2_with fail
      go_loopw [6, 7] (fun v u wr => ∃ (i : Nat) (A9 : Option Addr) (c9 : Nat), i ≤ n ∧ u = .int .i64 (i : Int) ∧ v = .slice A9 (i + 1) c9 ∧ Hid (OutC wr w.heap.size A9 (i + 1) c9 (⟨0, 0, 0, P0⟩ :: (cs.take i).map (oneC k))) ∧ Hid (Below w.heap.size w wr)) (fun _ u _ => n - (intOf u).toNat)
      case atStart => exact ⟨0, _, _, Nat.zero_le _, rfl, rfl, HO7, HB8⟩
      case round =>
        as_aux_lemma =>
        clear HO7 HB8
        obtain ⟨i, A9, c9, hi, rfl, rfl, HO9, HB9⟩ := hrel
        by_cases hlt : i < n
        · obtain ⟨x, hx⟩ := get_some (xs := cs) (k := i) (by rw [HL.out]; exact hlt)
          obtain ⟨hwf, hkv⟩ := HM.out x (List.mem_of_getElem? hx)
          obtain ⟨b, off, A', n', c', rfl, hbl, q0, q1, q2, q3, hn', hc', hre⟩ := HR.out.at_ hx
          have HST := Lib.hid (one_step (N := k) hx)
          have HWF := Lib.hid hwf
          have HRE := Lib.hid hre
          have HNL : Hid (x.e.length = n' ∧ n' ≤ 40) := Lib.hid ⟨rdE_len hre, by have := rdE_len hre; have := (wfE_mem hwf).1; omega⟩
          have HQ := Lib.hid (And.intro q0 (And.intro q1 (And.intro q2 q3)))
          have HBL := Lib.hid hbl
          have HBW : Hid (b < wr.heap.size) := Lib.hid (by have := HB9.out.size; omega)
          have HROW : Hid (sumL (rowE k x) ≤ 1800) := Lib.hid (row_sum HN.out.2 hwf)
          have HMV : Hid ((moveE k x.e).length ≤ 300) := Lib.hid (by have := moveE_len k x.e (fun y hy => ((wfE_mem hwf).2 y hy).2.2.2); have := (wfE_mem hwf).1; omega)
          have HPKL : Hid ((packE (rowE k x)).length ≤ 2000) := Lib.hid (by have h1 := packE_len (rowE k x); have h2 := row_sum HN.out.2 hwf; rw [rowE_len] at h1; have := HN.out; omega)
          have hi0 : (0 : Int) ≤ (i : Int) := by omega
          have hi1 : (i : Int) < (n : Int) := by omega
          have hn80 := HNN.out
          clear hx hwf hn' hc' hre q0 q1 q2 q3 hbl
          have HQW := Lib.hid (fun (wx : World) (hb : Below w.heap.size w wx) => (show wx.cell? ⟨b, off + i * 4, none⟩ = some (.int .i64 x.k) ∧ wx.cell? ⟨b, off + i * 4 + 1, none⟩ = some (.int .i64 x.v) ∧ wx.cell? ⟨b, off + i * 4 + 2, none⟩ = some (.int .i64 x.l) ∧ wx.cell? ⟨b, off + i * 4 + 3, none⟩ = some (.slice A' n' c') from ⟨(hb.cell (p := ⟨b, off + i * 4, none⟩) HBL.out).trans HQ.out.1, (hb.cell (p := ⟨b, off + i * 4 + 1, none⟩) HBL.out).trans HQ.out.2.1, (hb.cell (p := ⟨b, off + i * 4 + 2, none⟩) HBL.out).trans HQ.out.2.2.1, (hb.cell (p := ⟨b, off + i * 4 + 3, none⟩) HBL.out).trans HQ.out.2.2.2⟩))
          obtain ⟨xk, xv, xl, xe⟩ := x
          simp only at HQW HRE HWF HNL hkv HMV
          have HMC : Hid (∀ wx, Below w.heap.size w wx → Calls Tryz.prog 126 #[.slice A' n' c', .int .i64 (k : Int)] wx (RetE wx (moveE k xe))) := Lib.hid (fun wx hb => l23Moved_any wx A' n' c' k xe (HRE.out.below hb (Nat.le_refl _)) (by have := HNL.out; omega) (by have := HN.out; omega) (fun e he => ⟨((wfE_mem HWF.out).2 e he).2.2.1, ((wfE_mem HWF.out).2 e he).2.2.2⟩))
          have hB0 := below_new wr (.cells #[.int .i64 0, .int .i64 0, .int .i64 0, .slice none 0 0] 44)
          obtain ⟨q0, q1, q2, q3⟩ := HQW.out wr HB9.out
          obtain ⟨q0', q1', q2', q3'⟩ := HQW.out _ (bqcP hB0 HB9.out)
          have HB0 := Lib.hid hB0
          have ZZ := Lib.hid (box_new wr #[.int .i64 0, .int .i64 0, .int .i64 0, .slice none 0 0] 44)
          clear hB0
          go_upto_region 13 with fail
          go_cut [8] from 40 to 57 (fun s8 wx => ∃ (g8 : Nat) (A8 : Option Addr) (n8 c8 : Nat), s8 = .pointer (some ⟨g8, 0, none⟩) ∧ wx.heap[g8]? = some (.cells #[.int .i64 xk, .int .i64 0, .int .i64 xl, .slice A8 n8 c8] 44 (0, 0)) ∧ wr.heap.size ≤ g8 ∧ wx.ownsRow wr.heap.size 110 2 (.slice A8 n8 c8) n8 (ints (eNums (moveE k xe))) ∧ Below wr.heap.size wr wx)
          case first =>
            as_aux_lemma =>
            (first | (go_region_held3 (fun w' => w'.cell? ⟨b, off + i * 4, none⟩ = some (.int .i64 xk) ∧ w'.cell? ⟨b, off + i * 4 + 2, none⟩ = some (.int .i64 xl) ∧ w'.cell? ⟨b, off + i * 4 + 3, none⟩ = some (.slice A' n' c')) (first | exact ⟨q0, q2, q3⟩ | exact ⟨q0', q2', q3'⟩ | exact ⟨r0, r2, r3⟩ | exact ⟨r0', r2', r3'⟩ | exact ⟨t0, t2, t3⟩ | exact ⟨t0', t2', t3'⟩) (first
              | (go_at_call 126
                 refine (HMC.out _ (by first | exact HB9.out | exact bqd HB9.out | exact bqcP HB0.out HB9.out | exact bqd (bqcP HB0.out HB9.out))).mono ?_
                 rintro e w1 ⟨A8, n8, c8, rfl, ho8, hb1⟩
                 (try replace hb1 := und1 hb1)
                 have HB1 : Hid (Below wr.heap.size wr w1) := Lib.hid (by first | exact hb1 | exact HB0.out.trans (hb1.mono (by simp)))
                 have HV8 : Hid (w1.ownsRow wr.heap.size 110 2 (.slice A8 n8 c8) n8 (ints (eNums (moveE k xe)))) := Lib.hid (ownN_base ho8 (by first | exact Nat.le_refl _ | exact HB0.out.size))
                 have HB1a : Hid (Below wr.heap.size wr (w1.alloc (.cells #[.int .i64 0, .int .i64 0, .int .i64 0, .slice none 0 0] 44))) := Lib.hid (HB1.out.alloc HB1.out.size _)
                 obtain ⟨r0, r1, r2, r3⟩ := HQW.out w1 (bqcP HB1.out HB9.out)
                 obtain ⟨r0', r1', r2', r3'⟩ := HQW.out _ (bqcP HB1a.out HB9.out)
                 (try (have hxz := blk_bel ZZ.out hb1; have y0 := blk_cell hxz 0 rfl; have y1 := blk_cell hxz 1 rfl; have y2 := blk_cell hxz 2 rfl; have y3 := blk_cell hxz 3 rfl; have f0 := blk_free hxz 0; have f1 := blk_free hxz 1; have f2 := blk_free hxz 2; have f3 := blk_free hxz 3))
                 obtain ⟨t0, t1, t2, t3⟩ := HQW.out _ (below_ch (bqcP HB1.out HB9.out) ((((ch_set w1 wr.heap.size 0 (.int .i64 xk)).trans (ch_set _ wr.heap.size 1 (.int .i64 0))).trans (ch_set _ wr.heap.size 2 (.int .i64 xl))).trans (ch_set _ wr.heap.size 3 (.slice A8 n8 c8))) (fun q e => by rw [show q = wr.heap.size from e]; exact HB9.out.size) (bqcP HB1.out HB9.out).size)
                 have HB1b : Hid (Below wr.heap.size wr (w1.alloc (.cells #[.int .i64 xk, .int .i64 0, .int .i64 xl, .slice A8 n8 c8] 44))) := Lib.hid (HB1.out.alloc HB1.out.size _)
                 obtain ⟨t0', t1', t2', t3'⟩ := HQW.out _ (bqcP HB1b.out HB9.out)
                 have HZ1 : Hid (wr.heap.size ≤ w1.heap.size) := Lib.hid HB1.out.size))) | fail)
            all_goals
              go_wp2_with fail
              go_meet
              first
                | exact ⟨_, A8, n8, c8, rfl, by simpa using blk_set (blk_set (blk_set (blk_set hxz 0 (.int .i64 xk)) 1 (.int .i64 0)) 2 (.int .i64 xl)) 3 (.slice A8 n8 c8), Nat.le_refl _, own_ch HV8.out ((((ch_set w1 wr.heap.size 0 (.int .i64 xk)).trans (ch_set _ wr.heap.size 1 (.int .i64 0))).trans (ch_set _ wr.heap.size 2 (.int .i64 xl))).trans (ch_set _ wr.heap.size 3 (.slice A8 n8 c8))) (fun q hq e => by
                    obtain ⟨ds, hd⟩ := own_foP HV8.out hq
                    have e2 : q = wr.heap.size := e
                    subst e2
                    exact blk_ne hxz hd (by decide) rfl), below_ch HB1.out ((((ch_set w1 wr.heap.size 0 (.int .i64 xk)).trans (ch_set _ wr.heap.size 1 (.int .i64 0))).trans (ch_set _ wr.heap.size 2 (.int .i64 xl))).trans (ch_set _ wr.heap.size 3 (.slice A8 n8 c8))) (fun q e => by rw [show q = wr.heap.size from e]; exact Nat.le_refl _) HB1.out.size⟩
                | exact ⟨_, A8, n8, c8, rfl, box_new _ _ _, HB1.out.size, ownN_below HV8.out (below_new w1 _) (Nat.le_refl _), HB1b.out⟩
          case rest =>
            as_aux_lemma =>
            obtain ⟨g8, A8, n8, c8, rfl, hx8, hg8, hv8, hbc⟩ := hcut
            obtain ⟨wb, rfl⟩ : ∃ v, v = wc := ⟨_, rfl⟩
            have HX8 := Lib.hid hx8; have HV8 := Lib.hid hv8
            have HBC : Hid (Below w.heap.size w wb) := Lib.hid (bqcP hbc HB9.out)
            have HOB := Lib.hid (HO9.out.below hbc)
            have HN8 : Hid (n8 ≤ 300) := Lib.hid (by have := own_el hv8; have := HMV.out; omega)
            have HG8 : Hid (w.heap.size ≤ g8 ∧ ∀ q, Fo (.slice A9 (i + 1) c9) q → q < g8) := Lib.hid ⟨by have := HB9.out.size; omega, by obtain ⟨_, h1, _⟩ := HO9.out; exact fun q hq => by have := (h1.lt q hq).2; omega⟩
            clear hx8 hg8 hv8 hbc q0 q1 q2 q3 q0' q1' q2' q3' HO9 HB9
            have x0 := blk_cell HX8.out 0 rfl
            have HII : Hid (i + 1 ≤ 1099511627776) := Lib.hid (by omega)
            rcases hkv with ⟨hk2, hva, hvb, hvc⟩ | ⟨hk2, hva⟩
            · subst hk2 hvc
              obtain ⟨vv, rfl⟩ : ∃ vv : Nat, xv = (vv : Int) := ⟨xv.toNat, by omega⟩
              have HVV : Hid (vv ≤ 5) := Lib.hid (by omega)
              clear hva hvb
              obtain ⟨wd, hwd⟩ : ∃ wd, wd = wb.alloc (.cells #[] 42) := ⟨_, rfl⟩
              have HBD : Hid (Below wb.heap.size wb wd) := Lib.hid (by rw [hwd]; exact below_new _ _)
              have HLD : Hid (LX wd wb.heap.size (some ⟨wb.heap.size, 0, none⟩) 0 0 ((rowE k ⟨0, (vv : Int), 0, xe⟩).take 0)) := Lib.hid ⟨[], by rw [hwd]; exact own_lit wb #[] 0 42 rfl (by omega), ⟨rfl, by simp⟩⟩
              go_upto_region 16 with fail
              rw [← hwd]
              clear hwd x0
              go_wp2_with fail
              go_loopw [9, 10] (fun v u wr2 => ∃ (j : Nat) (A6 : Option Addr) (c6 : Nat), j ≤ k ∧ u = .int .i64 (j : Int) ∧ v = .slice A6 j c6 ∧ Hid (LX wr2 wb.heap.size A6 j c6 ((rowE k ⟨0, (vv : Int), 0, xe⟩).take j)) ∧ Hid (Below wb.heap.size wb wr2)) (fun _ u _ => k - (intOf u).toNat)
              case atStart => exact ⟨0, _, _, Nat.zero_le _, rfl, rfl, HLD, HBD⟩
              case round =>
                as_aux_lemma =>
                clear HLD HBD
                obtain ⟨j, A6, c6, hj, rfl, rfl, HLX, HBX⟩ := hrel
                obtain ⟨q0, q1, q2, q3⟩ := HQW.out wr (bqcP HBX.out HBC.out)
                have z3 := blk_cell (blk_bel HX8.out HBX.out) 3 rfl
                by_cases hlj : j < k
                · have hlj' : (j : Int) < (k : Int) := by omega
                  have HRS := Lib.hid (row_step (x := ⟨0, (vv : Int), 0, xe⟩) hlj)
                  simp only at HRS
                  have hk6 := HN.out.2
                  have hi1' := hi1
                  by_cases hjv : j = vv
                  · have h1 : (j : Int) = (vv : Int) := by omega
                    have h2 : ((j : Int) == (vv : Int)) = true := by rw [beq_iff_eq]; exact h1
                    subst hjv
                    obtain ⟨us, l1, l2⟩ := HLX.out
                    have HLO := Lib.hid l1; have HLI := Lib.hid l2
                    have HVX := Lib.hid (ownN_below HV8.out HBX.out (Nat.le_refl _))
                    have HRS2 : Hid ((rowE k ⟨0, (j : Int), 0, xe⟩).take (j + 1) = (rowE k ⟨0, (j : Int), 0, xe⟩).take j ++ [moveE k xe]) := Lib.hid (by have h := HRS.out; simpa using h)
                    clear l1 l2 h1 h2
                    go_wp2_with (at_builtin; go_must (refine wpList_app1g eltXS rfl _ _ rfl wr wb.heap.size (.slice A6 j c6) j us (by rfl) HLO.out (.slice A8 n8 c8) (by rfl) (by rfl) HBX.out.size (by omega) ?_); rintro A7 c7 w7 ho7 hb7 hg7
                                 have HL7 : Hid (LX w7 wb.heap.size A7 (j + 1) c7 ((rowE k ⟨0, (j : Int), 0, xe⟩).take (j + 1))) := Lib.hid (by rw [HRS2.out]; exact LX.snoc HLO.out HLI.out HVX.out (by have := HN8.out; omega) ho7 hg7)
                                 have HB7 : Hid (Below wb.heap.size wb w7) := Lib.hid (HBX.out.trans hb7)
                                 clear ho7 hb7 hg7)
                    go_roundw
                    case rel => exact ⟨j + 1, A7, c7, by omega, by go_num, rfl, HL7, HB7⟩
                    case measure => simp [intOf]; omega
                  · have h1 : ¬ (j : Int) = (vv : Int) := by omega
                    have h2 : ((j : Int) == (vv : Int)) = false := by rw [beq_eq_false_iff_ne]; exact h1
                    have HRS2 : Hid ((rowE k ⟨0, (vv : Int), 0, xe⟩).take (j + 1) = (rowE k ⟨0, (vv : Int), 0, xe⟩).take j ++ [placeE j k]) := Lib.hid (by have h := HRS.out; rw [if_neg h1] at h; exact h)
                    have HPC := Lib.hid (l23Place_any wr j k (by omega) (by omega))
                    have HPL2 : Hid ((placeE j k).length ≤ 100) := Lib.hid (by have := placeE_len j k; omega)
                    go_wp2_with (first
                      | (go_at_call 127
                         refine HPC.out.mono ?_
                         rintro e w6 ⟨A7, n7, c7, rfl, ho7, hb7⟩
                         have HV7 := Lib.hid ho7
                         have HN7 : Hid (n7 ≤ 100) := Lib.hid (by have := own_el ho7; have := HPL2.out; omega)
                         obtain ⟨us, l1, l2⟩ := HLX.out.below hb7
                         have HLO := Lib.hid l1; have HLI := Lib.hid l2
                         have HB7 : Hid (Below wb.heap.size wb w6) := Lib.hid (bqcP hb7 HBX.out)
                         clear ho7 hb7 l1 l2)
                      | (at_builtin; go_must (refine wpList_app1g eltXS rfl _ _ rfl w6 wb.heap.size (.slice A6 j c6) j us (by rfl) HLO.out (.slice A7 n7 c7) (by rfl) (by rfl) HB7.out.size (by omega) ?_); rintro A9 c9 w9 ho9 hb9 hg9
                         have HL9 : Hid (LX w9 wb.heap.size A9 (j + 1) c9 ((rowE k ⟨0, (vv : Int), 0, xe⟩).take (j + 1))) := Lib.hid (by rw [HRS2.out]; exact LX.snoc HLO.out HLI.out HV7.out (by have := HN7.out; omega) ho9 hg9)
                         have HB9 : Hid (Below wb.heap.size wb w9) := Lib.hid (HB7.out.trans hb9)
                         clear ho9 hb9 hg9))
                    go_roundw
                    case rel => exact ⟨j + 1, A9, c9, by omega, by go_num, rfl, HL9, HB9⟩
                    case measure => simp [intOf]; omega
                · obtain rfl : j = k := by omega
                  have HLF : Hid (LX wr wb.heap.size A6 j c6 (rowE j ⟨0, (vv : Int), 0, xe⟩)) := Lib.hid (by have h := HLX.out; rw [List.take_of_length_le (by rw [rowE_len]; omega)] at h; exact h)
                  have HPK := Lib.hid (l23Packed_any wr A6 j c6 _ HLF.out.rdy.rdx (by have := HN.out; omega) (by have := HROW.out; omega))
                  have HST2 : Hid ((cs.take (i + 1)).map (oneC j) = (cs.take i).map (oneC j) ++ [⟨0, 0, 0, packE (rowE j ⟨0, (vv : Int), 0, xe⟩)⟩]) := Lib.hid HST.out
                  clear q0 q1 q2 q3 z3
                  go_upto_region 23 with (go_at_call 125
                                          refine HPK.out.mono ?_
                                          rintro e w6 ⟨A7, n7, c7, rfl, ho7, hb7⟩
                                          have HB6 : Hid (Below wb.heap.size wb w6) := Lib.hid (bqcP hb7 HBX.out)
                                          have hx6 := blk_bel HX8.out HB6.out
                                          have HX6 := Lib.hid hx6
                                          have z3 := blk_cell hx6 3 rfl
                                          have f3 := blk_free hx6 3
                                          have HV7 := Lib.hid ho7
                                          have HN7 : Hid (n7 ≤ 2000) := Lib.hid (by have := own_el ho7; have := HPKL.out; omega)
                                          clear ho7 hb7 hx6)
                  obtain ⟨w7, hw7⟩ : ∃ w7, w7 = w6.setCell ⟨g8, 3, none⟩ (.slice A7 n7 c7) := ⟨_, rfl⟩
                  have hc7 : Ch (· = g8) w6 w7 := by rw [hw7]; exact ch_set _ _ _ _
                  have HX7 : Hid (w7.heap[g8]? = some (.cells #[.int .i64 0, .int .i64 0, .int .i64 0, .slice A7 n7 c7] 44 (0, 0))) := Lib.hid (by rw [hw7]; simpa using blk_set HX6.out 3 (.slice A7 n7 c7))
                  have HB7 : Hid (Below w.heap.size w w7) := Lib.hid (below_ch (bqcP HB6.out HBC.out) hc7 (fun q e => by rw [show q = g8 from e]; exact HG8.out.1) (bqcP HB6.out HBC.out).size)
                  have hty : ∀ q, q = g8 → ∀ ds, w6.heap[q]? = some (.cells ds 110 (0, 0)) → False := fun q e ds h => by subst e; exact blk_ne HX6.out h (by decide) rfl
                  have HV7b := Lib.hid (own_ch HV7.out hc7 (fun q hq e => by
                    obtain ⟨ds, hd⟩ := own_foP HV7.out hq
                    exact hty q e ds hd))
                  obtain ⟨us, l1, l2⟩ := HOB.out.below HB6.out
                  have HLO := Lib.hid (own_ch l1 hc7 (fun q hq e => by have := HG8.out.2 q hq; have e2 : q = g8 := e; omega))
                  have HLI := Lib.hid (l2.ch hc7 hty)
                  rw [← hw7]
                  clear hw7 hc7 hty l1 l2 z3 f3
                  have x0 := blk_cell HX7.out 0 rfl
                  have x1 := blk_cell HX7.out 1 rfl
                  have x2 := blk_cell HX7.out 2 rfl
                  have x3 := blk_cell HX7.out 3 rfl
                  go_wp2_with (at_builtin; go_must (refine wpList_app1N eltCm rfl _ _ rfl w7 w.heap.size (.slice A9 (i + 1) c9) (i + 1) (flatC _ us) (by rfl) HLO.out #[.int .i64 0, .int .i64 0, .int .i64 0, .slice A7 n7 c7] rfl (one4V _ _ _ _ _ _) (by rfl) HB7.out.size HII.out ?_); rintro A8b c8b w8 ho8 hb8 hg8
                               have HO8 : Hid (OutC w8 w.heap.size A8b (i + 1 + 1) c8b (⟨0, 0, 0, P0⟩ :: (cs.take (i + 1)).map (oneC j))) := Lib.hid (by rw [HST2.out]; exact OutC.app1 (x := ⟨0, 0, 0, packE (rowE j ⟨0, (vv : Int), 0, xe⟩)⟩) HLO.out HLI.out HV7b.out (by have := HN7.out; omega) ho8 hg8)
                               have HB8 : Hid (Below w.heap.size w w8) := Lib.hid (HB7.out.trans hb8)
                               clear ho8 hb8 hg8)
                  clear x0 x1 x2 x3
                  go_roundw
                  case rel => exact ⟨i + 1, A8b, c8b, by omega, by go_num, rfl, HO8, HB8⟩
                  case measure => simp [intOf]; omega
            · subst hk2
              clear hva
              have x1 := blk_cell HX8.out 1 rfl
              have x2 := blk_cell HX8.out 2 rfl
              have x3 := blk_cell HX8.out 3 rfl
              obtain ⟨us, l1, l2⟩ := HOB.out
              have HLO := Lib.hid l1; have HLI := Lib.hid l2
              have HST2 : Hid ((cs.take (i + 1)).map (oneC k) = (cs.take i).map (oneC k) ++ [⟨1, 0, xl, moveE k xe⟩]) := Lib.hid HST.out
              clear l1 l2
              go_wp2_with (at_builtin; go_must (refine wpList_app1N eltCm rfl _ _ rfl wb w.heap.size (.slice A9 (i + 1) c9) (i + 1) (flatC _ us) (by rfl) HLO.out #[.int .i64 1, .int .i64 0, .int .i64 xl, .slice A8 n8 c8] rfl (one4V _ _ _ _ _ _) (by rfl) HBC.out.size HII.out ?_); rintro A7 c7 w7 ho7 hb7 hg7
                           have HO7 : Hid (OutC w7 w.heap.size A7 (i + 1 + 1) c7 (⟨0, 0, 0, P0⟩ :: (cs.take (i + 1)).map (oneC k))) := Lib.hid (by rw [HST2.out]; exact OutC.app1 (x := ⟨1, 0, xl, moveE k xe⟩) HLO.out HLI.out HV8.out (by have := HN8.out; omega) ho7 hg7)
                           have HB7 : Hid (Below w.heap.size w w7) := Lib.hid (HBC.out.trans hb7)
                           clear ho7 hb7 hg7)
              clear x0 x1 x2 x3
              go_roundw
              case rel => exact ⟨i + 1, A7, c7, by omega, by go_num, rfl, HO7, HB7⟩
              case measure => simp [intOf]; omega
        · obtain rfl : i = n := by omega
          have HE : Hid (cs.take i = cs) := Lib.hid (List.take_of_length_le (by rw [HL.out]; omega))
          obtain ⟨wb, hwb⟩ : ∃ wb, wb = wr.alloc (.cells #[.int .i64 3, .int .i64 0, .int .i64 1, .int .i64 0] 110) := ⟨_, rfl⟩
          have HBB : Hid (Below wr.heap.size wr wb) := Lib.hid (by rw [hwb]; exact below_new _ _)
          have HVB : Hid (wb.ownsRow wr.heap.size 110 2 (.slice (some ⟨wr.heap.size, 0, none⟩) 2 2) 2 (ints (eNums [(3, 0), (1, 0)]))) := Lib.hid (by rw [hwb]; exact ownN_lit wr #[.int .i64 3, .int .i64 0, .int .i64 1, .int .i64 0] 2 2 110 rfl (by omega))
          have HWB := Lib.hid hwb
          have HII : Hid (i + 1 ≤ 1099511627776) := Lib.hid (by have := HNN.out; omega)
          clear hwb
          go_wp2_with (first
            | (go_at_call 43
               rw [← HWB.out]
               refine (l22Set_any wb 0 _ 2 2).mono ?_
               rintro e w6 ⟨rfl, hb⟩
               have HV6 := Lib.hid (ownN_below HVB.out hb (Nat.le_refl _))
               have HB6 : Hid (Below w.heap.size w w6) := Lib.hid (bqcP (HBB.out.trans (hb.mono HBB.out.size)) HB9.out)
               obtain ⟨us, l1, l2⟩ := (HO9.out.below HBB.out).below hb
               have HLO := Lib.hid l1; have HLI := Lib.hid l2
               clear hb l1 l2)
            | (at_builtin; go_must (refine wpList_app1N eltCm rfl _ _ rfl w6 w.heap.size (.slice A9 (i + 1) c9) (i + 1) (flatC _ us) (by rfl) HLO.out #[.int .i64 0, .int .i64 0, .int .i64 0, .slice (some ⟨wr.heap.size, 0, none⟩) 2 2] rfl (one4V _ _ _ _ _ _) (by rfl) HB6.out.size HII.out ?_); rintro A7 c7 w7 ho7 hb7 hg7
               have HO7 : Hid (OutC w7 w.heap.size A7 (i + 1 + 1) c7 ((⟨0, 0, 0, P0⟩ :: (cs.take i).map (oneC k)) ++ [⟨0, 0, 0, [(3, 0), (1, 0)]⟩])) := Lib.hid (OutC.app1 (x := ⟨0, 0, 0, [(3, 0), (1, 0)]⟩) HLO.out HLI.out HV6.out (by omega) ho7 hg7)
               have HB7 : Hid (Below w.heap.size w w7) := Lib.hid (HB6.out.trans hb7)
               clear ho7 hb7 hg7))
          go_ret
          have h7 := HO7.out
          rw [HE.out, HP0.out] at h7
          exact ⟨A7, i + 1 + 1, c7, rfl, h7, HB7.out⟩
end Go.Proofs.YtadmbphefpfbmaaGreatDoor
