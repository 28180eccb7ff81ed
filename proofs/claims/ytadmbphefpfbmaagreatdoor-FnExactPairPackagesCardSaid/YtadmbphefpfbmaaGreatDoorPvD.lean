/- A program with one variable (program): mapped. -/
import Derived.Test.YtadmbphefpfbmaaGreatDoorPvC
import Derived.Test.YtadmbphefpfbmaaGreatDoorPvB
namespace Go.Proofs.YtadmbphefpfbmaaGreatDoor
open Go.RowKit
set_option linter.unusedVariables false
set_option linter.unusedSimpArgs false
attribute [local go_sem ↓] Go.wp_at_zero Go.wp_at_succ
theorem one_stepP {cs : List Cmd} {i N : Nat} {x : Cmd} (h : cs[i]? = some x) : (cs.take (i + 1)).map (oneC N) = (cs.take i).map (oneC N) ++ [oneC N x] := by
  rw [List.take_add_one, h]; simp
set_option maxHeartbeats 4000000 in
set_option maxRecDepth 100000 in
theorem mapped_any (w : World) (A : Option Addr) (n c : Nat) (cs : List Cmd) (hr : RdC w A n cs) (hok : okC cs = true) (hn : n ≤ 80) (N : Nat) (hN : 2 ≤ N ∧ N ≤ 6) (hv : ∀ x ∈ cs, x.k = 0 → x.v < N) (B4 B8 : Nat) (Ap : Option Addr) (cp base : Nat)
    (hx4 : w.heap[B4]? = some (.cells #[.int .i64 (N : Int)] 2 (0, 0))) (hx8 : w.heap[B8]? = some (.cells #[.slice Ap N cp] 131 (0, 0))) (hlx : LX w base Ap N cp (placesE N)) :
    Calls Tryz.prog 90 #[.slice A n c, .func (.func 91) #[] #[.pointer (some ⟨B4, 0, none⟩), .pointer (some ⟨B8, 0, none⟩)]] w (fun e w' => ∃ A' c', e = .returned (.slice A' n c') ∧ OutC w' w.heap.size A' n c' (cs.map (oneC N)) ∧ Below w.heap.size w w') := by
  have HL : Hid (cs.length = n) := Lib.hid hr.len
  have HM := Lib.hid (okC_mem _ (Nat.le_refl _) hok)
  have HR := Lib.hid hr; have HN := Lib.hid hN; have HV := Lib.hid hv; have HX4 := Lib.hid hx4; have HX8 := Lib.hid hx8; have HLX := Lib.hid hlx; have HNN := Lib.hid hn
  obtain ⟨w1, hw1⟩ : ∃ w1, w1 = w.alloc (.cells #[] 44) := ⟨_, rfl⟩
  have HB1 : Hid (Below w.heap.size w w1) := Lib.hid (by rw [hw1]; exact below_new _ _)
  have HO1 : Hid (OutC w1 w.heap.size (some ⟨w.heap.size, 0, none⟩) 0 0 ((cs.take 0).map (oneC N))) := Lib.hid ⟨[], by rw [hw1]; exact ownN_lit w #[] 0 4 44 rfl (by omega), ⟨by simp, by simp⟩⟩
  clear hr hok hn hN hv hx4 hx8 hlx
  go_enter Tryz.func90, Tryz.ntmps90
  go_upto_region 2 with fail
  rw [← hw1]
  clear hw1
  go_wp2_with fail
  go_loopw [5, 11] (fun v u wr => ∃ (i : Nat) (A5 : Option Addr) (c5 : Nat), i ≤ n ∧ u = .int .i64 (i : Int) ∧ v = .slice A5 i c5 ∧ Hid (OutC wr w.heap.size A5 i c5 ((cs.take i).map (oneC N))) ∧ Hid (Below w.heap.size w wr)) (fun _ u _ => n - (intOf u).toNat)
  case atStart => exact ⟨0, _, _, Nat.zero_le _, rfl, rfl, HO1, HB1⟩
  case round =>
    clear HO1 HB1
    obtain ⟨i, A5, c5, hi, rfl, rfl, HO5, HB5⟩ := hrel
    by_cases hlt : i < n
    · have hlt' : (i : Int) < (n : Int) := by omega
      obtain ⟨x, hx⟩ := get_some (xs := cs) (k := i) (by rw [HL.out]; exact hlt)
      obtain ⟨hwf, hkv⟩ := HM.out x (List.mem_of_getElem? hx)
      have hvx := HV.out x (List.mem_of_getElem? hx)
      have HST := Lib.hid (one_stepP (N := N) hx)
      obtain ⟨b, off, A', n', c', rfl, hbl, q0, q1, q2, q3, hn', hc', hre⟩ := (HR.out.below HB5.out (Nat.le_refl _)).at_ hx
      obtain ⟨xk, xv, xl, xe⟩ := x
      simp only at q0 q1 q2 q3 hre hwf hkv hvx
      have hi0 : (0 : Int) ≤ (i : Int) := by omega
      have hn80 := HNN.out
      obtain ⟨w2, hw2⟩ : ∃ w2, w2 = wr.alloc (.cells #[.int .i64 xk, .int .i64 xv, .int .i64 xl, .slice A' n' c'] 44) := ⟨_, rfl⟩
      have hb2 : Below wr.heap.size wr w2 := by rw [hw2]; exact below_new _ _
      have HX2 : Hid (w2.heap[wr.heap.size]? = some (.cells #[.int .i64 xk, .int .i64 xv, .int .i64 xl, .slice A' n' c'] 44 (0, 0))) := Lib.hid (by rw [hw2]; exact box_new _ _ _)
      have HO2 := Lib.hid (HO5.out.below hb2)
      have HB2 : Hid (Below w.heap.size w w2) := Lib.hid (bqcP hb2 HB5.out)
      have HCL := Lib.hid (clos_any w2 xk xv xl xe A' n' c' (hre.below hb2 (Nat.le_refl _)) hwf hkv N HN.out hvx B4 B8 Ap cp base (blk_bel HX4.out HB2.out) (blk_bel HX8.out HB2.out) (HLX.out.below HB2.out))
      have HII : Hid (i ≤ 1099511627776) := Lib.hid (by omega)
      obtain ⟨y, hy⟩ : ∃ y, y = oneC N ⟨xk, xv, xl, xe⟩ := ⟨_, rfl⟩
      rw [← hy] at HCL HST
      clear hx hwf hkv hvx hn' hc' hre hb2 hy
      obtain ⟨yk, yv, yl, ye⟩ := y
      unfold CloP at HCL
      simp only at HCL
      go_upto_region 5 with fail
      rw [← hw2]
      clear hw2 q0 q1 q2 q3
      have x0 := blk_cell HX2.out 0 rfl
      have x1 := blk_cell HX2.out 1 rfl
      have x2 := blk_cell HX2.out 2 rfl
      have x3 := blk_cell HX2.out 3 rfl
      go_wp2_with (first
        | (go_at_call 91
           refine HCL.out.mono ?_
           rintro e w6 ⟨A6, n6, c6, rfl, ho6, hn6, hb6⟩
           have HV6 := Lib.hid ho6; have HN6 := Lib.hid hn6
           obtain ⟨us, l1, l2⟩ := HO2.out.below hb6
           have HLO := Lib.hid l1; have HLI := Lib.hid l2
           have HB6 : Hid (Below w.heap.size w w6) := Lib.hid (bqcP hb6 HB2.out)
           clear ho6 hn6 hb6 l1 l2 x0 x1 x2 x3)
        | (at_builtin; go_must (refine wpList_app1N eltCm rfl _ _ rfl w6 w.heap.size (.slice A5 i c5) i (flatC _ us) (by rfl) HLO.out #[.int .i64 yk, .int .i64 yv, .int .i64 yl, .slice A6 n6 c6] rfl (one4V _ _ _ _ _ _) (by rfl) HB6.out.size HII.out ?_); rintro A7 c7 w7 ho7 hb7 hg7
           have HO7 : Hid (OutC w7 w.heap.size A7 (i + 1) c7 ((cs.take (i + 1)).map (oneC N))) := Lib.hid (by rw [HST.out]; exact OutC.app1 (x := ⟨yk, yv, yl, ye⟩) HLO.out HLI.out HV6.out (by have := HN6.out; omega) ho7 hg7)
           have HB7 : Hid (Below w.heap.size w w7) := Lib.hid (HB6.out.trans hb7)
           clear ho7 hb7 hg7))
      go_roundw
      case rel => exact ⟨i + 1, A7, c7, by omega, by go_num, rfl, HO7, HB7⟩
      case measure => simp [intOf]; omega
    · obtain rfl : i = n := by omega
      have h1 := HO5.out
      rw [List.take_of_length_le (by rw [HL.out]; omega)] at h1
      have HO6 := Lib.hid h1
      clear h1
      go_wp2_with fail
      go_ret
      exact ⟨A5, c5, rfl, HO6.out, HB5.out⟩
end Go.Proofs.YtadmbphefpfbmaaGreatDoor
