/- A program with one variable (reference): variables, places, packed and moved expressions. Printed by mk_pvs.py. -/
import Derived.Test.YtadmbphefpfbmaaGreatDoorPvM
import Derived.Test.YtadmbphefpfbmaaGreatDoorPqL
import Derived.Test.YtadmbphefpfbmaaGreatDoorPvA
namespace Go.Proofs.YtadmbphefpfbmaaGreatDoor
open Go.RowKit
set_option linter.unusedVariables false
set_option linter.unusedSimpArgs false
attribute [local go_sem ↓] Go.wp_at_zero Go.wp_at_succ
theorem manyE_step {es : List El} {k : Nat} {e : El} {m : Int} (h : es[k]? = some e) : topV m (varsE (es.take (k + 1))) = if e.1 = 1 then max (topV m (varsE (es.take k))) (e.2 + 1) else topV m (varsE (es.take k)) := by
  rw [List.take_add_one, h]
  simp only [Option.toList_some, varsE, List.flatMap_append, List.flatMap_cons, List.flatMap_nil, List.append_nil, topV_app]
  split
  · rfl
  · rfl
theorem manyC_step {cs : List Cmd} {k : Nat} {x : Cmd} {m : Int} (h : cs[k]? = some x) : topV m (varsL (cs.take (k + 1))) = topV (if x.k = 0 then max (topV m (varsL (cs.take k))) (x.v + 1) else topV m (varsL (cs.take k))) (varsE x.e) := by
  rw [List.take_add_one, h]
  simp only [Option.toList_some, varsL, List.flatMap_append, List.flatMap_cons, List.flatMap_nil, List.append_nil, topV_app, varsC]
  split
  · rfl
  · rfl
theorem takeL_mem {cs : List Cmd} {k : Nat} {v : Int} (h : v ∈ varsL (cs.take k)) : v ∈ varsL cs := by
  simp only [varsL, List.mem_flatMap] at h ⊢
  obtain ⟨x, hx, hv⟩ := h
  exact ⟨x, List.mem_of_mem_take hx, hv⟩
set_option maxHeartbeats 4000000 in
set_option maxRecDepth 100000 in
theorem l23Many_any (w : World) (A : Option Addr) (n c : Nat) (cs : List Cmd) (hr : RdC w A n cs) (hok : okC cs = true) (hn : n ≤ 1000000) : Calls Tryz.prog 124 #[.slice A n c] w (RetV w (.int .i64 (topV 0 (varsL cs)))) := by
  have HL : Hid (cs.length = n) := Lib.hid hr.len
  have HM := Lib.hid (okC_mem _ (Nat.le_refl _) hok)
  have HR := Lib.hid hr
  have hn2 := hn
  clear hr hok hn
  go_enter Tryz.func124, Tryz.ntmps124
  go_wp2_with fail
  go_loopw [3, 4] (fun t q wr => ∃ (k : Nat) (m0 : Int), k ≤ n ∧ q = .int .i64 (k : Int) ∧ t = .int .i64 m0 ∧ Hid (m0 = topV 0 (varsL (cs.take k))) ∧ Hid (0 ≤ m0 ∧ m0 ≤ 6) ∧ Hid (Below w.heap.size w wr)) (fun _ q _ => n - (intOf q).toNat)
  case atStart => exact ⟨0, 0, Nat.zero_le _, rfl, rfl, Lib.hid rfl, Lib.hid (by omega), Lib.hid (Below.refl _ _)⟩
  case round =>
    obtain ⟨k, m0, hk, rfl, rfl, HT0, HT, HB⟩ := hrel
    by_cases hlt : k < n
    · have hlt' : (k : Int) < (n : Int) := by omega
      obtain ⟨x, hx⟩ := get_some (xs := cs) (k := k) (by rw [HL.out]; exact hlt)
      obtain ⟨b, off, A', n', c', rfl, hbl, q0, q1, q2, q3, hn', hc', hre⟩ := HR.out.at_ hx
      obtain ⟨hwf, hkv⟩ := HM.out x (List.mem_of_getElem? hx)
      have HWF := Lib.hid (wfE_mem hwf)
      have hst := manyC_step (m := 0) hx
      rw [← HT0.out] at hst
      have HST := Lib.hid hst
      have HRE := Lib.hid hre
      have HN' : Hid (x.e.length = n' ∧ n' ≤ 40) := Lib.hid ⟨rdE_len hre, by have := rdE_len hre; have := (wfE_mem hwf).1; omega⟩
      have HQ := Lib.hid (And.intro q0 (And.intro q1 q3))
      have HBL := Lib.hid hbl
      obtain ⟨xk, xv, xl, xe⟩ := x
      simp only at HQ HRE HST HWF HN' hkv
      have hk0 : (0 : Int) ≤ (k : Int) := by omega
      clear hx hn' hc' hre hwf q0 q1 q2 q3 hst
      obtain ⟨m1, hm1⟩ : ∃ m1, m1 = (if xk = 0 then max m0 (xv + 1) else m0) := ⟨_, rfl⟩
      rw [← hm1] at HST
      have HM1 : Hid (0 ≤ m1 ∧ m1 ≤ 6) := Lib.hid (by have := HT.out; rw [hm1]; rcases hkv with h | h <;> split <;> omega)
      have HQW := Lib.hid (fun (wx : World) (hb : Below w.heap.size w wx) => (show wx.cell? ⟨b, off + k * 4, none⟩ = some (.int .i64 xk) ∧ wx.cell? ⟨b, off + k * 4 + 1, none⟩ = some (.int .i64 xv) ∧ wx.cell? ⟨b, off + k * 4 + 3, none⟩ = some (.slice A' n' c') from ⟨(hb.cell (p := ⟨b, off + k * 4, none⟩) HBL.out).trans HQ.out.1, (hb.cell (p := ⟨b, off + k * 4 + 1, none⟩) HBL.out).trans HQ.out.2.1, (hb.cell (p := ⟨b, off + k * 4 + 3, none⟩) HBL.out).trans HQ.out.2.2⟩))
      obtain ⟨q0, q1, q3⟩ := HQW.out wr HB.out
      rcases hkv with ⟨hk2, hv0, hv5, hl0⟩ | ⟨hk2, hv0⟩
      · subst hk2
        have HMM : Hid (max m0 (xv + 1) = m1) := Lib.hid (by rw [hm1]; simp)
        have HW1 : Hid (IntKind.i64.wrap (xv + 1) = xv + 1) := Lib.hid (IntWalk.i64_in _ (by omega))
        have hw1 := HW1.out
        clear hm1 hv0 hv5 hl0
        go_wp2_with (go_at_call 171
                     have hh := l00Max_any wr m0 (xv + 1)
                     rw [HMM.out] at hh
                     refine hh.mono ?_
                     rintro e w' ⟨rfl, rfl⟩
                     clear hh)
        clear hw1 q0 q1 q3
        go_loopw [3, 5] (fun t q wr2 => ∃ (j : Nat) (m2 : Int), j ≤ n' ∧ q = .int .i64 (j : Int) ∧ t = .int .i64 m2 ∧ Hid (m2 = topV m1 (varsE (xe.take j))) ∧ Hid (0 ≤ m2 ∧ m2 ≤ 6) ∧ Hid (Below w.heap.size w wr2)) (fun _ q _ => n' - (intOf q).toNat)
        case atStart => exact ⟨0, m1, Nat.zero_le _, rfl, rfl, Lib.hid rfl, HM1, HB⟩
        case round =>
          rename_i wr0
          obtain ⟨j, m2, hj, rfl, rfl, HM2, HB2, HBB⟩ := hrel
          obtain ⟨q0, q1, q3⟩ := HQW.out _ HBB.out
          have hn40 := HN'.out.2
          by_cases hlj : j < n'
          · obtain ⟨y, hy⟩ := get_some (xs := xe) (k := j) (by rw [HN'.out.1]; exact hlj)
            obtain ⟨b2, off2, hA2, hbl2, r0, r1⟩ := rdE (HRE.out.below HBB.out (Nat.le_refl _)) hy
            subst hA2
            have hym := HWF.out.2 y (List.mem_of_getElem? hy)
            have hys := manyE_step (m := m1) hy
            rw [← HM2.out] at hys
            obtain ⟨yk, yv⟩ := y
            simp only at r0 r1 hym hys
            have HYM := Lib.hid hym
            have HYS := Lib.hid hys
            have hj0 : (0 : Int) ≤ (j : Int) := by omega
            have hj1 : (j : Int) < (n' : Int) := by omega
            clear hy hym hys
            by_cases hyk : yk = 1
            · subst hyk
              have HMX : Hid (max m2 (yv + 1) = topV m1 (varsE (xe.take (j + 1)))) := Lib.hid (by rw [HYS.out]; simp)
              have HW1 : Hid (IntKind.i64.wrap (yv + 1) = yv + 1) := Lib.hid (IntWalk.i64_in _ (by have := HYM.out; omega))
              have hw1 := HW1.out
              go_wp2_with (go_at_call 171
                           refine (l00Max_any _ m2 (yv + 1)).mono ?_
                           rintro e w' ⟨rfl, rfl⟩)
              clear hw1
              go_roundw
              case rel => exact ⟨j + 1, _, by omega, by go_num, rfl, Lib.hid HMX.out, Lib.hid (by have h1 := HB2.out; have h2 := HYM.out; omega), HBB⟩
              case measure => simp [intOf]; omega
            · have hyq : (yk == 1) = false := by rw [beq_eq_false_iff_ne]; exact hyk
              have HMX : Hid (m2 = topV m1 (varsE (xe.take (j + 1)))) := Lib.hid (by rw [HYS.out, if_neg hyk])
              go_wp2_with fail
              go_roundw
              case rel => exact ⟨j + 1, m2, by omega, by go_num, rfl, HMX, HB2, HBB⟩
              case measure => simp [intOf]; omega
          · obtain rfl : j = n' := by omega
            have HX : Hid (m2 = topV 0 (varsL (cs.take (k + 1)))) := Lib.hid (by rw [HST.out, HM2.out, List.take_of_length_le (by rw [HN'.out.1]; omega)])
            go_wp2_with fail
            go_roundw
            case rel => exact ⟨k + 1, m2, by omega, by go_num, rfl, HX, HB2, HBB⟩
            case measure => simp [intOf]; omega
      · subst hk2
        have hne : ((1 : Int) == 0) = false := rfl
        obtain rfl : m1 = m0 := by rw [hm1]; simp
        clear hm1 hv0
        go_wp2_with fail
        clear q0 q1 q3 hne
        go_loopw [3, 5] (fun t q wr2 => ∃ (j : Nat) (m2 : Int), j ≤ n' ∧ q = .int .i64 (j : Int) ∧ t = .int .i64 m2 ∧ Hid (m2 = topV m1 (varsE (xe.take j))) ∧ Hid (0 ≤ m2 ∧ m2 ≤ 6) ∧ Hid (Below w.heap.size w wr2)) (fun _ q _ => n' - (intOf q).toNat)
        case atStart => exact ⟨0, m1, Nat.zero_le _, rfl, rfl, Lib.hid rfl, HM1, HB⟩
        case round =>
          rename_i wr0
          obtain ⟨j, m2, hj, rfl, rfl, HM2, HB2, HBB⟩ := hrel
          obtain ⟨q0, q1, q3⟩ := HQW.out _ HBB.out
          have hn40 := HN'.out.2
          by_cases hlj : j < n'
          · obtain ⟨y, hy⟩ := get_some (xs := xe) (k := j) (by rw [HN'.out.1]; exact hlj)
            obtain ⟨b2, off2, hA2, hbl2, r0, r1⟩ := rdE (HRE.out.below HBB.out (Nat.le_refl _)) hy
            subst hA2
            have hym := HWF.out.2 y (List.mem_of_getElem? hy)
            have hys := manyE_step (m := m1) hy
            rw [← HM2.out] at hys
            obtain ⟨yk, yv⟩ := y
            simp only at r0 r1 hym hys
            have HYM := Lib.hid hym
            have HYS := Lib.hid hys
            have hj0 : (0 : Int) ≤ (j : Int) := by omega
            have hj1 : (j : Int) < (n' : Int) := by omega
            clear hy hym hys
            by_cases hyk : yk = 1
            · subst hyk
              have HMX : Hid (max m2 (yv + 1) = topV m1 (varsE (xe.take (j + 1)))) := Lib.hid (by rw [HYS.out]; simp)
              have HW1 : Hid (IntKind.i64.wrap (yv + 1) = yv + 1) := Lib.hid (IntWalk.i64_in _ (by have := HYM.out; omega))
              have hw1 := HW1.out
              go_wp2_with (go_at_call 171
                           refine (l00Max_any _ m2 (yv + 1)).mono ?_
                           rintro e w' ⟨rfl, rfl⟩)
              clear hw1
              go_roundw
              case rel => exact ⟨j + 1, _, by omega, by go_num, rfl, Lib.hid HMX.out, Lib.hid (by have h1 := HB2.out; have h2 := HYM.out; omega), HBB⟩
              case measure => simp [intOf]; omega
            · have hyq : (yk == 1) = false := by rw [beq_eq_false_iff_ne]; exact hyk
              have HMX : Hid (m2 = topV m1 (varsE (xe.take (j + 1)))) := Lib.hid (by rw [HYS.out, if_neg hyk])
              go_wp2_with fail
              go_roundw
              case rel => exact ⟨j + 1, m2, by omega, by go_num, rfl, HMX, HB2, HBB⟩
              case measure => simp [intOf]; omega
          · obtain rfl : j = n' := by omega
            have HX : Hid (m2 = topV 0 (varsL (cs.take (k + 1)))) := Lib.hid (by rw [HST.out, HM2.out, List.take_of_length_le (by rw [HN'.out.1]; omega)])
            go_wp2_with fail
            go_roundw
            case rel => exact ⟨k + 1, m2, by omega, by go_num, rfl, HX, HB2, HBB⟩
            case measure => simp [intOf]; omega
    · obtain rfl : k = n := by omega
      have HE : Hid (m0 = topV 0 (varsL cs)) := Lib.hid (by rw [HT0.out, List.take_of_length_le (by rw [HL.out]; omega)])
      go_wp2_with fail
      go_ret
      exact ⟨by rw [← HE.out]; rfl, HB.out⟩
end Go.Proofs.YtadmbphefpfbmaaGreatDoor
