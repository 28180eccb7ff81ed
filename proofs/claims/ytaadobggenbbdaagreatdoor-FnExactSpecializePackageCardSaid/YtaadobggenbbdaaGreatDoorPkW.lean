/- Packages of the recursion theorem (reference). -/
import Derived.Test.YtaadobggenbbdaaGreatDoorPkV
namespace Go.Proofs.YtaadobggenbbdaaGreatDoor
open Go.RowKit
set_option linter.unusedVariables false
set_option linter.unusedSimpArgs false
attribute [local go_sem ↓] Go.wp_at_zero Go.wp_at_succ
set_option maxHeartbeats 2000000 in
set_option maxRecDepth 100000 in
theorem l24Before_any (x : Tx) (s : ByteArray) (hs : SrcOk x s) (w : World) (A : Option Addr) (n c : Nat) (cs : List Cmd) (hr : RdC w A n cs) (hn : n ≤ 1000000) :
    Calls Tryz.prog 36 #[.string s, .slice A n c] w (fun e w' => ∃ A' c', e = .returned (.slice A' (1 + n) c') ∧ RdC w' A' (1 + n) (x.cmd :: cs) ∧ 1 + n ≤ c' ∧ Below w.heap.size w w') := by
  have HT := Lib.hid (l24Text_any x s hs w)
  have HXL : Hid (x.els.length ≤ 1000000000) := Lib.hid (by have h1 := x.els_rn; have h2 := hs.l2; omega)
  have HOW := Lib.hid (fun (w2 : World) (hb : Below w.heap.size w w2) => l22Own_any w2 A n c cs (hr.below hb (Nat.le_refl _)) hn)
  have HN : Hid (1 + n ≤ 1099511627776) := Lib.hid (by omega)
  clear hs hr hn
  go_enter Tryz.func36, Tryz.ntmps36
  go_wp2_with (first
    | (go_at_call 30
       refine HT.out.mono ?_
       rintro e w2 ⟨A2, c2, rfl, hcm, hb2⟩
       have HCM := Lib.hid hcm; have HB2 := Lib.hid hb2
       clear hcm hb2)
    | (go_at_call 66
       refine (HOW.out w2 HB2.out).mono ?_
       rintro e w3 ⟨A3, c3, us, rfl, ho3, hi3, hb3⟩
       have HO3 := Lib.hid ho3; have HI3 := Lib.hid hi3
       have HCM3 := Lib.hid (HCM.out.below hb3)
       have HB3 : Hid (Below w.heap.size w w3) := Lib.hid (bqcP hb3 HB2.out)
       clear ho3 hi3 hb3)
    | (at_builtin
       obtain ⟨Av, cv, hc1, hc2⟩ := HCM3.out
       refine wpList_appSN eltCm rfl _ _ rfl w3 w.heap.size (.slice A2 1 c2) 1 _ (by rfl) hc1 A3 n c3 _ (by rfl) (ownN_rd HO3.out) (flatC_one _ _ HI3.out.one4) HB3.out.size HN.out ?_
       rintro A4 c4 w4 ho4 hb4 hg4
       have HB4 : Hid (Below w.heap.size w w4) := Lib.hid (HB3.out.trans hb4)
       have HC4 : Hid (1 + n ≤ c4) := Lib.hid (ownN_cap ho4)
       have HJ : Hid (RdC w4 A4 (1 + n) (x.cmd :: cs)) := Lib.hid (by
         have hi4 : InnR w4 us cs := HI3.out.ch (ch_row hg4) (fun q e ds h => by
           obtain ⟨es, h1⟩ := own_foP hc1 (show Fo _ q from e)
           exact blk_ne h1 h (by decide) rfl)
         have hv4 := own_ch hc2 (ch_row hg4) (fun q h1 h2 => own_types hc2 hc1 (by decide) q h1 h2)
         refine rdc_join (cs := [x.cmd]) (ds := cs) (ss := [.slice Av x.els.length cv]) (ts := us) (ownN_rd ho4) rfl hi4.1 (fun i u y hu hy => ?_) (fun i u y hu hy => ?_)
         · match i, hu, hy with
           | 0, hu, hy => injection hu with hu; injection hy with hy; subst hu hy; exact ⟨_, _, _, rfl, HXL.out, ownN_cap hv4, ownN_rd hv4⟩
           | i + 1, hu, hy => simp at hu
         · obtain ⟨A', n', c', e, k1, k2, k3⟩ := hi4.2 i u y hu hy
           exact ⟨A', n', c', e, k1, k2, ownN_rd k3⟩)
       clear ho4 hb4 hg4 hc1 hc2))
  go_ret
  exact ⟨A4, c4, rfl, HJ.out, HC4.out, HB4.out⟩
def l24P (cs : List Cmd) : List Bool × Int := if isW cs then cdwP cs else ([], 5)
theorem l24_len (cs : List Cmd) : (l24P cs).1.length ≤ 1000000 := by
  unfold l24P
  split
  · exact cdw_len cs
  · simp
set_option maxHeartbeats 1000000 in
theorem l24Code_any (w : World) (A : Option Addr) (n c : Nat) (cs : List Cmd) (hr : RdC w A n cs) (hn : n ≤ 1099511627776) :
    Calls Tryz.prog 48 #[.slice A n c] w (RetSI w 4 (bools (l24P cs).1) (l24P cs).2) := by
  have HV := l22IsX_any w A n c cs hr hn
  cases hW : isW cs with
  | false =>
    rw [hW] at HV
    have HO : Hid (l24P cs = ([], 5)) := Lib.hid (by simp [l24P, hW])
    clear hr hW
    go_enter Tryz.func48, Tryz.ntmps48
    go_wp2_with (go_at_call 33; refine HV.mono ?_; rintro e w2 ⟨rfl, hb2⟩)
    go_ret2
    rw [HO.out]
    exact ⟨none, 0, 0, rfl, own_nil _ _ _, hb2⟩
  | true =>
    rw [hW] at HV
    have HO : Hid (l24P cs = cdwP cs) := Lib.hid (by simp [l24P, hW])
    replace HV := Lib.hid HV
    have HC := Lib.hid (fun (w2 : World) (hb : Below w.heap.size w w2) => specCodeWhile_any w2 A n c cs (hr.below hb (Nat.le_refl _)) hn)
    clear hr hW
    go_enter Tryz.func48, Tryz.ntmps48
    go_wp2_with (first
      | (go_at_call 33; refine HV.out.mono ?_; rintro e w2 ⟨rfl, hb2⟩; have HB2 := Lib.hid hb2; clear hb2)
      | (go_at_call 76
         refine (HC.out w2 HB2.out).mono ?_
         rintro e w3 ⟨A3, n3, c3, rfl, ho3, hb3⟩
         have HO3 := Lib.hid ho3
         have HB3 := Lib.hid (bqcP hb3 HB2.out)
         clear ho3 hb3))
    go_ret2
    rw [HO.out]
    exact ⟨A3, n3, c3, rfl, own_base HO3.out HB2.out.size, HB3.out⟩
def sfixP (cs : List Cmd) : List Bool × Int := if (l24P (tFix.cmd :: cs)).2 = 0 then fit2 (.node (codeC (tFix.cmd :: cs)) (codeC (tFix.cmd :: cs))) else ([], (l24P (tFix.cmd :: cs)).2)
theorem l24_zero {cs : List Cmd} (h : (l24P cs).2 = 0) : (l24P cs).1 = (codeC cs).bits ∧ (codeC cs).nodes ≤ 2000 := by
  unfold l24P at h ⊢
  split at h
  · rename_i hw
    rw [if_pos hw]
    have h2 := cdw_zero h
    exact ⟨by rw [h2.1], h2.2⟩
  · cases h
set_option maxHeartbeats 4000000 in
set_option maxRecDepth 100000 in
theorem l24Fix_any (w : World) (A : Option Addr) (n c : Nat) (cs : List Cmd) (hr : RdC w A n cs) (hn : n ≤ 1000000) :
    Calls Tryz.prog 29 #[.slice A n c] w (RetSI w 4 (bools (sfixP cs).1) (sfixP cs).2) := by
  have HBF := Lib.hid (l24Before_any tFix _ src_tFix w A n c cs hr hn)
  have HN := Lib.hid hn
  clear hr hn
  by_cases h0 : (l24P (tFix.cmd :: cs)).2 = 0
  · have hz := l24_zero h0
    have H0 := Lib.hid h0
    have HZ := Lib.hid hz
    obtain ⟨T, hT⟩ : ∃ T, T = codeC (tFix.cmd :: cs) := ⟨_, rfl⟩
    have HS : Hid (sfixP cs = fit2 (.node T T)) := Lib.hid (by unfold sfixP; rw [if_pos h0, hT])
    rw [← hT] at HZ
    have HBT : Hid ((Tr.node T T).bits = [true] ++ T.bits ++ T.bits) := Lib.hid (by simp [Tr.bits])
    have HNB : Hid (T.bits.length = T.nodes) := Lib.hid (Tr.bits_len T)
    have hnd : T.nodes ≤ 2000 := HZ.out.2
    clear h0 hz hT
    by_cases hf : 1 + T.nodes + T.nodes ≤ 2000
    · have HF : Hid (fit2 (.node T T) = ((Tr.node T T).bits, 0)) := Lib.hid (by unfold fit2; exact if_pos (by simp only [Tr.nodes]; omega))
      have hfi : (1 : Int) + (T.nodes : Int) + (T.nodes : Int) ≤ 2000 := by omega
      have hfj : ¬ ((2000 : Int) < (1 : Int) + (T.nodes : Int) + (T.nodes : Int)) := by omega
      go_enter Tryz.func29, Tryz.ntmps29
      go_wp2_with (first
        | (go_at_call 36
           refine HBF.out.mono ?_
           rintro e w2 ⟨A2, c2, rfl, hrc, hc2, hb2⟩
           have HCO := Lib.hid (l24Code_any w2 A2 (1 + n) c2 _ hrc (by have := HN.out; omega))
           have HB2 := Lib.hid hb2
           clear hrc hc2 hb2)
        | (go_at_call 48
           refine HCO.out.mono ?_
           rw [H0.out, HZ.out.1]
           rintro e w3 ⟨A3, n3, c3, rfl, ho3, hb3⟩
           have hn3 : n3 = T.nodes := by have h1 := ho3.1; simp only [List.length_map, HNB.out, Nat.mul_one] at h1; omega
           subst hn3
           have HO3 := Lib.hid (own_rd ho3)
           have HB3 := Lib.hid (bqcP hb3 HB2.out)
           clear ho3 hb3)
        | (go_at_call 49
           have hh := l21Pair_any w3 A3 T.nodes c3 T.bits HO3.out (by omega) A3 T.nodes c3 T.bits HO3.out (by omega)
           refine hh.mono ?_
           rintro e w4 ⟨A4, n4, c4, rfl, ho4, hb4⟩
           have hn4 : n4 = 1 + T.nodes + T.nodes := by have h1 := ho4.1; simp [HNB.out] at h1; omega
           subst hn4
           have HO4 := Lib.hid ho4
           have HB4 := Lib.hid (bqcP hb4 HB3.out)
           clear hh ho4 hb4))
      go_ret2
      rw [HS.out, HF.out, HBT.out]
      exact ⟨A4, _, c4, rfl, own_base (by simpa using HO4.out) HB3.out.size, HB4.out⟩
    · have HF : Hid (fit2 (.node T T) = ([], 5)) := Lib.hid (by unfold fit2; exact if_neg (by simp only [Tr.nodes]; omega))
      have hfi : (2000 : Int) < (1 : Int) + (T.nodes : Int) + (T.nodes : Int) := by omega
      go_enter Tryz.func29, Tryz.ntmps29
      go_wp2_with (first
        | (go_at_call 36
           refine HBF.out.mono ?_
           rintro e w2 ⟨A2, c2, rfl, hrc, hc2, hb2⟩
           have HCO := Lib.hid (l24Code_any w2 A2 (1 + n) c2 _ hrc (by have := HN.out; omega))
           have HB2 := Lib.hid hb2
           clear hrc hc2 hb2)
        | (go_at_call 48
           refine HCO.out.mono ?_
           rw [H0.out, HZ.out.1]
           rintro e w3 ⟨A3, n3, c3, rfl, ho3, hb3⟩
           have hn3 : n3 = T.nodes := by have h1 := ho3.1; simp only [List.length_map, HNB.out, Nat.mul_one] at h1; omega
           subst hn3
           have HO3 := Lib.hid (own_rd ho3)
           have HB3 := Lib.hid (bqcP hb3 HB2.out)
           clear ho3 hb3)
        | (go_at_call 49
           have hh := l21Pair_any w3 A3 T.nodes c3 T.bits HO3.out (by omega) A3 T.nodes c3 T.bits HO3.out (by omega)
           refine hh.mono ?_
           rintro e w4 ⟨A4, n4, c4, rfl, ho4, hb4⟩
           have hn4 : n4 = 1 + T.nodes + T.nodes := by have h1 := ho4.1; simp [HNB.out] at h1; omega
           subst hn4
           have HB4 := Lib.hid (bqcP hb4 HB3.out)
           clear hh ho4 hb4))
      go_ret2
      rw [HS.out, HF.out]
      exact ⟨none, 0, 0, rfl, own_nil _ _ _, HB4.out⟩
  · have hb0 : ((l24P (tFix.cmd :: cs)).2 == 0) = false := by rw [beq_eq_false_iff_ne]; exact h0
    have HS : Hid (sfixP cs = ([], (l24P (tFix.cmd :: cs)).2)) := Lib.hid (by unfold sfixP; rw [if_neg h0])
    obtain ⟨k, hk⟩ : ∃ k, k = (l24P (tFix.cmd :: cs)).2 := ⟨_, rfl⟩
    have HK := Lib.hid hk
    rw [← hk] at hb0 HS
    clear h0 hk
    go_enter Tryz.func29, Tryz.ntmps29
    go_wp2_with (first
      | (go_at_call 36
         refine HBF.out.mono ?_
         rintro e w2 ⟨A2, c2, rfl, hrc, hc2, hb2⟩
         have HCO := Lib.hid (l24Code_any w2 A2 (1 + n) c2 _ hrc (by have := HN.out; omega))
         have HB2 := Lib.hid hb2
         clear hrc hc2 hb2)
      | (go_at_call 48
         refine HCO.out.mono ?_
         rw [← HK.out]
         rintro e w3 ⟨A3, n3, c3, rfl, ho3, hb3⟩
         have HB3 := Lib.hid (bqcP hb3 HB2.out)
         clear ho3 hb3))
    go_ret2
    rw [HS.out]
    exact ⟨none, 0, 0, rfl, own_nil _ _ _, HB3.out⟩
theorem sfix_eq {cs : List Cmd} (h : isW cs = true) (h2 : ozW cs = true) : sfixP cs = fixP cs := by
  have h3 : (l24P (tFix.cmd :: cs)).2 = scP (tFix.cmd :: cs) := by
    have hok : okC (tFix.cmd :: cs) = true := by
      simp [isW] at h
      rw [okC_set (Tx.wf (by decide)) rfl, h.2]; rfl
    unfold l24P scP isW
    rw [hok]
    by_cases hl : (tFix.cmd :: cs).length ≤ 80
    · rw [if_pos (by simp only [decide_eq_true hl, Bool.and_self]), if_pos hl]
    · rw [if_neg (by simp only [decide_eq_false hl, Bool.false_and]; decide), if_neg hl]
  unfold sfixP
  by_cases h0 : scP (tFix.cmd :: cs) = 0
  · rw [fix_4 h h2 h0, if_pos (by rw [h3]; exact h0)]
  · rw [fix_3 h h2 h0, if_neg (by rw [h3]; exact h0), h3]
set_option maxHeartbeats 1000000 in
theorem specQuinePackage_any (w : World) : Calls Tryz.prog 9 #[] w (RetS w 4 (bools (fixP [tQuine.cmd]).1)) := by
  have HW := Lib.hid (l24Text_any tQuine _ src_tQuine w)
  have HE := Lib.hid (sfix_eq (cs := [tQuine.cmd]) (tx_isW (by decide)) (by decide))
  go_enter Tryz.func9, Tryz.ntmps9
  go_wp2_with (first
    | (go_at_call 30
       refine HW.out.mono ?_
       rintro e w2 ⟨A2, c2, rfl, hcm, hb2⟩
       have HF := Lib.hid (l24Fix_any w2 A2 1 c2 _ (hcm.rdc (by decide)) (by omega))
       have HB2 := Lib.hid hb2
       clear hcm hb2)
    | (go_at_call 29
       refine HF.out.mono ?_
       rw [HE.out]
       rintro e w3 ⟨A3, n3, c3, rfl, ho3, hb3⟩
       have HO3 := Lib.hid ho3
       have HB3 := Lib.hid (bqcP hb3 HB2.out)
       clear ho3 hb3))
  go_ret
  exact ⟨A3, n3, c3, rfl, own_base HO3.out HB2.out.size, HB3.out⟩
end Go.Proofs.YtaadobggenbbdaaGreatDoor
