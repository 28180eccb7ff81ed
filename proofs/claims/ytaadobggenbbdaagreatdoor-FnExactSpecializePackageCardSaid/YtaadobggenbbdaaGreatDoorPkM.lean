/- Packages of the recursion theorem, plain packages (program). -/
import Derived.Test.YtaadobggenbbdaaGreatDoorPkL
namespace Go.Proofs.YtaadobggenbbdaaGreatDoor
open Go.RowKit
set_option linter.unusedVariables false
set_option linter.unusedSimpArgs false
attribute [local go_sem ↓] Go.wp_at_zero Go.wp_at_succ
def scP (cs : List Cmd) : Int := if cs.length ≤ 80 then (cdwP cs).2 else 5
def ScP (w : World) (cs : List Cmd) (e : Ending) (w' : World) : Prop :=
  ∃ p, e = .returned (.tuple #[.pointer p, .int .i64 (scP cs)]) ∧ (scP cs = 0 → IsT w' w.heap.size w'.heap.size (.pointer p) (codeC cs)) ∧ Below w.heap.size w w'
theorem sc_nodes {cs : List Cmd} (h : scP cs = 0) : (codeC cs).nodes ≤ 2000 := by
  unfold scP at h
  split at h
  · exact (cdw_zero h).2
  · cases h
set_option maxHeartbeats 2000000 in
theorem selfCode_any (x : Tx) (s : ByteArray) (hs : TxtOk x s) (w : World) (A : Option Addr) (n c : Nat) (cs : List Cmd) (hr : RdC w A n cs) (hn : n ≤ 1000000) :
    Calls Tryz.prog 45 #[.string s, .slice A n c] w (ScP w (x.cmd :: cs)) := by
  have HL : Hid ((x.cmd :: cs).length = 1 + n) := Lib.hid (by have := hr.len; simp [this]; omega)
  have HB := Lib.hid (behind_any x s hs w A n c cs hr hn)
  clear hs hr
  by_cases h80 : 1 + n ≤ 80
  · have HS : Hid (scP (x.cmd :: cs) = (cdwP (x.cmd :: cs)).2) := Lib.hid (by unfold scP; rw [if_pos (by rw [HL.out]; exact h80)])
    have hd : ((1 + n : Nat) : Int) ≤ 80 := by omega
    go_enter Tryz.func45, Tryz.ntmps45
    go_wp2_with (first
      | (go_at_call 42
         refine HB.out.mono ?_
         rintro e w2 ⟨A2, c2, rfl, hrc, hc2, hb2⟩
         have HRC := Lib.hid hrc; have HC2 := Lib.hid hc2; have HB2 := Lib.hid hb2
         clear hrc hc2 hb2)
      | (go_at_call 72
         have hh := codedWhile_any w2 A2 (1 + n) c2 _ HRC.out (by omega) HC2.out
         refine hh.mono ?_
         rintro e w3 ⟨p, rfl, h3, hb3⟩
         have H3 := Lib.hid h3
         have HB3 := Lib.hid (bqcP hb3 HB2.out)
         clear hh h3 hb3))
    go_ret2
    refine ⟨p, by rw [HS.out]; rfl, fun h0 => ?_, HB3.out⟩
    rw [HS.out] at h0
    exact (H3.out h0).wide HB2.out.size (Nat.le_refl _)
  · have HS : Hid (scP (x.cmd :: cs) = 5) := Lib.hid (by unfold scP; rw [if_neg (by rw [HL.out]; exact h80)])
    have hd : ¬ (1 + n ≤ 80) := h80
    go_enter Tryz.func45, Tryz.ntmps45
    go_wp2_with (go_at_call 42
                 refine HB.out.mono ?_
                 rintro e w2 ⟨A2, c2, rfl, hrc, hc2, hb2⟩
                 have HB2 := Lib.hid hb2
                 clear hrc hc2 hb2)
    go_ret2
    exact ⟨none, by rw [HS.out]; rfl, fun h0 => absurd (HS.out.symm.trans h0) (by decide), HB2.out⟩
def fixP (cs : List Cmd) : List Bool × Int := if isW cs then (if ozW cs then (if scP (tFix.cmd :: cs) = 0 then fit2 (.node (codeC (tFix.cmd :: cs)) (codeC (tFix.cmd :: cs))) else ([], scP (tFix.cmd :: cs))) else ([], 2)) else ([], 1)
theorem fix_1 {cs : List Cmd} (h : isW cs = false) : fixP cs = ([], 1) := by simp [fixP, h]
theorem fix_2 {cs : List Cmd} (h : isW cs = true) (h2 : ozW cs = false) : fixP cs = ([], 2) := by simp [fixP, h, h2]
theorem fix_3 {cs : List Cmd} (h : isW cs = true) (h2 : ozW cs = true) (h3 : scP (tFix.cmd :: cs) ≠ 0) : fixP cs = ([], scP (tFix.cmd :: cs)) := by simp [fixP, h, h2, h3]
theorem fix_4 {cs : List Cmd} (h : isW cs = true) (h2 : ozW cs = true) (h3 : scP (tFix.cmd :: cs) = 0) : fixP cs = fit2 (.node (codeC (tFix.cmd :: cs)) (codeC (tFix.cmd :: cs))) := by simp [fixP, h, h2, h3]
theorem fix_len (cs : List Cmd) : (fixP cs).1.length ≤ 1000000 := by
  unfold fixP
  split
  · split
    · split
      · exact fit2_len _
      · simp
    · simp
  · simp
set_option maxHeartbeats 4000000 in
set_option maxRecDepth 100000 in
theorem implFixPackage_any (w : World) (A : Option Addr) (n c : Nat) (cs : List Cmd) (hr : RdC w A n cs) (hn : n ≤ 1099511627776) (hnc : n ≤ c) :
    Calls Tryz.prog 21 #[.slice A n c] w (RetSI w 4 (bools (fixP cs).1) (fixP cs).2) := by
  have HV := ValidWhileX_any w A n c cs hr hn hnc
  cases hW : isW cs with
  | false =>
    rw [hW] at HV
    rw [fix_1 hW]
    clear hr
    go_enter Tryz.func21, Tryz.ntmps21
    go_wp2_with (go_at_call 39; refine HV.mono ?_; rintro e w2 ⟨rfl, hb2⟩)
    go_ret2
    exact ⟨none, 0, 0, rfl, own_nil _ _ _, hb2⟩
  | true =>
    rw [hW] at HV
    replace HV := Lib.hid HV
    have hn80 : n ≤ 80 := by have h1 := hr.len; simp [isW] at hW; omega
    have HZ := Lib.hid (fun (w2 : World) (hb : Below w.heap.size w w2) => zeroCode_any w2 A n c cs (hr.below hb (Nat.le_refl _)) (by omega))
    have HSC := Lib.hid (fun (w2 : World) (hb : Below w.heap.size w w2) => selfCode_any tFix _ ok_tFix w2 A n c cs (hr.below hb (Nat.le_refl _)) (by omega))
    cases hO : ozW cs with
    | false =>
      rw [fix_2 hW hO]
      have HO := Lib.hid hO
      clear hr hW hO
      go_enter Tryz.func21, Tryz.ntmps21
      go_wp2_with (first
        | (go_at_call 39; refine HV.out.mono ?_; rintro e w2 ⟨rfl, hb2⟩; have HB2 := Lib.hid hb2; clear hb2)
        | (go_at_call 40; refine (HZ.out w2 HB2.out).mono ?_; rw [HO.out]; rintro e w3 ⟨rfl, hb3⟩; have HB3 := Lib.hid (bqcP hb3 HB2.out); clear hb3))
      go_ret2
      exact ⟨none, 0, 0, rfl, own_nil _ _ _, HB3.out⟩
    | true =>
      by_cases h0 : scP (tFix.cmd :: cs) = 0
      · rw [fix_4 hW hO h0]
        have HO := Lib.hid hO; have H0 := Lib.hid h0; have HN := Lib.hid (sc_nodes h0)
        clear hr hW hO h0
        go_enter Tryz.func21, Tryz.ntmps21
        go_upto_region 9 with (first
          | (go_at_call 39; refine HV.out.mono ?_; rintro e w2 ⟨rfl, hb2⟩; have HB2 := Lib.hid hb2; clear hb2)
          | (go_at_call 40; refine (HZ.out w2 HB2.out).mono ?_; rw [HO.out]; rintro e w3 ⟨rfl, hb3⟩; have HB3 := Lib.hid (bqcP hb3 HB2.out); clear hb3)
          | (go_at_call 45
             refine (HSC.out w3 HB3.out).mono ?_
             rintro e w4 ⟨p4, rfl, h4, hb4⟩
             rw [H0.out]
             have H4 := Lib.hid (h4 H0.out)
             have HB4 := Lib.hid (bqcP hb4 HB3.out)
             have HL4 : Hid (w3.heap.size ≤ w4.heap.size) := Lib.hid hb4.size
             clear h4 hb4))
        go_wp2_with (first
          | (go_at_call 46
             have hh := pair_any w4 w3.heap.size _ _ _ _ H4.out H4.out HL4.out (by have := HN.out; omega) (by have := HN.out; omega)
             refine hh.mono ?_
             rintro e w5 ⟨v5, rfl, h5, hb5⟩
             obtain ⟨p5, rfl⟩ := h5.isPtr
             have H5 := Lib.hid h5
             have HB5 := Lib.hid (bqcP hb5 HB4.out)
             clear hh h5 hb5)
          | (go_at_call 47
             have hh := checked2_any w5 w3.heap.size _ _ H5.out (by have := HN.out; simp only [Tr.nodes]; omega)
             refine hh.mono ?_
             rintro e w6 ⟨A6, n6, c6, rfl, ho6, hb6⟩
             have HO6 := Lib.hid ho6
             have HB6 := Lib.hid (bqcP hb6 HB5.out)
             clear hh ho6 hb6))
        go_ret2
        exact ⟨A6, n6, c6, rfl, own_base HO6.out HB5.out.size, HB6.out⟩
      · rw [fix_3 hW hO h0]
        have HO := Lib.hid hO; have H0 := Lib.hid h0
        have hb0 : (scP (tFix.cmd :: cs) == 0) = false := by rw [beq_eq_false_iff_ne]; exact h0
        obtain ⟨k, hk⟩ : ∃ k, k = scP (tFix.cmd :: cs) := ⟨_, rfl⟩
        have HK := Lib.hid hk
        rw [← hk] at hb0 ⊢
        clear hr hW hO h0 hk
        go_enter Tryz.func21, Tryz.ntmps21
        go_wp2_with (first
          | (go_at_call 39; refine HV.out.mono ?_; rintro e w2 ⟨rfl, hb2⟩; have HB2 := Lib.hid hb2; clear hb2)
          | (go_at_call 40; refine (HZ.out w2 HB2.out).mono ?_; rw [HO.out]; rintro e w3 ⟨rfl, hb3⟩; have HB3 := Lib.hid (bqcP hb3 HB2.out); clear hb3)
          | (go_at_call 45
             refine (HSC.out w3 HB3.out).mono ?_
             rintro e w4 ⟨p4, rfl, h4, hb4⟩
             rw [← HK.out]
             have HB4 := Lib.hid (bqcP hb4 HB3.out)
             clear h4 hb4))
        go_ret2
        exact ⟨none, 0, 0, rfl, own_nil _ _ _, HB4.out⟩
set_option maxHeartbeats 1000000 in
theorem implQuinePackage_any (w : World) : Calls Tryz.prog 10 #[] w (RetS w 4 (bools (fixP [tQuine.cmd]).1)) := by
  have HW := Lib.hid (whileOf_any tQuine _ ok_tQuine.ru ok_tQuine.li ok_tQuine.l1 ok_tQuine.l2 w)
  go_enter Tryz.func10, Tryz.ntmps10
  go_wp2_with (first
    | (go_at_call 31
       refine HW.out.mono ?_
       rintro e w2 ⟨A2, c2, rfl, hrc, hc2, hb2⟩
       have HF := Lib.hid (implFixPackage_any w2 A2 1 c2 _ hrc (by omega) hc2)
       have HB2 := Lib.hid hb2
       clear hrc hc2 hb2)
    | (go_at_call 21
       refine HF.out.mono ?_
       rintro e w3 ⟨A3, n3, c3, rfl, ho3, hb3⟩
       have HO3 := Lib.hid ho3
       have HB3 := Lib.hid (bqcP hb3 HB2.out)
       clear ho3 hb3))
  go_ret
  exact ⟨A3, n3, c3, rfl, own_base HO3.out HB2.out.size, HB3.out⟩
end Go.Proofs.YtaadobggenbbdaaGreatDoor
