/- PadPackage: the program and the reference. -/
import Derived.Test.YtadmbphefpfbmaaGreatDoorGK
import Derived.Test.YtadmbphefpfbmaaGreatDoorRpY
import Derived.Test.YtadmbphefpfbmaaGreatDoorPqG
import Derived.Test.YtadmbphefpfbmaaGreatDoorPvM
import Derived.Test.YtadmbphefpfbmaaGreatDoorPvB
namespace Go.Proofs.YtadmbphefpfbmaaGreatDoor
open Go.RowKit
set_option linter.unusedVariables false
set_option linter.unusedSimpArgs false
attribute [local go_sem ↓] Go.wp_at_zero Go.wp_at_succ
theorem rep_flatC (x : Cmd) (s : Value) : ∀ N : Nat, repX (flatC [x] [s]) N = flatC (List.replicate N x) (List.replicate N s)
  | 0 => by simp [repX, flatC]
  | N + 1 => by
    have h := rep_flatC x s N
    have e : repX (flatC [x] [s]) (N + 1) = flatC [x] [s] ++ repX (flatC [x] [s]) N := by simp [repX, List.replicate_succ]
    rw [e, h]
    simp [flatC, List.replicate_succ]
def padP (bs : List Bool) (k : Int) : List Bool × Int := if isTr bs then (if inB k 0 80 then (if opOk (treeB bs) then pkP (List.replicate k.toNat tPad.cmd ++ opProg (treeB bs)) (treeB bs).tl else ([], 9)) else ([], 2)) else ([], 1)
theorem pad_len (bs : List Bool) (k : Int) : (padP bs k).1.length ≤ 1000000 := by
  unfold padP
  split
  · split
    · split
      · exact pk_len _ _
      · simp
    · simp
  · simp
theorem prc2 (bs : List Bool) : prcC 2 [bs] = if isTr bs then 2 else 1 := by
  simp only [prcC, allTr, List.all_cons, List.all_nil, Bool.and_true]; rfl
theorem pad_out {bs : List Bool} {k : Int} (h : inB k 0 80 = false) : padP bs k = ([], prcC 2 [bs]) := by
  rw [prc2]; unfold padP; rw [h]; cases isTr bs <;> rfl
theorem pad_err {bs : List Bool} {k : Int} (h : inB k 0 80 = true) (h2 : prcC 0 [bs] ≠ 0) : padP bs k = ([], prcC 0 [bs]) := by
  rw [prc1] at h2 ⊢; unfold padP; rw [h]
  cases h3 : isTr bs with
  | false => rfl
  | true =>
    cases h4 : opOk (treeB bs) with
    | false => rfl
    | true => rw [h3, h4] at h2; simp at h2
theorem prc_zero {bs : List Bool} (h : prcC 0 [bs] = 0) : ∃ t : Tr, bs = t.bits ∧ t.nodes ≤ 2000 ∧ opOk t = true := by
  rw [prc1] at h
  split at h
  · rename_i ht
    obtain ⟨t, rfl, htn⟩ := isTr_tree ht
    rw [treeB_bits] at h
    split at h
    · exact ⟨t, rfl, htn, by assumption⟩
    · simp at h
  · simp at h
theorem pad_ok {t : Tr} {N : Nat} (h : t.nodes ≤ 2000) (hN : N ≤ 80) (ho : opOk t = true) : padP t.bits N = pkP (List.replicate N tPad.cmd ++ opProg t) t.tl := by
  have hb : inB (N : Int) 0 80 = true := by simp [inB]; omega
  unfold padP; rw [isTr_bits h, hb, treeB_bits, ho]; rfl
theorem RdV.drew {w : World} {A : Option Addr} {n : Nat} {pss : List (Nat × List Value)} (h : RdV w A n pss) : RdV w.drew A n pss := h
theorem inB_nat {k : Int} (h : inB k 0 80 = true) : ∃ N : Nat, k = N ∧ N ≤ 80 := by
  simp [inB] at h
  exact ⟨k.toNat, by omega, by omega⟩
set_option maxHeartbeats 4000000 in
set_option maxRecDepth 100000 in
theorem implPadPackage_any (w : World) (A : Option Addr) (n c : Nat) (bs : List Bool) (hr : Rd w A n (bools bs)) (hn : n ≤ 1000000000) (k : Int) :
    Calls Tryz.prog 21 #[.slice A n c, .int .i64 k] w (RetSI w 4 (bools (padP bs k).1) (padP bs k).2) := by
  have hpp := fun code => parcelsOf_any _ code _ 1 1 [bs] (RdB.lit1 (c := c) hr hn) (by omega)
  have hbb := below_new w (.cells #[.slice A n c] 22)
  cases hin : inB k 0 80 with
  | false =>
    rw [pad_out hin]
    have HIN := Lib.hid hin
    have hp := hpp 2
    obtain ⟨r, hrr⟩ : ∃ r, r = prcC 2 [bs] := ⟨_, rfl⟩
    have hr0 : r ≠ 0 := by rw [hrr, prc2]; split <;> decide
    have HC : Hid (prcC 2 [bs] = r) := Lib.hid hrr.symm
    have b0 : (r == 0) = false := by simpa using hr0
    clear hpp hr hrr hin
    go_enter Tryz.func21, Tryz.ntmps21
    go_wp2_with (first
      | (go_at_call 46; refine (within_any _ k 0 80).mono ?_; rw [HIN.out]; rintro e w2 ⟨rfl, rfl⟩))
    refine hp.mono ?_
    rintro e w3 ⟨A3, n3, c3, rfl, h3, hb3⟩
    rw [HC.out]
    clear h3
    go_wp2_with fail
    go_ret2
    exact ⟨none, 0, 0, by rw [HC.out]; rfl, own_nil _ _ _, bqcP hb3 hbb⟩
  | true =>
    have HIN := Lib.hid hin
    have hp := hpp 0
    clear hpp
    by_cases h0 : prcC 0 [bs] = 0
    · obtain ⟨t, rfl, htn, hop⟩ := prc_zero h0
      obtain ⟨N, rfl, hN⟩ := inB_nat hin
      have HC := Lib.hid h0
      have htl := tl_nodes htn
      have hiw := op_isW hop
      rw [pad_ok htn hN hop]
      obtain ⟨q, hq⟩ : ∃ q, q = pkP (List.replicate N tPad.cmd ++ opProg t) t.tl := ⟨_, rfl⟩
      have HQ := Lib.hid hq
      rw [← hq]
      clear hq hop hin h0 hr
      obtain ⟨qb, qc⟩ := q
      go_enter Tryz.func21, Tryz.ntmps21
      go_wp2_with (first
        | (go_at_call 46; refine (within_any _ (N : Int) 0 80).mono ?_; rw [HIN.out]; rintro e w2 ⟨rfl, rfl⟩))
      refine hp.mono ?_
      rintro e w2 ⟨A2, n2, c2, rfl, h2, hb2⟩
      rw [HC.out]
      obtain ⟨ps, ho2, hpc⟩ := h2 HC.out
      obtain ⟨q, hq⟩ := get_some (xs := ps) (k := 0) (by rw [hpc.1]; simp)
      obtain ⟨A3, n3, c3, F3, p3, rfl, ho3, hF3, ht3⟩ := hpc.2 0 q t hq (by simp [treeB_bits])
      obtain ⟨e0, e1⟩ := flatP_get hq
      obtain ⟨g, hg, hgb, hgs, r0, _⟩ := ownN_get ho2 e0
      subst hg
      obtain ⟨r1, _⟩ := ownN_at ho2 e1
      have hn2 : 0 < n2 := by have h1 := ho2.1; have h3 := hpc.1; rw [flatP_len] at h1; simp at h3; omega
      have hn3 : n3 ≤ 80 := by have h1 := ho3.len; have h2 := (isW_ok hiw).1; omega
      have HB2 := Lib.hid (bqcP hb2 hbb)
      have HRC := Lib.hid ho3.rdc
      have HT3 := Lib.hid (ht3.wide (lo' := w.heap.size) hbb.size (Nat.le_refl _))
      simp only [Nat.zero_mul, Nat.zero_add] at r0 r1
      have HR0 := Lib.hid r0; have HR1 := Lib.hid r1; have HGS := Lib.hid hgs
      clear h2 hpc hq e0 e1 ho2 ho3 hF3 ht3 hb2 hiw hbb hp r0 r1 hgs
      go_wp2_with (first
        | (go_at_call 32
           refine (whileOf_any tPad _ ok_tPad.ru ok_tPad.li ok_tPad.l1 ok_tPad.l2 w2).mono ?_
           rintro e w3 ⟨A4, c4, rfl, hrc4, hc4, hb3⟩
           obtain ⟨ss, p1, p2, p3', p4⟩ := rdc_parts hrc4
           obtain ⟨s, rfl⟩ : ∃ s, ss = [s] := by
             match ss, p2 with
             | [s], _ => exact ⟨s, rfl⟩
           obtain ⟨b4, o4, rfl, _, _⟩ := p1.at_ (k := 0) (u := .int .i64 tPad.cmd.k) rfl
           have HRW : Hid (Rd w3 (some ⟨b4, o4, none⟩) 4 (flatC [tPad.cmd] [s])) := Lib.hid p1
           have HP4 := Lib.hid p4; have HP3 := Lib.hid p3'
           have HRC3 := Lib.hid (HRC.out.below hb3 (Nat.le_refl _))
           have HT3b := Lib.hid (HT3.out.up hb3)
           have HR03 := Lib.hid ((hb3.cell (p := ⟨g, 0, none⟩) HGS.out).trans HR0.out)
           have HR13 := Lib.hid ((hb3.cell (p := ⟨g, 1, none⟩) HGS.out).trans HR1.out)
           have HGS3 := Lib.hid (Nat.lt_of_lt_of_le HGS.out hb3.size)
           have HB3 := Lib.hid (bqcP hb3 HB2.out)
           clear hrc4 hc4 hb3 p1 p2 p3' p4 HRC HT3 HR0 HR1 HGS)
        | (go_at_call 48
           refine (repeatC_any w3 b4 o4 c4 N (flatC [tPad.cmd] [s]) rfl (flatC_one _ _ HP3.out) HRW.out hN).mono ?_
           rintro e w4 ⟨A5, c5, rfl, ho5, hb4⟩
           rw [rep_flatC] at ho5
           have HO5 := Lib.hid ho5
           have HRC4 := Lib.hid (HRC3.out.below hb4 (Nat.le_refl _))
           have HT4 := Lib.hid (HT3b.out.up hb4)
           have HR04 := Lib.hid ((hb4.cell (p := ⟨g, 0, none⟩) HGS3.out).trans HR03.out)
           have HR14 := Lib.hid ((hb4.cell (p := ⟨g, 1, none⟩) HGS3.out).trans HR13.out)
           have HGS4 := Lib.hid (Nat.lt_of_lt_of_le HGS3.out hb4.size)
           have HP44 : Hid (∀ (s' : Value), s' = s → ∃ A' n' c', s' = .slice A' n' c' ∧ n' ≤ 1000000000 ∧ n' ≤ c' ∧ RdE w4 A' n' tPad.cmd.e) := Lib.hid (fun s' e => by
             obtain ⟨A', n', c', e', k1, k2, k3⟩ := HP4.out 0 s tPad.cmd rfl rfl
             exact ⟨A', n', c', e.trans e', k1, k2, k3.below hb4 (Nat.le_refl _)⟩)
           have HB4 := Lib.hid (bqcP hb4 HB3.out)
           clear ho5 hb4 HRC3 HT3b HR03 HR13 HGS3))
      have hbn := below_new w4 (.cells #[.slice A5 N c5, .slice A3 n3 c3] 28)
      obtain ⟨ts, q1, q2, q3, q4⟩ := rdc_parts HRC4.out
      have HVV : Hid (RdV (w4.alloc (.cells #[.slice A5 N c5, .slice A3 n3 c3] 28)) (some ⟨w4.heap.size, 0, none⟩) 2 [(N, flatC (List.replicate N tPad.cmd) (List.replicate N s)), (n3, flatC (opProg t) ts)]) := Lib.hid (by
        refine ⟨[.slice A5 N c5, .slice A3 n3 c3], own_rd (own_lit w4 #[.slice A5 N c5, .slice A3 n3 c3] 2 28 rfl (by omega)), rfl, ?_⟩
        intro j v ys hj hy
        match j, hj, hy with
        | 0, hj, hy => injection hj with hj; injection hy with hy; subst hj hy; exact ⟨_, _, rfl, (ownN_rd HO5.out).below hbn (Nat.le_refl _), flatC_one _ _ (fun u hu => by rw [List.eq_of_mem_replicate hu]; exact HP3.out s (by simp))⟩
        | 1, hj, hy => injection hj with hj; injection hy with hy; subst hj hy; exact ⟨_, _, rfl, q1.below hbn (Nat.le_refl _), flatC_one _ _ q3⟩
        | j + 2, hj, hy => simp at hj)
      have r0 := HR04.out
      have r1 := HR14.out
      have r0a : (w4.alloc (.cells #[.slice A5 N c5, .slice A3 n3 c3] 28)).cell? ⟨g, 0, none⟩ = some (.slice A3 n3 c3) := (hbn.cell (p := ⟨g, 0, none⟩) HGS4.out).trans r0
      have r1a : (w4.alloc (.cells #[.slice A5 N c5, .slice A3 n3 c3] 28)).cell? ⟨g, 1, none⟩ = some (.pointer p3) := (hbn.cell (p := ⟨g, 1, none⟩) HGS4.out).trans r1
      have HQ2 := Lib.hid q2; have HQ4 := Lib.hid q4
      have HBN := Lib.hid hbn
      have HGA : Hid (g < (w4.alloc (.cells #[.slice A5 N c5, .slice A3 n3 c3] 28)).heap.size) := Lib.hid (Nat.lt_of_lt_of_le HGS4.out hbn.size)
      have HBA := Lib.hid (bqcP hbn HB4.out)
      have HTA := Lib.hid (HT4.out.up hbn)
      clear q1 q2 q3 q4 hbn
      go_region_held3 (fun w' => w'.cell? ⟨g, 0, none⟩ = some (.slice A3 n3 c3) ∧ w'.cell? ⟨g, 1, none⟩ = some (.pointer p3)) (first | exact ⟨r0, r1⟩ | exact ⟨r0a, r1a⟩) (first
        | (go_at_call 49
           refine (packaged_any _ w.heap.size A6 (N + n3) c6 _ _ t.tl (by first | exact RC6.out.drew | exact RC6.out) (by omega) HC6.out (by first | exact HT6.out.drew | exact HT6.out) HB6.out.size (by omega)).mono ?_
           rw [← HQ.out]
           rintro e w7 ⟨A7, n7, c7, rfl, ho7, hb7⟩
           (try replace hb7 := und1 hb7)
           have r0 := (hb7.cell (p := ⟨g, 0, none⟩) HG6.out).trans r0
           have r1 := (hb7.cell (p := ⟨g, 1, none⟩) HG6.out).trans r1)
        | (go_at_call 28
           refine (concatC_any _ (some ⟨w4.heap.size, 0, none⟩) 2 2 _ (by first | exact HVV.out.drew | exact HVV.out) (by omega) (by simp only [sumN]; omega)).mono ?_
           rintro e w6 ⟨A6, c6, rfl, ho6, hb6⟩
           (try replace hb6 := und1 hb6)
           simp only [sumN, Nat.add_zero, catV, List.map_cons, List.map_nil, List.flatten_cons, List.flatten_nil, List.append_nil] at ho6 ⊢
           have hbx := HBN.out.trans (hb6.mono HBN.out.size)
           have r0 := (hbx.cell (p := ⟨g, 0, none⟩) HGS4.out).trans HR04.out
           have r1 := (hbx.cell (p := ⟨g, 1, none⟩) HGS4.out).trans HR14.out
           have HC6 : Hid (N + n3 ≤ c6) := Lib.hid (ownN_cap ho6)
           have RC6 : Hid (RdC w6 A6 (N + n3) (List.replicate N tPad.cmd ++ opProg t)) := Lib.hid (rdc_join (ownN_rd ho6) (by simp) HQ2.out (fun i s' y hs hy => by
             have e1 := List.eq_of_mem_replicate (List.mem_of_getElem? hs)
             have e2 := List.eq_of_mem_replicate (List.mem_of_getElem? hy)
             obtain ⟨A', n', c', e, k1, k2, k3⟩ := HP44.out s' e1
             rw [e2]
             exact ⟨A', n', c', e, k1, k2, k3.below hbx (Nat.le_refl _)⟩) (fun i s' y hs hy => by
             obtain ⟨A', n', c', e, k1, k2, k3⟩ := HQ4.out i s' y hs hy
             exact ⟨A', n', c', e, k1, k2, k3.below hbx (Nat.le_refl _)⟩))
           have HT6 := Lib.hid (HT4.out.up hbx)
           have HB6 := Lib.hid (bqcP hbx HB4.out)
           have HG6 := Lib.hid (Nat.lt_of_lt_of_le HGS4.out hbx.size)
           clear ho6 hb6 hbx))
      all_goals
        go_wp2_with fail
        go_ret2
        exact ⟨A7, n7, c7, rfl, own_base ho7 HB6.out.size, bqcP hb7 HB6.out⟩
    · rw [pad_err hin h0]
      obtain ⟨r, hrr⟩ : ∃ r, r = prcC 0 [bs] := ⟨_, rfl⟩
      have HC : Hid (prcC 0 [bs] = r) := Lib.hid hrr.symm
      rw [← hrr] at h0
      have b0 : (r == 0) = false := by simpa using h0
      clear hr hrr hin h0
      go_enter Tryz.func21, Tryz.ntmps21
      go_wp2_with (first
        | (go_at_call 46; refine (within_any _ k 0 80).mono ?_; rw [HIN.out]; rintro e w2 ⟨rfl, rfl⟩))
      refine hp.mono ?_
      rintro e w3 ⟨A3, n3, c3, rfl, h3, hb3⟩
      rw [HC.out]
      clear h3
      go_wp2_with fail
      go_ret2
      exact ⟨none, 0, 0, by rw [HC.out]; rfl, own_nil _ _ _, bqcP hb3 hbb⟩
theorem okC_pads : ∀ (N : Nat) {cs : List Cmd}, okC cs = true → okC (List.replicate N tPad.cmd ++ cs) = true
  | 0, cs, h => h
  | N + 1, cs, h => by
    rw [List.replicate_succ, List.cons_append, okC_set (by rfl) rfl, okC_pads N h]
    rfl
set_option maxHeartbeats 4000000 in
set_option maxRecDepth 100000 in
theorem specPadPackage_any (w : World) (A : Option Addr) (n c : Nat) (bs : List Bool) (hr : Rd w A n (bools bs)) (hn : n ≤ 1099511627776) (hnc : n ≤ c) (k : Int) :
    Calls Tryz.prog 20 #[.slice A n c, .int .i64 k] w (RetSI w 4 (bools (padP bs k).1) (padP bs k).2) := by
  have HI1 := l21Is_any w A n c bs hr hn
  cases hv1 : isTr bs with
  | false =>
    have HP : Hid (padP bs k = ([], 1)) := Lib.hid (by unfold padP; rw [hv1]; rfl)
    rw [hv1] at HI1
    replace HI1 := Lib.hid HI1
    clear hv1 hr
    go_enter Tryz.func20, Tryz.ntmps20
    go_wp2_with (go_at_call 22; refine HI1.out.mono ?_; rintro e w2 ⟨rfl, rfl⟩)
    go_ret2
    rw [HP.out]
    exact ⟨none, 0, 0, rfl, own_nil _ _ _, Below.refl _ _⟩
  | true =>
  rw [hv1] at HI1
  replace HI1 := Lib.hid HI1
  have HIN := Lib.hid (l00In_any w k 0 80)
  cases hin : inB k 0 80 with
  | false =>
    have HP : Hid (padP bs k = ([], 2)) := Lib.hid (by unfold padP; rw [hv1, hin]; rfl)
    rw [hin] at HIN
    clear hv1 hr hin
    go_enter Tryz.func20, Tryz.ntmps20
    go_wp2_with (first
      | (go_at_call 22; refine HI1.out.mono ?_; rintro e w2 ⟨rfl, rfl⟩; clear HI1)
      | (go_at_call 42; refine HIN.out.mono ?_; rintro e w2 ⟨rfl, rfl⟩; clear HIN))
    go_ret2
    rw [HP.out]
    exact ⟨none, 0, 0, rfl, own_nil _ _ _, Below.refl _ _⟩
  | true =>
  rw [hin] at HIN
  obtain ⟨t, rfl, htn⟩ := isTr_tree hv1
  have HSO := Lib.hid (l24Open_any w A n c t hr htn hnc)
  cases hop : opOk t with
  | false =>
    have HP : Hid (padP t.bits k = ([], 9)) := Lib.hid (by unfold padP; rw [hv1, hin, treeB_bits, hop]; rfl)
    have HOP := Lib.hid hop
    clear hv1 hr hop hin
    go_enter Tryz.func20, Tryz.ntmps20
    go_wp2_with (first
      | (go_at_call 22; refine HI1.out.mono ?_; rintro e w2 ⟨rfl, rfl⟩; clear HI1)
      | (go_at_call 42; refine HIN.out.mono ?_; rintro e w2 ⟨rfl, rfl⟩; clear HIN)
      | (go_at_call 23; refine HSO.out.mono ?_; rintro e w3 ⟨A3, n3, c3, F3, A4, n4, c4, rfl, ho3, hF3, ho4, hd4, hb3⟩; rw [HOP.out]; have HB3 := Lib.hid hb3; clear ho3 hF3 ho4 hd4 hb3))
    go_ret2
    rw [HP.out]
    exact ⟨none, 0, 0, rfl, own_nil _ _ _, HB3.out⟩
  | true =>
    obtain ⟨N, rfl, hN⟩ := inB_nat hin
    have HOP := Lib.hid hop
    have HIW := Lib.hid (isW_ok (op_isW hop))
    have hod := opd_tl hop
    have htl := tl_nodes htn
    obtain ⟨q, hq⟩ : ∃ q, q = pkP (List.replicate N tPad.cmd ++ opProg t) t.tl := ⟨_, rfl⟩
    have HQ := Lib.hid hq
    have HOD := Lib.hid hod
    have HP : Hid (padP t.bits (N : Int) = q) := Lib.hid (by rw [pad_ok htn hN hop, hq])
    clear hq hv1 hr hop hod hin
    obtain ⟨qb, qc⟩ := q
    go_enter Tryz.func20, Tryz.ntmps20
    go_upto_region 8 with (first
      | (go_at_call 22; refine HI1.out.mono ?_; rintro e w2 ⟨rfl, rfl⟩; clear HI1)
      | (go_at_call 42; refine HIN.out.mono ?_; rintro e w2 ⟨rfl, rfl⟩; clear HIN)
      | (go_at_call 23
         refine HSO.out.mono ?_
         rintro e w3 ⟨A3, n3, c3, F3, A4, n4, c4, rfl, ho3, hF3, ho4, hd4, hb3⟩
         rw [HOP.out]
         have hn3 : n3 ≤ 80 := by have h1 := ho3.len; have h2 := HIW.out.1; omega
         rw [HOD.out] at ho4
         have HB3 := Lib.hid hb3; have HRC := Lib.hid ho3.rdc; have HD4 := Lib.hid (own_rd ho4)
         have hn4 : n4 ≤ 2000 := by have h1 := HD4.out.1; simp [Tr.bits_len] at h1; omega
         clear ho3 hF3 ho4 hd4 hb3))
    obtain ⟨w4, hw4⟩ : ∃ w4, w4 = w3.alloc (.cells #[] 44) := ⟨_, rfl⟩
    have hb4 : Below w3.heap.size w3 w4 := by rw [hw4]; exact below_new _ _
    have HO4 : Hid (OutC w4 w3.heap.size (some ⟨w3.heap.size, 0, none⟩) 0 0 []) := Lib.hid ⟨[], by rw [hw4]; exact ownN_lit w3 #[] 0 4 44 rfl (by omega), ⟨rfl, by simp⟩⟩
    have HB4 := Lib.hid hb4
    clear hb4
    go_upto_region 9 with fail
    rw [← hw4]
    clear hw4
    go_loopw [1, 9] (fun u v wr => ∃ (j m : Nat) (A5 : Option Addr) (c5 : Nat), j + m = N ∧ u = .int .i64 (m : Int) ∧ v = .slice A5 j c5 ∧ Hid (OutC wr w3.heap.size A5 j c5 (List.replicate j tPad.cmd)) ∧ Hid (Below w3.heap.size w3 wr)) (fun u _ _ => (intOf u).toNat)
    case atStart => exact ⟨0, N, _, _, by omega, rfl, rfl, HO4, HB4⟩
    case round =>
      clear HO4 HB4
      obtain ⟨j, m, A5, c5, hjm, rfl, rfl, HO5, HB5⟩ := hrel
      cases m with
      | zero =>
        obtain rfl : j = N := by omega
        obtain ⟨us, hoo, hii⟩ := HO5.out
        have HOO := Lib.hid hoo; have HII := Lib.hid hii
        obtain ⟨ts, q1, q2, q3, q4⟩ := rdc_parts HRC.out
        have HR5 := Lib.hid (q1.below HB5.out (Nat.le_refl _)); have HQ3 := Lib.hid q3; have HQ2 := Lib.hid q2
        have HQ4 := Lib.hid q4
        have HLN : Hid (j + n3 ≤ 1099511627776) := Lib.hid (by omega)
        clear hoo hii q1 q2 q3 q4
        go_wp2_with (first
          | (at_builtin
             refine wpList_appSN eltCm rfl _ _ rfl wr w3.heap.size (.slice A5 j c5) j _ (by rfl) HOO.out A3 n3 c3 _ (by rfl) HR5.out (flatC_one _ _ HQ3.out) HB5.out.size HLN.out ?_
             rintro A6 c6 w6 ho6 hb6 hg6
             have HB6 : Hid (Below w3.heap.size w3 w6) := Lib.hid (HB5.out.trans hb6)
             have HRC6 : Hid (RdC w6 A6 (j + n3) (List.replicate j tPad.cmd ++ opProg t)) := Lib.hid (by
               have hi6 := HII.out.grow HOO.out hg6
               refine rdc_join (ownN_rd ho6) hi6.1 HQ2.out (fun i u y hu hy => ?_) (fun i u y hu hy => ?_)
               · obtain ⟨A', n', c', e, k1, k2, k3⟩ := hi6.2 i u y hu hy
                 exact ⟨A', n', c', e, k1, k2, ownN_rd k3⟩
               · obtain ⟨A', n', c', e, k1, k2, k3⟩ := HQ4.out i u y hu hy
                 exact ⟨A', n', c', e, k1, k2, k3.below HB6.out (Nat.le_refl _)⟩)
             have HMK := makeOk_any w6 A6 (j + n3) c6 _ HRC6.out (by omega) (okC_pads j HIW.out.2) A4 n4 c4 t.tl (HD4.out.below HB6.out (Nat.le_refl _)) (by omega)
             rw [← HQ.out] at HMK
             replace HMK := Lib.hid HMK
             clear ho6 hb6 hg6)
          | (go_at_call 45
             refine HMK.out.mono ?_
             rintro e w7 ⟨A7, n7, c7, rfl, ho7, hb7⟩
             have HO7 := Lib.hid ho7
             have HB36 : Hid (Below w.heap.size w w6) := Lib.hid (bqcP HB6.out HB3.out)
             have HB7 : Hid (Below w.heap.size w w7) := Lib.hid (bqcP hb7 HB36.out)
             clear ho7 hb7))
        go_ret2
        rw [HP.out]
        exact ⟨A7, n7, c7, rfl, own_base HO7.out HB36.out.size, HB7.out⟩
      | succ m =>
        have hm0 : (0 : Int) < ((m + 1 : Nat) : Int) := by omega
        have HJ : Hid (j ≤ 1099511627776) := Lib.hid (by omega)
        go_wp2_with (first
          | (go_at_call 44
             refine (l22Var_any wr 0).mono ?_
             rintro e w5 ⟨Av, cv, rfl, hv, hb⟩
             have HV5 := Lib.hid hv
             have HO6 := Lib.hid (HO5.out.below hb)
             have HB6 : Hid (Below w3.heap.size w3 w5) := Lib.hid (bqcP hb HB5.out)
             clear hv hb)
          | (go_at_call 43
             refine (l22Set_any w5 0 Av 1 cv).mono ?_
             rintro e w6 ⟨rfl, hb⟩
             have HV6 := Lib.hid (ownN_below HV5.out hb (Nat.le_refl _))
             obtain ⟨us, hoo, hii⟩ := HO6.out.below hb
             have HO7 := Lib.hid hoo; have HI7 := Lib.hid hii
             have HB7 : Hid (Below w3.heap.size w3 w6) := Lib.hid (bqcP hb HB6.out)
             clear hb hoo hii)
          | (at_builtin; go_must (refine wpList_app1N eltCm rfl _ _ rfl w6 w3.heap.size (.slice A5 j c5) j (flatC (List.replicate j tPad.cmd) us) (by rfl) HO7.out #[.int .i64 0, .int .i64 0, .int .i64 0, .slice Av 1 cv] rfl (one4V _ _ _ _ _ _) (by rfl) HB7.out.size HJ.out ?_); rintro A8 c8 w8 ho8 hb8 hg8
             have hoo : OutC w8 w3.heap.size A8 (j + 1) c8 (List.replicate j tPad.cmd ++ [tPad.cmd]) := OutC.app1 HO7.out HI7.out (x := tPad.cmd) HV6.out (by omega) ho8 hg8
             have HO8 : Hid (OutC w8 w3.heap.size A8 (j + 1) c8 (List.replicate (j + 1) tPad.cmd)) := Lib.hid (by rw [List.replicate_succ']; exact hoo)
             have HB8 : Hid (Below w3.heap.size w3 w8) := Lib.hid (HB7.out.trans hb8)
             clear ho8 hb8 hg8 hoo))
        go_roundw
        case rel => exact ⟨j + 1, m, A8, c8, by omega, by go_num, rfl, HO8, HB8⟩
        case measure => simp [intOf]
end Go.Proofs.YtadmbphefpfbmaaGreatDoor
