/- SpecializePackage: the program and the reference. -/
import Derived.Test.YtaadobggenbbdaaGreatDoorPkO
import Derived.Test.YtaadobggenbbdaaGreatDoorPrc
namespace Go.Proofs.YtaadobggenbbdaaGreatDoor
open Go.RowKit
set_option linter.unusedVariables false
set_option linter.unusedSimpArgs false
attribute [local go_sem ↓] Go.wp_at_zero Go.wp_at_succ
theorem ok_tSpec : TxtOk tSpec ⟨#[48, 61, 40, 104, 104, 48, 46, 40, 116, 104, 48, 46, 116, 48, 41, 41]⟩ := ⟨by kernel_rfl, by kernel_rfl, by decide, by decide⟩
theorem src_tSpec : SrcOk tSpec ⟨#[48, 61, 40, 104, 104, 48, 46, 40, 116, 104, 48, 46, 116, 48, 41, 41]⟩ := ⟨by kernel_rfl, by decide, by decide⟩
theorem op_isW {t : Tr} (h : opOk t = true) : isW (opProg t) = true := by
  cases t with
  | nil => simp [opOk] at h
  | node a b =>
    simp only [opOk, decide_eq_true_eq] at h
    simp only [opProg]
    unfold pot at h ⊢
    split
    · rename_i hz; rw [hz] at h; simp at h
    · rename_i z hz
      rw [hz] at h
      simp only at h
      split
      · assumption
      · rename_i hw; rw [if_neg hw] at h; simp at h
theorem tl_nodes {t : Tr} (h : t.nodes ≤ 2000) : t.tl.nodes ≤ 2000 := by
  cases t with
  | nil => simp [Tr.tl, Tr.nodes]
  | node a b => simp only [Tr.tl, Tr.nodes] at h ⊢; omega
theorem opd_tl {t : Tr} (h : opOk t = true) : opData t = t.tl.bits := by
  cases t with
  | nil => simp [opOk] at h
  | node a b => rfl
theorem prc1 (bs : List Bool) : prcC 0 [bs] = if isTr bs then (if opOk (treeB bs) then 0 else 9) else 1 := by
  simp only [prcC, allTr, List.all_cons, List.all_nil, Bool.and_true, List.map_cons, List.map_nil, if_true]
theorem RdB.lit2 {w : World} {A A' : Option Addr} {n c n' c' : Nat} {xs ys : List Bool} (h : Rd w A n (bools xs)) (hn : n ≤ 1000000000) (h' : Rd w A' n' (bools ys)) (hn' : n' ≤ 1000000000) : RdB (w.alloc (.cells #[.slice A n c, .slice A' n' c'] 22)) (some ⟨w.heap.size, 0, none⟩) 2 [xs, ys] := by
  refine ⟨[.slice A n c, .slice A' n' c'], own_rd (own_lit w #[.slice A n c, .slice A' n' c'] 2 22 rfl (by omega)), rfl, fun i v zs hv hy => ?_⟩
  match i, hv, hy with
  | 0, hv, hy => simp at hv hy; subst hv hy; exact ⟨A, n, c, rfl, hn, h.alloc _⟩
  | 1, hv, hy => simp at hv hy; subst hv hy; exact ⟨A', n', c', rfl, hn', h'.alloc _⟩
  | i + 2, hv, hy => simp at hv
theorem RdC.drew {w : World} {A : Option Addr} {n : Nat} {cs : List Cmd} (h : RdC w A n cs) : RdC w.drew A n cs := h.below (below_drew1 (Below.refl w.heap.size w)) (Nat.le_refl _)
def speP (bs ds : List Bool) : List Bool × Int := if isTr bs && isTr ds then (if opOk (treeB bs) then pkP (tSpec.cmd :: opProg (treeB bs)) (.node (treeB bs).tl (treeB ds)) else ([], 9)) else ([], 1)
theorem spe_1 {bs ds : List Bool} (h : (isTr bs && isTr ds) = false) : speP bs ds = ([], 1) := by unfold speP; rw [h]; rfl
theorem spe_9 {t d : Tr} (h : t.nodes ≤ 2000) (h2 : d.nodes ≤ 2000) (ho : opOk t = false) : speP t.bits d.bits = ([], 9) := by unfold speP; rw [isTr_bits h, isTr_bits h2, treeB_bits, ho]; rfl
theorem spe_0 {t d : Tr} (h : t.nodes ≤ 2000) (h2 : d.nodes ≤ 2000) (ho : opOk t = true) : speP t.bits d.bits = pkP (tSpec.cmd :: opProg t) (.node t.tl d) := by unfold speP; rw [isTr_bits h, isTr_bits h2, treeB_bits, treeB_bits, ho]; rfl
theorem spe_len (bs ds : List Bool) : (speP bs ds).1.length ≤ 1000000 := by
  unfold speP
  split
  · split
    · exact pk_len _ _
    · simp
  · simp
set_option maxHeartbeats 4000000 in
set_option maxRecDepth 100000 in
theorem implSpecializePackage_any (w : World) (A : Option Addr) (n c : Nat) (bs : List Bool) (hr : Rd w A n (bools bs)) (hn : n ≤ 1000000000) (A' : Option Addr) (n' c' : Nat) (ds : List Bool) (hr' : Rd w A' n' (bools ds)) (hn' : n' ≤ 1000000000) :
    Calls Tryz.prog 26 #[.slice A n c, .slice A' n' c'] w (RetSI w 4 (bools (speP bs ds).1) (speP bs ds).2) := by
  have HR2 := Lib.hid (RdB.lit2 (c := c) (c' := c') hr hn hr' hn')
  have hb1 := below_new w (.cells #[.slice A n c, .slice A' n' c'] 22)
  have hall : allTr [bs, ds] = (isTr bs && isTr ds) := by simp [allTr]
  cases hv : (isTr bs && isTr ds) with
  | false =>
    have HV : Hid (allTr [bs, ds] = false) := Lib.hid (hall.trans hv)
    rw [spe_1 hv]
    clear hv hall hr hr'
    go_enter Tryz.func26, Tryz.ntmps26
    go_wp2_with fail
    refine (areTrees_any _ _ _ _ _ HR2.out (by omega)).mono ?_
    rw [HV.out]
    rintro e w2 ⟨rfl, rfl⟩
    go_wp2_with fail
    go_ret2
    exact ⟨none, 0, 0, rfl, own_nil _ _ _, hb1⟩
  | true =>
    have HV : Hid (allTr [bs, ds] = true) := Lib.hid (hall.trans hv)
    have hp := parcelsOf_any _ 0 _ 1 1 [bs] (RdB.lit1 (c := c) (hr.below hb1 (Nat.le_refl _)) hn) (by omega)
    rw [show (w.alloc (.cells #[.slice A n c, .slice A' n' c'] 22)).heap.size = w.heap.size + 1 by simp] at hp
    have hbb := bqcP (below_new (w.alloc (.cells #[.slice A n c, .slice A' n' c'] 22)) (.cells #[.slice A n c] 22)) hb1
    simp only [Bool.and_eq_true] at hv
    obtain ⟨t, rfl, htn⟩ := isTr_tree hv.1
    obtain ⟨d, rfl, hdn⟩ := isTr_tree hv.2
    cases hop : opOk t with
    | false =>
      have HC : Hid (prcC 0 [t.bits] = 9) := Lib.hid (by rw [prc1, hv.1, treeB_bits, hop]; rfl)
      rw [spe_9 htn hdn hop]
      clear hv hall hr hr' hop
      go_enter Tryz.func26, Tryz.ntmps26
      go_wp2_with fail
      refine (areTrees_any _ _ _ _ _ HR2.out (by omega)).mono ?_
      rw [HV.out]
      rintro e w2 ⟨rfl, rfl⟩
      go_wp2_with fail
      refine hp.mono ?_
      rintro e w3 ⟨A3, n3, c3, rfl, h3, hb3⟩
      rw [HC.out]
      clear h3
      go_wp2_with fail
      go_ret2
      exact ⟨none, 0, 0, rfl, own_nil _ _ _, bqcP hb3 hbb⟩
    | true =>
      have HC : Hid (prcC 0 [t.bits] = 0) := Lib.hid (by rw [prc1, hv.1, treeB_bits, hop]; rfl)
      have htl := tl_nodes htn
      have hiw := op_isW hop
      rw [spe_0 htn hdn hop]
      obtain ⟨q, hq⟩ : ∃ q, q = pkP (tSpec.cmd :: opProg t) (.node t.tl d) := ⟨_, rfl⟩
      have HQ := Lib.hid hq
      rw [← hq]
      clear hq hv hall hop
      obtain ⟨qb, qc⟩ := q
      go_enter Tryz.func26, Tryz.ntmps26
      go_wp2_with fail
      refine (areTrees_any _ _ _ _ _ HR2.out (by omega)).mono ?_
      rw [HV.out]
      rintro e w2 ⟨rfl, rfl⟩
      go_wp2_with fail
      refine hp.mono ?_
      rintro e w2 ⟨A2, n2, c2, rfl, h2, hb2⟩
      rw [HC.out]
      obtain ⟨ps, ho2, hpc⟩ := h2 HC.out
      obtain ⟨q, hq⟩ := get_some (xs := ps) (k := 0) (by rw [hpc.1]; simp)
      obtain ⟨A3, n3, c3, F3, p3, rfl, ho3, hF3, ht3⟩ := hpc.2 0 q t hq (by simp [treeB_bits])
      obtain ⟨e0, e1⟩ := flatP_get hq
      obtain ⟨g, hg, hgb, hgs, r0, _⟩ := ownN_get ho2 e0
      subst hg
      obtain ⟨r1, _⟩ := ownN_at ho2 e1
      have hn2 : 0 < n2 := by have h1 := ho2.1; have h3 := hpc.1; rw [flatP_len] at h1; simp at h3; omega
      have hn3 : n3 ≤ 80 := by have h1 := ho3.len; have h2 := (isW_ok hiw).1; omega
      have HB2 := Lib.hid (bqcP hb2 hbb)
      have HRC := Lib.hid ho3.rdc
      have HT3 := Lib.hid (ht3.wide (lo' := w.heap.size) hbb.size (Nat.le_refl _))
      have HRA := Lib.hid (hr'.below HB2.out (Nat.le_refl _))
      simp only [Nat.zero_mul, Nat.zero_add] at r0 r1
      clear h2 hpc hq e0 e1 ho2 ho3 hF3 ht3 hb2 hr hr' hiw hb1 hbb HR2 hp
      go_wp2_with fail
      go_region_held3 (fun w' => w'.cell? ⟨g, 0, none⟩ = some (.slice A3 n3 c3) ∧ w'.cell? ⟨g, 1, none⟩ = some (.pointer p3)) (exact ⟨r0, r1⟩) (first
        | (go_at_call 41
           refine (packaged_any _ w.heap.size A4 (1 + n3) c4 _ _ (.node t.tl d) (by first | exact RC6.out.drew | exact RC6.out) (by omega) hc4 (by first | exact HT6.out.drew | exact HT6.out) HB6.out.size (by simp only [Tr.nodes]; omega)).mono ?_
           rw [← HQ.out]
           rintro e w7 ⟨A7, n7, c7, rfl, ho7, hb7⟩
           (try replace hb7 := und1 hb7)
           have r0 := (hb7.cell (p := ⟨g, 0, none⟩) hg6).trans r0
           have r1 := (hb7.cell (p := ⟨g, 1, none⟩) hg6).trans r1)
        | (go_at_call 46
           refine (pair_any _ w.heap.size _ _ t.tl d (by first | exact HT5.out.drew | exact HT5.out) (by first | exact HD5.out.drew | exact HD5.out) HB5.out.size (by omega) (by omega)).mono ?_
           rintro e w6 ⟨v6, rfl, h6, hb6⟩
           obtain ⟨p6, rfl⟩ := h6.isPtr
           (try replace hb6 := und1 hb6)
           have r0 := (hb6.cell (p := ⟨g, 0, none⟩) hg5).trans r0
           have r1 := (hb6.cell (p := ⟨g, 1, none⟩) hg5).trans r1
           have HT6 := Lib.hid h6
           have RC6 := Lib.hid (RC5.out.below hb6 (Nat.le_refl _))
           have HB6 := Lib.hid (bqcP hb6 HB5.out)
           have hg6 := Nat.lt_of_lt_of_le hg5 hb6.size)
        | (go_at_call 54
           refine (treeOf_any _ A' n' c' d (by first | exact RA4.out.drew | exact RA4.out) (by have h1 := RA4.out.1; simp [Tr.bits_len] at h1; omega)).mono ?_
           rintro e w5 ⟨v5, rfl, h5, hb5⟩
           obtain ⟨p5, rfl⟩ := h5.isPtr
           (try replace hb5 := und1 hb5)
           have r0 := (hb5.cell (p := ⟨g, 0, none⟩) hg4).trans r0
           have r1 := (hb5.cell (p := ⟨g, 1, none⟩) hg4).trans r1
           have HD5 := Lib.hid (h5.wide (lo' := w.heap.size) HB4.out.size (Nat.le_refl _))
           have HT5 := Lib.hid (HT4.out.up hb5)
           have RC5 := Lib.hid (RC4.out.below hb5 (Nat.le_refl _))
           have HB5 := Lib.hid (bqcP hb5 HB4.out)
           have hg5 := Nat.lt_of_lt_of_le hg4 hb5.size)
        | (go_at_call 42
           refine (behind_any tSpec _ ok_tSpec _ A3 n3 c3 (opProg t) (by first | exact HRC.out.drew | exact HRC.out) (by omega)).mono ?_
           rintro e w4 ⟨A4, c4, rfl, hrc4, hc4, hb4⟩
           (try replace hb4 := und1 hb4)
           have r0 := (hb4.cell (p := ⟨g, 0, none⟩) hgs).trans r0
           have r1 := (hb4.cell (p := ⟨g, 1, none⟩) hgs).trans r1
           have HT4 := Lib.hid (HT3.out.up hb4)
           have RC4 := Lib.hid hrc4
           have RA4 := Lib.hid (HRA.out.below hb4 (Nat.le_refl _))
           have HB4 := Lib.hid (bqcP hb4 HB2.out)
           have hg4 := Nat.lt_of_lt_of_le hgs hb4.size))
      all_goals
        go_wp2_with fail
        go_ret2
        exact ⟨A7, n7, c7, rfl, own_base ho7 HB6.out.size, bqcP hb7 HB6.out⟩
set_option maxHeartbeats 4000000 in
set_option maxRecDepth 100000 in
theorem specSpecializePackage_any (w : World) (A : Option Addr) (n c : Nat) (bs : List Bool) (hr : Rd w A n (bools bs)) (hn : n ≤ 1099511627776) (hnc : n ≤ c) (A' : Option Addr) (n' c' : Nat) (ds : List Bool) (hr' : Rd w A' n' (bools ds)) (hn' : n' ≤ 1099511627776) :
    Calls Tryz.prog 24 #[.slice A n c, .slice A' n' c'] w (RetSI w 4 (bools (speP bs ds).1) (speP bs ds).2) := by
  have HI1 := l21Is_any w A n c bs hr hn
  have HI2 := l21Is_any w A' n' c' ds hr' hn'
  cases hv1 : isTr bs with
  | false =>
    rw [spe_1 (by rw [hv1]; rfl)]
    rw [hv1] at HI1
    replace HI1 := Lib.hid HI1
    clear hv1 hr hr' HI2
    go_enter Tryz.func24, Tryz.ntmps24
    go_wp2_with (go_at_call 50; refine HI1.out.mono ?_; rintro e w2 ⟨rfl, rfl⟩)
    go_ret2
    exact ⟨none, 0, 0, rfl, own_nil _ _ _, Below.refl _ _⟩
  | true =>
  rw [hv1] at HI1
  replace HI1 := Lib.hid HI1
  cases hv2 : isTr ds with
  | false =>
    rw [spe_1 (by rw [hv2, Bool.and_false])]
    rw [hv2] at HI2
    replace HI2 := Lib.hid HI2
    clear hv1 hv2 hr hr'
    go_enter Tryz.func24, Tryz.ntmps24
    go_wp2_with (first
      | (go_at_call 50; refine HI1.out.mono ?_; rintro e w2 ⟨rfl, rfl⟩; clear HI1)
      | (go_at_call 50; refine HI2.out.mono ?_; rintro e w2 ⟨rfl, rfl⟩; clear HI2))
    go_ret2
    exact ⟨none, 0, 0, rfl, own_nil _ _ _, Below.refl _ _⟩
  | true =>
  rw [hv2] at HI2
  replace HI2 := Lib.hid HI2
  obtain ⟨t, rfl, htn⟩ := isTr_tree hv1
  obtain ⟨d, rfl, hdn⟩ := isTr_tree hv2
  have HSO := Lib.hid (l24Open_any w A n c t hr htn hnc)
  cases hop : opOk t with
  | false =>
    rw [spe_9 htn hdn hop]
    have HOP := Lib.hid hop
    clear hv1 hv2 hr hr' hop
    go_enter Tryz.func24, Tryz.ntmps24
    go_wp2_with (first
      | (go_at_call 50; refine HI1.out.mono ?_; rintro e w2 ⟨rfl, rfl⟩; clear HI1)
      | (go_at_call 50; refine HI2.out.mono ?_; rintro e w2 ⟨rfl, rfl⟩; clear HI2)
      | (go_at_call 51; refine HSO.out.mono ?_; rintro e w3 ⟨A3, n3, c3, F3, A4, n4, c4, rfl, ho3, hF3, ho4, hd4, hb3⟩; rw [HOP.out]; have HB3 := Lib.hid hb3; clear ho3 hF3 ho4 hd4 hb3))
    go_ret2
    exact ⟨none, 0, 0, rfl, own_nil _ _ _, HB3.out⟩
  | true =>
    rw [spe_0 htn hdn hop]
    have HOP := Lib.hid hop
    have HIW := Lib.hid (op_isW hop)
    have hod := opd_tl hop
    have htl := tl_nodes htn
    obtain ⟨q, hq⟩ : ∃ q, q = pkP (tSpec.cmd :: opProg t) (.node t.tl d) := ⟨_, rfl⟩
    have HQ := Lib.hid hq
    have HOD := Lib.hid hod
    have HRA := Lib.hid hr'
    rw [← hq]
    clear hq hv1 hv2 hr hr' hop hod
    obtain ⟨qb, qc⟩ := q
    go_enter Tryz.func24, Tryz.ntmps24
    go_wp2_with (first
      | (go_at_call 50; refine HI1.out.mono ?_; rintro e w2 ⟨rfl, rfl⟩; clear HI1)
      | (go_at_call 50; refine HI2.out.mono ?_; rintro e w2 ⟨rfl, rfl⟩; clear HI2)
      | (go_at_call 51
         refine HSO.out.mono ?_
         rintro e w3 ⟨A3, n3, c3, F3, A4, n4, c4, rfl, ho3, hF3, ho4, hd4, hb3⟩
         rw [HOP.out]
         have hn3 : n3 ≤ 80 := by have h1 := ho3.len; have h2 := (isW_ok HIW.out).1; omega
         rw [HOD.out] at ho4
         have HB3 := Lib.hid hb3; have HRC := Lib.hid ho3.rdc; have HD4 := Lib.hid (own_rd ho4)
         have hn4 : n4 ≤ 2000 := by have h1 := HD4.out.1; simp [Tr.bits_len] at h1; omega
         have HRA3 := Lib.hid (HRA.out.below hb3 (Nat.le_refl _))
         have hn' : n' ≤ 2000 := by have h1 := HRA.out.1; simp [Tr.bits_len] at h1; omega
         clear ho3 hF3 ho4 hd4 hb3)
      | (go_at_call 36
         refine (l24Before_any tSpec _ src_tSpec w3 A3 n3 c3 (opProg t) HRC.out (by omega)).mono ?_
         rintro e w5 ⟨A5, c5, rfl, hrc5, hc5, hb5⟩
         have HRC5 := Lib.hid hrc5
         have HD5 := Lib.hid (HD4.out.below hb5 (Nat.le_refl _)); have HRA5 := Lib.hid (HRA3.out.below hb5 (Nat.le_refl _))
         have HB5 := Lib.hid (bqcP hb5 HB3.out)
         clear hrc5 hc5 hb5)
      | (go_at_call 49
         refine (l21Pair_any w5 A4 n4 c4 t.tl.bits HD5.out (by omega) A' n' c' d.bits HRA5.out (by omega)).mono ?_
         rintro e w6 ⟨A6, n6, c6, rfl, ho6, hb6⟩
         have HMK := makeAny_any w6 A5 (1 + n3) c5 tSpec (opProg t) (by decide) (HRC5.out.below hb6 (Nat.le_refl _)) (by omega) HIW.out A6 n6 c6 (.node t.tl d) (by have h := own_rd ho6; simpa [Tr.bits] using h) (by simp only [Tr.nodes]; omega)
         rw [← HQ.out] at HMK
         replace HMK := Lib.hid HMK
         have HB6 := Lib.hid (bqcP hb6 HB5.out)
         clear ho6 hb6)
      | (go_at_call 35
         refine HMK.out.mono ?_
         rintro e w7 ⟨A7, n7, c7, rfl, ho7, hb7⟩
         have HO7 := Lib.hid ho7
         have HB7 := Lib.hid (bqcP hb7 HB6.out)
         clear ho7 hb7))
    go_ret2
    exact ⟨A7, n7, c7, rfl, own_base HO7.out HB6.out.size, HB7.out⟩
end Go.Proofs.YtaadobggenbbdaaGreatDoor
