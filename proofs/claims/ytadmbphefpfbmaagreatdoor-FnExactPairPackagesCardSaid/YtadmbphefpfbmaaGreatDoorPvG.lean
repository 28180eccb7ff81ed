/- The two packages joined (program): joinedPackages, ComposePackages, PairPackages. -/
import Derived.Test.YtadmbphefpfbmaaGreatDoorPvE
import Derived.Test.YtadmbphefpfbmaaGreatDoorPvF
namespace Go.Proofs.YtadmbphefpfbmaaGreatDoor
open Go.RowKit
set_option linter.unusedVariables false
set_option linter.unusedSimpArgs false
attribute [local go_sem ↓] Go.wp_at_zero Go.wp_at_succ
theorem prcTwo (bs ds : List Bool) : prcC 0 [bs, ds] = if isTr bs && isTr ds then (if opOk (treeB bs) && opOk (treeB ds) then 0 else 9) else 1 := by
  simp only [prcC, allTr, List.all_cons, List.all_nil, Bool.and_true, List.map_cons, List.map_nil, if_true]
theorem two_r {T : List Cmd → List Cmd → List Cmd} {bs ds : List Bool} (h : prcC 0 [bs, ds] ≠ 0) : twoP T bs ds = ([], prcC 0 [bs, ds]) := by
  rw [prcTwo] at h ⊢
  unfold twoP
  cases h1 : (isTr bs && isTr ds) with
  | false => rfl
  | true =>
    rw [h1] at h
    cases h2 : (opOk (treeB bs) && opOk (treeB ds)) with
    | false => rfl
    | true => rw [h2] at h; exact absurd rfl h
theorem two_z {bs ds : List Bool} (h : prcC 0 [bs, ds] = 0) : ∃ t d : Tr, bs = t.bits ∧ t.nodes ≤ 2000 ∧ ds = d.bits ∧ d.nodes ≤ 2000 ∧ opOk t = true ∧ opOk d = true := by
  rw [prcTwo] at h
  cases h1 : (isTr bs && isTr ds) with
  | false => rw [h1] at h; simp at h
  | true =>
    rw [h1] at h
    cases h2 : (opOk (treeB bs) && opOk (treeB ds)) with
    | false => rw [h2] at h; simp at h
    | true =>
      simp only [Bool.and_eq_true] at h1 h2
      obtain ⟨t, rfl, htn⟩ := isTr_tree h1.1
      obtain ⟨d, rfl, hdn⟩ := isTr_tree h1.2
      rw [treeB_bits, treeB_bits] at h2
      exact ⟨t, d, rfl, htn, rfl, hdn, h2.1, h2.2⟩
theorem both_long {cs : List Cmd} {d : Tr} (h : 80 < cs.length) : bothP cs d = ([], 5) := by
  unfold bothP
  rw [if_neg]
  simp only [isW, Bool.and_eq_true, decide_eq_true_eq]
  omega
theorem both_short {cs : List Cmd} {d : Tr} (h : cs.length ≤ 80) (hok : okC cs = true) : bothP cs d = if isW (oneW cs) then pkP (oneW cs) d else ([], 5) := by
  unfold bothP
  rw [if_pos]
  simp [isW, h, hok]
set_option maxHeartbeats 4000000 in
set_option maxRecDepth 100000 in
theorem joinedCmp_any (w : World) (A : Option Addr) (n c : Nat) (bs : List Bool) (hr : Rd w A n (bools bs)) (hn : n ≤ 1000000000) (A' : Option Addr) (n' c' : Nat) (ds : List Bool) (hr' : Rd w A' n' (bools ds)) (hn' : n' ≤ 1000000000) :
    Calls Tryz.prog 26 #[.slice A n c, .slice A' n' c', .func (.func 27) #[] #[]] w (RetSI w 4 (bools (twoP compT bs ds).1) (twoP compT bs ds).2) := by
  have HR2 := Lib.hid (RdB.lit2 (c := c) (c' := c') hr hn hr' hn')
  have hb1 := below_new w (.cells #[.slice A n c, .slice A' n' c'] 22)
  have hp := parcelsOf_any _ 0 _ 2 2 [bs, ds] HR2.out (by omega)
  by_cases h0 : prcC 0 [bs, ds] = 0
  · obtain ⟨t, d, rfl, htn, rfl, hdn, hot, hod⟩ := two_z h0
    have HC := Lib.hid h0
    have htl := tl_nodes htn
    have hdl := tl_nodes hdn
    have hi1 := op_isW hot
    have hi2 := op_isW hod
    rw [two_0 htn hdn (by rw [hot, hod]; rfl)]
    have HOT : Hid (okC (compT (opProg t) (opProg d)) = true) := Lib.hid (comp_ok (isW_ok hi1).2 (isW_ok hi2).2)
    have HVT : Hid (2 ≤ topV 0 (varsL (compT (opProg t) (opProg d)))) := Lib.hid (comp_vars _ _)
    clear h0 hot hod hr hr'
    go_enter Tryz.func26, Tryz.ntmps26
    go_wp2_with fail
    refine hp.mono ?_
    rintro e w2 ⟨A2, n2, c2, rfl, h2, hb2⟩
    rw [HC.out]
    obtain ⟨ps, ho2, hpc⟩ := h2 HC.out
    obtain ⟨q, hq⟩ := get_some (xs := ps) (k := 0) (by rw [hpc.1]; simp)
    obtain ⟨q', hq'⟩ := get_some (xs := ps) (k := 1) (by rw [hpc.1]; simp)
    obtain ⟨A3, n3, c3, F3, p3, rfl, ho3, hF3, ht3⟩ := hpc.2 0 q t hq (by simp [treeB_bits])
    obtain ⟨A4, n4, c4, F4, p4, rfl, ho4, hF4, ht4⟩ := hpc.2 1 q' d hq' (by simp [treeB_bits])
    obtain ⟨e0, e1⟩ := flatP_get hq
    obtain ⟨e2, e3⟩ := flatP_get hq'
    obtain ⟨g, hg, hgb, hgs, r0, _⟩ := ownN_get ho2 e0
    subst hg
    obtain ⟨r1, _⟩ := ownN_at ho2 e1
    obtain ⟨r2, _⟩ := ownN_at ho2 e2
    obtain ⟨r3, _⟩ := ownN_at ho2 e3
    have hn2 : 1 < n2 := by have h1 := ho2.1; have h3 := hpc.1; rw [flatP_len] at h1; simp at h3; omega
    have hn20 : 0 < n2 := by omega
    have hn2i : (1 : Int) < (n2 : Int) := by omega
    have HN3 : Hid (n3 ≤ 80) := Lib.hid (by have h1 := ho3.len; have h2 := (isW_ok hi1).1; omega)
    have HN4 : Hid (n4 ≤ 80) := Lib.hid (by have h1 := ho4.len; have h2 := (isW_ok hi2).1; omega)
    have hb := bqcP hb2 hb1
    have HB2 : Hid (Below w.heap.size w w2) := Lib.hid hb
    have HRC := Lib.hid ho3.rdc
    have HRD := Lib.hid ho4.rdc
    have HT3 := Lib.hid (ht3.wide (lo' := w.heap.size) hb1.size (Nat.le_refl _))
    have HT4 := Lib.hid (ht4.wide (lo' := w.heap.size) hb1.size (Nat.le_refl _))
    have HTN : Hid (t.tl.nodes ≤ 2000 ∧ d.tl.nodes ≤ 2000) := Lib.hid ⟨by omega, by omega⟩
    have HG2 := Lib.hid hgs
    simp only [Nat.zero_mul, Nat.zero_add, Nat.one_mul] at r0 r1 r2 r3
    have HQ0 := Lib.hid r0; have HQ1 := Lib.hid r1; have HQ2 := Lib.hid r2; have HQ3 := Lib.hid r3
    clear h2 hpc hq hq' e0 e1 e2 e3 ho2 ho3 ho4 hF3 hF4 ht3 ht4 hb2 hb1 hb HR2 hp hi1 hi2 htl hdl r1 r3 hgb hgs
    go_upto_region 4 with fail
    go_region_held3 (fun w' => w'.cell? ⟨g, 0, none⟩ = some (.slice A3 n3 c3) ∧ w'.cell? ⟨g, 2, none⟩ = some (.slice A4 n4 c4)) (exact ⟨r0, r2⟩) (first
      | (go_at_call 27
         refine (comp1_any _ A3 n3 c3 _ (by first | exact HRC.out.drew | exact HRC.out) HN3.out A4 n4 c4 _ (by first | exact HRD.out.drew | exact HRD.out) HN4.out).mono ?_
         rintro e w5 ⟨A5, n5, c5, rfl, hk5, ho5, hc5, hb5⟩
         (try replace hb5 := und1 hb5)
         have HO5 := Lib.hid ho5; have HC5 := Lib.hid hc5; have HK5 := Lib.hid hk5
         have HT5 := Lib.hid (HT3.out.up hb5); have HU5 := Lib.hid (HT4.out.up hb5)
         have HB5 : Hid (Below w.heap.size w w5) := Lib.hid (bqcP hb5 HB2.out)
         have HG5 := Lib.hid (Nat.lt_of_lt_of_le HG2.out hb5.size)
         have HP1 := Lib.hid ((hb5.cell (p := ⟨g, 1, none⟩) HG2.out).trans HQ1.out)
         have HP3 := Lib.hid ((hb5.cell (p := ⟨g, 3, none⟩) HG2.out).trans HQ3.out)
         have r0 := (hb5.cell (p := ⟨g, 0, none⟩) HG2.out).trans HQ0.out
         have r2 := (hb5.cell (p := ⟨g, 2, none⟩) HG2.out).trans HQ2.out
         clear hk5 ho5 hc5 hb5))
    all_goals
      clear r0 r2 HRC HRD HT3 HT4
      generalize hTT : compT (opProg t) (opProg d) = TT at *
      clear hTT
      have hl5 := HO5.out.len
      by_cases h80 : n5 ≤ 80
      · have hl80 : ¬ (n5 : Int) > 80 := by omega
        have hl81 : ¬ (80 : Int) < (n5 : Int) := by omega
        have hov := oneVariable_any w5 A5 n5 c5 TT HO5.out HOT.out h80 HVT.out
        have HOV := Lib.hid hov
        have HBS : Hid (bothP TT (.node t.tl d.tl) = if isW (oneW TT) then pkP (oneW TT) (.node t.tl d.tl) else ([], 5)) := Lib.hid (both_short (by omega) HOT.out)
        have HL5 : Hid ((oneW TT).length ≤ 82) := Lib.hid (by have h1 := oneN_len (topV 0 (varsL TT)).toNat TT; rw [show oneN (topV 0 (varsL TT)).toNat TT = oneW TT from rfl] at h1; omega)
        clear hov hl5
        go_upto_region 8 with (go_at_call 59
                               refine HOV.out.mono ?_
                               rintro e w6 ⟨A6, n6, c6, code, rfl, hcode, h6, hb6⟩
                               have HCO := Lib.hid hcode; have H6 := Lib.hid h6
                               have HT6 := Lib.hid (HT5.out.up hb6); have HU6 := Lib.hid (HU5.out.up hb6)
                               have HB6 : Hid (Below w.heap.size w w6) := Lib.hid (bqcP hb6 HB5.out)
                               have HG6 := Lib.hid (Nat.lt_of_lt_of_le HG5.out hb6.size)
                               have HQ1 := Lib.hid ((hb6.cell (p := ⟨g, 1, none⟩) HG5.out).trans HP1.out)
                               have HQ3 := Lib.hid ((hb6.cell (p := ⟨g, 3, none⟩) HG5.out).trans HP3.out)
                               clear hcode h6 hb6)
        cases hW : isW (oneW TT) with
        | false =>
          have hcd := HCO.out
          rw [hW] at hcd
          obtain rfl : code = 5 := hcd
          have HZ : Hid (bothP TT (.node t.tl d.tl) = ([], 5)) := Lib.hid (by rw [HBS.out, hW]; rfl)
          clear hW HCO hl80 hl81
          go_wp2_with fail
          go_ret2
          rw [HZ.out]
          exact ⟨none, 0, 0, rfl, own_nil _ _ _, HB6.out⟩
        | true =>
          have hcd := HCO.out
          rw [hW] at hcd
          obtain rfl : code = 0 := hcd
          have h7 := H6.out rfl
          have HR7 := Lib.hid h7.1; have HC7 := Lib.hid h7.2
          have HN7 : Hid (n6 ≤ 1000) := Lib.hid (by have h1 := h7.1.len; have := HL5.out; omega)
          have HZ : Hid (bothP TT (.node t.tl d.tl) = pkP (oneW TT) (.node t.tl d.tl)) := Lib.hid (by rw [HBS.out, hW]; rfl)
          clear hW HCO h7 hl80 hl81
          have r1 := HQ1.out
          have r3 := HQ3.out
          go_upto_region 10 with fail
          go_region_held3 (fun w' => w'.cell? ⟨g, 1, none⟩ = some (.pointer p3) ∧ w'.cell? ⟨g, 3, none⟩ = some (.pointer p4)) (exact ⟨r1, r3⟩) (first
            | (go_at_call 49
               refine (packaged_any _ w.heap.size A6 n6 c6 _ _ (.node t.tl d.tl) (by first | exact RC8.out.drew | exact RC8.out) (by have := HN7.out; omega) HC7.out (by first | exact HT8.out.drew | exact HT8.out) (by exact HB8.out.size) (by have := HTN.out; simp only [Tr.nodes]; omega)).mono ?_
               rintro e w9 ⟨A9, n9, c9, rfl, ho9, hb9⟩
               (try replace hb9 := und1 hb9)
               have r1 := (hb9.cell (p := ⟨g, 1, none⟩) HG8.out).trans r1
               have r3 := (hb9.cell (p := ⟨g, 3, none⟩) HG8.out).trans r3)
            | (go_at_call 60
               refine (pair_any _ w.heap.size _ _ t.tl d.tl (by first | exact HT6.out.drew | exact HT6.out) (by first | exact HU6.out.drew | exact HU6.out) (by exact HB6.out.size) (by have := HTN.out; omega) (by have := HTN.out; omega)).mono ?_
               rintro e w8 ⟨v8, rfl, h8, hb8⟩
               obtain ⟨p8, rfl⟩ := h8.isPtr
               (try replace hb8 := und1 hb8)
               have r1 := (hb8.cell (p := ⟨g, 1, none⟩) HG6.out).trans HQ1.out
               have r3 := (hb8.cell (p := ⟨g, 3, none⟩) HG6.out).trans HQ3.out
               have HT8 := Lib.hid h8
               have RC8 := Lib.hid (HR7.out.below hb8 (Nat.le_refl _))
               have HB8 : Hid (Below w.heap.size w w8) := Lib.hid (bqcP hb8 HB6.out)
               have HG8 := Lib.hid (Nat.lt_of_lt_of_le HG6.out hb8.size)))
          all_goals
            go_wp2_with fail
            go_ret2
            rw [HZ.out]
            exact ⟨A9, n9, c9, rfl, own_base ho9 HB8.out.size, bqcP hb9 HB8.out⟩
      · have hl80 : (n5 : Int) > 80 := by omega
        have hl81 : (80 : Int) < (n5 : Int) := by omega
        have HZ : Hid (bothP TT (.node t.tl d.tl) = ([], 5)) := Lib.hid (both_long (by omega))
        clear hl5
        go_wp2_with fail
        go_ret2
        rw [HZ.out]
        exact ⟨none, 0, 0, rfl, own_nil _ _ _, HB5.out⟩
  · obtain ⟨r, hrr⟩ : ∃ r, r = prcC 0 [bs, ds] := ⟨_, rfl⟩
    rw [two_r h0, ← hrr]
    have hr0 : r ≠ 0 := by rw [hrr]; exact h0
    have HC : Hid (prcC 0 [bs, ds] = r) := Lib.hid hrr.symm
    have b0 : (r == 0) = false := by simpa using hr0
    clear h0 hr hr' hrr
    go_enter Tryz.func26, Tryz.ntmps26
    go_wp2_with fail
    refine hp.mono ?_
    rintro e w3 ⟨A3, n3, c3, rfl, h3, hb3⟩
    rw [HC.out]
    clear h3
    go_wp2_with fail
    go_ret2
    exact ⟨none, 0, 0, rfl, own_nil _ _ _, bqcP hb3 hb1⟩
set_option maxHeartbeats 4000000 in
set_option maxRecDepth 100000 in
theorem joinedPar_any (w : World) (A : Option Addr) (n c : Nat) (bs : List Bool) (hr : Rd w A n (bools bs)) (hn : n ≤ 1000000000) (A' : Option Addr) (n' c' : Nat) (ds : List Bool) (hr' : Rd w A' n' (bools ds)) (hn' : n' ≤ 1000000000) :
    Calls Tryz.prog 26 #[.slice A n c, .slice A' n' c', .func (.func 31) #[] #[]] w (RetSI w 4 (bools (twoP pairT bs ds).1) (twoP pairT bs ds).2) := by
  have HR2 := Lib.hid (RdB.lit2 (c := c) (c' := c') hr hn hr' hn')
  have hb1 := below_new w (.cells #[.slice A n c, .slice A' n' c'] 22)
  have hp := parcelsOf_any _ 0 _ 2 2 [bs, ds] HR2.out (by omega)
  by_cases h0 : prcC 0 [bs, ds] = 0
  · obtain ⟨t, d, rfl, htn, rfl, hdn, hot, hod⟩ := two_z h0
    have HC := Lib.hid h0
    have htl := tl_nodes htn
    have hdl := tl_nodes hdn
    have hi1 := op_isW hot
    have hi2 := op_isW hod
    rw [two_0 htn hdn (by rw [hot, hod]; rfl)]
    have HOT : Hid (okC (pairT (opProg t) (opProg d)) = true) := Lib.hid (pair_ok (isW_ok hi1).2 (isW_ok hi2).2)
    have HVT : Hid (2 ≤ topV 0 (varsL (pairT (opProg t) (opProg d)))) := Lib.hid (pair_vars _ _)
    clear h0 hot hod hr hr'
    go_enter Tryz.func26, Tryz.ntmps26
    go_wp2_with fail
    refine hp.mono ?_
    rintro e w2 ⟨A2, n2, c2, rfl, h2, hb2⟩
    rw [HC.out]
    obtain ⟨ps, ho2, hpc⟩ := h2 HC.out
    obtain ⟨q, hq⟩ := get_some (xs := ps) (k := 0) (by rw [hpc.1]; simp)
    obtain ⟨q', hq'⟩ := get_some (xs := ps) (k := 1) (by rw [hpc.1]; simp)
    obtain ⟨A3, n3, c3, F3, p3, rfl, ho3, hF3, ht3⟩ := hpc.2 0 q t hq (by simp [treeB_bits])
    obtain ⟨A4, n4, c4, F4, p4, rfl, ho4, hF4, ht4⟩ := hpc.2 1 q' d hq' (by simp [treeB_bits])
    obtain ⟨e0, e1⟩ := flatP_get hq
    obtain ⟨e2, e3⟩ := flatP_get hq'
    obtain ⟨g, hg, hgb, hgs, r0, _⟩ := ownN_get ho2 e0
    subst hg
    obtain ⟨r1, _⟩ := ownN_at ho2 e1
    obtain ⟨r2, _⟩ := ownN_at ho2 e2
    obtain ⟨r3, _⟩ := ownN_at ho2 e3
    have hn2 : 1 < n2 := by have h1 := ho2.1; have h3 := hpc.1; rw [flatP_len] at h1; simp at h3; omega
    have hn20 : 0 < n2 := by omega
    have hn2i : (1 : Int) < (n2 : Int) := by omega
    have HN3 : Hid (n3 ≤ 80) := Lib.hid (by have h1 := ho3.len; have h2 := (isW_ok hi1).1; omega)
    have HN4 : Hid (n4 ≤ 80) := Lib.hid (by have h1 := ho4.len; have h2 := (isW_ok hi2).1; omega)
    have hb := bqcP hb2 hb1
    have HB2 : Hid (Below w.heap.size w w2) := Lib.hid hb
    have HRC := Lib.hid ho3.rdc
    have HRD := Lib.hid ho4.rdc
    have HT3 := Lib.hid (ht3.wide (lo' := w.heap.size) hb1.size (Nat.le_refl _))
    have HT4 := Lib.hid (ht4.wide (lo' := w.heap.size) hb1.size (Nat.le_refl _))
    have HTN : Hid (t.tl.nodes ≤ 2000 ∧ d.tl.nodes ≤ 2000) := Lib.hid ⟨by omega, by omega⟩
    have HG2 := Lib.hid hgs
    simp only [Nat.zero_mul, Nat.zero_add, Nat.one_mul] at r0 r1 r2 r3
    have HQ0 := Lib.hid r0; have HQ1 := Lib.hid r1; have HQ2 := Lib.hid r2; have HQ3 := Lib.hid r3
    clear h2 hpc hq hq' e0 e1 e2 e3 ho2 ho3 ho4 hF3 hF4 ht3 ht4 hb2 hb1 hb HR2 hp hi1 hi2 htl hdl r1 r3 hgb hgs
    go_upto_region 4 with fail
    go_region_held3 (fun w' => w'.cell? ⟨g, 0, none⟩ = some (.slice A3 n3 c3) ∧ w'.cell? ⟨g, 2, none⟩ = some (.slice A4 n4 c4)) (exact ⟨r0, r2⟩) (first
      | (go_at_call 31
         refine (pair1_any _ A3 n3 c3 _ (by first | exact HRC.out.drew | exact HRC.out) HN3.out A4 n4 c4 _ (by first | exact HRD.out.drew | exact HRD.out) HN4.out).mono ?_
         rintro e w5 ⟨A5, n5, c5, rfl, hk5, ho5, hc5, hb5⟩
         (try replace hb5 := und1 hb5)
         have HO5 := Lib.hid ho5; have HC5 := Lib.hid hc5; have HK5 := Lib.hid hk5
         have HT5 := Lib.hid (HT3.out.up hb5); have HU5 := Lib.hid (HT4.out.up hb5)
         have HB5 : Hid (Below w.heap.size w w5) := Lib.hid (bqcP hb5 HB2.out)
         have HG5 := Lib.hid (Nat.lt_of_lt_of_le HG2.out hb5.size)
         have HP1 := Lib.hid ((hb5.cell (p := ⟨g, 1, none⟩) HG2.out).trans HQ1.out)
         have HP3 := Lib.hid ((hb5.cell (p := ⟨g, 3, none⟩) HG2.out).trans HQ3.out)
         have r0 := (hb5.cell (p := ⟨g, 0, none⟩) HG2.out).trans HQ0.out
         have r2 := (hb5.cell (p := ⟨g, 2, none⟩) HG2.out).trans HQ2.out
         clear hk5 ho5 hc5 hb5))
    all_goals
      clear r0 r2 HRC HRD HT3 HT4
      generalize hTT : pairT (opProg t) (opProg d) = TT at *
      clear hTT
      have hl5 := HO5.out.len
      by_cases h80 : n5 ≤ 80
      · have hl80 : ¬ (n5 : Int) > 80 := by omega
        have hl81 : ¬ (80 : Int) < (n5 : Int) := by omega
        have hov := oneVariable_any w5 A5 n5 c5 TT HO5.out HOT.out h80 HVT.out
        have HOV := Lib.hid hov
        have HBS : Hid (bothP TT (.node t.tl d.tl) = if isW (oneW TT) then pkP (oneW TT) (.node t.tl d.tl) else ([], 5)) := Lib.hid (both_short (by omega) HOT.out)
        have HL5 : Hid ((oneW TT).length ≤ 82) := Lib.hid (by have h1 := oneN_len (topV 0 (varsL TT)).toNat TT; rw [show oneN (topV 0 (varsL TT)).toNat TT = oneW TT from rfl] at h1; omega)
        clear hov hl5
        go_upto_region 8 with (go_at_call 59
                               refine HOV.out.mono ?_
                               rintro e w6 ⟨A6, n6, c6, code, rfl, hcode, h6, hb6⟩
                               have HCO := Lib.hid hcode; have H6 := Lib.hid h6
                               have HT6 := Lib.hid (HT5.out.up hb6); have HU6 := Lib.hid (HU5.out.up hb6)
                               have HB6 : Hid (Below w.heap.size w w6) := Lib.hid (bqcP hb6 HB5.out)
                               have HG6 := Lib.hid (Nat.lt_of_lt_of_le HG5.out hb6.size)
                               have HQ1 := Lib.hid ((hb6.cell (p := ⟨g, 1, none⟩) HG5.out).trans HP1.out)
                               have HQ3 := Lib.hid ((hb6.cell (p := ⟨g, 3, none⟩) HG5.out).trans HP3.out)
                               clear hcode h6 hb6)
        cases hW : isW (oneW TT) with
        | false =>
          have hcd := HCO.out
          rw [hW] at hcd
          obtain rfl : code = 5 := hcd
          have HZ : Hid (bothP TT (.node t.tl d.tl) = ([], 5)) := Lib.hid (by rw [HBS.out, hW]; rfl)
          clear hW HCO hl80 hl81
          go_wp2_with fail
          go_ret2
          rw [HZ.out]
          exact ⟨none, 0, 0, rfl, own_nil _ _ _, HB6.out⟩
        | true =>
          have hcd := HCO.out
          rw [hW] at hcd
          obtain rfl : code = 0 := hcd
          have h7 := H6.out rfl
          have HR7 := Lib.hid h7.1; have HC7 := Lib.hid h7.2
          have HN7 : Hid (n6 ≤ 1000) := Lib.hid (by have h1 := h7.1.len; have := HL5.out; omega)
          have HZ : Hid (bothP TT (.node t.tl d.tl) = pkP (oneW TT) (.node t.tl d.tl)) := Lib.hid (by rw [HBS.out, hW]; rfl)
          clear hW HCO h7 hl80 hl81
          have r1 := HQ1.out
          have r3 := HQ3.out
          go_upto_region 10 with fail
          go_region_held3 (fun w' => w'.cell? ⟨g, 1, none⟩ = some (.pointer p3) ∧ w'.cell? ⟨g, 3, none⟩ = some (.pointer p4)) (exact ⟨r1, r3⟩) (first
            | (go_at_call 49
               refine (packaged_any _ w.heap.size A6 n6 c6 _ _ (.node t.tl d.tl) (by first | exact RC8.out.drew | exact RC8.out) (by have := HN7.out; omega) HC7.out (by first | exact HT8.out.drew | exact HT8.out) (by exact HB8.out.size) (by have := HTN.out; simp only [Tr.nodes]; omega)).mono ?_
               rintro e w9 ⟨A9, n9, c9, rfl, ho9, hb9⟩
               (try replace hb9 := und1 hb9)
               have r1 := (hb9.cell (p := ⟨g, 1, none⟩) HG8.out).trans r1
               have r3 := (hb9.cell (p := ⟨g, 3, none⟩) HG8.out).trans r3)
            | (go_at_call 60
               refine (pair_any _ w.heap.size _ _ t.tl d.tl (by first | exact HT6.out.drew | exact HT6.out) (by first | exact HU6.out.drew | exact HU6.out) (by exact HB6.out.size) (by have := HTN.out; omega) (by have := HTN.out; omega)).mono ?_
               rintro e w8 ⟨v8, rfl, h8, hb8⟩
               obtain ⟨p8, rfl⟩ := h8.isPtr
               (try replace hb8 := und1 hb8)
               have r1 := (hb8.cell (p := ⟨g, 1, none⟩) HG6.out).trans HQ1.out
               have r3 := (hb8.cell (p := ⟨g, 3, none⟩) HG6.out).trans HQ3.out
               have HT8 := Lib.hid h8
               have RC8 := Lib.hid (HR7.out.below hb8 (Nat.le_refl _))
               have HB8 : Hid (Below w.heap.size w w8) := Lib.hid (bqcP hb8 HB6.out)
               have HG8 := Lib.hid (Nat.lt_of_lt_of_le HG6.out hb8.size)))
          all_goals
            go_wp2_with fail
            go_ret2
            rw [HZ.out]
            exact ⟨A9, n9, c9, rfl, own_base ho9 HB8.out.size, bqcP hb9 HB8.out⟩
      · have hl80 : (n5 : Int) > 80 := by omega
        have hl81 : (80 : Int) < (n5 : Int) := by omega
        have HZ : Hid (bothP TT (.node t.tl d.tl) = ([], 5)) := Lib.hid (both_long (by omega))
        clear hl5
        go_wp2_with fail
        go_ret2
        rw [HZ.out]
        exact ⟨none, 0, 0, rfl, own_nil _ _ _, HB5.out⟩
  · obtain ⟨r, hrr⟩ : ∃ r, r = prcC 0 [bs, ds] := ⟨_, rfl⟩
    rw [two_r h0, ← hrr]
    have hr0 : r ≠ 0 := by rw [hrr]; exact h0
    have HC : Hid (prcC 0 [bs, ds] = r) := Lib.hid hrr.symm
    have b0 : (r == 0) = false := by simpa using hr0
    clear h0 hr hr' hrr
    go_enter Tryz.func26, Tryz.ntmps26
    go_wp2_with fail
    refine hp.mono ?_
    rintro e w3 ⟨A3, n3, c3, rfl, h3, hb3⟩
    rw [HC.out]
    clear h3
    go_wp2_with fail
    go_ret2
    exact ⟨none, 0, 0, rfl, own_nil _ _ _, bqcP hb3 hb1⟩
set_option maxHeartbeats 1000000 in
theorem implComposePackages_any (w : World) (A : Option Addr) (n c : Nat) (bs : List Bool) (hr : Rd w A n (bools bs)) (hn : n ≤ 1000000000) (A' : Option Addr) (n' c' : Nat) (ds : List Bool) (hr' : Rd w A' n' (bools ds)) (hn' : n' ≤ 1000000000) :
    Calls Tryz.prog 9 #[.slice A n c, .slice A' n' c'] w (RetSI w 4 (bools (twoP compT bs ds).1) (twoP compT bs ds).2) := by
  have H := Lib.hid (joinedCmp_any w A n c bs hr hn A' n' c' ds hr' hn')
  clear hr hr'
  generalize twoP compT bs ds = q at *
  obtain ⟨qb, qc⟩ := q
  go_enter Tryz.func9, Tryz.ntmps9
  go_wp2_with (go_at_call 26; refine H.out.mono ?_; rintro e w7 ⟨A7, n7, c7, rfl, ho7, hb7⟩)
  go_ret2
  exact ⟨A7, n7, c7, rfl, ho7, hb7⟩
set_option maxHeartbeats 1000000 in
theorem implPairPackages_any (w : World) (A : Option Addr) (n c : Nat) (bs : List Bool) (hr : Rd w A n (bools bs)) (hn : n ≤ 1000000000) (A' : Option Addr) (n' c' : Nat) (ds : List Bool) (hr' : Rd w A' n' (bools ds)) (hn' : n' ≤ 1000000000) :
    Calls Tryz.prog 14 #[.slice A n c, .slice A' n' c'] w (RetSI w 4 (bools (twoP pairT bs ds).1) (twoP pairT bs ds).2) := by
  have H := Lib.hid (joinedPar_any w A n c bs hr hn A' n' c' ds hr' hn')
  clear hr hr'
  generalize twoP pairT bs ds = q at *
  obtain ⟨qb, qc⟩ := q
  go_enter Tryz.func14, Tryz.ntmps14
  go_wp2_with (go_at_call 26; refine H.out.mono ?_; rintro e w7 ⟨A7, n7, c7, rfl, ho7, hb7⟩)
  go_ret2
  exact ⟨A7, n7, c7, rfl, ho7, hb7⟩
end Go.Proofs.YtadmbphefpfbmaaGreatDoor
