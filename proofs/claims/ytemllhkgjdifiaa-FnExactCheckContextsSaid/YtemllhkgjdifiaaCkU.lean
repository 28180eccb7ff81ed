/- CheckContexts (reference): l29Check. -/
import Derived.Test.YtemllhkgjdifiaaCkT
import Derived.Deep.OwnRows
namespace Go.Proofs.Ytemllhkgjdifiaa
open Go.RowKit
set_option linter.unusedVariables false
set_option linter.unusedSimpArgs false
theorem spt_of {w : World} {g : Nat} {m : Int} {A1 A2 A3 A4 : Option Addr} {n1 c1 n2 c2 n3 c3 n4 c4 base : Nat} {u1 u2 u3 : List Value} {ls ws cs : List (List Int)} {sts : List Int} (hbs : BS w g m A1 n1 c1 A2 n2 c2 A3 n3 c3 A4 n4 c4)
    (o1 : OwnX w A1 n1 c1 u1 ls) (o2 : OwnX w A2 n2 c2 u2 ws) (o3 : OwnX w A3 n3 c3 u3 cs) (o4 : w.ownsRow base 2 1 (.slice A4 n4 c4) n4 (ints sts)) (h1 : ls.length ≤ 1000000) (h2 : ws.length ≤ 1000000) (h3 : cs.length ≤ 1000000) (he : sts.length = cs.length) : SPt w g m A1 n1 c1 A2 n2 c2 A3 n3 c3 A4 n4 c4 ls ws cs sts := by
  have l1 := o1.ownp.rdl.len; have l2 := o2.ownp.rdl.len; have l3 := o3.ownp.rdl.len
  refine ⟨hbs, o1.ownp.rdl, o2.ownp.rdl, o3.ownp.rdl, own_rd o4, by omega, by omega, by omega, he, ?_⟩
  intro k b off A' n' c' hA hk hc
  obtain ⟨hown, hin⟩ := o3
  have hul : u3.length = n3 := by simpa using hown.1
  obtain ⟨u, hu⟩ := get_some (xs := u3) (k := k) (by omega)
  obtain ⟨x, hx⟩ := get_some (xs := cs) (k := k) (by omega)
  obtain ⟨A6, n6, c6, rfl, _, ho, _⟩ := hin.2.1 k u x hu hx
  obtain ⟨g', hg', _, _, hcell, _⟩ := own_get hown hu
  rw [hA] at hg'
  injection hg' with hg'
  injection hg' with e1 e2
  subst e1 e2
  rw [Nat.zero_add] at hc
  rw [hcell] at hc
  injection hc with hc
  injection hc with e3 e4 e5
  subst e4 e5
  exact ownN_cap ho
/-- What l29Check answers. -/
def chkR (s t : Int) (rs : List Rul) (k : Int) (ns : List Int) (ws : List (List Int)) : Bool :=
  csOk k ns ws && fitB s t (lefts ns ws) (rights ns ws) (ns.drop 3) (ctxs ns ws) && blankB (pN ns).toNat (lefts ns ws) (rights ns ws) (ns.drop 3) (ctxs ns ws) && allTo (closAt s t rs (lefts ns ws) (rights ns ws) (ns.drop 3) (ctxs ns ws)) (ctxs ns ws).length
theorem chkR_no {s t : Int} {rs : List Rul} {k : Int} {ns : List Int} {ws : List (List Int)} (h : csOk k ns ws = false) : chkR s t rs k ns ws = false := by unfold chkR; rw [h]; rfl
theorem chkR_fit {s t : Int} {rs : List Rul} {k : Int} {ns : List Int} {ws : List (List Int)} (h : fitB s t (lefts ns ws) (rights ns ws) (ns.drop 3) (ctxs ns ws) = false) : chkR s t rs k ns ws = false := by unfold chkR; rw [h]; simp
theorem chkR_blank {s t : Int} {rs : List Rul} {k : Int} {ns : List Int} {ws : List (List Int)} (h : blankB (pN ns).toNat (lefts ns ws) (rights ns ws) (ns.drop 3) (ctxs ns ws) = false) : chkR s t rs k ns ws = false := by unfold chkR; rw [h]; simp
theorem chkR_yes {s t : Int} {rs : List Rul} {k : Int} {ns : List Int} {ws : List (List Int)} (h1 : csOk k ns ws = true) (h2 : fitB s t (lefts ns ws) (rights ns ws) (ns.drop 3) (ctxs ns ws) = true) (h3 : blankB (pN ns).toNat (lefts ns ws) (rights ns ws) (ns.drop 3) (ctxs ns ws) = true) : chkR s t rs k ns ws = allTo (closAt s t rs (lefts ns ws) (rights ns ws) (ns.drop 3) (ctxs ns ws)) (ctxs ns ws).length := by unfold chkR; rw [h1, h2, h3]; rfl
theorem run_mk1 (n : Nat) (hn : n ≤ 100000) (w : World) : (Instr.makeSlice 25 (.int .i64 (n : Int)) (.int .i64 (n : Int))).run Try.prog w = .ok (.slice (some ⟨w.heap.size, 0, none⟩) n n) (w.alloc (.cells (madeCells #[.int .i64 0] n) 2)) := by
  obtain ⟨ht, hzc, i, hi, hz, hs1, hb⟩ := Try.eltI
  have hbn : i.bytes * n ≤ 24 * n := Nat.mul_le_mul_right _ hb
  exact run_make_row _ _ i _ ht hi hz hs1 hzc .i64 .i64 n (by omega) (by omega) w
theorem rd_made (n : Nat) (hn : n ≤ 100000) (w : World) : Rd (w.alloc (.cells (madeCells #[.int .i64 0] n) 2)) (some ⟨w.heap.size, 0, none⟩) n (ints (List.replicate n 0)) := by
  have e : (madeCells #[Value.int .i64 0] n).toList = ints (List.replicate n 0) := by rw [toList_madeCells_one]; simp only [ints, List.map_replicate]
  have hs : (madeCells #[Value.int .i64 0] n).size = n := by have h := congrArg List.length e; simpa using h
  have h := own_rd (own_lit w (madeCells #[.int .i64 0] n) n 2 hs (by omega))
  rwa [e] at h
set_option maxHeartbeats 16000000 in
set_option maxRecDepth 100000 in
theorem l29Check_any (w : World) (gm : Nat) (s t : Int) (A : Option Addr) (n c : Nat) (hm : BM w gm s t A n c) (rs : List Rul) (hr : Rd w A (n * 3) (ints (flatR rs))) (hn : n ≤ 1099511627776) (hok : okM s t rs = true) (g : Nat) (k : Int) (A1 : Option Addr) (n1 c1 : Nat) (A2 : Option Addr) (n2 c2 : Nat) (hp : BP w g k A1 n1 c1 A2 n2 c2) (ns : List Int) (hr1 : Rd w A1 n1 (ints ns)) (hn1 : n1 ≤ 1000000000) (hc1 : n1 ≤ c1) (ws : List (List Int)) (hr2 : RdL w A2 n2 ws) (hn2 : n2 ≤ 1000000000) (hokp : okP k ns ws = true) :
    Calls Try.prog 65 #[.pointer (some ⟨gm, 0, none⟩), .pointer (some ⟨g, 0, none⟩)] w (RetV w (.bool (chkR s t rs k ns ws))) := by
  have HP := Lib.hid hp; have HM := Lib.hid hm; have HR1 := Lib.hid hr1; have HR2 := Lib.hid hr2; have HRR := Lib.hid hr; have HOK := Lib.hid hok; have HOKP := Lib.hid hokp
  clear hp hm hr1 hr2 hr hok hokp
  go_enter Try.func65, Try.ntmps65
  go_wp2_with fail
  refine (l29In_any _ _ k A1 n1 c1 A2 n2 c2 HP.out ns HR1.out hn1 hc1 ws HR2.out HOKP.out).mono ?_
  cases hcs : csOk k ns ws with
  | false =>
    have HO := Lib.hid (chkR_no (s := s) (t := t) (rs := rs) hcs)
    clear hcs
    rintro e w3 ⟨v, rfl, hb3, _⟩
    go_wp2_with fail
    go_ret
    exact ⟨by rw [HO.out]; rfl, hb3⟩
  | true =>
    as_aux_lemma =>
    have HCS := Lib.hid hcs
    have HPP := Lib.hid (parts_of hcs)
    clear hcs
    rintro e w3 ⟨v, rfl, hb3, hx⟩
    obtain ⟨g5, B1, m1, d1, u1, B2, m2, d2, u2, B3, m3, d3, u3, B4, m4, d4, rfl, hbs, o1, o2, o3, o4, _⟩ := hx rfl
    obtain ⟨_, _, hwl, _⟩ := okP_bd HOKP.out
    have HS3 : Hid (SPt w3 g5 (pN ns) B1 m1 d1 B2 m2 d2 B3 m3 d3 B4 m4 d4 (lefts ns ws) (rights ns ws) (ctxs ns ws) (ns.drop 3)) := Lib.hid (spt_of hbs o1 o2 o3 o4 (by simp only [lefts, List.length_take]; omega) (by simp only [rights, List.length_take, List.length_drop]; omega) (by simp only [ctxs, List.length_drop]; omega) HPP.out.len)
    have HB3 := Lib.hid hb3
    have HM3 := Lib.hid (HM.out.bel hb3)
    have HSS : Hid (2 ≤ s ∧ s ≤ 6) := Lib.hid (okM_all HOK.out).1
    have HPN : Hid (pN ns = ((pN ns).toNat : Int)) := Lib.hid (by
      have h := HCS.out
      simp only [csOk, g1, Bool.and_eq_true, decide_eq_true_eq, inB_true] at h
      omega)
    obtain ⟨pn, hpn0⟩ : ∃ pn, pn = (pN ns).toNat := ⟨_, rfl⟩
    rw [← hpn0] at HPP HPN
    have HTN := Lib.hid hpn0.symm
    clear hpn0
    have HPNN := Lib.hid HPP.out.n1
    clear hx hbs o1 o2 o3 o4 hwl hb3
    have q := blk_cell HS3.out.bs 1 rfl
    have hmm := HS3.out.b1
    cases hb1 : overB s (lefts ns ws) with
    | false =>
      as_aux_lemma =>
      have KB1 := Lib.hid hb1
      clear hb1
      go_wp2_with fail
      refine (l29Over_any _ gm s t A n c HM3.out HSS.out B1 m1 d1 (lefts ns ws) HS3.out.r1 (by omega)).mono ?_
      rw [KB1.out]
      rintro e w4 ⟨rfl, hb⟩
      clear q hmm
      have HM4 := Lib.hid (HM3.out.bel hb); have HS4 := Lib.hid (HS3.out.below hb); have HB4 := Lib.hid (HB3.out.trans (hb.mono HB3.out.size))
      clear hb HM3 HS3 HB3
      have HO := Lib.hid (chkR_fit (s := s) (t := t) (rs := rs) (k := k) (ns := ns) (ws := ws) (by unfold fitB; rw [KB1.out]; simp))
      go_wp2_with fail
      go_ret
      exact ⟨by rw [HO.out]; rfl, HB4.out⟩
    | true =>
      as_aux_lemma =>
      have KB1 := Lib.hid hb1
      clear hb1
      go_wp2_with fail
      refine (l29Over_any _ gm s t A n c HM3.out HSS.out B1 m1 d1 (lefts ns ws) HS3.out.r1 (by omega)).mono ?_
      rw [KB1.out]
      rintro e w4 ⟨rfl, hb⟩
      clear q hmm
      have HM4 := Lib.hid (HM3.out.bel hb); have HS4 := Lib.hid (HS3.out.below hb); have HB4 := Lib.hid (HB3.out.trans (hb.mono HB3.out.size))
      clear hb HM3 HS3 HB3
      have q := blk_cell HS4.out.bs 2 rfl
      have hmm := HS4.out.b2
      cases hb2 : overB s (rights ns ws) with
      | false =>
        as_aux_lemma =>
        have KB2 := Lib.hid hb2
        clear hb2
        go_wp2_with fail
        refine (l29Over_any _ gm s t A n c HM4.out HSS.out B2 m2 d2 (rights ns ws) HS4.out.r2 (by omega)).mono ?_
        rw [KB2.out]
        rintro e w5 ⟨rfl, hb⟩
        clear q hmm
        have HM5 := Lib.hid (HM4.out.bel hb); have HS5 := Lib.hid (HS4.out.below hb); have HB5 := Lib.hid (HB4.out.trans (hb.mono HB4.out.size))
        clear hb HM4 HS4 HB4
        have HO := Lib.hid (chkR_fit (s := s) (t := t) (rs := rs) (k := k) (ns := ns) (ws := ws) (by unfold fitB; rw [KB2.out]; simp))
        go_wp2_with fail
        go_ret
        exact ⟨by rw [HO.out]; rfl, HB5.out⟩
      | true =>
        as_aux_lemma =>
        have KB2 := Lib.hid hb2
        clear hb2
        go_wp2_with fail
        refine (l29Over_any _ gm s t A n c HM4.out HSS.out B2 m2 d2 (rights ns ws) HS4.out.r2 (by omega)).mono ?_
        rw [KB2.out]
        rintro e w5 ⟨rfl, hb⟩
        clear q hmm
        have HM5 := Lib.hid (HM4.out.bel hb); have HS5 := Lib.hid (HS4.out.below hb); have HB5 := Lib.hid (HB4.out.trans (hb.mono HB4.out.size))
        clear hb HM4 HS4 HB4
        have q := blk_cell HS5.out.bs 3 rfl
        have hmm := HS5.out.b3
        cases hb3 : overB s (ctxs ns ws) with
        | false =>
          as_aux_lemma =>
          have KB3 := Lib.hid hb3
          clear hb3
          go_wp2_with fail
          refine (l29Over_any _ gm s t A n c HM5.out HSS.out B3 m3 d3 (ctxs ns ws) HS5.out.r3 (by omega)).mono ?_
          rw [KB3.out]
          rintro e w6 ⟨rfl, hb⟩
          clear q hmm
          have HM6 := Lib.hid (HM5.out.bel hb); have HS6 := Lib.hid (HS5.out.below hb); have HB6 := Lib.hid (HB5.out.trans (hb.mono HB5.out.size))
          clear hb HM5 HS5 HB5
          have HO := Lib.hid (chkR_fit (s := s) (t := t) (rs := rs) (k := k) (ns := ns) (ws := ws) (by unfold fitB; rw [KB3.out]; simp))
          go_wp2_with fail
          go_ret
          exact ⟨by rw [HO.out]; rfl, HB6.out⟩
        | true =>
          as_aux_lemma =>
          have KB3 := Lib.hid hb3
          clear hb3
          go_wp2_with fail
          refine (l29Over_any _ gm s t A n c HM5.out HSS.out B3 m3 d3 (ctxs ns ws) HS5.out.r3 (by omega)).mono ?_
          rw [KB3.out]
          rintro e w6 ⟨rfl, hb⟩
          clear q hmm
          have HM6 := Lib.hid (HM5.out.bel hb); have HS6 := Lib.hid (HS5.out.below hb); have HB6 := Lib.hid (HB5.out.trans (hb.mono HB5.out.size))
          clear hb HM5 HS5 HB5
          have HL4 : Hid ((ns.drop 3).length = m4) := Lib.hid (by have h := HS6.out.r4.1; simpa using h)
          have hm3 := HS6.out.b3
          obtain rfl : m4 = m3 := HS6.out.n34
          go_wp2_with fail
          go_loopw [7] (fun q wr => ∃ j : Nat, j ≤ m4 ∧ q = .int .i64 j ∧ Hid (∀ i, i < j → ∀ x, (ns.drop 3)[i]? = some x → x < t) ∧ Below w6.heap.size w6 wr) (fun q _ => m4 - (intOf q).toNat)
          case atStart => exact ⟨0, Nat.zero_le _, rfl, Lib.hid (fun i hi => by omega), Below.refl _ _⟩
          case round =>
            as_aux_lemma =>
            obtain ⟨j, hj, rfl, HJ, hb⟩ := hrel
            have HBJ := Lib.hid hb
            have q4 := blk_cell (HS6.out.below hb).bs 4 rfl
            have z1 := (HM6.out.bel hb).cells.2.1
            clear hb
            by_cases hlt : j < m4
            · obtain ⟨st, hx⟩ := get_some (xs := (ns.drop 3)) (k := j) (by rw [HL4.out]; omega)
              obtain ⟨b4, o4, e4, hl4, hc4⟩ := HS6.out.r4.at_ (ints_get hx)
              subst e4
              have p4 := (HBJ.out.cell (p := ⟨b4, o4 + j, none⟩) hl4).trans hc4
              have HX := Lib.hid hx
              clear hx hc4
              by_cases hst : st < t
              · have HST := Lib.hid hst
                have hd : decide (t ≤ st) = false := decide_eq_false (by omega)
                clear hst
                go_wp2_with fail
                go_quiet (fail)
                go_wp2_with fail
                go_roundw
                case rel => exact ⟨j + 1, by omega, by go_num, Lib.hid (fun i hi x h => by
                  rcases Nat.lt_or_ge i j with h1 | h1
                  · exact HJ.out i h1 x h
                  · obtain rfl : i = j := by omega
                    rw [HX.out] at h
                    injection h with h
                    rw [← h]
                    exact HST.out), by first | exact HBJ.out | exact below_drewN HBJ.out⟩
                case measure => simp only [intOf]; omega
              · have hd : decide (t ≤ st) = true := decide_eq_true (by omega)
                have hf : fitB s t (lefts ns ws) (rights ns ws) (ns.drop 3) (ctxs ns ws) = false := by
                  have h : ((ns.drop 3)).all (fun x => decide (x < t)) = false := by
                    rw [List.all_eq_false]
                    exact ⟨st, List.mem_of_getElem? HX.out, by simp; omega⟩
                  unfold fitB
                  rw [h]; simp
                have HO := Lib.hid (chkR_fit (s := s) (t := t) (rs := rs) (k := k) (ns := ns) (ws := ws) hf)
                have HBE := Lib.hid (HB6.out.trans (HBJ.out.mono HB6.out.size))
                clear hst hf
                go_wp2_with fail
                go_quiet (fail)
                go_wp2_with fail
                go_ret
                exact ⟨by rw [HO.out]; rfl, by first | exact HBE.out | exact below_drewN HBE.out⟩
            · have HFIT : Hid (fitB s t (lefts ns ws) (rights ns ws) (ns.drop 3) (ctxs ns ws) = true) := Lib.hid (by
                have h : ((ns.drop 3)).all (fun x => decide (x < t)) = true := by
                  rw [List.all_eq_true]
                  intro x hx
                  obtain ⟨i, hi⟩ := List.mem_iff_getElem?.1 hx
                  have h1 := (List.getElem?_eq_some_iff.1 hi).1
                  exact decide_eq_true (HJ.out i (by rw [HL4.out] at h1; omega) x hi)
                unfold fitB
                rw [KB1.out, KB2.out, KB3.out, h]; rfl)
              have HS7 := Lib.hid (HS6.out.below HBJ.out); have HM7 := Lib.hid (HM6.out.bel HBJ.out); have HB7 := Lib.hid (HB6.out.trans (HBJ.out.mono HB6.out.size))
              have q0 := blk_cell HS7.out.bs 0 rfl
              rw [HPN.out] at q0
              have hpn := HPNN.out
              clear KB1 KB2 KB3 z1 HJ HBJ
              as_aux_lemma =>
              go_wp2_with (at_make; go_must (refine wpList_mk Try.eltI rfl _ _ rfl _ _ _ pn (by rfl) (by rfl) (by omega) (by omega) (by omega) ?_); rintro w8 hown8 hb hs8; rw [show List.replicate pn (Value.int .i64 0) = ints (List.replicate pn 0) by simp only [ints, List.map_replicate]] at hown8; have HZB8 := Lib.hid (own_rd hown8); have HM8 := Lib.hid (HM7.out.bel hb); have HS8 := Lib.hid (HS7.out.below hb); have HB8 := Lib.hid (HB7.out.trans (hb.mono HB7.out.size)); clear hb hown8 hs8 HM7 HS7 HB7 q0; have q := blk_cell HS8.out.bs 1 rfl; have hmm := HS8.out.b1)
              cases hz1 : decide (List.replicate pn (0 : Int) ∈ (lefts ns ws)) with
              | false =>
                as_aux_lemma =>
                have KZ1 := Lib.hid hz1
                clear hz1
                skip
                refine (l29Has_any w8 B1 m1 d1 (lefts ns ws) HS8.out.r1 (by omega) _ pn pn (List.replicate pn 0) HZB8.out (by omega)).mono ?_
                rw [KZ1.out]
                rintro e w9 ⟨rfl, hw⟩
                have hb := drp_bel hw
                clear hw q hmm
                have HM9 := Lib.hid (HM8.out.bel hb); have HS9 := Lib.hid (HS8.out.below hb); have HB9 := Lib.hid (HB8.out.trans (hb.mono HB8.out.size))
                have HZB9 := Lib.hid (HZB8.out.below hb (Nat.le_refl _))
                clear hb HZB8 HM8 HS8 HB8
                have HO := Lib.hid (chkR_blank (s := s) (t := t) (rs := rs) (k := k) (ns := ns) (ws := ws) (by rw [HTN.out]; unfold blankB; rw [KZ1.out]; simp))
                go_wp2_with fail
                go_ret
                exact ⟨by rw [HO.out]; rfl, HB9.out⟩
              | true =>
                as_aux_lemma =>
                have KZ1 := Lib.hid hz1
                clear hz1
                skip
                refine (l29Has_any w8 B1 m1 d1 (lefts ns ws) HS8.out.r1 (by omega) _ pn pn (List.replicate pn 0) HZB8.out (by omega)).mono ?_
                rw [KZ1.out]
                rintro e w9 ⟨rfl, hw⟩
                have hb := drp_bel hw
                clear hw q hmm
                have HM9 := Lib.hid (HM8.out.bel hb); have HS9 := Lib.hid (HS8.out.below hb); have HB9 := Lib.hid (HB8.out.trans (hb.mono HB8.out.size))
                have HZB9 := Lib.hid (HZB8.out.below hb (Nat.le_refl _))
                clear hb HZB8 HM8 HS8 HB8
                have q := blk_cell HS9.out.bs 2 rfl
                have hmm := HS9.out.b2
                cases hz2 : decide (List.replicate pn (0 : Int) ∈ (rights ns ws)) with
                | false =>
                  as_aux_lemma =>
                  have KZ2 := Lib.hid hz2
                  clear hz2
                  go_wp2_with fail
                  refine (l29Has_any w9 B2 m2 d2 (rights ns ws) HS9.out.r2 (by omega) _ pn pn (List.replicate pn 0) HZB9.out (by omega)).mono ?_
                  rw [KZ2.out]
                  rintro e w10 ⟨rfl, hw⟩
                  have hb := drp_bel hw
                  clear hw q hmm
                  have HM10 := Lib.hid (HM9.out.bel hb); have HS10 := Lib.hid (HS9.out.below hb); have HB10 := Lib.hid (HB9.out.trans (hb.mono HB9.out.size))
                  have HZB10 := Lib.hid (HZB9.out.below hb (Nat.le_refl _))
                  clear hb HZB9 HM9 HS9 HB9
                  have HO := Lib.hid (chkR_blank (s := s) (t := t) (rs := rs) (k := k) (ns := ns) (ws := ws) (by rw [HTN.out]; unfold blankB; rw [KZ2.out]; simp))
                  go_wp2_with fail
                  go_ret
                  exact ⟨by rw [HO.out]; rfl, HB10.out⟩
                | true =>
                  as_aux_lemma =>
                  have KZ2 := Lib.hid hz2
                  clear hz2
                  go_wp2_with fail
                  refine (l29Has_any w9 B2 m2 d2 (rights ns ws) HS9.out.r2 (by omega) _ pn pn (List.replicate pn 0) HZB9.out (by omega)).mono ?_
                  rw [KZ2.out]
                  rintro e w10 ⟨rfl, hw⟩
                  have hb := drp_bel hw
                  clear hw q hmm
                  have HM10 := Lib.hid (HM9.out.bel hb); have HS10 := Lib.hid (HS9.out.below hb); have HB10 := Lib.hid (HB9.out.trans (hb.mono HB9.out.size))
                  have HZB10 := Lib.hid (HZB9.out.below hb (Nat.le_refl _))
                  clear hb HZB9 HM9 HS9 HB9
                  have q0 := blk_cell HS10.out.bs 0 rfl
                  rw [HPN.out] at q0
                  obtain ⟨N, hN⟩ : ∃ N, N = 2 * pn + 1 := ⟨_, rfl⟩
                  have HN := Lib.hid hN
                  have hN1 : N ≤ 100000 := by omega
                  have hw2 : IntKind.i64.wrap ((pn : Int) * 2) = (pn : Int) * 2 := IntWalk.i64_in _ (by omega)
                  have hmk : ∀ w, (Instr.makeSlice 25 (.int .i64 (2 * (pn : Int) + 1)) (.int .i64 (2 * (pn : Int) + 1))).run Try.prog w = .ok (.slice (some ⟨w.heap.size, 0, none⟩) N N) (w.alloc (.cells (madeCells #[.int .i64 0] N) 2)) := fun w => by
                    have h := run_mk1 N hN1 w
                    have e : (N : Int) = 2 * (pn : Int) + 1 := by omega
                    rwa [e] at h
                  have HRZ := Lib.hid (rd_made N hN1 w10)
                  obtain ⟨w11, hw11⟩ : ∃ w11, w11 = w10.alloc (.cells (madeCells #[.int .i64 0] N) 2) := ⟨_, rfl⟩
                  have hb : Below w10.heap.size w10 w11 := by rw [hw11]; exact below_new _ _
                  rw [← hw11] at HRZ
                  clear hN hw2
                  go_wp2_with fail
                  rw [← hw11]
                  have HM11 := Lib.hid (HM10.out.bel hb); have HS11 := Lib.hid (HS10.out.below hb); have HB11 := Lib.hid (HB10.out.trans (hb.mono HB10.out.size))
                  clear hb hw11 hmk q0 HM10 HS10 HB10 HZB10
                  refine (l29HasContext_any w11 g5 (pN ns) B1 m1 d1 B2 m2 d2 B3 m4 d3 B4 m4 d4 (lefts ns ws) (rights ns ws) (ctxs ns ws) (ns.drop 3) HS11.out 0 _ N N (List.replicate N 0) HRZ.out (by omega)).mono ?_
                  cases hz3 : decide ((0 :: List.replicate N (0 : Int)) ∈ stated (ns.drop 3) (ctxs ns ws)) with
                  | false =>
                    as_aux_lemma =>
                    have KZ3 := Lib.hid hz3
                    clear hz3
                    rintro e w12 ⟨rfl, hb⟩
                    have HB12 := Lib.hid (HB11.out.trans (hb.mono HB11.out.size))
                    have HO := Lib.hid (chkR_blank (s := s) (t := t) (rs := rs) (k := k) (ns := ns) (ws := ws) (by rw [HTN.out]; unfold blankB; rw [← HN.out, KZ3.out]; simp))
                    clear hb
                    go_wp2_with fail
                    go_ret
                    exact ⟨by rw [HO.out]; rfl, HB12.out⟩
                  | true =>
                    as_aux_lemma =>
                    have HBK : Hid (blankB (pN ns).toNat (lefts ns ws) (rights ns ws) (ns.drop 3) (ctxs ns ws) = true) := Lib.hid (by rw [HTN.out]; unfold blankB; rw [← HN.out, KZ1.out, KZ2.out, hz3]; rfl)
                    clear hz3 KZ1 KZ2
                    rintro e w12 ⟨rfl, hb⟩
                    have HM12 := Lib.hid (HM11.out.bel hb); have HS12 := Lib.hid (HS11.out.below hb); have HB12 := Lib.hid (HB11.out.trans (hb.mono HB11.out.size))
                    have HO := Lib.hid (chkR_yes (s := s) (t := t) (rs := rs) (k := k) (ns := ns) (ws := ws) HCS.out HFIT.out HBK.out)
                    clear hb HM11 HS11 HB11
                    go_wp2_with fail
                    refine (l29Closed_any w12 gm s t A n c HM12.out rs (HRR.out.below HB12.out (Nat.le_refl _)) hn g5 (pN ns) B1 m1 d1 B2 m2 d2 B3 m4 d3 B4 m4 d4 (lefts ns ws) (rights ns ws) (ctxs ns ws) (ns.drop 3) HS12.out pn HPP.out HOK.out HFIT.out).mono ?_
                    rintro e w13 ⟨rfl, hb⟩
                    go_wp2_with fail
                    go_ret
                    exact ⟨by rw [HO.out]; rfl, HB12.out.trans (hb.mono HB12.out.size)⟩
end Go.Proofs.Ytemllhkgjdifiaa
