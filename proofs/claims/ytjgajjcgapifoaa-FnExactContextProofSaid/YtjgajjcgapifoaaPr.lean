/- ContextProof: the reference's answer. Written by mk_pr.py. -/
import Derived.Test.YtjgajjcgapifoaaPo
import Derived.Test.YtjgajjcgapifoaaPq
namespace Go.Proofs.Ytjgajjcgapifoaa
open Go.RowKit
set_option linter.unusedVariables false
set_option linter.unusedSimpArgs false
theorem lenB_small {m : Int} (hm : m ≤ 400) : lenB m 9 = lenW m := by
  funext w
  rw [Bool.eq_iff_iff]
  simp only [lenB, lenW, wordB, Bool.and_eq_true, decide_eq_true_eq]
  constructor
  · rintro ⟨h1, h2⟩; exact ⟨h1, h2, by omega⟩
  · rintro ⟨h1, h2, _⟩; exact ⟨h1, h2⟩
theorem cpR_spec (n : Int) (ls rs cs : List (List Int)) (sts : List Int) : cpR n ls rs cs sts = cpF (inB n 1 4) (decide (sts.length = cs.length)) (allIn sts 0 1000000000000) (ls.all (lenW n)) (rs.all (lenW n)) (cs.all (lenW (2 * n + 1))) (sortS n ls rs cs sts) (chR ([n, (ls.length : Int), (rs.length : Int)] ++ sts) (ls ++ rs ++ cs)) := by
  rw [cpR]
  cases h1 : inB n 1 4 with
  | false => simp [cpF]
  | true =>
    have hn : 1 ≤ n ∧ n ≤ 4 := inB_true.1 h1
    rw [lenB_small (m := n) (by omega), lenB_small (m := 2 * n + 1) (by omega)]
    cases hl : decide (sts.length = cs.length) with
    | false => simp [cpF]
    | true =>
      have hl' : sts.length = cs.length := of_decide_eq_true hl
      cases h5 : ls.all (lenW n) with
      | false => simp [cpF]
      | true =>
        cases h6 : rs.all (lenW n) with
        | false => simp [cpF]
        | true => rw [sortS, lenUp_all, lenUp_all, stated_ord hl', h5, h6, Bool.true_and, Bool.true_and]
def inAt (sts : List Int) (i : Nat) : Bool := inB (sts.getD i 0) 0 1000000000000
theorem inAt_all (sts : List Int) : allIn sts 0 1000000000000 = allTo (inAt sts) sts.length := by
  rw [Bool.eq_iff_iff, allIn_true, allTo_true]
  constructor
  · intro h i hi
    obtain ⟨x, hx⟩ := get_some (xs := sts) (k := i) hi
    simp only [inAt, getI_of hx]
    exact inB_true.2 (h x (List.mem_of_getElem? hx))
  · intro h x hx
    obtain ⟨i, hi⟩ := List.getElem?_of_mem hx
    have h2 := h i (List.getElem?_eq_some_iff.1 hi).1
    simp only [inAt, getI_of hi] at h2
    exact inB_true.1 h2
theorem drp_e {w w' : World} {v : Value} {e : Ending} (h : DrP w v e w') : e = .returned v ∧ Below w.heap.size w w' := by
  obtain ⟨h1, m, h2⟩ := h
  exact ⟨h1, by rw [h2]; exact below_drewN (Below.refl _ _)⟩
set_option maxHeartbeats 16000000 in
set_option maxRecDepth 100000 in
theorem specContextProof_any (w : World) (n : Int) (A1 : Option Addr) (n1 c1 : Nat) (ls : List (List Int)) (hr1 : RdL w A1 n1 ls) (hn1 : n1 ≤ 100000000) (A2 : Option Addr) (n2 c2 : Nat) (rs : List (List Int)) (hr2 : RdL w A2 n2 rs) (hn2 : n2 ≤ 100000000) (A3 : Option Addr) (n3 c3 : Nat) (cs : List (List Int)) (hr3 : RdL w A3 n3 cs) (hn3 : n3 ≤ 100000000) (A4 : Option Addr) (n4 c4 : Nat) (sts : List Int) (hr4 : Rd w A4 n4 (ints sts)) (hn4 : n4 ≤ 100000000) :
    Calls Try.prog 34 #[.int .i64 n, .slice A1 n1 c1, .slice A2 n2 c2, .slice A3 n3 c3, .slice A4 n4 c4] w (PfP w (cpR n ls rs cs sts)) := by
  obtain ⟨w0, hw0⟩ : ∃ w0, w0 = w.alloc (.cells pfZq 55) := ⟨_, rfl⟩
  have hB : Below w.heap.size w w0 := by rw [hw0]; exact below_new w _
  have hz : w0.heap[w.heap.size]? = some (.cells pfZq 55 (0, 0)) := by rw [hw0]; exact box_new w _ _
  have HZ := Lib.hid hz
  have HZL : Hid (w.heap.size < w0.heap.size) := Lib.hid (blk_lt hz)
  have HB := Lib.hid hB
  have HR1 := Lib.hid (hr1.below hB (Nat.le_refl _)); have HR2 := Lib.hid (hr2.below hB (Nat.le_refl _)); have HR3 := Lib.hid (hr3.below hB (Nat.le_refl _)); have HR4 := Lib.hid (hr4.below hB (Nat.le_refl _))
  have HL1 : Hid (ls.length = n1) := Lib.hid hr1.len
  have HL2 : Hid (rs.length = n2) := Lib.hid hr2.len
  have HL3 : Hid (cs.length = n3) := Lib.hid hr3.len
  have HL4 : Hid (sts.length = n4) := Lib.hid (by simpa using hr4.1)
  have z0 := blk_cell hz 0 rfl
  have z1 := blk_cell hz 1 rfl
  have z2 := blk_cell hz 2 rfl
  have f0 := blk_free hz 0
  have f1 := blk_free hz 1
  have f2 := blk_free hz 2
  clear hB hz hr1 hr2 hr3 hr4
  rw [cpR_spec]
  generalize hu1 : inB n 1 4 = u1
  generalize hul : decide (sts.length = cs.length) = ul
  generalize hu3 : allIn sts 0 1000000000000 = u3
  generalize hu5 : ls.all (lenW n) = u5
  generalize hu6 : rs.all (lenW n) = u6
  generalize hu7 : cs.all (lenW (2 * n + 1)) = u7
  generalize hu8 : sortS n ls rs cs sts = u8
  generalize hrr : chR ([n, (ls.length : Int), (rs.length : Int)] ++ sts) (ls ++ rs ++ cs) = rr
  have H1 := Lib.hid hu1; have HUL := Lib.hid hul; have H3 := Lib.hid hu3; have H5 := Lib.hid hu5; have H6 := Lib.hid hu6; have H7 := Lib.hid hu7; have H8 := Lib.hid hu8; have HRR := Lib.hid hrr
  clear hu1 hul hu3 hu5 hu6 hu7 hu8 hrr
  go_enter Try.func34, Try.ntmps34
  go_upto_region 1 with fail
  rw [← hw0]
  clear hw0
  as_aux_lemma =>
  go_wp2_with fail
  refine (l29Size_any _ _).mono ?_
  rw [H1.out]
  rintro e w3 ⟨rfl, rfl⟩
  cases u1 with
  | false =>
    as_aux_lemma =>
    go_wp2_with fail
    exact bodyPost_ret (v := .tuple #[prfV 0 none 0 0 none 0 0, .int .i64 2]) (by simp [results, Try.results34, go_sem, z0, z1, z2]) rfl (by rw [show cpF false ul u3 u5 u6 u7 u8 rr = (0, [], [], 2) by simp [cpF]]; exact pfp_err HB.out (Nat.le_refl _))
  | true =>
    as_aux_lemma =>
    have hnb : 1 ≤ n ∧ n ≤ 4 := inB_true.1 H1.out
    have hwz1 : IntKind.i64.wrap (2 * n) = 2 * n := IntWalk.i64_in _ (by omega)
    have hwz2 : IntKind.i64.wrap (2 * n + 1) = 2 * n + 1 := IntWalk.i64_in _ (by omega)
    clear hnb
    go_wp2_with fail
    refine (l29Lengths_any _ A1 n1 c1 ls HR1.out (by omega) n).mono ?_
    rw [H5.out]
    rintro e w5 ⟨rfl, rfl⟩
    cases u5 with
    | false =>
      as_aux_lemma =>
      go_wp2_with fail
      exact bodyPost_ret (v := .tuple #[prfV 0 none 0 0 none 0 0, .int .i64 2]) (by simp [results, Try.results34, go_sem, z0, z1, z2]) rfl (by rw [show cpF true ul u3 false u6 u7 u8 rr = (0, [], [], 2) by simp [cpF]]; exact pfp_err HB.out (Nat.le_refl _))
    | true =>
      as_aux_lemma =>
      go_wp2_with fail
      refine (l29Lengths_any _ A2 n2 c2 rs HR2.out (by omega) n).mono ?_
      rw [H6.out]
      rintro e w6 ⟨rfl, rfl⟩
      cases u6 with
      | false =>
        as_aux_lemma =>
        go_wp2_with fail
        exact bodyPost_ret (v := .tuple #[prfV 0 none 0 0 none 0 0, .int .i64 2]) (by simp [results, Try.results34, go_sem, z0, z1, z2]) rfl (by rw [show cpF true ul u3 true false u7 u8 rr = (0, [], [], 2) by simp [cpF]]; exact pfp_err HB.out (Nat.le_refl _))
      | true =>
        as_aux_lemma =>
        go_wp2_with fail
        refine (l29Lengths_any _ A3 n3 c3 cs HR3.out (by omega) (2 * n + 1)).mono ?_
        rw [H7.out]
        rintro e w7 ⟨rfl, rfl⟩
        cases u7 with
        | false =>
          as_aux_lemma =>
          go_wp2_with fail
          exact bodyPost_ret (v := .tuple #[prfV 0 none 0 0 none 0 0, .int .i64 2]) (by simp [results, Try.results34, go_sem, z0, z1, z2]) rfl (by rw [show cpF true ul u3 true true false u8 rr = (0, [], [], 2) by simp [cpF]]; exact pfp_err HB.out (Nat.le_refl _))
        | true =>
          as_aux_lemma =>
          cases ul with
          | false =>
            have hne : ((n4 : Int) != (n3 : Int)) = true := by have h := of_decide_eq_false HUL.out; rw [HL4.out, HL3.out] at h; exact bne_iff_ne.2 (by omega)
            as_aux_lemma =>
            go_wp2_with fail
            exact bodyPost_ret (v := .tuple #[prfV 0 none 0 0 none 0 0, .int .i64 2]) (by simp [results, Try.results34, go_sem, z0, z1, z2]) rfl (by rw [show cpF true false u3 true true true u8 rr = (0, [], [], 2) by simp [cpF]]; exact pfp_err HB.out (Nat.le_refl _))
          | true =>
            as_aux_lemma =>
            have hlen : sts.length = cs.length := of_decide_eq_true HUL.out
            have HLEN := Lib.hid hlen
            have he : n4 = n3 := by rw [← HL4.out, ← HL3.out]; exact hlen
            subst he
            clear hlen
            go_wp2_with fail
            go_loopw [12] (fun i wr => ∃ j : Nat, j ≤ n4 ∧ i = .int .i64 j ∧ Hid (allTo (inAt sts) j = true) ∧ wr = w0) (fun i _ => n4 - (intOf i).toNat)
            case atStart => exact ⟨0, by omega, rfl, Lib.hid (allTo_zero _), rfl⟩
            case round =>
              as_aux_lemma =>
              obtain ⟨j, hj, rfl, HALL, rfl⟩ := hrel
              by_cases hlt : j < n4
              · have hlt' : (j : Int) < (n4 : Int) := by omega
                obtain ⟨x, hx⟩ := get_some (xs := sts) (k := j) (by rw [HL4.out]; exact hlt)
                obtain ⟨b, off, hA4, hbs, q0⟩ := HR4.out.at_ (ints_get hx)
                subst hA4
                have HIN : Hid (inAt sts j = inB x 0 1000000000000) := Lib.hid (by simp only [inAt, getI_of hx])
                clear hx
                go_wp2_with fail
                refine (l00In_any _ _ _ _).mono ?_
                rintro e w8 ⟨rfl, rfl⟩
                cases hb : inB x 0 1000000000000 with
                | false =>
                  have H3F : Hid (u3 = false) := Lib.hid (by rw [← H3.out, inAt_all]; exact allTo_out (by rw [HL4.out]; exact hlt) (by rw [HIN.out, hb]))
                  obtain rfl := H3F.out
                  clear H3F
                  as_aux_lemma =>
                  clear hb
                  as_aux_lemma =>
                  go_wp2_with fail
                  exact bodyPost_ret (v := .tuple #[prfV 0 none 0 0 none 0 0, .int .i64 2]) (by simp [results, Try.results34, go_sem, z0, z1, z2]) rfl (by rw [show cpF true true false true true true u8 rr = (0, [], [], 2) by simp [cpF]]; exact pfp_err HB.out (Nat.le_refl _))
                | true =>
                  have HNX := Lib.hid (allTo_next HALL.out (by rw [HIN.out, hb]))
                  as_aux_lemma =>
                  clear hb
                  go_wp2_with fail
                  go_roundw
                  case rel => exact ⟨j + 1, by omega, by go_num, HNX, by first | trivial | rfl⟩
                  case measure => simp [intOf]; omega
              · obtain rfl : n4 = j := by omega
                have H3T : Hid (u3 = true) := Lib.hid (by rw [← H3.out, inAt_all, HL4.out]; exact HALL.out)
                obtain rfl := H3T.out
                clear H3T HALL hlt hj
                as_aux_lemma =>
                go_upto_region 9 with fail
                obtain ⟨w9, hw9⟩ : ∃ w9, w9 = wr.alloc (.cells #[.int .i64 n, .slice A1 n1 c1, .slice A2 n2 c2, .slice A3 n4 c3, .slice A4 n4 c4] 104) := ⟨_, rfl⟩
                have h09 : Below wr.heap.size wr w9 := by rw [hw9]; exact below_new wr _
                have hbs : BS w9 wr.heap.size n A1 n1 c1 A2 n2 c2 A3 n4 c3 A4 n4 c4 := by rw [hw9]; exact box_new wr _ _
                have HB9 := Lib.hid h09
                have HBS := Lib.hid hbs
                rw [← hw9]
                clear hw9 h09 hbs z0 z1 z2 f0 f1 f2
                as_aux_lemma =>
                go_wp2_with fail
                refine (l29Sorted_any _ _ n A1 n1 c1 A2 n2 c2 A3 n4 c3 A4 n4 c4 HBS.out ls rs cs sts (HR1.out.below HB9.out (Nat.le_refl _)) (by omega) (HR2.out.below HB9.out (Nat.le_refl _)) (by omega) (HR3.out.below HB9.out (Nat.le_refl _)) (by omega) (HR4.out.below HB9.out (Nat.le_refl _)) rfl).mono ?_
                rw [H8.out]
                rintro e w10 hdr
                obtain ⟨rfl, hdrr⟩ := drp_e hdr
                have HB10 : Hid (Below wr.heap.size wr w10) := Lib.hid (HB9.out.trans (hdrr.mono HB9.out.size))
                have HBS10 : Hid (BS w10 wr.heap.size n A1 n1 c1 A2 n2 c2 A3 n4 c3 A4 n4 c4) := Lib.hid (blk_bel HBS.out hdrr)
                have hzr := blk_bel HZ.out HB10.out
                have z0 := blk_cell hzr 0 rfl
                have z1 := blk_cell hzr 1 rfl
                have z2 := blk_cell hzr 2 rfl
                have f0 := blk_free hzr 0
                have f1 := blk_free hzr 1
                have f2 := blk_free hzr 2
                clear hzr hdr hdrr
                cases u8 with
                | false =>
                  as_aux_lemma =>
                  go_wp2_with fail
                  exact bodyPost_ret (v := .tuple #[prfV 0 none 0 0 none 0 0, .int .i64 7]) (by simp [results, Try.results34, go_sem, z0, z1, z2]) rfl (by rw [show cpF true true true true true true false rr = (0, [], [], 7) by simp [cpF]]; exact pfp_err (HB.out.trans (HB10.out.mono HB.out.size)) (Nat.le_refl _))
                | true =>
                  as_aux_lemma =>
                  have HCH := Lib.hid (l29Out_any w10 wr.heap.size n A1 n1 c1 A2 n2 c2 A3 n4 c3 A4 n4 c4 HBS10.out ls rs cs sts (HR1.out.below HB10.out (Nat.le_refl _)) hn1 (HR2.out.below HB10.out (Nat.le_refl _)) hn2 (HR3.out.below HB10.out (Nat.le_refl _)) hn4 (HR4.out.below HB10.out (Nat.le_refl _)) hn4)
                  have HNS : Hid (chR ([n, (n1 : Int), (n2 : Int)] ++ sts) (ls ++ rs ++ cs) = rr) := Lib.hid (by rw [← HRR.out, HL1.out, HL2.out])
                  generalize [n, (n1 : Int), (n2 : Int)] ++ sts = NS at *
                  generalize ls ++ rs ++ cs = WS at *
                  clear z0 z1 z2 f0 f1 f2
                  go_wp2_with fail
                  refine HCH.out.mono ?_
                  rintro e w11 ⟨A, k, c, B, m, d, us, rfl, ho, hx, hf, hg, hd, hb11⟩
                  go_upto_region 12 with fail
                  obtain ⟨w12, hw12⟩ : ∃ w12, w12 = w11.alloc (.cells #[.int .i64 8, .slice A k c, .slice B m d] 55) := ⟨_, rfl⟩
                  have h12 : Below w11.heap.size w11 w12 := by rw [hw12]; exact below_new w11 _
                  have hx12 : w12.heap[w11.heap.size]? = some (.cells #[.int .i64 8, .slice A k c, .slice B m d] 55 (0, 0)) := by rw [hw12]; exact box_new w11 _ _
                  have hT := HB10.out.trans (hb11.mono HB10.out.size)
                  have HBT := Lib.hid (hT.trans (h12.mono hT.size))
                  have HO := Lib.hid (ownN_below ho h12 (Nat.le_refl _)); have HX := Lib.hid (hx.below h12)
                  have HF := Lib.hid hf; have HG := Lib.hid hg; have HD := Lib.hid hd
                  have hzr := blk_bel HZ.out HBT.out
                  have z0 := blk_cell hzr 0 rfl
                  have z1 := blk_cell hzr 1 rfl
                  have z2 := blk_cell hzr 2 rfl
                  have f0 := blk_free hzr 0
                  have f1 := blk_free hzr 1
                  have f2 := blk_free hzr 2
                  have x0 := blk_cell hx12 0 rfl
                  have x1 := blk_cell hx12 1 rfl
                  have x2 := blk_cell hx12 2 rfl
                  rw [← hw12]
                  clear hw12 hx12 h12 hT ho hx hf hg hd hb11 hzr
                  as_aux_lemma =>
                  cases hv : okP 8 NS WS with
                  | false =>
                    as_aux_lemma =>
                    have HE : Hid (rr = (0, [], [], 5)) := Lib.hid (by rw [← HNS.out, chR_no hv])
                    obtain rfl := HE.out
                    clear hv HE
                    go_wp2_with fail
                    exact bodyPost_ret (v := .tuple #[prfV 0 none 0 0 none 0 0, .int .i64 5]) (by simp [results, Try.results34, go_sem, z0, z1, z2]) rfl (by rw [show cpF true true true true true true true (0, [], [], 5) = (0, [], [], 5) by simp [cpF]]; exact pfp_err (HB.out.trans (HBT.out.mono HB.out.size)) (Nat.le_refl _))
                  | true =>
                    as_aux_lemma =>
                    have HE : Hid (rr = (8, NS, WS, 0)) := Lib.hid (by rw [← HNS.out, chR_ok hv])
                    obtain rfl := HE.out
                    clear hv HE
                    go_wp2_with fail
                    exact bodyPost_ret (v := .tuple #[prfV 8 A k c B m d, .int .i64 0]) (by simp [results, Try.results34, go_sem, z0, z1, z2]) rfl (by rw [show cpF true true true true true true true (8, NS, WS, 0) = (8, NS, WS, 0) by simp [cpF]]; exact pfp_ok (w0 := w10) (HB.out.trans (HBT.out.mono HB.out.size)) HO.out HX.out HF.out HG.out HD.out (Nat.le_refl _) (Nat.lt_of_lt_of_le HZL.out HB10.out.size))
theorem chR_bd (ns : List Int) (ws : List (List Int)) : (chR ns ws).2.1.length ≤ 1000000 ∧ tot (chR ns ws).2.2.1 ≤ 1000000 ∧ (chR ns ws).2.2.1.length ≤ 1000000 := by
  cases h : okP 8 ns ws with
  | false => rw [chR_no h]; simp [tot]
  | true =>
    rw [chR_ok h]
    obtain ⟨_, hl, hl2, _, hw⟩ := okP_bd h
    obtain ⟨h1, h2⟩ := words_bd hw hl2 (fun x hx => hx) (Nat.le_refl _)
    exact ⟨by show ns.length ≤ 1000000; omega, h1, h2⟩
theorem cpR_bd (n : Int) (ls rs cs : List (List Int)) (sts : List Int) : (cpR n ls rs cs sts).2.1.length ≤ 1000000 ∧ tot (cpR n ls rs cs sts).2.2.1 ≤ 1000000 ∧ (cpR n ls rs cs sts).2.2.1.length ≤ 1000000 := by
  unfold cpR cpF
  split
  · split
    · exact chR_bd _ _
    · simp [tot]
  · simp [tot]
end Go.Proofs.Ytjgajjcgapifoaa
