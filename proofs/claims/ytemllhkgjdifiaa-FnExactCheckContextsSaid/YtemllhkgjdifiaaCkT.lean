/- CheckContexts (reference): whether the parts are closed. -/
import Derived.Test.YtemllhkgjdifiaaCkS
import Derived.Deep.DrawnRows
namespace Go.Proofs.Ytemllhkgjdifiaa
open Go.RowKit
set_option linter.unusedVariables false
set_option linter.unusedSimpArgs false
attribute [local go_sem ↓] Go.wp_at_zero Go.wp_at_succ
def closR (s : Nat) (r : Rul) (x : List Int) (ls ws : List (List Int)) (sts : List Int) (cs : List (List Int)) : Bool := isR r && decide (lostOf r x ∈ (if r.mv = 1 then ls else ws)) && (nextsOf s r x ls ws).all (fun y => decide ((r.nx :: y) ∈ stated sts cs))
theorem closAt_eq {s t : Int} {rs : List Rul} {ls ws cs : List (List Int)} {sts : List Int} {k : Nat} {st : Int} {x : List Int} (h1 : sts[k]? = some st) (h2 : cs[k]? = some x) : closAt s t rs ls ws sts cs k = closR s.toNat (ruleOf s rs st x) x ls ws sts cs := by
  unfold closAt closR
  simp only [List.getD_eq_getElem?_getD, h1, h2, Option.getD_some]
theorem closR_no {s : Nat} {r : Rul} {x : List Int} {ls ws cs : List (List Int)} {sts : List Int} (h : isR r = false) : closR s r x ls ws sts cs = false := by unfold closR; rw [h]; rfl
theorem closR_lost {s : Nat} {r : Rul} {x : List Int} {ls ws cs : List (List Int)} {sts : List Int} (h : ¬ lostOf r x ∈ (if r.mv = 1 then ls else ws)) : closR s r x ls ws sts cs = false := by unfold closR; rw [decide_eq_false h]; simp
theorem closR_out {s : Nat} {r : Rul} {x : List Int} {ls ws cs : List (List Int)} {sts : List Int} {j : Nat} {y : List Int} (hy : (nextsOf s r x ls ws)[j]? = some y) (h : ¬ (r.nx :: y) ∈ stated sts cs) : closR s r x ls ws sts cs = false := by
  have : (nextsOf s r x ls ws).all (fun y => decide ((r.nx :: y) ∈ stated sts cs)) = false := by
    rw [List.all_eq_false]
    exact ⟨y, List.mem_of_getElem? hy, by simp [h]⟩
  unfold closR
  rw [this]; simp
theorem closR_yes {s : Nat} {r : Rul} {x : List Int} {ls ws cs : List (List Int)} {sts : List Int} (h1 : isR r = true) (h2 : lostOf r x ∈ (if r.mv = 1 then ls else ws)) (h3 : ∀ y ∈ nextsOf s r x ls ws, (r.nx :: y) ∈ stated sts cs) : closR s r x ls ws sts cs = true := by
  unfold closR
  rw [h1, decide_eq_true h2]
  simp only [Bool.true_and, List.all_eq_true, decide_eq_true_eq]
  exact h3
set_option maxHeartbeats 16000000 in
set_option maxRecDepth 100000 in
theorem l29Closed_any (w : World) (gm : Nat) (s t : Int) (A : Option Addr) (n c : Nat) (hm : BM w gm s t A n c) (rs : List Rul) (hr : Rd w A (n * 3) (ints (flatR rs))) (hn : n ≤ 1099511627776) (g : Nat) (m : Int) (A1 : Option Addr) (n1 c1 : Nat) (A2 : Option Addr) (n2 c2 : Nat) (A3 : Option Addr) (n3 c3 : Nat) (A4 : Option Addr) (n4 c4 : Nat) (ls ws cs : List (List Int)) (sts : List Int) (hp : SPt w g m A1 n1 c1 A2 n2 c2 A3 n3 c3 A4 n4 c4 ls ws cs sts) (pn : Nat) (hpp : PartsP pn ls ws sts cs) (hok : okM s t rs = true) (hfit : fitB s t ls ws sts cs = true) :
    Calls Try.prog 122 #[.pointer (some ⟨gm, 0, none⟩), .pointer (some ⟨g, 0, none⟩)] w (RetV w (.bool (allTo (closAt s t rs ls ws sts cs) cs.length))) := by
  have HP := Lib.hid hp; have HPP := Lib.hid hpp; have HOK := Lib.hid hok; have HFIT := Lib.hid hfit
  have HM := Lib.hid hm; have HRR := Lib.hid hr
  have HL3 := Lib.hid hp.r3.len
  have hn3 := hp.b3
  obtain rfl : n4 = n3 := hp.n34
  have HL4 : Hid (sts.length = n4) := Lib.hid (by have h := hp.r4.1; simpa using h)
  clear hp hpp hok hfit hm hr
  go_enter Try.func122, Try.ntmps122
  go_wp2_with fail
  go_loopw [5] (fun q wr => ∃ k : Nat, k ≤ n4 ∧ q = .int .i64 k ∧ Hid (allTo (closAt s t rs ls ws sts cs) k = true) ∧ Below w.heap.size w wr) (fun q _ => n4 - (intOf q).toNat)
  case atStart => exact ⟨0, Nat.zero_le _, rfl, Lib.hid (allTo_zero _), Below.refl _ _⟩
  case round =>
    as_aux_lemma =>
    obtain ⟨k, hk, rfl, HK, hb⟩ := hrel
    have HB := Lib.hid hb
    have hbs := HP.out.bs.bel hb
    have q3 := blk_cell hbs 3 rfl
    clear hb
    by_cases hlt : k < n4
    · obtain ⟨st, hx⟩ := get_some (xs := sts) (k := k) (by rw [HL4.out]; omega)
      obtain ⟨xs, hy⟩ := get_some (xs := cs) (k := k) (by rw [HL3.out]; omega)
      have HZ := Lib.hid (parts_ctx HPP.out HOK.out HFIT.out hx hy)
      obtain ⟨b4, o4, e4, hl4, hc4⟩ := HP.out.r4.at_ (ints_get hx)
      obtain ⟨b3, o3, A5, n5, c5, e3, hl3, hc3, hn5, hr5⟩ := HP.out.r3.at_ hy
      subst e4 e3
      have p4 := (HB.out.cell (p := ⟨b4, o4 + k, none⟩) hl4).trans hc4
      have p3 := (HB.out.cell (p := ⟨b3, o3 + k, none⟩) hl3).trans hc3
      have q4 := blk_cell hbs 4 rfl
      have HR5 := Lib.hid (hr5.below HB.out (Nat.le_refl _))
      have HX := Lib.hid hx; have HY := Lib.hid hy
      obtain ⟨⟨ra, rb, rc⟩, hru⟩ : ∃ r : Rul, r = ruleOf s rs st xs := ⟨_, rfl⟩
      have HRX := Lib.hid hru
      obtain ⟨bo, hbo⟩ : ∃ b, b = isR ⟨ra, rb, rc⟩ := ⟨_, rfl⟩
      have HBO := Lib.hid hbo
      have HRU : Hid (∀ wx : World, Below wr.heap.size wr wx → Calls Try.prog 51 #[.pointer (some ⟨gm, 0, none⟩), .int .i64 st, .slice A5 n5 c5] wx (fun e w' => e = .returned (.tuple #[.agg #[.int .i64 ra, .int .i64 rb, .int .i64 rc], .bool bo]) ∧ Below wx.heap.size wx w')) := Lib.hid (fun wx hbx => by
        have h := l29RuleAt_any wx gm s t A n c ((HM.out.bel HB.out).bel hbx) rs ((HRR.out.below HB.out (Nat.le_refl _)).below hbx (Nat.le_refl _)) hn st A5 n5 c5 xs (HR5.out.below hbx (Nat.le_refl _)) HZ.out
        rw [← hru] at h
        rw [hbo]
        exact h)
      have ZZ := Lib.hid (box_new wr #[.int .i64 0, .int .i64 0, .int .i64 0] 82)
      have q3' := blk_cell (blk_alloc hbs (.cells #[.int .i64 0, .int .i64 0, .int .i64 0] 82)) 3 rfl
      have q4' := blk_cell (blk_alloc hbs (.cells #[.int .i64 0, .int .i64 0, .int .i64 0] 82)) 4 rfl
      have HLT : Hid (b4 < wr.heap.size ∧ b3 < wr.heap.size) := Lib.hid ⟨Nat.lt_of_lt_of_le hl4 HB.out.size, Nat.lt_of_lt_of_le hl3 HB.out.size⟩
      have p4' := ((below_new wr (.cells #[.int .i64 0, .int .i64 0, .int .i64 0] 82)).cell (p := ⟨b4, o4 + k, none⟩) HLT.out.1).trans p4
      have p3' := ((below_new wr (.cells #[.int .i64 0, .int .i64 0, .int .i64 0] 82)).cell (p := ⟨b3, o3 + k, none⟩) HLT.out.2).trans p3
      have HCELL := Lib.hid hc3
      have HBS := Lib.hid hbs; have HP4 := Lib.hid p4; have HP3 := Lib.hid p3
      clear hx hy hc4 hc3 hr5 hbs hru hbo hl3 hl4
      have hglt := blk_lt HBS.out
      have hg3 := HLT.out.2
      have hg4 := HLT.out.1
      go_upto_region 4 with fail
      go_cut [6, 7] from 21 to 39 (fun s6 s7 wx => ∃ g6 : Nat, s6 = .pointer (some ⟨g6, 0, none⟩) ∧ s7 = .bool bo ∧ wx.heap[g6]? = some (.cells #[.int .i64 ra, .int .i64 rb, .int .i64 rc] 82 (0, 0)) ∧ wr.heap.size ≤ g6 ∧ Below wr.heap.size wr wx)
      case first =>
        (first | (go_region_held3 (fun w' => w'.cell? ⟨g, 3, none⟩ = some (.slice (some ⟨b3, o3, none⟩) n4 c3) ∧ w'.cell? ⟨g, 4, none⟩ = some (.slice (some ⟨b4, o4, none⟩) n4 c4) ∧ w'.cell? ⟨b4, o4 + k, none⟩ = some (.int .i64 st) ∧ w'.cell? ⟨b3, o3 + k, none⟩ = some (.slice A5 n5 c5)) (first | exact ⟨by assumption, by assumption, by assumption, by assumption⟩ | (refine ⟨?_, ?_, ?_, ?_⟩ <;> (repeat (refine cell_far ?_ (by omega))) <;> assumption) | go_keep) (first
          | (go_at_call 51
             refine (HRU.out _ (by first | exact Below.refl _ _ | exact below_new _ _ | exact below_drew1 (Below.refl _ _) | exact below_drew1 (below_new _ _))).mono ?_
             rintro e w1 ⟨rfl, hb1⟩
             (try replace hb1 := und1 hb1)
             have HB1 : Hid (Below wr.heap.size wr w1) := Lib.hid (by first | exact hb1 | exact (below_new _ _).trans (hb1.mono (by simp)))
             (try (have hxz := blk_bel ZZ.out hb1; have y0 := blk_cell hxz 0 rfl; have y1 := blk_cell hxz 1 rfl; have y2 := blk_cell hxz 2 rfl; have f0 := blk_free hxz 0; have f1 := blk_free hxz 1; have f2 := blk_free hxz 2))
             have z1 := blk_bel HBS.out HB1.out
             have q3 := blk_cell z1 3 rfl
             have q4 := blk_cell z1 4 rfl
             have p4 := (HB1.out.cell (p := ⟨b4, o4 + k, none⟩) HLT.out.1).trans HP4.out
             have p3 := (HB1.out.cell (p := ⟨b3, o3 + k, none⟩) HLT.out.2).trans HP3.out
             have hsz1 : wr.heap.size ≤ w1.heap.size := HB1.out.size
             clear z1))) | fail)
        all_goals
          go_wp2_with fail
          go_meet
          exact ⟨_, rfl, rfl, (by first | exact box_new _ _ _ | simpa using blk_set (blk_set (blk_set hxz 0 _) 1 _) 2 _), (by first | exact Nat.le_refl _ | exact hsz1), (by first | exact HB1.out.alloc HB1.out.size _ | exact ((HB1.out.setCell (Nat.le_refl _) _).setCell (Nat.le_refl _) _).setCell (Nat.le_refl _) _ | exact below_drew1 (HB1.out.alloc HB1.out.size _) | exact below_drew1 (((HB1.out.setCell (Nat.le_refl _) _).setCell (Nat.le_refl _) _).setCell (Nat.le_refl _) _))⟩
      case rest =>
        as_aux_lemma =>
        obtain ⟨g6, rfl, rfl, hx6, hg6, hbc⟩ := hcut
        obtain ⟨w2, rfl⟩ : ∃ v, v = wc := ⟨_, rfl⟩
        have HX6 := Lib.hid hx6
        have HB2 := Lib.hid (HB.out.trans (hbc.mono HB.out.size))
        have HBC := Lib.hid hbc
        clear hx6 hbc q3 q4 p3 p4 q3' q4' p3' p4'
        cases bo with
        | false =>
          as_aux_lemma =>
          have hcl : closAt s t rs ls ws sts cs k = false := by
            rw [closAt_eq HX.out HY.out, ← HRX.out]
            exact closR_no HBO.out.symm
          have HO := Lib.hid (allTo_out (n := cs.length) (by rw [HL3.out]; exact hlt) hcl)
          clear hcl
          go_wp2_with fail
          go_ret
          exact ⟨by rw [HO.out]; rfl, HB2.out⟩
        | true =>
          as_aux_lemma =>
          have hmv := isR_mv HZ.out (by rw [← HRX.out]; exact HBO.out.symm)
          rw [← HRX.out] at hmv
          simp only at hmv
          have HC5 : Hid (n5 ≤ c5) := Lib.hid (HP.out.cp k b3 o3 A5 n5 c5 rfl hlt HCELL.out)
          have HSP2 := Lib.hid (HP.out.below HB2.out)
          have HM2 := Lib.hid (HM.out.bel HB2.out)
          have HR52 := Lib.hid (HR5.out.below HBC.out (Nat.le_refl _))
          have p3 := (HBC.out.cell (p := ⟨b3, o3 + k, none⟩) HLT.out.2).trans HP3.out
          have q1 := blk_cell HSP2.out.bs 1 rfl
          have q2 := blk_cell HSP2.out.bs 2 rfl
          have q3 := blk_cell HSP2.out.bs 3 rfl
          have z0 := blk_cell HX6.out 0 rfl
          have z1 := blk_cell HX6.out 1 rfl
          have z2 := blk_cell HX6.out 2 rfl
          obtain ⟨_, hodd, hh4, _, _⟩ := ctx_zero HZ.out
          have HODD := Lib.hid hodd; have HH4 := Lib.hid hh4
          clear hodd hh4
          have HLS : Hid (∀ wx : World, Below w2.heap.size w2 wx → Calls Try.prog 157 #[.agg #[.int .i64 ra, .int .i64 rb, .int .i64 rc], .slice A5 n5 c5] wx (RetS wx 2 (ints (lostOf ⟨ra, rb, rc⟩ xs)))) := Lib.hid (fun wx hbx => l29Lost_any wx ra rb rc A5 n5 c5 xs (HR52.out.below hbx (Nat.le_refl _)) HC5.out HODD.out HH4.out hmv)
          rcases hmv with rfl | rfl
          · as_aux_lemma =>
            have hmvd : decide ((1 : Int) < 0) = false := by decide
            have HMV : Hid ((1 : Int) = 1 ∨ (1 : Int) = -1) := Lib.hid (by decide)
            have HLL : Hid ((lostOf ⟨ra, 1, rc⟩ xs).length ≤ 1000) := Lib.hid (by
              have h1 := HH4.out; have h2 := HODD.out
              unfold lostOf
              split
              · simp only [List.length_take]; omega
              · simp only [List.length_drop]; omega)
            have HOS : Hid (RdL w2 A1 n1 ls) := Lib.hid HSP2.out.r1
            have HNO : Hid (n1 ≤ 1000000000) := Lib.hid (by have := HSP2.out.b1; omega)
            obtain ⟨bl, hbl⟩ : ∃ bl, bl = decide (lostOf ⟨ra, 1, rc⟩ xs ∈ ls) := ⟨_, rfl⟩
            have HBL := Lib.hid hbl
            have HP32 := Lib.hid p3
            have HHAS : Hid (∀ (wx : World) (A7 : Option Addr) (n7 c7 : Nat), Below w2.heap.size w2 wx → wx.ownsRow w2.heap.size 2 1 (.slice A7 n7 c7) n7 (ints (lostOf ⟨ra, 1, rc⟩ xs)) → Calls Try.prog 106 #[.slice A1 n1 c1, .slice A7 n7 c7] wx (RetV wx (.bool bl))) := Lib.hid (fun wx A7 n7 c7 hbx ho => by
              have hn7 : n7 ≤ 1000 := by have h1 := ho.1; have h2 := HLL.out; simp at h1; omega
              rw [hbl]
              exact (l29Has_any wx A1 n1 c1 ls (HOS.out.below hbx (Nat.le_refl _)) HNO.out A7 n7 c7 _ (own_rd ho) (by omega)).mono (by rintro e w' ⟨rfl, hw⟩; exact ⟨rfl, drp_bel hw⟩))
            clear hbl
            go_upto_region 12 with fail
            (first | (go_region_held3 (fun w' => w'.cell? ⟨g6, 0, none⟩ = some (.int .i64 ra) ∧ w'.cell? ⟨g6, 1, none⟩ = some (.int .i64 (1)) ∧ w'.cell? ⟨g6, 2, none⟩ = some (.int .i64 rc) ∧ w'.cell? ⟨g, 3, none⟩ = some (.slice (some ⟨b3, o3, none⟩) n4 c3) ∧ w'.cell? ⟨b3, o3 + k, none⟩ = some (.slice A5 n5 c5)) (exact ⟨by assumption, by assumption, by assumption, by assumption, by assumption⟩) (first
              | (have hq := HO3.out
                 clear hq
                 go_at_call 106
                 refine (HHAS.out _ A7 n7 c7 HB3.out HO3.out).mono ?_
                 rintro e w4 ⟨rfl, hb4⟩
                 have HB4 := Lib.hid (HB3.out.trans (hb4.mono HB3.out.size))
                 have x6 := blk_bel HX6.out HB4.out
                 have z0 := blk_cell x6 0 rfl
                 have z1 := blk_cell x6 1 rfl
                 have z2 := blk_cell x6 2 rfl
                 have sb := (HSP2.out.below HB4.out).bs
                 have q3 := blk_cell sb 3 rfl
                 have p3 := (HB4.out.cell (p := ⟨b3, o3 + k, none⟩) (Nat.lt_of_lt_of_le HLT.out.2 HBC.out.size)).trans HP32.out
                 clear x6 sb
                 clear hb4)
              | (go_at_call 157
                 refine (HLS.out _ (by first | exact Below.refl _ _ | exact below_drew1 (Below.refl _ _) | exact below_drewN (Below.refl _ _))).mono ?_
                 rintro e w3 ⟨A7, n7, c7, rfl, ho3, hb3⟩
                 (try replace hb3 := und1 hb3)
                 have HB3 : Hid (Below w2.heap.size w2 w3) := Lib.hid hb3
                 have HO3 : Hid (w3.ownsRow w2.heap.size 2 1 (.slice A7 n7 c7) n7 (ints (lostOf ⟨ra, 1, rc⟩ xs))) := Lib.hid ho3
                 have x6 := blk_bel HX6.out HB3.out
                 have z0 := blk_cell x6 0 rfl
                 have z1 := blk_cell x6 1 rfl
                 have z2 := blk_cell x6 2 rfl
                 have sb := (HSP2.out.below HB3.out).bs
                 have q3 := blk_cell sb 3 rfl
                 have p3 := (HB3.out.cell (p := ⟨b3, o3 + k, none⟩) (Nat.lt_of_lt_of_le HLT.out.2 HBC.out.size)).trans HP32.out
                 clear x6 sb
                 clear ho3 hb3))) | fail)
            all_goals
              as_aux_lemma =>
              cases bl with
              | false =>
                as_aux_lemma =>
                have hcl : closAt s t rs ls ws sts cs k = false := by
                  rw [closAt_eq HX.out HY.out, ← HRX.out]
                  refine closR_lost ?_
                  show ¬ lostOf ⟨ra, 1, rc⟩ xs ∈ (if (1 : Int) = 1 then ls else ws)
                  rw [if_pos rfl]
                  exact of_decide_eq_false HBL.out.symm
                have HO := Lib.hid (allTo_out (n := cs.length) (by rw [HL3.out]; exact hlt) hcl)
                have HBE := Lib.hid (HB2.out.trans (HB4.out.mono HB2.out.size))
                clear hcl
                go_wp2_with fail
                go_ret
                exact ⟨by rw [HO.out]; rfl, by first | exact HBE.out | exact below_drew1 HBE.out⟩
              | true =>
                as_aux_lemma =>
                obtain ⟨hs6, _, _, _⟩ := okM_all HOK.out
                obtain ⟨sn, hsn⟩ := Int.eq_ofNat_of_zero_le (show 0 ≤ s by omega)
                subst hsn
                have HIN : Hid (lostOf ⟨ra, 1, rc⟩ xs ∈ (if (1 : Int) = 1 then ls else ws)) := Lib.hid (by rw [if_pos rfl]; exact of_decide_eq_true HBL.out.symm)
                have HN5 : Hid (n5 = 2 * pn + 1) := Lib.hid (by have h1 := HR52.out.1; have h2 := HPP.out.lc xs (List.mem_of_getElem? HY.out); simp at h1; omega)
                have HNX : Hid (∀ wx : World, Below w4.heap.size w4 wx → Calls Try.prog 52 #[.pointer (some ⟨gm, 0, none⟩), .agg #[.int .i64 ra, .int .i64 (1), .int .i64 rc], .slice A5 n5 c5, .slice A2 n2 c2] wx (RetP wx (nextsOf sn ⟨ra, 1, rc⟩ xs ls ws))) := Lib.hid (fun wx hbx => by
                  have hbx2 := HB4.out.trans (hbx.mono HB4.out.size)
                  exact l29Next_any wx gm sn t A n c (HM2.out.bel hbx2) (by omega) ra (1) rc (by decide) A5 n5 c5 pn xs (HR52.out.below hbx2 (Nat.le_refl _)) HC5.out HN5.out HPP.out.n1 (ctx_sm HZ.out) A2 n2 c2 ls ws (by rw [if_pos rfl]; exact HSP2.out.r2.below hbx2 (Nat.le_refl _)) (by have := HSP2.out.b2; omega))
                have HS6 : Hid (sn ≤ 6) := Lib.hid (by omega)
                clear hs6 HHAS HLS HOS HNO HLL HO3 HB3
                go_upto_region 14 with fail
                (first | (go_region_held3 (fun w' => w'.cell? ⟨g6, 0, none⟩ = some (.int .i64 ra) ∧ w'.cell? ⟨g6, 1, none⟩ = some (.int .i64 (1)) ∧ w'.cell? ⟨g6, 2, none⟩ = some (.int .i64 rc) ∧ w'.cell? ⟨g, 3, none⟩ = some (.slice (some ⟨b3, o3, none⟩) n4 c3) ∧ w'.cell? ⟨b3, o3 + k, none⟩ = some (.slice A5 n5 c5)) (exact ⟨by assumption, by assumption, by assumption, by assumption, by assumption⟩) (first
                  | (go_at_call 52
                     refine (HNX.out _ (by first | exact Below.refl _ _ | exact below_drew1 (Below.refl _ _) | exact below_drewN (Below.refl _ _))).mono ?_
                     rintro e w5 ⟨A10, n10, c10, F10, rfl, ho10, hf10, hb10⟩
                     (try replace hb10 := und1 hb10)
                     have HB5 := Lib.hid (HB4.out.trans (hb10.mono HB4.out.size))
                     have HO10 := Lib.hid ho10
                     have x6 := blk_bel HX6.out HB5.out
                     have z0 := blk_cell x6 0 rfl
                     have z1 := blk_cell x6 1 rfl
                     have z2 := blk_cell x6 2 rfl
                     have sb := (HSP2.out.below HB5.out).bs
                     have q3 := blk_cell sb 3 rfl
                     have p3 := (HB5.out.cell (p := ⟨b3, o3 + k, none⟩) (Nat.lt_of_lt_of_le HLT.out.2 HBC.out.size)).trans HP32.out
                     clear x6 sb
                     clear ho10 hf10 hb10))) | fail)
                all_goals
                  as_aux_lemma =>
                  have HL10 := Lib.hid HO10.out.rdl.len
                  have hn10 : n10 ≤ 6 := by rw [← HL10.out]; exact Nat.le_trans (nexts_len _ _ _ _ _) HS6.out
                  have HX65 := Lib.hid (blk_bel HX6.out HB5.out)
                  clear z0 z1 z2 q3 p3 HNX HX6
                  go_wp2_with fail
                  go_loopw [11] (fun q wz => ∃ j : Nat, j ≤ n10 ∧ q = .int .i64 j ∧ Hid (∀ i y, i < j → (nextsOf sn ⟨ra, 1, rc⟩ xs ls ws)[i]? = some y → (rc :: y) ∈ stated sts cs) ∧ Below w5.heap.size w5 wz) (fun q _ => n10 - (intOf q).toNat)
                  case atStart => exact ⟨0, Nat.zero_le _, rfl, Lib.hid (fun i y hi => by omega), by first | exact Below.refl _ _ | exact below_drew1 (Below.refl _ _)⟩
                  case round =>
                    as_aux_lemma =>
                    obtain ⟨j, hj, rfl, HJ, hb⟩ := hrel
                    have HBZ := Lib.hid hb
                    have z2 := blk_cell (blk_bel HX65.out hb) 2 rfl
                    clear hb
                    by_cases hjn : j < n10
                    · obtain ⟨y, hy⟩ := get_some (xs := nextsOf sn ⟨ra, 1, rc⟩ xs ls ws) (k := j) (by rw [HL10.out]; exact hjn)
                      have hrd := HO10.out.rdl.below HBZ.out (Nat.le_refl _)
                      obtain ⟨b10, o10, A11, n11, c11, e10, hl10, hc10, hn11, hr11⟩ := hrd.at_ hy
                      subst e10
                      have HYY := Lib.hid hy
                      obtain ⟨bh, hbh⟩ : ∃ bh, bh = decide ((rc :: y) ∈ stated sts cs) := ⟨_, rfl⟩
                      have HBH := Lib.hid hbh
                      have HR11 := Lib.hid hr11
                      have HHC : Hid (∀ wx : World, Below wr.heap.size wr wx → Calls Try.prog 121 #[.pointer (some ⟨g, 0, none⟩), .int .i64 rc, .slice A11 n11 c11] wx (RetV wx (.bool bh))) := Lib.hid (fun wx hbx => by
                        have hb2 := HB5.out.trans (HBZ.out.mono HB5.out.size)
                        have hb3 := hb2.trans (hbx.mono hb2.size)
                        rw [hbh]
                        exact l29HasContext_any wx g m A1 n1 c1 A2 n2 c2 (some ⟨b3, o3, none⟩) n4 c3 (some ⟨b4, o4, none⟩) n4 c4 ls ws cs sts (HSP2.out.below hb3) rc A11 n11 c11 y (HR11.out.below hbx (Nat.le_refl _)) hn11)
                      clear hrd hy hr11 hbh
                      go_wp2_with fail
                      (first | (go_region_held3 (fun w' => w'.cell? ⟨g6, 2, none⟩ = some (.int .i64 rc) ∧ w'.cell? ⟨b10, o10 + j, none⟩ = some (.slice A11 n11 c11)) (exact ⟨by assumption, by assumption⟩) (first
                        | (go_at_call 121
                           refine (HHC.out _ (by first | exact Below.refl _ _ | exact below_drew1 (Below.refl _ _) | exact below_drewN (Below.refl _ _))).mono ?_
                           rintro e w6 ⟨rfl, hb6⟩
                           (try replace hb6 := und1 hb6)
                           have HB6 := Lib.hid (HBZ.out.trans (hb6.mono HBZ.out.size))
                           have z2 := blk_cell (blk_bel HX65.out HB6.out) 2 rfl
                           have hc10 := (hb6.cell (p := ⟨b10, o10 + j, none⟩) hl10).trans hc10
                           clear hb6))) | fail)
                      all_goals
                        as_aux_lemma =>
                        cases bh with
                        | false =>
                          have hcl : closAt (sn : Int) t rs ls ws sts cs k = false := by
                            rw [closAt_eq HX.out HY.out, ← HRX.out, Int.toNat_natCast]
                            exact closR_out HYY.out (of_decide_eq_false HBH.out.symm)
                          have HO := Lib.hid (allTo_out (n := cs.length) (by rw [HL3.out]; exact hlt) hcl)
                          have h56 := HB5.out.trans (HB6.out.mono HB5.out.size)
                          have HBE := Lib.hid (HB2.out.trans (h56.mono HB2.out.size))
                          clear hcl h56
                          go_wp2_with fail
                          go_ret
                          exact ⟨by rw [HO.out]; rfl, by first | exact HBE.out | exact below_drew1 HBE.out⟩
                        | true =>
                          have HJ2 : Hid (∀ i y, i < j + 1 → (nextsOf sn ⟨ra, 1, rc⟩ xs ls ws)[i]? = some y → (rc :: y) ∈ stated sts cs) := Lib.hid (fun i y2 hi h2 => by
                            rcases Nat.lt_or_ge i j with h1 | h1
                            · exact HJ.out i y2 h1 h2
                            · obtain rfl : i = j := by omega
                              rw [HYY.out] at h2
                              injection h2 with h2
                              rw [← h2]
                              exact of_decide_eq_true HBH.out.symm)
                          go_wp2_with fail
                          go_roundw
                          case rel => exact ⟨j + 1, by omega, by go_num, HJ2, by first | exact HB6.out | exact below_drew1 HB6.out⟩
                          case measure => simp only [intOf]; omega
                    · obtain rfl : j = n10 := by omega
                      have HYES : Hid (closAt (sn : Int) t rs ls ws sts cs k = true) := Lib.hid (by
                        rw [closAt_eq HX.out HY.out, ← HRX.out, Int.toNat_natCast]
                        refine closR_yes HBO.out.symm HIN.out (fun y hy => ?_)
                        obtain ⟨i, hi⟩ := List.mem_iff_getElem?.1 hy
                        exact HJ.out i y (by have h1 := (List.getElem?_eq_some_iff.1 hi).1; rw [HL10.out] at h1; exact h1) hi)
                      have h5z := HB5.out.trans (HBZ.out.mono HB5.out.size)
                      have HBE := Lib.hid (HB2.out.trans (h5z.mono HB2.out.size))
                      clear h5z
                      go_wp2_with fail
                      go_roundw
                      case rel => exact ⟨k + 1, by omega, by go_num, Lib.hid (allTo_next HK.out HYES.out), HBE.out⟩
                      case measure => simp only [intOf]; omega
          · as_aux_lemma =>
            have hmvd : decide ((-1 : Int) < 0) = true := by decide
            have HMV : Hid ((-1 : Int) = 1 ∨ (-1 : Int) = -1) := Lib.hid (by decide)
            have HLL : Hid ((lostOf ⟨ra, -1, rc⟩ xs).length ≤ 1000) := Lib.hid (by
              have h1 := HH4.out; have h2 := HODD.out
              unfold lostOf
              split
              · simp only [List.length_take]; omega
              · simp only [List.length_drop]; omega)
            have HOS : Hid (RdL w2 A2 n2 ws) := Lib.hid HSP2.out.r2
            have HNO : Hid (n2 ≤ 1000000000) := Lib.hid (by have := HSP2.out.b2; omega)
            obtain ⟨bl, hbl⟩ : ∃ bl, bl = decide (lostOf ⟨ra, -1, rc⟩ xs ∈ ws) := ⟨_, rfl⟩
            have HBL := Lib.hid hbl
            have HP32 := Lib.hid p3
            have HHAS : Hid (∀ (wx : World) (A7 : Option Addr) (n7 c7 : Nat), Below w2.heap.size w2 wx → wx.ownsRow w2.heap.size 2 1 (.slice A7 n7 c7) n7 (ints (lostOf ⟨ra, -1, rc⟩ xs)) → Calls Try.prog 106 #[.slice A2 n2 c2, .slice A7 n7 c7] wx (RetV wx (.bool bl))) := Lib.hid (fun wx A7 n7 c7 hbx ho => by
              have hn7 : n7 ≤ 1000 := by have h1 := ho.1; have h2 := HLL.out; simp at h1; omega
              rw [hbl]
              exact (l29Has_any wx A2 n2 c2 ws (HOS.out.below hbx (Nat.le_refl _)) HNO.out A7 n7 c7 _ (own_rd ho) (by omega)).mono (by rintro e w' ⟨rfl, hw⟩; exact ⟨rfl, drp_bel hw⟩))
            clear hbl
            go_upto_region 12 with fail
            (first | (go_region_held3 (fun w' => w'.cell? ⟨g6, 0, none⟩ = some (.int .i64 ra) ∧ w'.cell? ⟨g6, 1, none⟩ = some (.int .i64 (-1)) ∧ w'.cell? ⟨g6, 2, none⟩ = some (.int .i64 rc) ∧ w'.cell? ⟨g, 3, none⟩ = some (.slice (some ⟨b3, o3, none⟩) n4 c3) ∧ w'.cell? ⟨b3, o3 + k, none⟩ = some (.slice A5 n5 c5)) (exact ⟨by assumption, by assumption, by assumption, by assumption, by assumption⟩) (first
              | (have hq := HO3.out
                 clear hq
                 go_at_call 106
                 refine (HHAS.out _ A7 n7 c7 HB3.out HO3.out).mono ?_
                 rintro e w4 ⟨rfl, hb4⟩
                 have HB4 := Lib.hid (HB3.out.trans (hb4.mono HB3.out.size))
                 have x6 := blk_bel HX6.out HB4.out
                 have z0 := blk_cell x6 0 rfl
                 have z1 := blk_cell x6 1 rfl
                 have z2 := blk_cell x6 2 rfl
                 have sb := (HSP2.out.below HB4.out).bs
                 have q3 := blk_cell sb 3 rfl
                 have p3 := (HB4.out.cell (p := ⟨b3, o3 + k, none⟩) (Nat.lt_of_lt_of_le HLT.out.2 HBC.out.size)).trans HP32.out
                 clear x6 sb
                 clear hb4)
              | (go_at_call 157
                 refine (HLS.out _ (by first | exact Below.refl _ _ | exact below_drew1 (Below.refl _ _) | exact below_drewN (Below.refl _ _))).mono ?_
                 rintro e w3 ⟨A7, n7, c7, rfl, ho3, hb3⟩
                 (try replace hb3 := und1 hb3)
                 have HB3 : Hid (Below w2.heap.size w2 w3) := Lib.hid hb3
                 have HO3 : Hid (w3.ownsRow w2.heap.size 2 1 (.slice A7 n7 c7) n7 (ints (lostOf ⟨ra, -1, rc⟩ xs))) := Lib.hid ho3
                 have x6 := blk_bel HX6.out HB3.out
                 have z0 := blk_cell x6 0 rfl
                 have z1 := blk_cell x6 1 rfl
                 have z2 := blk_cell x6 2 rfl
                 have sb := (HSP2.out.below HB3.out).bs
                 have q3 := blk_cell sb 3 rfl
                 have p3 := (HB3.out.cell (p := ⟨b3, o3 + k, none⟩) (Nat.lt_of_lt_of_le HLT.out.2 HBC.out.size)).trans HP32.out
                 clear x6 sb
                 clear ho3 hb3))) | fail)
            all_goals
              as_aux_lemma =>
              cases bl with
              | false =>
                as_aux_lemma =>
                have hcl : closAt s t rs ls ws sts cs k = false := by
                  rw [closAt_eq HX.out HY.out, ← HRX.out]
                  refine closR_lost ?_
                  show ¬ lostOf ⟨ra, -1, rc⟩ xs ∈ (if (-1 : Int) = 1 then ls else ws)
                  rw [if_neg (by decide)]
                  exact of_decide_eq_false HBL.out.symm
                have HO := Lib.hid (allTo_out (n := cs.length) (by rw [HL3.out]; exact hlt) hcl)
                have HBE := Lib.hid (HB2.out.trans (HB4.out.mono HB2.out.size))
                clear hcl
                go_wp2_with fail
                go_ret
                exact ⟨by rw [HO.out]; rfl, by first | exact HBE.out | exact below_drew1 HBE.out⟩
              | true =>
                as_aux_lemma =>
                obtain ⟨hs6, _, _, _⟩ := okM_all HOK.out
                obtain ⟨sn, hsn⟩ := Int.eq_ofNat_of_zero_le (show 0 ≤ s by omega)
                subst hsn
                have HIN : Hid (lostOf ⟨ra, -1, rc⟩ xs ∈ (if (-1 : Int) = 1 then ls else ws)) := Lib.hid (by rw [if_neg (by decide)]; exact of_decide_eq_true HBL.out.symm)
                have HN5 : Hid (n5 = 2 * pn + 1) := Lib.hid (by have h1 := HR52.out.1; have h2 := HPP.out.lc xs (List.mem_of_getElem? HY.out); simp at h1; omega)
                have HNX : Hid (∀ wx : World, Below w4.heap.size w4 wx → Calls Try.prog 52 #[.pointer (some ⟨gm, 0, none⟩), .agg #[.int .i64 ra, .int .i64 (-1), .int .i64 rc], .slice A5 n5 c5, .slice A1 n1 c1] wx (RetP wx (nextsOf sn ⟨ra, -1, rc⟩ xs ls ws))) := Lib.hid (fun wx hbx => by
                  have hbx2 := HB4.out.trans (hbx.mono HB4.out.size)
                  exact l29Next_any wx gm sn t A n c (HM2.out.bel hbx2) (by omega) ra (-1) rc (by decide) A5 n5 c5 pn xs (HR52.out.below hbx2 (Nat.le_refl _)) HC5.out HN5.out HPP.out.n1 (ctx_sm HZ.out) A1 n1 c1 ls ws (by rw [if_neg (by decide)]; exact HSP2.out.r1.below hbx2 (Nat.le_refl _)) (by have := HSP2.out.b1; omega))
                have HS6 : Hid (sn ≤ 6) := Lib.hid (by omega)
                clear hs6 HHAS HLS HOS HNO HLL HO3 HB3
                go_upto_region 14 with fail
                (first | (go_region_held3 (fun w' => w'.cell? ⟨g6, 0, none⟩ = some (.int .i64 ra) ∧ w'.cell? ⟨g6, 1, none⟩ = some (.int .i64 (-1)) ∧ w'.cell? ⟨g6, 2, none⟩ = some (.int .i64 rc) ∧ w'.cell? ⟨g, 3, none⟩ = some (.slice (some ⟨b3, o3, none⟩) n4 c3) ∧ w'.cell? ⟨b3, o3 + k, none⟩ = some (.slice A5 n5 c5)) (exact ⟨by assumption, by assumption, by assumption, by assumption, by assumption⟩) (first
                  | (go_at_call 52
                     refine (HNX.out _ (by first | exact Below.refl _ _ | exact below_drew1 (Below.refl _ _) | exact below_drewN (Below.refl _ _))).mono ?_
                     rintro e w5 ⟨A10, n10, c10, F10, rfl, ho10, hf10, hb10⟩
                     (try replace hb10 := und1 hb10)
                     have HB5 := Lib.hid (HB4.out.trans (hb10.mono HB4.out.size))
                     have HO10 := Lib.hid ho10
                     have x6 := blk_bel HX6.out HB5.out
                     have z0 := blk_cell x6 0 rfl
                     have z1 := blk_cell x6 1 rfl
                     have z2 := blk_cell x6 2 rfl
                     have sb := (HSP2.out.below HB5.out).bs
                     have q3 := blk_cell sb 3 rfl
                     have p3 := (HB5.out.cell (p := ⟨b3, o3 + k, none⟩) (Nat.lt_of_lt_of_le HLT.out.2 HBC.out.size)).trans HP32.out
                     clear x6 sb
                     clear ho10 hf10 hb10))) | fail)
                all_goals
                  as_aux_lemma =>
                  have HL10 := Lib.hid HO10.out.rdl.len
                  have hn10 : n10 ≤ 6 := by rw [← HL10.out]; exact Nat.le_trans (nexts_len _ _ _ _ _) HS6.out
                  have HX65 := Lib.hid (blk_bel HX6.out HB5.out)
                  clear z0 z1 z2 q3 p3 HNX HX6
                  go_wp2_with fail
                  go_loopw [11] (fun q wz => ∃ j : Nat, j ≤ n10 ∧ q = .int .i64 j ∧ Hid (∀ i y, i < j → (nextsOf sn ⟨ra, -1, rc⟩ xs ls ws)[i]? = some y → (rc :: y) ∈ stated sts cs) ∧ Below w5.heap.size w5 wz) (fun q _ => n10 - (intOf q).toNat)
                  case atStart => exact ⟨0, Nat.zero_le _, rfl, Lib.hid (fun i y hi => by omega), by first | exact Below.refl _ _ | exact below_drew1 (Below.refl _ _)⟩
                  case round =>
                    as_aux_lemma =>
                    obtain ⟨j, hj, rfl, HJ, hb⟩ := hrel
                    have HBZ := Lib.hid hb
                    have z2 := blk_cell (blk_bel HX65.out hb) 2 rfl
                    clear hb
                    by_cases hjn : j < n10
                    · obtain ⟨y, hy⟩ := get_some (xs := nextsOf sn ⟨ra, -1, rc⟩ xs ls ws) (k := j) (by rw [HL10.out]; exact hjn)
                      have hrd := HO10.out.rdl.below HBZ.out (Nat.le_refl _)
                      obtain ⟨b10, o10, A11, n11, c11, e10, hl10, hc10, hn11, hr11⟩ := hrd.at_ hy
                      subst e10
                      have HYY := Lib.hid hy
                      obtain ⟨bh, hbh⟩ : ∃ bh, bh = decide ((rc :: y) ∈ stated sts cs) := ⟨_, rfl⟩
                      have HBH := Lib.hid hbh
                      have HR11 := Lib.hid hr11
                      have HHC : Hid (∀ wx : World, Below wr.heap.size wr wx → Calls Try.prog 121 #[.pointer (some ⟨g, 0, none⟩), .int .i64 rc, .slice A11 n11 c11] wx (RetV wx (.bool bh))) := Lib.hid (fun wx hbx => by
                        have hb2 := HB5.out.trans (HBZ.out.mono HB5.out.size)
                        have hb3 := hb2.trans (hbx.mono hb2.size)
                        rw [hbh]
                        exact l29HasContext_any wx g m A1 n1 c1 A2 n2 c2 (some ⟨b3, o3, none⟩) n4 c3 (some ⟨b4, o4, none⟩) n4 c4 ls ws cs sts (HSP2.out.below hb3) rc A11 n11 c11 y (HR11.out.below hbx (Nat.le_refl _)) hn11)
                      clear hrd hy hr11 hbh
                      go_wp2_with fail
                      (first | (go_region_held3 (fun w' => w'.cell? ⟨g6, 2, none⟩ = some (.int .i64 rc) ∧ w'.cell? ⟨b10, o10 + j, none⟩ = some (.slice A11 n11 c11)) (exact ⟨by assumption, by assumption⟩) (first
                        | (go_at_call 121
                           refine (HHC.out _ (by first | exact Below.refl _ _ | exact below_drew1 (Below.refl _ _) | exact below_drewN (Below.refl _ _))).mono ?_
                           rintro e w6 ⟨rfl, hb6⟩
                           (try replace hb6 := und1 hb6)
                           have HB6 := Lib.hid (HBZ.out.trans (hb6.mono HBZ.out.size))
                           have z2 := blk_cell (blk_bel HX65.out HB6.out) 2 rfl
                           have hc10 := (hb6.cell (p := ⟨b10, o10 + j, none⟩) hl10).trans hc10
                           clear hb6))) | fail)
                      all_goals
                        as_aux_lemma =>
                        cases bh with
                        | false =>
                          have hcl : closAt (sn : Int) t rs ls ws sts cs k = false := by
                            rw [closAt_eq HX.out HY.out, ← HRX.out, Int.toNat_natCast]
                            exact closR_out HYY.out (of_decide_eq_false HBH.out.symm)
                          have HO := Lib.hid (allTo_out (n := cs.length) (by rw [HL3.out]; exact hlt) hcl)
                          have h56 := HB5.out.trans (HB6.out.mono HB5.out.size)
                          have HBE := Lib.hid (HB2.out.trans (h56.mono HB2.out.size))
                          clear hcl h56
                          go_wp2_with fail
                          go_ret
                          exact ⟨by rw [HO.out]; rfl, by first | exact HBE.out | exact below_drew1 HBE.out⟩
                        | true =>
                          have HJ2 : Hid (∀ i y, i < j + 1 → (nextsOf sn ⟨ra, -1, rc⟩ xs ls ws)[i]? = some y → (rc :: y) ∈ stated sts cs) := Lib.hid (fun i y2 hi h2 => by
                            rcases Nat.lt_or_ge i j with h1 | h1
                            · exact HJ.out i y2 h1 h2
                            · obtain rfl : i = j := by omega
                              rw [HYY.out] at h2
                              injection h2 with h2
                              rw [← h2]
                              exact of_decide_eq_true HBH.out.symm)
                          go_wp2_with fail
                          go_roundw
                          case rel => exact ⟨j + 1, by omega, by go_num, HJ2, by first | exact HB6.out | exact below_drew1 HB6.out⟩
                          case measure => simp only [intOf]; omega
                    · obtain rfl : j = n10 := by omega
                      have HYES : Hid (closAt (sn : Int) t rs ls ws sts cs k = true) := Lib.hid (by
                        rw [closAt_eq HX.out HY.out, ← HRX.out, Int.toNat_natCast]
                        refine closR_yes HBO.out.symm HIN.out (fun y hy => ?_)
                        obtain ⟨i, hi⟩ := List.mem_iff_getElem?.1 hy
                        exact HJ.out i y (by have h1 := (List.getElem?_eq_some_iff.1 hi).1; rw [HL10.out] at h1; exact h1) hi)
                      have h5z := HB5.out.trans (HBZ.out.mono HB5.out.size)
                      have HBE := Lib.hid (HB2.out.trans (h5z.mono HB2.out.size))
                      clear h5z
                      go_wp2_with fail
                      go_roundw
                      case rel => exact ⟨k + 1, by omega, by go_num, Lib.hid (allTo_next HK.out HYES.out), HBE.out⟩
                      case measure => simp only [intOf]; omega
    · obtain rfl : k = n4 := by omega
      have HO := Lib.hid HK.out
      go_wp2_with fail
      go_ret
      exact ⟨by rw [HL3.out, HO.out]; rfl, HB.out⟩
end Go.Proofs.Ytemllhkgjdifiaa
