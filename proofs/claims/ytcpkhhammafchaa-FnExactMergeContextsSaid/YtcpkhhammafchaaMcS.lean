/- MergeContexts (reference). Written by mk_mcs.py. -/
import Derived.Test.YtcpkhhammafchaaMcA
import Derived.Test.YtcpkhhammafchaaMcM
import Derived.Test.YtcpkhhammafchaaFrP
import Derived.Test.YtcpkhhammafchaaGI
import Derived.Deep.DrawnRows
namespace Go.Proofs.Ytcpkhhammafchaa
open Go.RowKit
set_option linter.unusedVariables false
set_option linter.unusedSimpArgs false
attribute [local go_sem ↓] Go.wp_at_zero Go.wp_at_succ
structure Le3 (a b c : List (List Int)) : Prop where
  p1 : a.length ≤ 600
  p2 : b.length ≤ 600
  p3 : c.length ≤ 600
theorem mcs_start {w w4 : World} {g N : Nat} {ls rs cs : List (List Int)} {sts : List Int} {A1 A2 A3 A4 : Option Addr} {n1 c1 n2 c2 n3 c3 n4 c4 : Nat} {u1 u2 u3 : List Value} (hbs : BS w4 g (N : Int) A1 n1 c1 A2 n2 c2 A3 n3 c3 A4 n4 c4) (o1 : OwnX w4 A1 n1 c1 u1 ls) (o2 : OwnX w4 A2 n2 c2 u2 rs) (o3 : OwnX w4 A3 n3 c3 u3 cs) (o4 : w4.ownsRow w.heap.size 2 1 (.slice A4 n4 c4) n4 (ints sts))
    (d12 : ∀ q, FX A1 n1 c1 u1 q → FX A2 n2 c2 u2 q → False) (d13 : ∀ q, FX A1 n1 c1 u1 q → FX A3 n3 c3 u3 q → False) (d23 : ∀ q, FX A2 n2 c2 u2 q → FX A3 n3 c3 u3 q → False) (d14 : ∀ q, FX A1 n1 c1 u1 q → Fo (.slice A4 n4 c4) q → False) (d24 : ∀ q, FX A2 n2 c2 u2 q → Fo (.slice A4 n4 c4) q → False) (d34 : ∀ q, FX A3 n3 c3 u3 q → Fo (.slice A4 n4 c4) q → False) (hl : sts.length = cs.length) :
    RefE w4 (fun q => q = g ∨ FX A1 n1 c1 u1 q ∨ FX A2 n2 c2 u2 q ∨ FX A3 n3 c3 u3 q ∨ Fo (.slice A4 n4 c4) q) g N ⟨ls, rs, stated sts cs⟩ := by
  have h4 : sts.length = n4 := by simpa using o4.1
  have h3 := o3.ownp.rdl.len
  obtain rfl : n3 = n4 := by omega
  refine ⟨A1, n1, c1, u1, A2, n2, c2, u2, A3, n3, c3, u3, A4, c4, sts, cs, hl, ⟨hbs, o1, o2, o3, ownN_base o4 (Nat.zero_le _), rfl, d12, d13, d23, d14, d24, d34, .inl rfl, fun q a => .inr (.inl a), fun q a => .inr (.inr (.inl a)), fun q a => .inr (.inr (.inr (.inl a))), fun q a => .inr (.inr (.inr (.inr a))), fun q a => ?_⟩⟩
  rcases a with rfl | a | a | a | a
  · exact blk_lt hbs
  · exact o1.lt a
  · exact o2.lt a
  · exact o3.lt a
  · exact (o4.lt q a).2
theorem fold_step {l : List (List Int)} {x : List Int} {acc : List (List Int)} {k : Nat} (h : l[k]? = some x) : (l.take (k + 1)).foldl putL acc = putL ((l.take k).foldl putL acc) x := by
  rw [List.take_add_one, h, List.foldl_append]; rfl
theorem fold_len {l acc : List (List Int)} {k : Nat} (h : Rises acc) (h1 : acc.length ≤ 600) (h2 : l.length ≤ 600) : ((l.take k).foldl putL acc).length ≤ 1200 := by
  have h3 := (foldl_len (ys := l.take k) h).2
  rw [List.length_take] at h3
  omega
theorem heap_oth {w w' : World} {F : Nat → Prop} {g i : Nat} {v : Value} (hc : Ch F w (w'.setCell ⟨g, i, none⟩ v)) {q : Nat} (hq : q < w.heap.size) (hn : ¬ F q) (hg : ¬ q = g) : w'.heap[q]? = w.heap[q]? :=
  (heap_setCell_other w' ⟨g, i, none⟩ q v hg).symm.trans (hc.block q hq hn)
/-- What l29Put leaves in a set. -/
def PutE (wx : World) (F : Nat → Prop) (g N i : Nat) (u : Value) (S : St3) (e : Ending) (w' : World) : Prop :=
  ∃ A' n' c', e = .returned (.slice A' n' c') ∧ RefE (w'.setCell ⟨g, i, none⟩ (.slice A' n' c')) (FN F u wx (w'.setCell ⟨g, i, none⟩ (.slice A' n' c'))) g N S ∧ Ch F wx (w'.setCell ⟨g, i, none⟩ (.slice A' n' c')) ∧ w'.heap[g]? = wx.heap[g]?
theorem gj_next {F : Nat → Prop} {us : List Value} {k q : Nat} (h : GJ F us k q) : GJ F us (k + 1) q := by
  rcases h with a | ⟨j, v, hj, hv, a⟩
  · exact .inl a
  · exact .inr ⟨j, v, by omega, hv, a⟩
theorem gj_end {F : Nat → Prop} {us : List Value} {k q : Nat} (h : GJ F us k q) : F q ∨ FU us q := by
  rcases h with a | ⟨j, v, hj, hv, a⟩
  · exact .inl a
  · exact .inr ⟨v, List.mem_of_getElem? hv, a⟩
set_option maxHeartbeats 32000000 in
set_option maxRecDepth 100000 in
theorem specMergeContexts_any (w : World) (k1 : Int) (A1 : Option Addr) (n1 c1 : Nat) (ns1 : List Int) (hr1 : Rd w A1 n1 (ints ns1)) (hn1 : n1 ≤ 1000000000) (hc1 : n1 ≤ c1) (A2 : Option Addr) (n2 c2 : Nat) (ws1 : List (List Int)) (hr2 : RdL w A2 n2 ws1) (hn2 : n2 ≤ 1000000000) (hc2 : n2 ≤ c2) (k2 : Int) (B1 : Option Addr) (m1 d1 : Nat) (ns2 : List Int) (hs1 : Rd w B1 m1 (ints ns2)) (hm1 : m1 ≤ 1000000000) (hd1 : m1 ≤ d1) (B2 : Option Addr) (m2 d2 : Nat) (ws2 : List (List Int)) (hs2 : RdL w B2 m2 ws2) (hm2 : m2 ≤ 1000000000) (hd2 : m2 ≤ d2) :
    Calls Try.prog 31 #[prfV k1 A1 n1 c1 A2 n2 c2, prfV k2 B1 m1 d1 B2 m2 d2] w (PfP w (mcP k1 ns1 ws1 k2 ns2 ws2)) := by
  obtain ⟨w0, hw0⟩ : ∃ w0, w0 = ((w.alloc (.cells #[.int .i64 k1, .slice A1 n1 c1, .slice A2 n2 c2] 48)).alloc (.cells #[.int .i64 k2, .slice B1 m1 d1, .slice B2 m2 d2] 48)).alloc (.cells pfZq 48) := ⟨_, rfl⟩
  have hB : Below w.heap.size w w0 := by rw [hw0]; exact ((below_new w _).trans ((below_new _ _).mono (by simp))).trans ((below_new _ _).mono (by simp; omega))
  have hx1 : w0.heap[w.heap.size]? = some (.cells #[.int .i64 k1, .slice A1 n1 c1, .slice A2 n2 c2] 48 (0, 0)) := by rw [hw0]; exact blk_alloc (blk_alloc (box_new w _ _) _) _
  have hx2 : w0.heap[w.heap.size + 1]? = some (.cells #[.int .i64 k2, .slice B1 m1 d1, .slice B2 m2 d2] 48 (0, 0)) := by rw [hw0]; have h := box_new (w.alloc (.cells #[.int .i64 k1, .slice A1 n1 c1, .slice A2 n2 c2] 48)) #[.int .i64 k2, .slice B1 m1 d1, .slice B2 m2 d2] 48; exact blk_alloc (by simpa using h) _
  have hz : w0.heap[w.heap.size + 1 + 1]? = some (.cells pfZq 48 (0, 0)) := by rw [hw0]; have h := box_new ((w.alloc (.cells #[.int .i64 k1, .slice A1 n1 c1, .slice A2 n2 c2] 48)).alloc (.cells #[.int .i64 k2, .slice B1 m1 d1, .slice B2 m2 d2] 48)) pfZq 48; simpa using h
  have HX1 := Lib.hid hx1; have HX2 := Lib.hid hx2; have HZ := Lib.hid hz; have HB := Lib.hid hB
  have HR1 := Lib.hid (hr1.below hB (Nat.le_refl _)); have HR2 := Lib.hid (hr2.below hB (Nat.le_refl _)); have HS1 := Lib.hid (hs1.below hB (Nat.le_refl _)); have HS2 := Lib.hid (hs2.below hB (Nat.le_refl _))
  have HZL : Hid (w.heap.size + 1 + 1 < w0.heap.size) := Lib.hid (blk_lt hz)
  have HR0 : Hid (Below w0.heap.size w0 w0) := Lib.hid (Below.refl _ _)
  have HV1 : Hid (∀ wx : World, Below w0.heap.size w0 wx → Calls Try.prog 74 #[.pointer (some ⟨w.heap.size, 0, none⟩)] wx (RetV wx (.bool (okP k1 ns1 ws1)))) := Lib.hid (fun wx hbx => l25Is_any wx _ k1 A1 n1 c1 A2 n2 c2 (blk_bel HX1.out hbx) ns1 (HR1.out.below hbx (Nat.le_refl _)) hn1 ws1 (HR2.out.below hbx (Nat.le_refl _)) hn2)
  have HV2 : Hid (∀ wx : World, Below w0.heap.size w0 wx → Calls Try.prog 74 #[.pointer (some ⟨w.heap.size + 1, 0, none⟩)] wx (RetV wx (.bool (okP k2 ns2 ws2)))) := Lib.hid (fun wx hbx => l25Is_any wx _ k2 B1 m1 d1 B2 m2 d2 (blk_bel HX2.out hbx) ns2 (HS1.out.below hbx (Nat.le_refl _)) hm1 ws2 (HS2.out.below hbx (Nat.le_refl _)) hm2)
  have HI1 : Hid (okP k1 ns1 ws1 = true → ∀ wx : World, Below w0.heap.size w0 wx → Calls Try.prog 75 #[.pointer (some ⟨w.heap.size, 0, none⟩)] wx (InPost wx (pN ns1) (lefts ns1 ws1) (rights ns1 ws1) (ctxs ns1 ws1) (ns1.drop 3) (csOk k1 ns1 ws1))) := Lib.hid (fun hok wx hbx => l29In_any wx _ k1 A1 n1 c1 A2 n2 c2 (blk_bel HX1.out hbx) ns1 (HR1.out.below hbx (Nat.le_refl _)) hn1 hc1 ws1 (HR2.out.below hbx (Nat.le_refl _)) hok)
  have HI2 : Hid (okP k2 ns2 ws2 = true → ∀ wx : World, Below w0.heap.size w0 wx → Calls Try.prog 75 #[.pointer (some ⟨w.heap.size + 1, 0, none⟩)] wx (InPost wx (pN ns2) (lefts ns2 ws2) (rights ns2 ws2) (ctxs ns2 ws2) (ns2.drop 3) (csOk k2 ns2 ws2))) := Lib.hid (fun hok wx hbx => l29In_any wx _ k2 B1 m1 d1 B2 m2 d2 (blk_bel HX2.out hbx) ns2 (HS1.out.below hbx (Nat.le_refl _)) hm1 hd1 ws2 (HS2.out.below hbx (Nat.le_refl _)) hok)
  clear hB hx1 hx2 hz hr1 hr2 hs1 hs2 hn1 hc1 hn2 hc2 hm1 hd1 hm2 hd2
  cases hok1 : okP k1 ns1 ws1 with
  | false =>
    as_aux_lemma =>
    have HO : Hid (mcP k1 ns1 ws1 k2 ns2 ws2 = (0, [], [], 1)) := Lib.hid (by unfold mcP; rw [hok1]; simp)
    rw [hok1] at HV1
    clear hok1
    go_enter Try.func31, Try.ntmps31
    go_upto_region 1 with fail
    rw [← hw0]
    clear hw0
    go_wp2_with fail
    refine (HV1.out w0 HR0.out).mono ?_
    rintro e w2 ⟨rfl, hb2⟩
    have HB2 := Lib.hid hb2
    have hzb := blk_bel HZ.out hb2
    have z0 := blk_cell hzb 0 rfl
    have z1 := blk_cell hzb 1 rfl
    have z2 := blk_cell hzb 2 rfl
    have f0 := blk_free hzb 0
    have f1 := blk_free hzb 1
    have f2 := blk_free hzb 2
    clear hzb hb2
    go_wp2_with fail
    exact bodyPost_ret (v := .tuple #[prfV 0 none 0 0 none 0 0, .int .i64 1]) (by simp [results, Try.results31, go_sem, z0, z1, z2]) rfl (by rw [HO.out]; exact pfp_err (HB.out.trans (HB2.out.mono HB.out.size)) (by omega))
  | true =>
    as_aux_lemma =>
    have OK1 := Lib.hid hok1
    rw [hok1] at HV1
    cases hok2 : okP k2 ns2 ws2 with
    | false =>
      as_aux_lemma =>
      have HO : Hid (mcP k1 ns1 ws1 k2 ns2 ws2 = (0, [], [], 1)) := Lib.hid (by unfold mcP; rw [hok2]; simp)
      rw [hok2] at HV2
      clear hok1 hok2
      go_enter Try.func31, Try.ntmps31
      go_upto_region 1 with fail
      rw [← hw0]
      clear hw0
      go_wp2_with fail
      refine (HV1.out w0 HR0.out).mono ?_
      rintro e w2 ⟨rfl, hb2⟩
      have HB2 := Lib.hid hb2
      clear hb2
      go_wp2_with fail
      refine (HV2.out w2 HB2.out).mono ?_
      rintro e w3 ⟨rfl, hb3⟩
      have HB3 : Hid (Below w0.heap.size w0 w3) := Lib.hid (bq_call hb3 HB2.out)
      have hzb := blk_bel HZ.out HB3.out
      have z0 := blk_cell hzb 0 rfl
      have z1 := blk_cell hzb 1 rfl
      have z2 := blk_cell hzb 2 rfl
      have f0 := blk_free hzb 0
      have f1 := blk_free hzb 1
      have f2 := blk_free hzb 2
      clear hzb hb3
      go_wp2_with fail
      exact bodyPost_ret (v := .tuple #[prfV 0 none 0 0 none 0 0, .int .i64 1]) (by simp [results, Try.results31, go_sem, z0, z1, z2]) rfl (by rw [HO.out]; exact pfp_err (HB.out.trans (HB3.out.mono HB.out.size)) (by omega))
    | true =>
      as_aux_lemma =>
      have OK2 := Lib.hid hok2
      rw [hok2] at HV2
      clear hok1 hok2
      obtain ⟨b1, hb1⟩ : ∃ b, b = csOk k1 ns1 ws1 := ⟨_, rfl⟩
      obtain ⟨b2, hb2⟩ : ∃ b, b = csOk k2 ns2 ws2 := ⟨_, rfl⟩
      have HC1 : Hid (csOk k1 ns1 ws1 = b1) := Lib.hid hb1.symm
      have HC2 : Hid (csOk k2 ns2 ws2 = b2) := Lib.hid hb2.symm
      clear hb1 hb2
      go_enter Try.func31, Try.ntmps31
      go_upto_region 1 with fail
      rw [← hw0]
      clear hw0
      go_wp2_with fail
      refine (HV1.out w0 HR0.out).mono ?_
      rintro e w2 ⟨rfl, hb2⟩
      have HB2 := Lib.hid hb2
      clear hb2
      go_wp2_with fail
      refine (HV2.out w2 HB2.out).mono ?_
      rintro e w3 ⟨rfl, hb3⟩
      have HB3 : Hid (Below w0.heap.size w0 w3) := Lib.hid (bq_call hb3 HB2.out)
      clear hb3
      go_wp2_with fail
      refine (HI1.out OK1.out w3 HB3.out).mono ?_
      rw [HC1.out]
      rintro e w4 ⟨v1, rfl, hb4, hp4⟩
      have HP4 := Lib.hid hp4
      have HB4 : Hid (Below w0.heap.size w0 w4) := Lib.hid (bq_call hb4 HB3.out)
      have HW34 : Hid (w3.heap.size ≤ w4.heap.size) := Lib.hid hb4.size
      clear hp4 hb4
      go_wp2_with fail
      refine (HI2.out OK2.out w4 HB4.out).mono ?_
      rw [HC2.out]
      rintro e w5 ⟨v2, rfl, hb5, hp5⟩
      have HP5 := Lib.hid hp5
      have HW45 := Lib.hid hb5
      have HB5 : Hid (Below w0.heap.size w0 w5) := Lib.hid (bq_call hb5 HB4.out)
      clear hp5 hb5
      have hzb := blk_bel HZ.out HB5.out
      have z0 := blk_cell hzb 0 rfl
      have z1 := blk_cell hzb 1 rfl
      have z2 := blk_cell hzb 2 rfl
      have f0 := blk_free hzb 0
      have f1 := blk_free hzb 1
      have f2 := blk_free hzb 2
      clear hzb
      have HBW5 : Hid (Below w.heap.size w w5) := Lib.hid (HB.out.trans (HB5.out.mono HB.out.size))
      as_aux_lemma =>
      go_upto_region 5 with fail
      cases b1 with
      | false =>
        as_aux_lemma =>
        have HO : Hid (mcP k1 ns1 ws1 k2 ns2 ws2 = (0, [], [], 2)) := Lib.hid (by unfold mcP; rw [OK1.out, OK2.out, HC1.out]; simp)
        (first | (go_quiet (fail)) | fail)
        all_goals
          go_wp2_with fail
          exact bodyPost_ret (v := .tuple #[prfV 0 none 0 0 none 0 0, .int .i64 2]) (by simp [results, Try.results31, go_sem, z0, z1, z2]) rfl (by rw [HO.out]; exact pfp_err (below_drewN HBW5.out) (by omega))
      | true =>
        as_aux_lemma =>
        cases b2 with
        | false =>
          as_aux_lemma =>
          have HO : Hid (mcP k1 ns1 ws1 k2 ns2 ws2 = (0, [], [], 2)) := Lib.hid (by unfold mcP; rw [OK1.out, OK2.out, HC2.out]; simp)
          (first | (go_quiet (fail)) | fail)
          all_goals
            go_wp2_with fail
            exact bodyPost_ret (v := .tuple #[prfV 0 none 0 0 none 0 0, .int .i64 2]) (by simp [results, Try.results31, go_sem, z0, z1, z2]) rfl (by rw [HO.out]; exact pfp_err (below_drewN HBW5.out) (by omega))
        | true =>
          as_aux_lemma =>
          by_cases heq : pN ns1 = pN ns2
          · as_aux_lemma =>
            have HEQ := Lib.hid heq
            clear heq
            obtain ⟨N, hF1⟩ := mc_facts OK1.out HC1.out
            obtain ⟨N2, hF2⟩ := mc_facts OK2.out HC2.out
            obtain rfl : N = N2 := by have h1 := HEQ.out; have h2 := hF1.n; have h3 := hF2.n; omega
            obtain ⟨ga, A5, n5, c5, u5, A6, n6, c6, u6, A7, n7, c7, u7, A8, n8, c8, rfl, abs, a1, a2, a3, a4, alo, ad12, ad13, ad23, ad14, ad24, ad34, ag⟩ := HP4.out rfl
            obtain ⟨gb, B5, m5, d5, v5, B6, m6, d6, v6, B7, m7, d7, v7, B8, m8, d8, rfl, bbs, b1, b2, b3, b4, blo, bd12, bd13, bd23, bd14, bd24, bd34, bg⟩ := HP5.out rfl
            rw [hF1.n] at abs
            rw [hF2.n] at bbs
            have hm8 : (ns2.drop 3).length = m8 := by simpa using b4.1
            have hm7 := b3.ownp.rdl.len
            obtain rfl : m7 = m8 := by have := hF2.hl; omega
            have hre4 := mcs_start (w := w3) abs a1 a2 a3 a4 ad12 ad13 ad23 ad14 ad24 ad34 hF1.hl
            obtain ⟨F0, hF0⟩ : ∃ F0 : Nat → Prop, F0 = fun q => q = ga ∨ FX A5 n5 c5 u5 q ∨ FX A6 n6 c6 u6 q ∨ FX A7 n7 c7 u7 q ∨ Fo (.slice A8 n8 c8) q := ⟨_, rfl⟩
            rw [← hF0] at hre4
            have HF0L : Hid (∀ q, F0 q → q < w4.heap.size) := Lib.hid (fun q a => by
              obtain ⟨_, _, _, _, _, _, _, _, _, _, _, _, _, _, _, _, _, hx⟩ := hre4
              exact hx.lt q a)
            have HF0S : Hid (∀ q, F0 q → w0.heap.size ≤ q) := Lib.hid (fun q a => by
              have hw := HB3.out.size
              rw [hF0] at a
              rcases a with rfl | a | a | a | a
              · omega
              · have := alo q (.inl a); omega
              · have := alo q (.inr (.inl a)); omega
              · have := alo q (.inr (.inr a)); omega
              · have := (a4.lt q a).1; omega)
            have HO : Hid (mcP k1 ns1 ws1 k2 ns2 ws2 = prF N (mcS ns1 ws1 ns2 ws2)) := Lib.hid (by
              have h1 : decide (pN ns1 = pN ns2) = true := decide_eq_true HEQ.out
              unfold mcP
              rw [OK1.out, OK2.out, HC1.out, HC2.out, h1, hF1.n]
              simp)
            have HMC : Hid (mcP k1 ns1 ws1 k2 ns2 ws2 = prF N ⟨(lefts ns2 ws2).foldl putL (lefts ns1 ws1), (rights ns2 ws2).foldl putL (rights ns1 ws1), (stated (ns2.drop 3) (ctxs ns2 ws2)).foldl putL (stated (ns1.drop 3) (ctxs ns1 ws1))⟩) := HO
            have g0 := blk_cell (blk_bel abs HW45.out) 0 rfl
            have g1 := blk_cell bbs 0 rfl
            have hcmp : ((N : Int) != (N : Int)) = false := by simp
            (first | (go_quiet (fail)) | fail)
            as_aux_lemma =>
            clear g0 g1 z0 z1 z2 f0 f1 f2 hcmp
            obtain ⟨w6, hw6⟩ : ∃ w6, w6 = w5.drewN nq := ⟨_, rfl⟩
            have HW56 : Hid (Below w5.heap.size w5 w6) := Lib.hid (by rw [hw6]; exact below_drewN (Below.refl _ _))
            have HSZE : Hid (w6.heap.size = w5.heap.size) := Lib.hid (by rw [hw6]; rfl)
            rw [← hw6]
            clear hw6
            have HBWw6 : Hid (Below w0.heap.size w0 w6) := Lib.hid (bq_call HW56.out HB5.out)
            have HE1 : Hid (RefE w6 F0 ga N ⟨lefts ns1 ws1, rights ns1 ws1, stated (ns1.drop 3) (ctxs ns1 ws1)⟩) := Lib.hid ((hre4.below HW45.out).below HW56.out)
            have HBB1 : Hid (w6.heap[gb]? = some (.cells #[.int .i64 (N : Int), .slice B5 m5 d5, .slice B6 m6 d6, .slice B7 m7 d7, .slice B8 m7 d8] 117 (0, 0))) := Lib.hid (blk_bel bbs HW56.out)
            have HX5 := Lib.hid (b1.below HW56.out); have HX6 := Lib.hid (b2.below HW56.out); have HX7 := Lib.hid (b3.below HW56.out)
            have HR8 : Hid (w6.ownsRow 0 2 1 (.slice B8 m7 d8) m7 (ints (ns2.drop 3))) := Lib.hid (ownN_base (ownN_below b4 HW56.out (Nat.le_refl _)) (Nat.zero_le _))
            have HD56 := Lib.hid bd12; have HD57 := Lib.hid bd13; have HD67 := Lib.hid bd23; have HD58 := Lib.hid bd14; have HD68 := Lib.hid bd24; have HD78 := Lib.hid bd34
            have HBLO : Hid (∀ q, q = gb ∨ FX B5 m5 d5 v5 q ∨ FX B6 m6 d6 v6 q ∨ FX B7 m7 d7 v7 q ∨ Fo (.slice B8 m7 d8) q → w4.heap.size ≤ q) := Lib.hid (fun q a => by
              rcases a with rfl | a | a | a | a
              · exact bg
              · exact blo q (.inl a)
              · exact blo q (.inr (.inl a))
              · exact blo q (.inr (.inr a))
              · exact (b4.lt q a).1)
            have HD1 : Hid (∀ q, q = gb ∨ FX B5 m5 d5 v5 q ∨ FX B6 m6 d6 v6 q ∨ FX B7 m7 d7 v7 q ∨ Fo (.slice B8 m7 d8) q → ¬ F0 q) := Lib.hid (fun q a b => by have h1 := HBLO.out q a; have h2 := HF0L.out q b; omega)
            obtain ⟨UP, hUP⟩ : ∃ UP : Nat → Prop, UP = fun q => F0 q ∨ (FX B5 m5 d5 v5 q ∨ FX B6 m6 d6 v6 q ∨ FX B7 m7 d7 v7 q ∨ Fo (.slice B8 m7 d8) q) ∨ w6.heap.size ≤ q := ⟨_, rfl⟩
            have HUP1 : Hid (∀ q, F0 q → F0 q ∨ (FX B5 m5 d5 v5 q ∨ FX B6 m6 d6 v6 q ∨ FX B7 m7 d7 v7 q ∨ Fo (.slice B8 m7 d8) q) ∨ w6.heap.size ≤ q) := Lib.hid (fun q a => .inl a)
            have HLO : Hid (∀ q, F0 q ∨ (FX B5 m5 d5 v5 q ∨ FX B6 m6 d6 v6 q ∨ FX B7 m7 d7 v7 q ∨ Fo (.slice B8 m7 d8) q) ∨ w6.heap.size ≤ q → w0.heap.size ≤ q) := Lib.hid (fun q a => by
              have h0 := HB4.out.size
              rcases a with a | a | a
              · exact HF0S.out q a
              · have h1 := HBLO.out q (.inr a); omega
              · have h1 := HBWw6.out.size; omega)
            clear hUP UP
            have HLN1 : Hid ((lefts ns2 ws2).length = m5) := Lib.hid b1.ownp.rdl.len
            have HLN2 : Hid ((rights ns2 ws2).length = m6) := Lib.hid b2.ownp.rdl.len
            have HLN3 : Hid ((ctxs ns2 ws2).length = m7) := Lib.hid b3.ownp.rdl.len
            have HTL : Hid ((ns2.drop 3).length = (ctxs ns2 ws2).length) := Lib.hid hF2.hl
            have HTS : Hid ((stated (ns2.drop 3) (ctxs ns2 ws2)).length = m7) := Lib.hid (by rw [stated_len hF2.hl]; exact b3.ownp.rdl.len)
            have HVN1 : Hid (v5.length = m5) := Lib.hid (by simpa using b1.1.1)
            have HVN2 : Hid (v6.length = m6) := Lib.hid (by simpa using b2.1.1)
            have HVN3 : Hid (v7.length = m7) := Lib.hid (by simpa using b3.1.1)
            have HXN1 : Hid (∀ x ∈ lefts ns2 ws2, x.length ≤ 100) := Lib.hid (fun x hx => by have := (hF2.wl x hx).2; have := hF2.n4; omega)
            have HXN2 : Hid (∀ x ∈ rights ns2 ws2, x.length ≤ 100) := Lib.hid (fun x hx => by have := (hF2.wr x hx).2; have := hF2.n4; omega)
            have HXN3 : Hid (∀ x ∈ ctxs ns2 ws2, x.length ≤ 100) := Lib.hid (fun x hx => by
              obtain ⟨i, hi, rfl⟩ := List.mem_iff_getElem.1 hx
              obtain ⟨st, hst⟩ := get_some (xs := ns2.drop 3) (k := i) (by rw [hF2.hl]; exact hi)
              have h1 := stated_at hst (List.getElem?_eq_getElem hi)
              have h2 := (hF2.wc _ (List.mem_of_getElem? h1)).2
              have h3 := hF2.n4
              simp only [List.length_cons] at h2
              omega)
            have HF1 : Hid (Rises (lefts ns1 ws1) ∧ Rises (rights ns1 ws1) ∧ Rises (stated (ns1.drop 3) (ctxs ns1 ws1))) := Lib.hid ⟨hF1.rl, hF1.rr, hF1.rc⟩
            have HSZ : Hid (Le3 (lefts ns1 ws1) (rights ns1 ws1) (stated (ns1.drop 3) (ctxs ns1 ws1))) := Lib.hid ⟨by have := hF1.sl; omega, by have := hF1.sr; omega, by have := hF1.sc; omega⟩
            have HSB : Hid (Le3 (lefts ns2 ws2) (rights ns2 ws2) (stated (ns2.drop 3) (ctxs ns2 ws2))) := Lib.hid ⟨by have := hF2.sl; omega, by have := hF2.sr; omega, by have := hF2.sc; omega⟩
            have hmm : m5 ≤ 600 ∧ m6 ≤ 600 ∧ m7 ≤ 600 := by have a := HLN1.out; have b := HLN2.out; have c := HTS.out; have d := HSB.out.p1; have e := HSB.out.p2; have f := HSB.out.p3; omega
            obtain ⟨hm5, hm6, hm7'⟩ := hmm
            clear abs a1 a2 a3 a4 alo ad12 ad13 ad23 ad14 ad24 ad34 ag bbs b1 b2 b3 b4 blo bd12 bd13 bd23 bd14 bd24 bd34 bg hF1 hF2 hm8 hm7 hre4 hF0 HP4 HP5 HV1 HV2 HI1 HI2 HO
            generalize lefts ns1 ws1 = L1 at *
            generalize rights ns1 ws1 = R1 at *
            generalize stated (ns1.drop 3) (ctxs ns1 ws1) = C1 at *
            generalize lefts ns2 ws2 = L2 at *
            generalize rights ns2 ws2 = R2 at *
            generalize ctxs ns2 ws2 = C2 at *
            generalize ns2.drop 3 = T2 at *
            as_aux_lemma =>
            go_wp2_with fail
            go_loopw [10] (fun i wr => ∃ (k : Nat) (Fk : Nat → Prop), k ≤ m5 ∧ i = .int .i64 k ∧ Hid (RefE wr Fk ga N ⟨(L2.take k).foldl putL L1, R1, C1⟩) ∧ Hid (∀ q, Fk q → GJ F0 v5 k q ∨ w6.heap.size ≤ q) ∧ Hid (Ch (GJ F0 v5 k) w6 wr)) (fun i _ => m5 - (intOf i).toNat)
            case atStart => exact ⟨0, F0, Nat.zero_le _, rfl, Lib.hid (by have h := HE1.out; simpa using h), Lib.hid (fun q a => .inl (.inl a)), Lib.hid (Ch.refl _ _)⟩
            case round =>
              as_aux_lemma =>
              obtain ⟨k, Fk, hk, rfl, HRE, HFK, HCH⟩ := hrel
              have HGB : Hid (¬ GJ F0 v5 k gb) := Lib.hid (fun b => by
                rcases gj_end b with b | b
                · exact HD1.out gb (.inl rfl) b
                · exact fx_neg HX5.out HBB1.out (.inr b) rfl)
              have hbb := blk_ch HBB1.out HCH.out HGB.out
              have y1 := blk_cell hbb 1 rfl
              skip
              have HBBR := Lib.hid hbb
              clear hbb
              by_cases hlt : k < m5
              · as_aux_lemma =>
                have HLT := Lib.hid hlt
                have hlti : (k : Int) < (m5 : Int) := by omega
                have hk0 : (0 : Int) ≤ (k : Int) := by omega
                obtain ⟨z, hz⟩ := get_some (xs := L2) (k := k) (by rw [HLN1.out]; exact hlt)
                obtain ⟨u, hu⟩ := get_some (xs := v5) (k := k) (by rw [HVN1.out]; exact hlt)
                obtain ⟨A8, n8, c8, rfl, hn8, ho8, hfu8⟩ := HX5.out.2.2.1 k u z hu hz
                obtain ⟨b3, o3, e3, hl3, hc3⟩ := (own_rd HX5.out.1).at_ hu
                subst e3
                have HU := Lib.hid hu
                have HZK := Lib.hid hz
                have HFU8 : Hid (∀ q, Fo (.slice A8 n8 c8) q → ¬ GJ F0 v5 k q) := Lib.hid (fun q a b => by
                  rcases b with b | ⟨j, v, hj, hv, b⟩
                  · exact HD1.out q (.inr (.inl (.inr (hfu8 q a)))) b
                  · have := HX5.out.2.2.2 k j _ v hu hv q a b; omega)
                have HB3 : Hid (¬ GJ F0 v5 k b3) := Lib.hid (fun b => by
                  have hb : Fo (.slice (some ⟨b3, o3, none⟩) m5 d5) b3 := by simp [Fo, Value.ownBlock]
                  rcases b with b | ⟨j, v, hj, hv, b⟩
                  · exact HD1.out b3 (.inr (.inl (.inl hb))) b
                  · exact fu_types HX5.out.1 HX5.out.2 b3 ⟨v, List.mem_of_getElem? hv, b⟩ hb)
                have HGBL : Hid (gb < w6.heap.size) := Lib.hid (blk_lt HBB1.out)
                have HGBK : Hid (¬ Fk gb) := Lib.hid (fun b => by rcases HFK.out gb b with d | d; exact HGB.out d; have := HGBL.out; omega)
                have q3 := cell_chF HCH.out hl3 HB3.out hc3
                have HO8 := Lib.hid (own_ch ho8 HCH.out (fun q a b => HFU8.out q a b))
                have HL8 : Hid (∀ q, Fo (.slice A8 n8 c8) q → q < w6.heap.size) := Lib.hid (fun q a => HX5.out.lt (.inr (hfu8 q a)))
                have HD8 : Hid (∀ q, Fo (.slice A8 n8 c8) q → Fk q → False) := Lib.hid (fun q a b => by
                  rcases HFK.out q b with d | d
                  · exact HFU8.out q a d
                  · have := HL8.out q a; omega)
                have HFUS : Hid (∀ q, Fo (.slice A8 n8 c8) q → GJ F0 v5 (k + 1) q) := Lib.hid (fun q a => .inr ⟨k, _, Nat.lt_succ_self _, HU.out, a⟩)
                have HN8 : Hid (n8 ≤ 1000000) := Lib.hid (by have h1 := HO8.out.1; have h2 := HXN1.out z (List.mem_of_getElem? hz); simp only [List.length_map] at h1; omega)
                have HQ3 := Lib.hid q3
                have HB3K : Hid (¬ Fk b3) := Lib.hid (fun b => by rcases HFK.out b3 b with d | d; exact HB3.out d; omega)
                have HB3L : Hid (b3 < wr.heap.size) := Lib.hid (Nat.lt_of_lt_of_le hl3 HCH.out.size)
                have HRF : Hid (Below wr.heap.size wr wr) := Lib.hid (Below.refl _ _)
                have HRD : Hid (Below wr.heap.size wr wr.drew) := Lib.hid (below_drewN (n := 1) (Below.refl _ _))
                have HST : Hid ((L2.take (k + 1)).foldl putL L1 = putL ((L2.take k).foldl putL L1) z) := Lib.hid (fold_step hz)
                obtain ⟨P1, p1, q1, s1, P2, p2, q2, s2, P3, p3, q3x, s3, P4, q4, tk, ck, hlk, hxk⟩ := HRE.out
                have HXK := Lib.hid hxk; have HLK := Lib.hid hlk
                have HPL : Hid (p1 ≤ 1000000) := Lib.hid (by
                  have h1 := hxk.x1.ownp.rdl.len
                  have h2 : ((L2.take k).foldl putL L1).length = p1 := h1
                  have h3 := fold_len (l := L2) (k := k) HF1.out.1 HSZ.out.p1 HSB.out.p1
                  omega)
                have HRK : Hid (Rises ((L2.take k).foldl putL L1)) := Lib.hid (foldl_putL HF1.out.1).1
                have HPU : Hid (∀ wx : World, Below wr.heap.size wr wx → Calls Try.prog 76 #[.slice P1 p1 q1, .slice A8 n8 c8] wx (PutE wx Fk ga N 1 (.slice A8 n8 c8) ⟨(L2.take (k + 1)).foldl putL L1, R1, C1⟩)) := Lib.hid (fun wx hbx => by
                  have hxw := HXK.out.below hbx
                  have ho8w := ownN_below HO8.out hbx (Nat.le_refl _)
                  refine (l29Put_go wx P1 p1 q1 s1 _ hxw.x1 HPL.out HRK.out A8 n8 c8 z (own_rd ho8w) HN8.out).mono ?_
                  intro e w' hq
                  obtain ⟨A', n', c', us', rfl, hx', hc', hbk⟩ := refx_putl hxw HRK.out ho8w (by have := HN8.out; omega) HD8.out hq
                  rw [HST.out]
                  exact ⟨A', n', c', rfl, ⟨_, _, _, _, _, _, _, _, _, _, _, _, _, _, _, _, HLK.out, hx'⟩, hc', hbk⟩)
                have hbs := hxk.bs
                have a1 := blk_cell hbs 1 rfl
                have HABS := Lib.hid hbs
                clear hz hu ho8 hc3 hl3 hfu8 hlk hxk hbs hn8
                go_wp2_with fail
                have HGA : Hid (¬ gb = ga ∧ ¬ b3 = ga) := Lib.hid ⟨fun e => HGBK.out (by rw [e]; exact HXK.out.f0), fun e => HB3K.out (by rw [e]; exact HXK.out.f0)⟩
                have Y := Lib.hid y1
                have HGBW : Hid (gb < wr.heap.size) := Lib.hid (blk_lt HBBR.out)
                refine wp_region_held_drew (S := fun w' => w'.cell? ⟨gb, 1, none⟩ = some (.slice (some ⟨b3, o3, none⟩) m5 d5) ∧ w'.cell? ⟨b3, o3 + k, none⟩ = some (.slice A8 n8 c8)) (by kernel_rfl) ?_ (fun hHeld => ?_)
                · (first | exact ⟨y1, q3⟩ | exact ⟨cell_far y1 (fun e => HGA.out.1 e), cell_far q3 (fun e => HGA.out.2 e)⟩)
                refine wpAnyH_take (i := 0) (oi := _) (v := ?_) rfl (by kernel_rfl) (by kernel_rfl) (by kernel_rfl) (fun _ _ _ h => h) (Or.inl ⟨by rfl, ?_⟩) (by assumption) ?_
                rotate_left
                · intro wS hSw
                  (try dsimp only at hSw)
                  simp only [List.getElem_toArray, List.getElem_cons_succ, List.getElem_cons_zero]
                  first | (go_simp; done) | (go_simp; with_reducible rfl)
                try simp only [Act.put, List.setIfInBounds_toArray, List.set_cons_zero, List.set_cons_succ, List.getElem_toArray, List.getElem_cons_succ, List.getElem_cons_zero]
                refine wpAnyH_take (i := 1) (oi := _) (v := ?_) rfl (by kernel_rfl) (by kernel_rfl) (by kernel_rfl) (fun _ _ _ h => h) (Or.inl ⟨by rfl, ?_⟩) (by assumption) ?_
                rotate_left
                · intro wS hSw
                  (try dsimp only at hSw)
                  simp only [List.getElem_toArray, List.getElem_cons_succ, List.getElem_cons_zero]
                  first | (go_simp; done) | (go_simp; with_reducible rfl)
                try simp only [Act.put, List.setIfInBounds_toArray, List.set_cons_zero, List.set_cons_succ, List.getElem_toArray, List.getElem_cons_succ, List.getElem_cons_zero]
                refine wpAnyH_take (i := 2) (oi := _) (v := ?_) rfl (by kernel_rfl) (by kernel_rfl) (by kernel_rfl) (fun _ _ _ h => h) (Or.inl ⟨by rfl, ?_⟩) (by assumption) ?_
                rotate_left
                · intro wS hSw
                  (try dsimp only at hSw)
                  simp only [List.getElem_toArray, List.getElem_cons_succ, List.getElem_cons_zero]
                  first | (go_simp; done) | (go_simp; with_reducible rfl)
                try simp only [Act.put, List.setIfInBounds_toArray, List.set_cons_zero, List.set_cons_succ, List.getElem_toArray, List.getElem_cons_succ, List.getElem_cons_zero]
                refine wpAnyH_take (i := 3) (oi := _) (v := ?_) rfl (by kernel_rfl) (by kernel_rfl) (by kernel_rfl) (fun _ _ _ h => h) (Or.inl ⟨by rfl, ?_⟩) (by assumption) ?_
                rotate_left
                · intro wS hSw
                  (try dsimp only at hSw)
                  simp only [List.getElem_toArray, List.getElem_cons_succ, List.getElem_cons_zero]
                  first | (go_simp; done) | (go_simp; with_reducible rfl)
                try simp only [Act.put, List.setIfInBounds_toArray, List.set_cons_zero, List.set_cons_succ, List.getElem_toArray, List.getElem_cons_succ, List.getElem_cons_zero]
                refine wpAnyH_take (i := 5) (oi := _) (v := ?_) rfl (by kernel_rfl) (by kernel_rfl) (by kernel_rfl) (fun _ _ _ h => h) (Or.inl ⟨by rfl, ?_⟩) (by assumption) ?_
                rotate_left
                · intro wS hSw
                  (try dsimp only at hSw)
                  simp only [List.getElem_toArray, List.getElem_cons_succ, List.getElem_cons_zero]
                  first | (go_simp; done) | (go_simp; with_reducible rfl)
                try simp only [Act.put, List.setIfInBounds_toArray, List.set_cons_zero, List.set_cons_succ, List.getElem_toArray, List.getElem_cons_succ, List.getElem_cons_zero]
                refine wpAnyH_take (i := 6) (oi := _) (v := ?_) rfl (by kernel_rfl) (by kernel_rfl) (by kernel_rfl) (fun _ _ _ h => h) (Or.inl ⟨by rfl, ?_⟩) (by assumption) ?_
                rotate_left
                · intro wS hSw
                  (try dsimp only at hSw)
                  simp only [List.getElem_toArray, List.getElem_cons_succ, List.getElem_cons_zero]
                  first | (go_simp; done) | (go_simp; with_reducible rfl)
                try simp only [Act.put, List.setIfInBounds_toArray, List.set_cons_zero, List.set_cons_succ, List.getElem_toArray, List.getElem_cons_succ, List.getElem_cons_zero]
                refine wpAnyH_take (i := 7) (oi := _) (v := ?_) rfl (by kernel_rfl) (by kernel_rfl) (by kernel_rfl) (fun _ _ _ h => h) (Or.inl ⟨by rfl, ?_⟩) (by assumption) ?_
                rotate_left
                · intro wS hSw
                  (try dsimp only at hSw)
                  simp only [List.getElem_toArray, List.getElem_cons_succ, List.getElem_cons_zero]
                  first | (go_simp; done) | (go_simp; with_reducible rfl)
                try simp only [Act.put, List.setIfInBounds_toArray, List.set_cons_zero, List.set_cons_succ, List.getElem_toArray, List.getElem_cons_succ, List.getElem_cons_zero]
                refine wpAnyH_take (i := 8) (oi := _) (v := ?_) rfl (by kernel_rfl) (by kernel_rfl) (by kernel_rfl) (fun _ _ _ h => h) (Or.inl ⟨by rfl, ?_⟩) (by assumption) ?_
                rotate_left
                · intro wS hSw
                  (try dsimp only at hSw)
                  simp only [List.getElem_toArray, List.getElem_cons_succ, List.getElem_cons_zero]
                  first | (go_simp; done) | (go_simp; with_reducible rfl)
                try simp only [Act.put, List.setIfInBounds_toArray, List.set_cons_zero, List.set_cons_succ, List.getElem_toArray, List.getElem_cons_succ, List.getElem_cons_zero]
                refine wpAnyH_take (i := 9) (oi := _) (v := ?_) rfl (by kernel_rfl) (by kernel_rfl) (by kernel_rfl) (fun _ _ _ h => h) (Or.inl ⟨by rfl, ?_⟩) (by assumption) ?_
                rotate_left
                · intro wS hSw
                  (try dsimp only at hSw)
                  simp only [List.getElem_toArray, List.getElem_cons_succ, List.getElem_cons_zero]
                  first | (go_simp; done) | (go_simp; with_reducible rfl)
                try simp only [Act.put, List.setIfInBounds_toArray, List.set_cons_zero, List.set_cons_succ, List.getElem_toArray, List.getElem_cons_succ, List.getElem_cons_zero]
                refine wpAnyH_take (i := 10) (oi := _) (v := ?_) rfl (by kernel_rfl) (by kernel_rfl) (by kernel_rfl) (fun _ _ _ h => h) (Or.inl ⟨by rfl, ?_⟩) (by assumption) ?_
                rotate_left
                · intro wS hSw
                  (try dsimp only at hSw)
                  simp only [List.getElem_toArray, List.getElem_cons_succ, List.getElem_cons_zero]
                  first | (go_simp; done) | (go_simp; with_reducible rfl)
                try simp only [Act.put, List.setIfInBounds_toArray, List.set_cons_zero, List.set_cons_succ, List.getElem_toArray, List.getElem_cons_succ, List.getElem_cons_zero]
                refine wpAnyH_take (i := 11) (oi := _) (v := ?_) rfl (by kernel_rfl) (by kernel_rfl) (by kernel_rfl) (fun _ _ _ h => h) (Or.inl ⟨by rfl, ?_⟩) (by assumption) ?_
                rotate_left
                · intro wS hSw
                  (try dsimp only at hSw)
                  simp only [List.getElem_toArray, List.getElem_cons_succ, List.getElem_cons_zero]
                  first | (go_simp; done) | (go_simp; with_reducible rfl)
                try simp only [Act.put, List.setIfInBounds_toArray, List.set_cons_zero, List.set_cons_succ, List.getElem_toArray, List.getElem_cons_succ, List.getElem_cons_zero]
                refine wpAnyH_ready (rs := [4]) (by kernel_rfl) (by simp) ?_
                refine AllReadyH.cons (o := _) rfl (fun K hK => ?_) AllReadyH.nil
                try simp only [List.getElem_toArray, List.getElem_cons_succ, List.getElem_cons_zero]
                go_simp
                refine hK.out _ _ ?_ (fun hHeld => ?_)
                · (first | exact ⟨y1, q3⟩ | exact ⟨cell_far y1 (fun e => HGA.out.1 e), cell_far q3 (fun e => HGA.out.2 e)⟩)
                clear hK K
                try simp only [Act.put, List.setIfInBounds_toArray, List.set_cons_zero, List.set_cons_succ, List.getElem_toArray, List.getElem_cons_succ, List.getElem_cons_zero]
                refine wpAnyH_ready (rs := [12]) (by kernel_rfl) (by simp) ?_
                refine AllReadyH.cons (o := _) rfl (fun K hK => ?_) AllReadyH.nil
                try simp only [List.getElem_toArray, List.getElem_cons_succ, List.getElem_cons_zero]
                go_simp
                go_at_call 76
                with_reducible refine (HPU.out _ HRD.out).mono ?_
                rintro e w8x ⟨A', n', c', rfl, hre8, hch8, hbk8⟩
                have hbs8 : w8x.heap[ga]? = some (.cells #[.int .i64 N, .slice P1 p1 q1, .slice P2 p2 q2, .slice P3 p3 q3x, .slice P4 p3 q4] 117 (0, 0)) := hbk8.trans HABS.out
                have a1 := blk_cell hbs8 1 rfl
                have f1 := blk_free hbs8 1
                have hgb8 := (heap_oth hch8 HGBW.out HGBK.out HGA.out.1).trans HBBR.out
                have y1 := blk_cell hgb8 1 rfl
                have q3 : w8x.cell? ⟨b3, o3 + k, none⟩ = some (.slice A8 n8 c8) := (World.cell?_of_block (a := ⟨b3, o3 + k, none⟩) (heap_oth hch8 HB3L.out HB3K.out HGA.out.2)).trans HQ3.out
                have HRE8 := Lib.hid hre8
                have HCH8 := Lib.hid hch8
                clear hre8 hch8 hbk8 hbs8 hgb8
                refine hK.out _ _ ?_ (fun hHeld => ?_)
                · (first | exact ⟨y1, q3⟩ | exact ⟨cell_far y1 (fun e => HGA.out.1 e), cell_far q3 (fun e => HGA.out.2 e)⟩)
                clear hK K
                try simp only [Act.put, List.setIfInBounds_toArray, List.set_cons_zero, List.set_cons_succ, List.getElem_toArray, List.getElem_cons_succ, List.getElem_cons_zero]
                refine wpAnyH_take (i := 13) (oi := _) (v := ?_) rfl (by kernel_rfl) (by kernel_rfl) (by kernel_rfl) (fun _ _ _ h => h) (Or.inl ⟨by rfl, ?_⟩) (by assumption) ?_
                rotate_left
                · intro wS hSw
                  (try dsimp only at hSw)
                  simp only [List.getElem_toArray, List.getElem_cons_succ, List.getElem_cons_zero]
                  first | (go_simp; done) | (go_simp; with_reducible rfl)
                try simp only [Act.put, List.setIfInBounds_toArray, List.set_cons_zero, List.set_cons_succ, List.getElem_toArray, List.getElem_cons_succ, List.getElem_cons_zero]
                refine wpAnyH_take (i := 14) (oi := _) (v := ?_) rfl (by kernel_rfl) (by kernel_rfl) (by kernel_rfl) (fun _ _ _ h => h) (Or.inl ⟨by rfl, ?_⟩) (by assumption) ?_
                rotate_left
                · intro wS hSw
                  (try dsimp only at hSw)
                  simp only [List.getElem_toArray, List.getElem_cons_succ, List.getElem_cons_zero]
                  first | (go_simp; done) | (go_simp; with_reducible rfl)
                try simp only [Act.put, List.setIfInBounds_toArray, List.set_cons_zero, List.set_cons_succ, List.getElem_toArray, List.getElem_cons_succ, List.getElem_cons_zero]
                refine wpAnyH_ready (rs := [15]) (by kernel_rfl) (by simp) ?_
                refine AllReadyH.cons (o := _) rfl (fun K hK => ?_) AllReadyH.nil
                try simp only [List.getElem_toArray, List.getElem_cons_succ, List.getElem_cons_zero]
                go_simp
                refine hK.out _ _ ?_ (fun hHeld => ?_)
                · (first | exact ⟨y1, q3⟩ | exact ⟨cell_far y1 (fun e => HGA.out.1 e), cell_far q3 (fun e => HGA.out.2 e)⟩)
                clear hK K
                try simp only [Act.put, List.setIfInBounds_toArray, List.set_cons_zero, List.set_cons_succ, List.getElem_toArray, List.getElem_cons_succ, List.getElem_cons_zero]
                refine wpAnyH_done (by kernel_rfl) ?_ _
                all_goals
                  as_aux_lemma =>
                  obtain ⟨w9, hw9⟩ : ∃ w9, w9 = w8x.setCell ⟨ga, 1, none⟩ (.slice A' n' c') := ⟨_, rfl⟩
                  have hre9 := HRE8.out
                  have hch9 := HCH8.out
                  rw [← hw9] at hre9 hch9
                  (try rw [← hw9])
                  have HC8 : Hid (Ch Fk wr w9) := Lib.hid (by first | exact hch9 | exact (ch_drew (Ch.refl _ _)).trans hch9)
                  have HRE9 : Hid (RefE w9 (FN Fk (.slice A8 n8 c8) wr w9) ga N ⟨(L2.take (k + 1)).foldl putL L1, R1, C1⟩) := Lib.hid hre9
                  have HFK2 : Hid (∀ q, FN Fk (.slice A8 n8 c8) wr w9 q → GJ F0 v5 (k + 1) q ∨ w6.heap.size ≤ q) := Lib.hid (fun q a => by
                    rcases a.1 with a | a | a
                    · exact (HFK.out q a).imp gj_next id
                    · exact .inl (HFUS.out q a)
                    · exact .inr (Nat.le_trans HCH.out.size a))
                  have HCH2 : Hid (Ch (GJ F0 v5 (k + 1)) w6 w9) := Lib.hid (ch_ext (HCH.out.mono (fun q a => gj_next a)) HC8.out (fun q a => (HFK.out q a).imp gj_next id))
                  clear hw9 hre9 hch9 a1 f1 y1 q3
                  go_wp2_with fail
                  go_roundw
                  case rel => exact ⟨k + 1, _, HLT.out, by go_num, (by first | exact HRE9 | exact Lib.hid (HRE9.out.below (below_drew1 (Below.refl _ _)))), HFK2, (by first | exact HCH2 | exact Lib.hid (ch_drew HCH2.out))⟩
                  case measure => have := HLT.out; simp [intOf]; omega
              · as_aux_lemma =>
                obtain ⟨w7, rfl⟩ : ∃ v, v = wr := ⟨_, rfl⟩
                have HKE : Hid (k = m5) := Lib.hid (by omega)
                have HRA : Hid (RefE w7 Fk ga N ⟨L2.foldl putL L1, R1, C1⟩) := Lib.hid (by
                  have h1 : L2.take k = L2 := List.take_of_length_le (by have h := HLN1.out; have h2 := HKE.out; omega)
                  have h2 := HRE.out
                  rw [h1] at h2
                  exact h2)
                obtain ⟨F1, rfl⟩ : ∃ v, v = Fk := ⟨_, rfl⟩
                have HG1 : Hid (∀ q, F1 q → F0 q ∨ FU v5 q ∨ w6.heap.size ≤ q) := Lib.hid (fun q a => by
                  rcases HFK.out q a with b | b
                  · rcases gj_end b with b | b
                    · exact .inl b
                    · exact .inr (.inl b)
                  · exact .inr (.inr b))
                have HBB2 := HBBR
                have HE2 := HRA
                have HXN6 : Hid (OwnX w7 B6 m6 d6 v6 R2) := Lib.hid (HX6.out.ch HCH.out (fun q a b => by
                  rcases gj_end b with b | b
                  · exact HD1.out q (.inr (.inr (.inl a))) b
                  · exact HD56.out q (.inr b) a))
                have HXN7 : Hid (OwnX w7 B7 m7 d7 v7 C2) := Lib.hid (HX7.out.ch HCH.out (fun q a b => by
                  rcases gj_end b with b | b
                  · exact HD1.out q (.inr (.inr (.inr (.inl a)))) b
                  · exact HD57.out q (.inr b) a))
                have HR8N : Hid (w7.ownsRow 0 2 1 (.slice B8 m7 d8) m7 (ints T2)) := Lib.hid (own_ch HR8.out HCH.out (fun q a b => by
                  rcases gj_end b with b | b
                  · exact HD1.out q (.inr (.inr (.inr (.inr a)))) b
                  · exact HD58.out q (.inr b) a))
                have HSw7 : Hid (w6.heap.size ≤ w7.heap.size) := Lib.hid HCH.out.size
                have HCWw7 : Hid (Below w0.heap.size w0 w7) := Lib.hid (below_ch HBWw6.out HCH.out (fun q a => by
                  rcases gj_end a with a | a
                  · exact HLO.out q (HUP1.out q a)
                  · exact HLO.out q (.inr (.inl (.inl (.inr a))))) HBWw6.out.size)
                have HBWw7 := HCWw7
                have HUP2 : Hid (∀ q, F1 q → (F0 q ∨ (FX B5 m5 d5 v5 q ∨ FX B6 m6 d6 v6 q ∨ FX B7 m7 d7 v7 q ∨ Fo (.slice B8 m7 d8) q) ∨ w6.heap.size ≤ q)) := Lib.hid (fun q a => by
                  rcases HG1.out q a with b | b | b
                  · exact HUP1.out q b
                  · exact .inr (.inl (.inl (.inr b)))
                  · exact .inr (.inr (b)))
                have HD2 : Hid (∀ q, q = gb ∨ FX B6 m6 d6 v6 q ∨ FX B7 m7 d7 v7 q ∨ Fo (.slice B8 m7 d8) q → ¬ F1 q) := Lib.hid (fun q a b => by
                  have hq : q < w6.heap.size := by
                    rcases a with a | a | a | a
                    · rw [a]; exact blk_lt HBB1.out
                    · exact HX6.out.lt a
                    · exact HX7.out.lt a
                    · exact (HR8.out.lt q a).2
                  rcases HG1.out q b with c | c | c
                  · exact HD1.out q (by rcases a with a | a | a | a; exact .inl a; exact .inr (.inr (.inl a)); exact .inr (.inr (.inr (.inl a))); exact .inr (.inr (.inr (.inr a)))) c
                  · rcases a with a | a | a | a
                    · exact fx_neg HX5.out HBB1.out (.inr c) a
                    · exact HD56.out q (.inr c) a
                    · exact HD57.out q (.inr c) a
                    · exact HD58.out q (.inr c) a
                  · omega)
                replace HX6 := HXN6
                replace HX7 := HXN7
                replace HR8 := HR8N
                go_wp2_with fail
                clear HXN6 HXN7 HR8N HRE HFK HCH HRA HGB y1 HBBR HKE
                as_aux_lemma =>
                go_wp2_with fail
                go_loopw [11] (fun i wr => ∃ (k : Nat) (Fk : Nat → Prop), k ≤ m6 ∧ i = .int .i64 k ∧ Hid (RefE wr Fk ga N ⟨L2.foldl putL L1, (R2.take k).foldl putL R1, C1⟩) ∧ Hid (∀ q, Fk q → GJ F1 v6 k q ∨ w7.heap.size ≤ q) ∧ Hid (Ch (GJ F1 v6 k) w7 wr)) (fun i _ => m6 - (intOf i).toNat)
                case atStart => exact ⟨0, F1, Nat.zero_le _, rfl, Lib.hid (by have h := HE2.out; simpa using h), Lib.hid (fun q a => .inl (.inl a)), Lib.hid (Ch.refl _ _)⟩
                case round =>
                  as_aux_lemma =>
                  obtain ⟨k, Fk, hk, rfl, HRE, HFK, HCH⟩ := hrel
                  have HGB : Hid (¬ GJ F1 v6 k gb) := Lib.hid (fun b => by
                    rcases gj_end b with b | b
                    · exact HD2.out gb (.inl rfl) b
                    · exact fx_neg HX6.out HBB2.out (.inr b) rfl)
                  have hbb := blk_ch HBB2.out HCH.out HGB.out
                  have y2 := blk_cell hbb 2 rfl
                  skip
                  have HBBR := Lib.hid hbb
                  clear hbb
                  by_cases hlt : k < m6
                  · as_aux_lemma =>
                    have HLT := Lib.hid hlt
                    have hlti : (k : Int) < (m6 : Int) := by omega
                    have hk0 : (0 : Int) ≤ (k : Int) := by omega
                    obtain ⟨z, hz⟩ := get_some (xs := R2) (k := k) (by rw [HLN2.out]; exact hlt)
                    obtain ⟨u, hu⟩ := get_some (xs := v6) (k := k) (by rw [HVN2.out]; exact hlt)
                    obtain ⟨A8, n8, c8, rfl, hn8, ho8, hfu8⟩ := HX6.out.2.2.1 k u z hu hz
                    obtain ⟨b3, o3, e3, hl3, hc3⟩ := (own_rd HX6.out.1).at_ hu
                    subst e3
                    have HU := Lib.hid hu
                    have HZK := Lib.hid hz
                    have HFU8 : Hid (∀ q, Fo (.slice A8 n8 c8) q → ¬ GJ F1 v6 k q) := Lib.hid (fun q a b => by
                      rcases b with b | ⟨j, v, hj, hv, b⟩
                      · exact HD2.out q (.inr (.inl (.inr (hfu8 q a)))) b
                      · have := HX6.out.2.2.2 k j _ v hu hv q a b; omega)
                    have HB3 : Hid (¬ GJ F1 v6 k b3) := Lib.hid (fun b => by
                      have hb : Fo (.slice (some ⟨b3, o3, none⟩) m6 d6) b3 := by simp [Fo, Value.ownBlock]
                      rcases b with b | ⟨j, v, hj, hv, b⟩
                      · exact HD2.out b3 (.inr (.inl (.inl hb))) b
                      · exact fu_types HX6.out.1 HX6.out.2 b3 ⟨v, List.mem_of_getElem? hv, b⟩ hb)
                    have HGBL : Hid (gb < w7.heap.size) := Lib.hid (blk_lt HBB2.out)
                    have HGBK : Hid (¬ Fk gb) := Lib.hid (fun b => by rcases HFK.out gb b with d | d; exact HGB.out d; have := HGBL.out; omega)
                    have q3 := cell_chF HCH.out hl3 HB3.out hc3
                    have HO8 := Lib.hid (own_ch ho8 HCH.out (fun q a b => HFU8.out q a b))
                    have HL8 : Hid (∀ q, Fo (.slice A8 n8 c8) q → q < w7.heap.size) := Lib.hid (fun q a => HX6.out.lt (.inr (hfu8 q a)))
                    have HD8 : Hid (∀ q, Fo (.slice A8 n8 c8) q → Fk q → False) := Lib.hid (fun q a b => by
                      rcases HFK.out q b with d | d
                      · exact HFU8.out q a d
                      · have := HL8.out q a; omega)
                    have HFUS : Hid (∀ q, Fo (.slice A8 n8 c8) q → GJ F1 v6 (k + 1) q) := Lib.hid (fun q a => .inr ⟨k, _, Nat.lt_succ_self _, HU.out, a⟩)
                    have HN8 : Hid (n8 ≤ 1000000) := Lib.hid (by have h1 := HO8.out.1; have h2 := HXN2.out z (List.mem_of_getElem? hz); simp only [List.length_map] at h1; omega)
                    have HQ3 := Lib.hid q3
                    have HB3K : Hid (¬ Fk b3) := Lib.hid (fun b => by rcases HFK.out b3 b with d | d; exact HB3.out d; omega)
                    have HB3L : Hid (b3 < wr.heap.size) := Lib.hid (Nat.lt_of_lt_of_le hl3 HCH.out.size)
                    have HRF : Hid (Below wr.heap.size wr wr) := Lib.hid (Below.refl _ _)
                    have HRD : Hid (Below wr.heap.size wr wr.drew) := Lib.hid (below_drewN (n := 1) (Below.refl _ _))
                    have HST : Hid ((R2.take (k + 1)).foldl putL R1 = putL ((R2.take k).foldl putL R1) z) := Lib.hid (fold_step hz)
                    obtain ⟨P1, p1, q1, s1, P2, p2, q2, s2, P3, p3, q3x, s3, P4, q4, tk, ck, hlk, hxk⟩ := HRE.out
                    have HXK := Lib.hid hxk; have HLK := Lib.hid hlk
                    have HPL : Hid (p2 ≤ 1000000) := Lib.hid (by
                      have h1 := hxk.x2.ownp.rdl.len
                      have h2 : ((R2.take k).foldl putL R1).length = p2 := h1
                      have h3 := fold_len (l := R2) (k := k) HF1.out.2.1 HSZ.out.p2 HSB.out.p2
                      omega)
                    have HRK : Hid (Rises ((R2.take k).foldl putL R1)) := Lib.hid (foldl_putL HF1.out.2.1).1
                    have HPU : Hid (∀ wx : World, Below wr.heap.size wr wx → Calls Try.prog 76 #[.slice P2 p2 q2, .slice A8 n8 c8] wx (PutE wx Fk ga N 2 (.slice A8 n8 c8) ⟨L2.foldl putL L1, (R2.take (k + 1)).foldl putL R1, C1⟩)) := Lib.hid (fun wx hbx => by
                      have hxw := HXK.out.below hbx
                      have ho8w := ownN_below HO8.out hbx (Nat.le_refl _)
                      refine (l29Put_go wx P2 p2 q2 s2 _ hxw.x2 HPL.out HRK.out A8 n8 c8 z (own_rd ho8w) HN8.out).mono ?_
                      intro e w' hq
                      obtain ⟨A', n', c', us', rfl, hx', hc', hbk⟩ := refx_putr hxw HRK.out ho8w (by have := HN8.out; omega) HD8.out hq
                      rw [HST.out]
                      exact ⟨A', n', c', rfl, ⟨_, _, _, _, _, _, _, _, _, _, _, _, _, _, _, _, HLK.out, hx'⟩, hc', hbk⟩)
                    have hbs := hxk.bs
                    have a2 := blk_cell hbs 2 rfl
                    have HABS := Lib.hid hbs
                    clear hz hu ho8 hc3 hl3 hfu8 hlk hxk hbs hn8
                    go_wp2_with fail
                    have HGA : Hid (¬ gb = ga ∧ ¬ b3 = ga) := Lib.hid ⟨fun e => HGBK.out (by rw [e]; exact HXK.out.f0), fun e => HB3K.out (by rw [e]; exact HXK.out.f0)⟩
                    have Y := Lib.hid y2
                    have HGBW : Hid (gb < wr.heap.size) := Lib.hid (blk_lt HBBR.out)
                    refine wp_region_held_drew (S := fun w' => w'.cell? ⟨gb, 2, none⟩ = some (.slice (some ⟨b3, o3, none⟩) m6 d6) ∧ w'.cell? ⟨b3, o3 + k, none⟩ = some (.slice A8 n8 c8)) (by kernel_rfl) ?_ (fun hHeld => ?_)
                    · (first | exact ⟨y2, q3⟩ | exact ⟨cell_far y2 (fun e => HGA.out.1 e), cell_far q3 (fun e => HGA.out.2 e)⟩)
                    refine wpAnyH_take (i := 0) (oi := _) (v := ?_) rfl (by kernel_rfl) (by kernel_rfl) (by kernel_rfl) (fun _ _ _ h => h) (Or.inl ⟨by rfl, ?_⟩) (by assumption) ?_
                    rotate_left
                    · intro wS hSw
                      (try dsimp only at hSw)
                      simp only [List.getElem_toArray, List.getElem_cons_succ, List.getElem_cons_zero]
                      first | (go_simp; done) | (go_simp; with_reducible rfl)
                    try simp only [Act.put, List.setIfInBounds_toArray, List.set_cons_zero, List.set_cons_succ, List.getElem_toArray, List.getElem_cons_succ, List.getElem_cons_zero]
                    refine wpAnyH_take (i := 1) (oi := _) (v := ?_) rfl (by kernel_rfl) (by kernel_rfl) (by kernel_rfl) (fun _ _ _ h => h) (Or.inl ⟨by rfl, ?_⟩) (by assumption) ?_
                    rotate_left
                    · intro wS hSw
                      (try dsimp only at hSw)
                      simp only [List.getElem_toArray, List.getElem_cons_succ, List.getElem_cons_zero]
                      first | (go_simp; done) | (go_simp; with_reducible rfl)
                    try simp only [Act.put, List.setIfInBounds_toArray, List.set_cons_zero, List.set_cons_succ, List.getElem_toArray, List.getElem_cons_succ, List.getElem_cons_zero]
                    refine wpAnyH_take (i := 2) (oi := _) (v := ?_) rfl (by kernel_rfl) (by kernel_rfl) (by kernel_rfl) (fun _ _ _ h => h) (Or.inl ⟨by rfl, ?_⟩) (by assumption) ?_
                    rotate_left
                    · intro wS hSw
                      (try dsimp only at hSw)
                      simp only [List.getElem_toArray, List.getElem_cons_succ, List.getElem_cons_zero]
                      first | (go_simp; done) | (go_simp; with_reducible rfl)
                    try simp only [Act.put, List.setIfInBounds_toArray, List.set_cons_zero, List.set_cons_succ, List.getElem_toArray, List.getElem_cons_succ, List.getElem_cons_zero]
                    refine wpAnyH_take (i := 3) (oi := _) (v := ?_) rfl (by kernel_rfl) (by kernel_rfl) (by kernel_rfl) (fun _ _ _ h => h) (Or.inl ⟨by rfl, ?_⟩) (by assumption) ?_
                    rotate_left
                    · intro wS hSw
                      (try dsimp only at hSw)
                      simp only [List.getElem_toArray, List.getElem_cons_succ, List.getElem_cons_zero]
                      first | (go_simp; done) | (go_simp; with_reducible rfl)
                    try simp only [Act.put, List.setIfInBounds_toArray, List.set_cons_zero, List.set_cons_succ, List.getElem_toArray, List.getElem_cons_succ, List.getElem_cons_zero]
                    refine wpAnyH_take (i := 5) (oi := _) (v := ?_) rfl (by kernel_rfl) (by kernel_rfl) (by kernel_rfl) (fun _ _ _ h => h) (Or.inl ⟨by rfl, ?_⟩) (by assumption) ?_
                    rotate_left
                    · intro wS hSw
                      (try dsimp only at hSw)
                      simp only [List.getElem_toArray, List.getElem_cons_succ, List.getElem_cons_zero]
                      first | (go_simp; done) | (go_simp; with_reducible rfl)
                    try simp only [Act.put, List.setIfInBounds_toArray, List.set_cons_zero, List.set_cons_succ, List.getElem_toArray, List.getElem_cons_succ, List.getElem_cons_zero]
                    refine wpAnyH_take (i := 6) (oi := _) (v := ?_) rfl (by kernel_rfl) (by kernel_rfl) (by kernel_rfl) (fun _ _ _ h => h) (Or.inl ⟨by rfl, ?_⟩) (by assumption) ?_
                    rotate_left
                    · intro wS hSw
                      (try dsimp only at hSw)
                      simp only [List.getElem_toArray, List.getElem_cons_succ, List.getElem_cons_zero]
                      first | (go_simp; done) | (go_simp; with_reducible rfl)
                    try simp only [Act.put, List.setIfInBounds_toArray, List.set_cons_zero, List.set_cons_succ, List.getElem_toArray, List.getElem_cons_succ, List.getElem_cons_zero]
                    refine wpAnyH_take (i := 7) (oi := _) (v := ?_) rfl (by kernel_rfl) (by kernel_rfl) (by kernel_rfl) (fun _ _ _ h => h) (Or.inl ⟨by rfl, ?_⟩) (by assumption) ?_
                    rotate_left
                    · intro wS hSw
                      (try dsimp only at hSw)
                      simp only [List.getElem_toArray, List.getElem_cons_succ, List.getElem_cons_zero]
                      first | (go_simp; done) | (go_simp; with_reducible rfl)
                    try simp only [Act.put, List.setIfInBounds_toArray, List.set_cons_zero, List.set_cons_succ, List.getElem_toArray, List.getElem_cons_succ, List.getElem_cons_zero]
                    refine wpAnyH_take (i := 8) (oi := _) (v := ?_) rfl (by kernel_rfl) (by kernel_rfl) (by kernel_rfl) (fun _ _ _ h => h) (Or.inl ⟨by rfl, ?_⟩) (by assumption) ?_
                    rotate_left
                    · intro wS hSw
                      (try dsimp only at hSw)
                      simp only [List.getElem_toArray, List.getElem_cons_succ, List.getElem_cons_zero]
                      first | (go_simp; done) | (go_simp; with_reducible rfl)
                    try simp only [Act.put, List.setIfInBounds_toArray, List.set_cons_zero, List.set_cons_succ, List.getElem_toArray, List.getElem_cons_succ, List.getElem_cons_zero]
                    refine wpAnyH_take (i := 9) (oi := _) (v := ?_) rfl (by kernel_rfl) (by kernel_rfl) (by kernel_rfl) (fun _ _ _ h => h) (Or.inl ⟨by rfl, ?_⟩) (by assumption) ?_
                    rotate_left
                    · intro wS hSw
                      (try dsimp only at hSw)
                      simp only [List.getElem_toArray, List.getElem_cons_succ, List.getElem_cons_zero]
                      first | (go_simp; done) | (go_simp; with_reducible rfl)
                    try simp only [Act.put, List.setIfInBounds_toArray, List.set_cons_zero, List.set_cons_succ, List.getElem_toArray, List.getElem_cons_succ, List.getElem_cons_zero]
                    refine wpAnyH_take (i := 10) (oi := _) (v := ?_) rfl (by kernel_rfl) (by kernel_rfl) (by kernel_rfl) (fun _ _ _ h => h) (Or.inl ⟨by rfl, ?_⟩) (by assumption) ?_
                    rotate_left
                    · intro wS hSw
                      (try dsimp only at hSw)
                      simp only [List.getElem_toArray, List.getElem_cons_succ, List.getElem_cons_zero]
                      first | (go_simp; done) | (go_simp; with_reducible rfl)
                    try simp only [Act.put, List.setIfInBounds_toArray, List.set_cons_zero, List.set_cons_succ, List.getElem_toArray, List.getElem_cons_succ, List.getElem_cons_zero]
                    refine wpAnyH_take (i := 11) (oi := _) (v := ?_) rfl (by kernel_rfl) (by kernel_rfl) (by kernel_rfl) (fun _ _ _ h => h) (Or.inl ⟨by rfl, ?_⟩) (by assumption) ?_
                    rotate_left
                    · intro wS hSw
                      (try dsimp only at hSw)
                      simp only [List.getElem_toArray, List.getElem_cons_succ, List.getElem_cons_zero]
                      first | (go_simp; done) | (go_simp; with_reducible rfl)
                    try simp only [Act.put, List.setIfInBounds_toArray, List.set_cons_zero, List.set_cons_succ, List.getElem_toArray, List.getElem_cons_succ, List.getElem_cons_zero]
                    refine wpAnyH_ready (rs := [4]) (by kernel_rfl) (by simp) ?_
                    refine AllReadyH.cons (o := _) rfl (fun K hK => ?_) AllReadyH.nil
                    try simp only [List.getElem_toArray, List.getElem_cons_succ, List.getElem_cons_zero]
                    go_simp
                    refine hK.out _ _ ?_ (fun hHeld => ?_)
                    · (first | exact ⟨y2, q3⟩ | exact ⟨cell_far y2 (fun e => HGA.out.1 e), cell_far q3 (fun e => HGA.out.2 e)⟩)
                    clear hK K
                    try simp only [Act.put, List.setIfInBounds_toArray, List.set_cons_zero, List.set_cons_succ, List.getElem_toArray, List.getElem_cons_succ, List.getElem_cons_zero]
                    refine wpAnyH_ready (rs := [12]) (by kernel_rfl) (by simp) ?_
                    refine AllReadyH.cons (o := _) rfl (fun K hK => ?_) AllReadyH.nil
                    try simp only [List.getElem_toArray, List.getElem_cons_succ, List.getElem_cons_zero]
                    go_simp
                    go_at_call 76
                    with_reducible refine (HPU.out _ HRD.out).mono ?_
                    rintro e w8x ⟨A', n', c', rfl, hre8, hch8, hbk8⟩
                    have hbs8 : w8x.heap[ga]? = some (.cells #[.int .i64 N, .slice P1 p1 q1, .slice P2 p2 q2, .slice P3 p3 q3x, .slice P4 p3 q4] 117 (0, 0)) := hbk8.trans HABS.out
                    have a2 := blk_cell hbs8 2 rfl
                    have f2 := blk_free hbs8 2
                    have hgb8 := (heap_oth hch8 HGBW.out HGBK.out HGA.out.1).trans HBBR.out
                    have y2 := blk_cell hgb8 2 rfl
                    have q3 : w8x.cell? ⟨b3, o3 + k, none⟩ = some (.slice A8 n8 c8) := (World.cell?_of_block (a := ⟨b3, o3 + k, none⟩) (heap_oth hch8 HB3L.out HB3K.out HGA.out.2)).trans HQ3.out
                    have HRE8 := Lib.hid hre8
                    have HCH8 := Lib.hid hch8
                    clear hre8 hch8 hbk8 hbs8 hgb8
                    refine hK.out _ _ ?_ (fun hHeld => ?_)
                    · (first | exact ⟨y2, q3⟩ | exact ⟨cell_far y2 (fun e => HGA.out.1 e), cell_far q3 (fun e => HGA.out.2 e)⟩)
                    clear hK K
                    try simp only [Act.put, List.setIfInBounds_toArray, List.set_cons_zero, List.set_cons_succ, List.getElem_toArray, List.getElem_cons_succ, List.getElem_cons_zero]
                    refine wpAnyH_take (i := 13) (oi := _) (v := ?_) rfl (by kernel_rfl) (by kernel_rfl) (by kernel_rfl) (fun _ _ _ h => h) (Or.inl ⟨by rfl, ?_⟩) (by assumption) ?_
                    rotate_left
                    · intro wS hSw
                      (try dsimp only at hSw)
                      simp only [List.getElem_toArray, List.getElem_cons_succ, List.getElem_cons_zero]
                      first | (go_simp; done) | (go_simp; with_reducible rfl)
                    try simp only [Act.put, List.setIfInBounds_toArray, List.set_cons_zero, List.set_cons_succ, List.getElem_toArray, List.getElem_cons_succ, List.getElem_cons_zero]
                    refine wpAnyH_take (i := 14) (oi := _) (v := ?_) rfl (by kernel_rfl) (by kernel_rfl) (by kernel_rfl) (fun _ _ _ h => h) (Or.inl ⟨by rfl, ?_⟩) (by assumption) ?_
                    rotate_left
                    · intro wS hSw
                      (try dsimp only at hSw)
                      simp only [List.getElem_toArray, List.getElem_cons_succ, List.getElem_cons_zero]
                      first | (go_simp; done) | (go_simp; with_reducible rfl)
                    try simp only [Act.put, List.setIfInBounds_toArray, List.set_cons_zero, List.set_cons_succ, List.getElem_toArray, List.getElem_cons_succ, List.getElem_cons_zero]
                    refine wpAnyH_ready (rs := [15]) (by kernel_rfl) (by simp) ?_
                    refine AllReadyH.cons (o := _) rfl (fun K hK => ?_) AllReadyH.nil
                    try simp only [List.getElem_toArray, List.getElem_cons_succ, List.getElem_cons_zero]
                    go_simp
                    refine hK.out _ _ ?_ (fun hHeld => ?_)
                    · (first | exact ⟨y2, q3⟩ | exact ⟨cell_far y2 (fun e => HGA.out.1 e), cell_far q3 (fun e => HGA.out.2 e)⟩)
                    clear hK K
                    try simp only [Act.put, List.setIfInBounds_toArray, List.set_cons_zero, List.set_cons_succ, List.getElem_toArray, List.getElem_cons_succ, List.getElem_cons_zero]
                    refine wpAnyH_done (by kernel_rfl) ?_ _
                    all_goals
                      as_aux_lemma =>
                      obtain ⟨w9, hw9⟩ : ∃ w9, w9 = w8x.setCell ⟨ga, 2, none⟩ (.slice A' n' c') := ⟨_, rfl⟩
                      have hre9 := HRE8.out
                      have hch9 := HCH8.out
                      rw [← hw9] at hre9 hch9
                      (try rw [← hw9])
                      have HC8 : Hid (Ch Fk wr w9) := Lib.hid (by first | exact hch9 | exact (ch_drew (Ch.refl _ _)).trans hch9)
                      have HRE9 : Hid (RefE w9 (FN Fk (.slice A8 n8 c8) wr w9) ga N ⟨L2.foldl putL L1, (R2.take (k + 1)).foldl putL R1, C1⟩) := Lib.hid hre9
                      have HFK2 : Hid (∀ q, FN Fk (.slice A8 n8 c8) wr w9 q → GJ F1 v6 (k + 1) q ∨ w7.heap.size ≤ q) := Lib.hid (fun q a => by
                        rcases a.1 with a | a | a
                        · exact (HFK.out q a).imp gj_next id
                        · exact .inl (HFUS.out q a)
                        · exact .inr (Nat.le_trans HCH.out.size a))
                      have HCH2 : Hid (Ch (GJ F1 v6 (k + 1)) w7 w9) := Lib.hid (ch_ext (HCH.out.mono (fun q a => gj_next a)) HC8.out (fun q a => (HFK.out q a).imp gj_next id))
                      clear hw9 hre9 hch9 a2 f2 y2 q3
                      go_wp2_with fail
                      go_roundw
                      case rel => exact ⟨k + 1, _, HLT.out, by go_num, (by first | exact HRE9 | exact Lib.hid (HRE9.out.below (below_drew1 (Below.refl _ _)))), HFK2, (by first | exact HCH2 | exact Lib.hid (ch_drew HCH2.out))⟩
                      case measure => have := HLT.out; simp [intOf]; omega
                  · as_aux_lemma =>
                    obtain ⟨w8, rfl⟩ : ∃ v, v = wr := ⟨_, rfl⟩
                    have HKE : Hid (k = m6) := Lib.hid (by omega)
                    have HRA : Hid (RefE w8 Fk ga N ⟨L2.foldl putL L1, R2.foldl putL R1, C1⟩) := Lib.hid (by
                      have h1 : R2.take k = R2 := List.take_of_length_le (by have h := HLN2.out; have h2 := HKE.out; omega)
                      have h2 := HRE.out
                      rw [h1] at h2
                      exact h2)
                    obtain ⟨F2, rfl⟩ : ∃ v, v = Fk := ⟨_, rfl⟩
                    have HG2 : Hid (∀ q, F2 q → F1 q ∨ FU v6 q ∨ w7.heap.size ≤ q) := Lib.hid (fun q a => by
                      rcases HFK.out q a with b | b
                      · rcases gj_end b with b | b
                        · exact .inl b
                        · exact .inr (.inl b)
                      · exact .inr (.inr b))
                    have HBB3 := HBBR
                    have HE3 := HRA
                    have HXN7 : Hid (OwnX w8 B7 m7 d7 v7 C2) := Lib.hid (HX7.out.ch HCH.out (fun q a b => by
                      rcases gj_end b with b | b
                      · exact HD2.out q (.inr (.inr (.inl a))) b
                      · exact HD67.out q (.inr b) a))
                    have HR8N : Hid (w8.ownsRow 0 2 1 (.slice B8 m7 d8) m7 (ints T2)) := Lib.hid (own_ch HR8.out HCH.out (fun q a b => by
                      rcases gj_end b with b | b
                      · exact HD2.out q (.inr (.inr (.inr a))) b
                      · exact HD68.out q (.inr b) a))
                    have HSw8 : Hid (w7.heap.size ≤ w8.heap.size) := Lib.hid HCH.out.size
                    have HCWw8 : Hid (Below w0.heap.size w0 w8) := Lib.hid (below_ch HBWw7.out HCH.out (fun q a => by
                      rcases gj_end a with a | a
                      · exact HLO.out q (HUP2.out q a)
                      · exact HLO.out q (.inr (.inl (.inr (.inl (.inr a)))))) HBWw7.out.size)
                    have HBWw8 := HCWw8
                    have HUP3 : Hid (∀ q, F2 q → (F0 q ∨ (FX B5 m5 d5 v5 q ∨ FX B6 m6 d6 v6 q ∨ FX B7 m7 d7 v7 q ∨ Fo (.slice B8 m7 d8) q) ∨ w6.heap.size ≤ q)) := Lib.hid (fun q a => by
                      rcases HG2.out q a with b | b | b
                      · exact HUP2.out q b
                      · exact .inr (.inl (.inr (.inl (.inr b))))
                      · exact .inr (.inr (Nat.le_trans HSw7.out b)))
                    have HD3 : Hid (∀ q, q = gb ∨ FX B7 m7 d7 v7 q ∨ Fo (.slice B8 m7 d8) q → ¬ F2 q) := Lib.hid (fun q a b => by
                      have hq : q < w7.heap.size := by
                        rcases a with a | a | a
                        · rw [a]; exact blk_lt HBB2.out
                        · exact HX7.out.lt a
                        · exact (HR8.out.lt q a).2
                      rcases HG2.out q b with c | c | c
                      · exact HD2.out q (by rcases a with a | a | a; exact .inl a; exact .inr (.inr (.inl a)); exact .inr (.inr (.inr a))) c
                      · rcases a with a | a | a
                        · exact fx_neg HX6.out HBB2.out (.inr c) a
                        · exact HD67.out q (.inr c) a
                        · exact HD68.out q (.inr c) a
                      · omega)
                    replace HX7 := HXN7
                    replace HR8 := HR8N
                    go_wp2_with fail
                    clear HXN7 HR8N HRE HFK HCH HRA HGB y2 HBBR HKE
                    as_aux_lemma =>
                    go_wp2_with fail
                    go_loopw [12] (fun i wr => ∃ (k : Nat) (Fk : Nat → Prop), k ≤ m7 ∧ i = .int .i64 k ∧ Hid (RefE wr Fk ga N ⟨L2.foldl putL L1, R2.foldl putL R1, ((stated T2 C2).take k).foldl putL C1⟩) ∧ Hid (∀ q, Fk q → GJ F2 v7 k q ∨ w8.heap.size ≤ q) ∧ Hid (Ch (GJ F2 v7 k) w8 wr)) (fun i _ => m7 - (intOf i).toNat)
                    case atStart => exact ⟨0, F2, Nat.zero_le _, rfl, Lib.hid (by have h := HE3.out; simpa using h), Lib.hid (fun q a => .inl (.inl a)), Lib.hid (Ch.refl _ _)⟩
                    case round =>
                      as_aux_lemma =>
                      obtain ⟨k, Fk, hk, rfl, HRE, HFK, HCH⟩ := hrel
                      have HGB : Hid (¬ GJ F2 v7 k gb) := Lib.hid (fun b => by
                        rcases gj_end b with b | b
                        · exact HD3.out gb (.inl rfl) b
                        · exact fx_neg HX7.out HBB3.out (.inr b) rfl)
                      have hbb := blk_ch HBB3.out HCH.out HGB.out
                      have y3 := blk_cell hbb 3 rfl
                      have y4 := blk_cell hbb 4 rfl
                      have HBBR := Lib.hid hbb
                      clear hbb
                      by_cases hlt : k < m7
                      · as_aux_lemma =>
                        have HLT := Lib.hid hlt
                        have hlti : (k : Int) < (m7 : Int) := by omega
                        have hk0 : (0 : Int) ≤ (k : Int) := by omega
                        obtain ⟨z, hz⟩ := get_some (xs := C2) (k := k) (by rw [HLN3.out]; exact hlt)
                        obtain ⟨u, hu⟩ := get_some (xs := v7) (k := k) (by rw [HVN3.out]; exact hlt)
                        obtain ⟨A8, n8, c8, rfl, hn8, ho8, hfu8⟩ := HX7.out.2.2.1 k u z hu hz
                        obtain ⟨b3, o3, e3, hl3, hc3⟩ := (own_rd HX7.out.1).at_ hu
                        subst e3
                        have HU := Lib.hid hu
                        have HZK := Lib.hid hz
                        have HFU8 : Hid (∀ q, Fo (.slice A8 n8 c8) q → ¬ GJ F2 v7 k q) := Lib.hid (fun q a b => by
                          rcases b with b | ⟨j, v, hj, hv, b⟩
                          · exact HD3.out q (.inr (.inl (.inr (hfu8 q a)))) b
                          · have := HX7.out.2.2.2 k j _ v hu hv q a b; omega)
                        have HB3 : Hid (¬ GJ F2 v7 k b3) := Lib.hid (fun b => by
                          have hb : Fo (.slice (some ⟨b3, o3, none⟩) m7 d7) b3 := by simp [Fo, Value.ownBlock]
                          rcases b with b | ⟨j, v, hj, hv, b⟩
                          · exact HD3.out b3 (.inr (.inl (.inl hb))) b
                          · exact fu_types HX7.out.1 HX7.out.2 b3 ⟨v, List.mem_of_getElem? hv, b⟩ hb)
                        have HGBL : Hid (gb < w8.heap.size) := Lib.hid (blk_lt HBB3.out)
                        have HGBK : Hid (¬ Fk gb) := Lib.hid (fun b => by rcases HFK.out gb b with d | d; exact HGB.out d; have := HGBL.out; omega)
                        have q3 := cell_chF HCH.out hl3 HB3.out hc3
                        have HO8 := Lib.hid (own_ch ho8 HCH.out (fun q a b => HFU8.out q a b))
                        have HL8 : Hid (∀ q, Fo (.slice A8 n8 c8) q → q < w8.heap.size) := Lib.hid (fun q a => HX7.out.lt (.inr (hfu8 q a)))
                        have HD8 : Hid (∀ q, Fo (.slice A8 n8 c8) q → Fk q → False) := Lib.hid (fun q a b => by
                          rcases HFK.out q b with d | d
                          · exact HFU8.out q a d
                          · have := HL8.out q a; omega)
                        have HFUS : Hid (∀ q, Fo (.slice A8 n8 c8) q → GJ F2 v7 (k + 1) q) := Lib.hid (fun q a => .inr ⟨k, _, Nat.lt_succ_self _, HU.out, a⟩)
                        have HN8 : Hid (n8 ≤ 1000000) := Lib.hid (by have h1 := HO8.out.1; have h2 := HXN3.out z (List.mem_of_getElem? hz); simp only [List.length_map] at h1; omega)
                        have HQ3 := Lib.hid q3
                        have HB3K : Hid (¬ Fk b3) := Lib.hid (fun b => by rcases HFK.out b3 b with d | d; exact HB3.out d; omega)
                        have HB3L : Hid (b3 < wr.heap.size) := Lib.hid (Nat.lt_of_lt_of_le hl3 HCH.out.size)
                        have HRF : Hid (Below wr.heap.size wr wr) := Lib.hid (Below.refl _ _)
                        have HRD : Hid (Below wr.heap.size wr wr.drew) := Lib.hid (below_drewN (n := 1) (Below.refl _ _))
                        obtain ⟨st, hst⟩ := get_some (xs := T2) (k := k) (by rw [HTL.out, HLN3.out]; exact hlt)
                        obtain ⟨b6, o6, e6, hl6, hc6⟩ := (own_rd HR8.out).at_ (ints_get hst)
                        subst e6
                        have HB6 : Hid (¬ GJ F2 v7 k b6) := Lib.hid (fun b => by
                          have hb : Fo (.slice (some ⟨b6, o6, none⟩) m7 d8) b6 := by simp [Fo, Value.ownBlock]
                          rcases gj_end b with b | b
                          · exact HD3.out b6 (.inr (.inr hb)) b
                          · exact HD78.out b6 (.inr b) hb)
                        have HB6K : Hid (¬ Fk b6) := Lib.hid (fun b => by rcases HFK.out b6 b with d | d; exact HB6.out d; omega)
                        have HB6L : Hid (b6 < wr.heap.size) := Lib.hid (Nat.lt_of_lt_of_le hl6 HCH.out.size)
                        have q6 := cell_chF HCH.out hl6 HB6.out hc6
                        have HQ6 := Lib.hid q6
                        have HST : Hid (((stated T2 C2).take (k + 1)).foldl putL C1 = putL (((stated T2 C2).take k).foldl putL C1) (st :: z)) := Lib.hid (fold_step (stated_at hst hz))
                        obtain ⟨P1, p1, q1, s1, P2, p2, q2, s2, P3, p3, q3x, s3, P4, q4, tk, ck, hlk, hxk⟩ := HRE.out
                        have HXK := Lib.hid hxk; have HLK := Lib.hid hlk
                        have HPL : Hid (p3 ≤ 1000000) := Lib.hid (by
                          have h1 := congrArg List.length hxk.st
                          have h3 := fold_len (l := stated T2 C2) (k := k) HF1.out.2.2 HSZ.out.p3 HSB.out.p3
                          have h2 := hxk.x3.ownp.rdl.len
                          unfold stated at h1
                          simp only [List.length_zipWith] at h1
                          unfold stated at h3
                          omega)
                        have HRK : Hid (Rises (((stated T2 C2).take k).foldl putL C1)) := Lib.hid (foldl_putL HF1.out.2.2).1
                        obtain ⟨ba, hba⟩ : ∃ ba, ba = !decide ((st :: z) ∈ ((stated T2 C2).take k).foldl putL C1) := ⟨_, rfl⟩
                        have HBA := Lib.hid hba
                        have HPU : Hid (∀ wx : World, Below wr.heap.size wr wx → Calls Try.prog 77 #[.pointer (some ⟨ga, 0, none⟩), .int .i64 st, .slice A8 n8 c8] wx (fun e w' => e = .returned (.bool ba) ∧ RefE w' (FN Fk (.slice A8 n8 c8) wx w') ga N ⟨L2.foldl putL L1, R2.foldl putL R1, ((stated T2 C2).take (k + 1)).foldl putL C1⟩ ∧ Ch Fk wx w')) := Lib.hid (fun wx hbx => by
                          have hxw := HXK.out.below hbx
                          have ho8w := ownN_below HO8.out hbx (Nat.le_refl _)
                          refine (l29Add_any wx ga N (.slice P1 p1 q1) (.slice P2 p2 q2) P3 p3 q3x s3 P4 q4 tk ck hxw.bs hxw.x3 hxw.x4 HPL.out (by rw [hxw.st]; exact HRK.out) st A8 n8 c8 z (own_rd ho8w) HN8.out).mono ?_
                          intro e w' hq
                          obtain ⟨_, _, _, _, _, _, _, _, rfl, hl', hx', hc'⟩ := refx_add hxw HRK.out HLK.out ho8w (by have := HN8.out; omega) HD8.out hq
                          rw [HST.out]
                          exact ⟨by rw [HBA.out], ⟨_, _, _, _, _, _, _, _, _, _, _, _, _, _, _, _, hl', hx'⟩, hc'⟩)
                        have Y3 := Lib.hid y3; have Y4 := Lib.hid y4
                        clear hz hu hst ho8 hc3 hl3 hc6 hl6 hfu8 hlk hxk hn8 hba
                        go_wp2_with fail
                        (first | (go_region_held3 (fun w' => w'.cell? ⟨gb, 3, none⟩ = some (.slice (some ⟨b3, o3, none⟩) m7 d7) ∧ w'.cell? ⟨gb, 4, none⟩ = some (.slice (some ⟨b6, o6, none⟩) m7 d8) ∧ w'.cell? ⟨b3, o3 + k, none⟩ = some (.slice A8 n8 c8) ∧ w'.cell? ⟨b6, o6 + k, none⟩ = some (.int .i64 st)) (exact ⟨by assumption, by assumption, by assumption, by assumption⟩) (first
                          | (go_simp
                             go_at_call 77
                             with_reducible refine (HPU.out _ (by first | exact HRF.out | exact HRD.out)).mono ?_
                             rintro e w9 ⟨rfl, hre9, hch9⟩
                             have HC8 : Hid (Ch Fk wr w9) := Lib.hid (by first | exact hch9 | exact (ch_drew (Ch.refl _ _)).trans hch9)
                             have HRE9 : Hid (RefE w9 (FN Fk (.slice A8 n8 c8) wr w9) ga N ⟨L2.foldl putL L1, R2.foldl putL R1, ((stated T2 C2).take (k + 1)).foldl putL C1⟩) := Lib.hid hre9
                             have hbb := blk_ch HBBR.out HC8.out HGBK.out
                             have y3 := blk_cell hbb 3 rfl
                             have y4 := blk_cell hbb 4 rfl
                             have q3 := cell_chF HC8.out HB3L.out HB3K.out HQ3.out
                             have q6 := cell_chF HC8.out HB6L.out HB6K.out HQ6.out
                             clear hre9 hch9 hbb))) | fail)
                        all_goals
                          as_aux_lemma =>
                          have HFK2 : Hid (∀ q, FN Fk (.slice A8 n8 c8) wr w9 q → GJ F2 v7 (k + 1) q ∨ w8.heap.size ≤ q) := Lib.hid (fun q a => by
                            rcases a.1 with a | a | a
                            · exact (HFK.out q a).imp gj_next id
                            · exact .inl (HFUS.out q a)
                            · exact .inr (Nat.le_trans HCH.out.size a))
                          have HCH2 : Hid (Ch (GJ F2 v7 (k + 1)) w8 w9) := Lib.hid (ch_ext (HCH.out.mono (fun q a => gj_next a)) HC8.out (fun q a => (HFK.out q a).imp gj_next id))
                          clear y3 y4 q3 q6
                          go_wp2_with fail
                          go_roundw
                          case rel => exact ⟨k + 1, _, HLT.out, by go_num, (by first | exact HRE9 | exact Lib.hid (HRE9.out.below (below_drew1 (Below.refl _ _)))), HFK2, (by first | exact HCH2 | exact Lib.hid (ch_drew HCH2.out))⟩
                          case measure => have := HLT.out; simp [intOf]; omega
                      · as_aux_lemma =>
                        obtain ⟨w9, rfl⟩ : ∃ v, v = wr := ⟨_, rfl⟩
                        have HKE : Hid (k = m7) := Lib.hid (by omega)
                        have HRA : Hid (RefE w9 Fk ga N ⟨L2.foldl putL L1, R2.foldl putL R1, (stated T2 C2).foldl putL C1⟩) := Lib.hid (by
                          have h1 : (stated T2 C2).take k = stated T2 C2 := List.take_of_length_le (by have h := HTS.out; have h2 := HKE.out; omega)
                          have h2 := HRE.out
                          rw [h1] at h2
                          exact h2)
                        obtain ⟨F3, rfl⟩ : ∃ v, v = Fk := ⟨_, rfl⟩
                        have HBX : Hid (Below w0.heap.size w0 w9) := Lib.hid (below_ch HBWw8.out HCH.out (fun q a => by
                          rcases gj_end a with a | a
                          · exact HLO.out q (HUP3.out q a)
                          · exact HLO.out q (.inr (.inl (.inr (.inr (.inl (.inr a))))))) HBWw8.out.size)
                        clear HFK HCH
                        as_aux_lemma =>
                        have HBW : Hid (Below w.heap.size w w9) := Lib.hid (HB.out.trans (HBX.out.mono HB.out.size))
                        have HZR := Lib.hid (blk_bel HZ.out HBX.out)
                        obtain ⟨S, hS⟩ : ∃ S : St3, S = ⟨L2.foldl putL L1, R2.foldl putL R1, (stated T2 C2).foldl putL C1⟩ := ⟨_, rfl⟩
                        have HSS := Lib.hid hS
                        have HRE := HRA.out
                        rw [← hS] at HRE
                        have HS7 : Hid (S.size ≤ 100000) := Lib.hid (by
                          rw [hS]
                          have a1 := (foldl_len (ys := L2) HF1.out.1).2
                          have a2 := (foldl_len (ys := R2) HF1.out.2.1).2
                          have a3 := (foldl_len (ys := stated T2 C2) HF1.out.2.2).2
                          have b1 := HSZ.out; have b2 := HSB.out
                          unfold St3.size
                          dsimp only
                          have c1 := b1.p1; have c2 := b1.p2; have c3 := b1.p3; have e1 := b2.p1; have e2 := b2.p2; have e3 := b2.p3
                          omega)
                        have HOU := outE HRE HS7.out
                        have HRES := HMC.out
                        rw [← hS] at HRES
                        clear hS HRE
                        obtain ⟨ok, hok⟩ : ∃ ok, ok = okF N S := ⟨_, rfl⟩
                        rw [← hok] at HOU
                        have HOF := Lib.hid hok
                        replace HOU := Lib.hid HOU
                        clear hok
                        cases ok with
                        | false =>
                          as_aux_lemma =>
                          have HO : Hid (mcP k1 ns1 ws1 k2 ns2 ws2 = (0, [], [], 5)) := Lib.hid (by rw [HRES]; exact prF_no HOF.out.symm)
                          clear HRES
                          generalize nsF N S = NS at *
                          generalize wsF S = WS at *
                          go_wp2_with (go_at_call 78
                                       refine HOU.out.mono ?_
                                       rintro e w10 ⟨A8, n8, c8, B9, m9, d9, us8, rfl, ho8, hx8, hf8, hg8, hd8, hb8⟩
                                       have HB8 := Lib.hid hb8
                                       have hzb := blk_alloc (blk_bel HZR.out hb8) (.cells #[.int .i64 8, .slice A8 n8 c8, .slice B9 m9 d9] 48)
                                       have z0 := blk_cell hzb 0 rfl
                                       have z1 := blk_cell hzb 1 rfl
                                       have z2 := blk_cell hzb 2 rfl
                                       have f0 := blk_free hzb 0
                                       have f1 := blk_free hzb 1
                                       have f2 := blk_free hzb 2
                                       clear ho8 hx8 hf8 hg8 hd8 hb8 hzb)
                          exact bodyPost_ret (v := .tuple #[prfV 0 none 0 0 none 0 0, .int .i64 5]) (by simp [results, Try.results31, go_sem, z0, z1, z2]) rfl (by
                            rw [HO.out]
                            have hw := HBW.out.trans (HB8.out.mono HBW.out.size)
                            exact pfp_err (hw.alloc hw.size _) (by omega))
                        | true =>
                          as_aux_lemma =>
                          have HO : Hid (mcP k1 ns1 ws1 k2 ns2 ws2 = (8, nsF N S, wsF S, 0)) := Lib.hid (by rw [HRES]; exact prF_yes HOF.out.symm)
                          clear HRES
                          generalize nsF N S = NS at *
                          generalize wsF S = WS at *
                          go_wp2_with (go_at_call 78
                                       refine HOU.out.mono ?_
                                       rintro e w10 ⟨A8, n8, c8, B9, m9, d9, us8, rfl, ho8, hx8, hf8, hg8, hd8, hb8⟩
                                       have HO8 := Lib.hid ho8; have HX8 := Lib.hid hx8; have HF8 := Lib.hid hf8; have HG8 := Lib.hid hg8; have HD8 := Lib.hid hd8; have HB8 := Lib.hid hb8
                                       have hzb := blk_alloc (blk_bel HZR.out hb8) (.cells #[.int .i64 8, .slice A8 n8 c8, .slice B9 m9 d9] 48)
                                       have z0 := blk_cell hzb 0 rfl
                                       have z1 := blk_cell hzb 1 rfl
                                       have z2 := blk_cell hzb 2 rfl
                                       have f0 := blk_free hzb 0
                                       have f1 := blk_free hzb 1
                                       have f2 := blk_free hzb 2
                                       clear ho8 hx8 hf8 hg8 hd8 hb8 hzb)
                          exact bodyPost_ret (v := .tuple #[prfV 8 A8 n8 c8 B9 m9 d9, .int .i64 0]) (by simp [results, Try.results31, go_sem, z0, z1, z2]) rfl (by
                            rw [HO.out]
                            have hw : Below w.heap.size w _ := HBW.out.trans (HB8.out.mono HBW.out.size)
                            exact pfp_ok (hw.alloc hw.size _) (ownN_below HO8.out (below_new _ _) (Nat.le_refl _)) (HX8.out.below (below_new _ _)) HF8.out HG8.out HD8.out (by omega) (Nat.lt_of_lt_of_le (blk_lt HZ.out) HBX.out.size))
          · as_aux_lemma =>
            have HO : Hid (mcP k1 ns1 ws1 k2 ns2 ws2 = (0, [], [], 2)) := Lib.hid (by
              have h1 : decide (pN ns1 = pN ns2) = false := decide_eq_false heq
              unfold mcP; rw [OK1.out, OK2.out, h1]; simp)
            obtain ⟨ga, A5, n5, c5, u5, A6, n6, c6, u6, A7, n7, c7, u7, A8, n8, c8, rfl, abs, -⟩ := HP4.out rfl
            obtain ⟨gb, B5, m5, d5, v5, B6, m6, d6, v6, B7, m7, d7, v7, B8, m8, d8, rfl, bbs, -⟩ := HP5.out rfl
            have g0 := blk_cell (blk_bel abs HW45.out) 0 rfl
            have g1 := blk_cell bbs 0 rfl
            have hcmp : (pN ns1 != pN ns2) = true := by rw [bne_iff_ne]; exact heq
            clear abs bbs heq
            generalize pN ns1 = zA at *
            generalize pN ns2 = zB at *
            (first | (go_quiet (fail)) | fail)
            all_goals
              go_wp2_with fail
              exact bodyPost_ret (v := .tuple #[prfV 0 none 0 0 none 0 0, .int .i64 2]) (by simp [results, Try.results31, go_sem, z0, z1, z2]) rfl (by rw [HO.out]; exact pfp_err (below_drewN HBW5.out) (by omega))
end Go.Proofs.Ytcpkhhammafchaa
