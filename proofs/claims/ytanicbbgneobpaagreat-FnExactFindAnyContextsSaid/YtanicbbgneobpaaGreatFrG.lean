/- FindContexts (reference): what a context asks for. Written by mk_frg.py. -/
import Derived.Test.YtanicbbgneobpaaGreatFrM
import Derived.Test.YtanicbbgneobpaaGreatGK
import Derived.Test.YtanicbbgneobpaaGreatPp
import Derived.Deep.DrawnRows
namespace Go.Proofs.YtanicbbgneobpaaGreat
open Go.RowKit
set_option linter.unusedVariables false
set_option linter.unusedSimpArgs false
attribute [local go_sem ↓] Go.wp_at_zero Go.wp_at_succ
theorem rd_chF {F : Nat → Prop} {w w' : World} {A : Option Addr} {n : Nat} {vs : List Value} (h : Rd w A n vs) (hc : Ch F w w') (hd : ∀ b off, A = some ⟨b, off, none⟩ → ¬ F b) : Rd w' A n vs := by
  refine ⟨h.1, fun hn => ?_⟩
  obtain ⟨b, off, e, hlt, hcl⟩ := h.2 hn
  exact ⟨b, off, e, Nat.lt_of_lt_of_le hlt hc.size, fun j u hu => (World.cell?_of_block (a := ⟨b, off + j, none⟩) (hc.block b hlt (hd b off e))).trans (hcl j u hu)⟩
theorem ch_ext {F G : Nat → Prop} {w0 w w' : World} (h : Ch G w0 w) (k : Ch F w w') (hF : ∀ q, F q → G q ∨ w0.heap.size ≤ q) : Ch G w0 w' :=
  ⟨k.os.trans h.os, k.tape.trans h.tape, k.output.trans h.output, Nat.le_trans h.size k.size, fun i hi ho => (k.block i (Nat.lt_of_lt_of_le hi h.size) (fun hf => by rcases hF i hf with a | a; exact ho a; omega)).trans (h.block i hi ho)⟩
/-- The set for some places. -/
def RefE (w : World) (F : Nat → Prop) (g N : Nat) (S : St3) : Prop := ∃ (A1 : Option Addr) (n1 c1 : Nat) (us1 : List Value) (A2 : Option Addr) (n2 c2 : Nat) (us2 : List Value) (A3 : Option Addr) (n3 c3 : Nat) (us3 : List Value) (A4 : Option Addr) (c4 : Nat) (sts : List Int) (cs : List (List Int)), sts.length = cs.length ∧ RefX w F g N A1 n1 c1 us1 A2 n2 c2 us2 A3 n3 c3 us3 A4 c4 sts cs S
theorem RefE.below {w w' : World} {F : Nat → Prop} {g N : Nat} {S : St3} (h : RefE w F g N S) (hb : Below w.heap.size w w') : RefE w' F g N S := by
  obtain ⟨A1, n1, c1, us1, A2, n2, c2, us2, A3, n3, c3, us3, A4, c4, sts, cs, hl, hx⟩ := h
  exact ⟨A1, n1, c1, us1, A2, n2, c2, us2, A3, n3, c3, us3, A4, c4, sts, cs, hl, hx.below hb⟩
/-- What l29Grow leaves. -/
def GrP (w : World) (F : Nat → Prop) (g N s : Nat) (rs : List Rul) (S : St3) (st : Int) (y : List Int) (e : Ending) (w' : World) : Prop :=
  (growF s rs S st y = none ∧ e = .returned (.tuple #[.bool false, .bool false]) ∧ Ch F w w') ∨
  (∃ S' F', growF s rs S st y = some S' ∧ e = .returned (.tuple #[.bool (decide (¬ S'.size = S.size)), .bool true]) ∧ RefE w' F' g N S' ∧ (∀ q, F' q → F q ∨ w.heap.size ≤ q) ∧ Ch F w w')
theorem wrap_g {k m : Nat} (h : k < m) (h2 : m ≤ 6) : wrap64 ((k : Int) + 1) = ((k + 1 : Nat) : Int) := by unfold wrap64; omega
theorem meas_g {k m : Nat} (h : k < m) (h2 : m ≤ 6) : m - (intOf (.int .i64 (wrap64 ((k : Int) + 1)))).toNat < m - (intOf (.int .i64 (k : Int))).toNat := by
  rw [wrap_g h h2]; simp only [intOf]; omega
theorem gctx_sm {s : Nat} {t st : Int} {rs : List Rul} {y : List Int} (h : ctxC s t rs st y = 0) : ∀ z ∈ y, SmI z := fun z hz => by
  have h1 := ctx_let h z hz
  have h2 := (okM_all (ctx_zero h).1).1
  unfold SmI; omega
/-- What has been written since the contexts that follow were made. -/
def GJ (F : Nat → Prop) (us : List Value) (k : Nat) (q : Nat) : Prop := F q ∨ ∃ j u, j < k ∧ us[j]? = some u ∧ Fo u q
theorem addF_snoc {ys : List (List Int)} {W : St3} {x : List Int} : addF (ys ++ [x]) W = ⟨(addF ys W).l, (addF ys W).r, putL (addF ys W).c x⟩ := by simp [addF]
theorem size_put {W : St3} {x : List Int} (h : Rises W.c) : (⟨W.l, W.r, putL W.c x⟩ : St3).size = W.size + (if x ∈ W.c then 0 else 1) := by
  simp only [St3.size, putL_len h]; omega
theorem fresh_yes {a b c : Nat} (h1 : a ≤ b) (h2 : c = b + 1) : decide (¬ c = a) = true := decide_eq_true (by omega)
theorem cell_chF {G : Nat → Prop} {w w' : World} (hc : Ch G w w') {b off : Nat} {v : Value} (hl : b < w.heap.size) (hn : ¬ G b) (h : w.cell? ⟨b, off, none⟩ = some v) : w'.cell? ⟨b, off, none⟩ = some v :=
  (World.cell?_of_block (a := ⟨b, off, none⟩) (hc.block b hl hn)).trans h
set_option maxHeartbeats 8000000 in
set_option maxRecDepth 100000 in
theorem l29Grow_any (w : World) (F : Nat → Prop) (g N : Nat) (S : St3) (A1 : Option Addr) (n1 c1 : Nat) (us1 : List Value) (A2 : Option Addr) (n2 c2 : Nat) (us2 : List Value) (A3 : Option Addr) (n3 c3 : Nat) (us3 : List Value) (A4 : Option Addr) (c4 : Nat) (sts : List Int) (cs : List (List Int)) (hx : RefX w F g N A1 n1 c1 us1 A2 n2 c2 us2 A3 n3 c3 us3 A4 c4 sts cs S) (hl : sts.length = cs.length) (gm : Nat) (s : Nat) (t : Int) (A : Option Addr) (n c : Nat) (rs : List Rul) (hm : BM w gm s t A n c) (hgm : ¬ F gm) (hr : Rd w A (n * 3) (ints (flatR rs))) (hA : ∀ b off, A = some ⟨b, off, none⟩ → ¬ F b) (hn : n ≤ 1099511627776) (hi : InvF s t rs N S) (hS : S.size ≤ 2400) (hN : 1 ≤ N ∧ N ≤ 4)
    (st : Int) (A5 : Option Addr) (n5 c5 : Nat) (y : List Int) (hr5 : Rd w A5 n5 (ints y)) (hc5 : n5 ≤ c5) (hA5 : ∀ b off, A5 = some ⟨b, off, none⟩ → ¬ F b) (hz : ctxC s t rs st y = 0) (hy : y.length = 2 * N + 1) :
    Calls Tryz.prog 88 #[.pointer (some ⟨gm, 0, none⟩), .pointer (some ⟨g, 0, none⟩), .int .i64 st, .slice A5 n5 c5] w (GrP w F g N s rs S st y) := by
  have HSS : Hid (2 ≤ s ∧ s ≤ 6) := Lib.hid (by have := (okM_all (ctx_zero hz).1).1; omega)
  have HX := Lib.hid hx; have HL := Lib.hid hl; have HM := Lib.hid hm; have HGM := Lib.hid hgm; have HR := Lib.hid hr; have HA := Lib.hid hA; have HNN := Lib.hid hn; have HI := Lib.hid hi; have HN4 := Lib.hid hN; have HR5 := Lib.hid hr5; have HC5 := Lib.hid hc5; have HA5 := Lib.hid hA5; have HZ := Lib.hid hz; have HY := Lib.hid hy; have HSZ := Lib.hid hS
  have HN5 : Hid (n5 = 2 * N + 1) := Lib.hid (by have h := hr5.1; simp at h; omega)
  obtain ⟨⟨ra, mv, rc⟩, hru⟩ : ∃ r : Rul, r = ruleOf s rs st y := ⟨_, rfl⟩
  have HRX := Lib.hid hru
  obtain ⟨bo, hbo⟩ : ∃ b, b = isR ⟨ra, mv, rc⟩ := ⟨_, rfl⟩
  have HBO := Lib.hid hbo
  have HRU : Hid (Calls Tryz.prog 120 #[.pointer (some ⟨gm, 0, none⟩), .int .i64 st, .slice A5 n5 c5] w (fun e w' => e = .returned (.tuple #[.agg #[.int .i64 ra, .int .i64 mv, .int .i64 rc], .bool bo]) ∧ Below w.heap.size w w')) := Lib.hid (by
    have h := l29RuleAt_any w gm s t A n c hm rs hr hn st A5 n5 c5 y hr5 hz
    rw [← hru] at h
    rw [hbo]
    exact h)
  clear hx hl hm hgm hr hA hn hi hN hr5 hc5 hA5 hz hy hS hru hbo
  cases bo with
  | false =>
    have HG : Hid (growF s rs S st y = none) := Lib.hid (by unfold growF; rw [← HRX.out, ← HBO.out]; rfl)
    go_enter Tryz.func88, Tryz.ntmps88
    go_wp2_with (go_at_call 120; refine HRU.out.mono ?_; rintro e w1 ⟨rfl, hb1⟩)
    go_ret2
    exact Or.inl ⟨HG.out, rfl, (ch_below hb1).trans (ch_alloc _ _ _)⟩
  | true =>
    have hmv := isR_mv HZ.out (by rw [← HRX.out]; exact HBO.out.symm)
    rw [← HRX.out] at hmv
    simp only at hmv
    rcases hmv with rfl | rfl
    · as_aux_lemma =>
      have HISR : Hid (isR ⟨ra, 1, rc⟩ = true) := Lib.hid HBO.out.symm
      have HLL : Hid (letB s N (lostOf ⟨ra, 1, rc⟩ y)) := Lib.hid (lost_let HZ.out HY.out _)
      have HIW : Hid (InvF s t rs N (winF ⟨ra, 1, rc⟩ y S)) := Lib.hid (winF_inv HI.out HZ.out HY.out _)
      have HWE : Hid (winF ⟨ra, 1, rc⟩ y S = ⟨putL S.l (lostOf ⟨ra, 1, rc⟩ y), S.r, S.c⟩) := Lib.hid rfl
      have HWZ := Lib.hid (winF_size (r := ⟨ra, 1, rc⟩) (y := y) HI.out.rl HI.out.rr)
      have e1 : decide ((0 : Int) < (1 : Int)) = true := by decide
      go_enter Tryz.func88, Tryz.ntmps88
      go_upto_region 4 with (go_at_call 120; refine HRU.out.mono ?_; rintro e w1 ⟨rfl, hb1⟩)
      as_aux_lemma =>
      obtain ⟨w2, hw2⟩ : ∃ w2, w2 = w1.alloc (.cells #[.int .i64 ra, .int .i64 (1), .int .i64 rc] 97) := ⟨_, rfl⟩
      have HB2 : Hid (Below w.heap.size w w2) := Lib.hid (by rw [hw2]; exact hb1.alloc hb1.size _)
      have HX6 : Hid (w2.heap[w1.heap.size]? = some (.cells #[.int .i64 ra, .int .i64 (1), .int .i64 rc] 97 (0, 0))) := Lib.hid (by rw [hw2]; exact box_new _ _ _)
      have HG6 : Hid (w.heap.size ≤ w1.heap.size) := Lib.hid hb1.size
      rw [← hw2]
      clear hw2 hb1
      have z0 := blk_cell HX6.out 0 rfl
      have z1 := blk_cell HX6.out 1 rfl
      have z2 := blk_cell HX6.out 2 rfl
      have HXX2 := Lib.hid (HX.out.below HB2.out)
      have HLO := Lib.hid (l29Lost_any w2 ra (1) rc A5 n5 c5 y (HR5.out.below HB2.out (Nat.le_refl _)) HC5.out (by rw [HY.out]; omega) (by rw [HY.out]; have := HN4.out; omega) (by decide))
      go_wp2_with fail
      refine HLO.out.mono ?_
      rintro e w3 ⟨A7, n7, c7, rfl, ho7, hb3⟩
      have HO7 := Lib.hid ho7
      have HN7 : Hid (n7 ≤ 1000000) := Lib.hid (by have h1 := ho7.1; have h2 := HLL.out.1; have := HN4.out; simp only [List.length_map] at h1; omega)
      have HXX3 := Lib.hid (HXX2.out.below hb3)
      have HW23 : Hid (w2.heap.size ≤ w3.heap.size) := Lib.hid hb3.size
      have HX63 := Lib.hid (blk_bel HX6.out hb3)
      have HB3 : Hid (Below w.heap.size w w3) := Lib.hid (HB2.out.trans (hb3.mono HB2.out.size))
      have hbs := HXX3.out.bs
      have q1 := blk_cell hbs 1 rfl
      have q2 := blk_cell hbs 2 rfl
      have z0 := blk_cell HX63.out 0 rfl
      have z1 := blk_cell HX63.out 1 rfl
      have z2 := blk_cell HX63.out 2 rfl
      obtain ⟨bh, hbh⟩ : ∃ bh, bh = decide (lostOf ⟨ra, 1, rc⟩ y ∈ S.l) := ⟨_, rfl⟩
      have HBH := Lib.hid hbh
      have HHS : Hid (Calls Tryz.prog 34 #[.slice A1 n1 c1, .slice A7 n7 c7] w3 (DrP w3 (.bool bh))) := Lib.hid (by
        rw [hbh]
        exact l29Has_any w3 A1 n1 c1 S.l HXX3.out.x1.ownp.rdl (by have h := HXX3.out.x1.ownp.rdl.len; have h2 := HSZ.out; unfold St3.size at h2; omega) A7 n7 c7 _ (own_rd HO7.out) (by have := HN7.out; omega))
      have HNL : Hid (n1 ≤ 1000000) := Lib.hid (by have h := HXX3.out.x1.ownp.rdl.len; have h2 := HSZ.out; unfold St3.size at h2; omega)
      clear ho7 hb3 hbs hbh
      go_upto_region 9 with (go_at_call 34; refine HHS.out.mono ?_; rintro e w4 ⟨rfl, j4, rfl⟩)
      as_aux_lemma =>
      obtain ⟨w4, hw4⟩ : ∃ w4, w4 = w3.drewN j4 := ⟨_, rfl⟩
      have HB34 : Hid (Below w3.heap.size w3 w4) := Lib.hid (by rw [hw4]; exact below_drewN (Below.refl _ _))
      rw [← hw4]
      clear hw4 q1 q2 z0 z1 z2
      have HXX4 := Lib.hid (HXX3.out.below HB34.out)
      have HX64 := Lib.hid (blk_bel HX63.out HB34.out)
      have HB4 : Hid (Below w.heap.size w w4) := Lib.hid (HB3.out.trans (HB34.out.mono HB3.out.size))
      have HO74 : Hid (w4.ownsRow 0 2 1 (.slice A7 n7 c7) n7 (ints (lostOf ⟨ra, 1, rc⟩ y))) := Lib.hid (ownN_base (ownN_below HO7.out HB34.out (Nat.le_refl _)) (Nat.zero_le _))
      have HD7 : Hid (∀ q, Fo (.slice A7 n7 c7) q → F q → False) := Lib.hid (fun q a b => by have h1 := (HO7.out.lt q a).1; have h2 := HX.out.lt q b; have h3 := HB2.out.size; omega)
      have HPU := Lib.hid (l29Put_go w4 A1 n1 c1 us1 S.l HXX4.out.x1 HNL.out HI.out.rl A7 n7 c7 _ (own_rd HO74.out) HN7.out)
      have hbs := HXX4.out.bs
      have q1 := blk_cell hbs 1 rfl
      have q2 := blk_cell hbs 2 rfl
      have f1 := blk_free hbs 1
      have f2 := blk_free hbs 2
      have z0 := blk_cell HX64.out 0 rfl
      have z1 := blk_cell HX64.out 1 rfl
      have z2 := blk_cell HX64.out 2 rfl
      clear hbs
      go_upto_region 13 with (go_at_call 71
                              refine HPU.out.mono ?_
                              rintro e w5 hq5
                              obtain ⟨A', n', c', us', rfl, hx6, hc6, hbk⟩ := refx_putl HXX4.out HI.out.rl HO74.out (by have := HN7.out; omega) HD7.out hq5
                              have hbs5 := hbk.trans HXX4.out.bs
                              have q1 := blk_cell hbs5 1 rfl
                              have q2 := blk_cell hbs5 2 rfl
                              have f1 := blk_free hbs5 1
                              have f2 := blk_free hbs5 2)
      as_aux_lemma =>
      obtain ⟨w6, hw6⟩ : ∃ w6, w6 = w5.setCell ⟨g, 1, none⟩ (.slice A' n' c') := ⟨_, rfl⟩
      rw [← hw6] at hx6 hc6
      rw [← hw6]
      obtain ⟨F6, hF6⟩ : ∃ F6, F6 = FN F (.slice A7 n7 c7) w4 w6 := ⟨_, rfl⟩
      rw [← hF6] at hx6
      have HXX6 := Lib.hid hx6
      have HF6 : Hid (∀ q, F6 q → F q ∨ w2.heap.size ≤ q) := Lib.hid (fun q a => by
        rw [hF6] at a
        rcases a.1 with b | b | b
        · exact .inl b
        · exact .inr (HO7.out.lt q b).1
        · exact .inr (Nat.le_trans (Nat.le_trans HW23.out HB34.out.size) b))
      have HC46S : Hid (w4.heap.size ≤ w6.heap.size) := Lib.hid hc6.size
      have HC06 : Hid (Ch F w w6) := Lib.hid ((ch_below HB4.out).trans hc6)
      have HNG : Hid (¬ F w1.heap.size) := Lib.hid (fun a => by have h1 := HX.out.lt _ a; have h2 := HG6.out; omega)
      have HX66 := Lib.hid (blk_ch HX64.out hc6 HNG.out)
      have HM6 : Hid (BM w6 gm s t A n c) := Lib.hid (blk_ch HM.out HC06.out HGM.out)
      have HR56 := Lib.hid (rd_chF HR5.out HC06.out HA5.out)
      have HNX := Lib.hid (l29Next_any w6 gm s t A n c HM6.out HSS.out.2 ra (1) rc (by decide) A5 n5 c5 N y HR56.out HC5.out HN5.out HN4.out (gctx_sm HZ.out) A2 n2 c2 (winF ⟨ra, 1, rc⟩ y S).l (winF ⟨ra, 1, rc⟩ y S).r (by rw [if_pos rfl]; exact HXX6.out.x2.ownp.rdl) (by have h : S.r.length = n2 := HXX6.out.x2.ownp.rdl.len; have h2 := HSZ.out; unfold St3.size at h2; omega))
      have z0 := blk_cell HX66.out 0 rfl
      have z1 := blk_cell HX66.out 1 rfl
      have z2 := blk_cell HX66.out 2 rfl
      clear hw6 hF6 hx6 hc6 hq5 hbk hbs5 q1 q2 f1 f2
      obtain ⟨NX, hNX⟩ : ∃ NX, NX = nextsOf s ⟨ra, 1, rc⟩ y (winF ⟨ra, 1, rc⟩ y S).l (winF ⟨ra, 1, rc⟩ y S).r := ⟨_, rfl⟩
      rw [← hNX] at HNX
      have HNE := Lib.hid hNX
      have HNLN : Hid (NX.length ≤ 6) := Lib.hid (by rw [hNX]; exact Nat.le_trans (nexts_len _ _ _ _ _) HSS.out.2)
      have HNG2 : Hid (∀ z ∈ NX, ctxC s t rs rc z = 0 ∧ z.length = 2 * N + 1) := Lib.hid (fun z hz => by
        rw [hNX] at hz
        have h := next_row (ls := (winF ⟨ra, 1, rc⟩ y S).l) (ws := (winF ⟨ra, 1, rc⟩ y S).r) HZ.out (by rw [← HRX.out]; exact HISR.out) HY.out (z := z) (by rw [← HRX.out]; exact hz)
        rw [← HRX.out] at h
        exact h)
      have HNF : Hid (nxF s ⟨ra, 1, rc⟩ y (winF ⟨ra, 1, rc⟩ y S) = NX.map (fun z => rc :: z)) := Lib.hid (by unfold nxF; rw [← hNX])
      clear hNX
      have HFR : Hid ((!bh) = decide (¬ (winF ⟨ra, 1, rc⟩ y S).size = S.size)) := Lib.hid (by
        rw [HBH.out, HWZ.out]
        show (!decide (lostOf ⟨ra, 1, rc⟩ y ∈ S.l)) = decide (¬ S.size + (if lostOf ⟨ra, 1, rc⟩ y ∈ (if (1 : Int) = 1 then S.l else S.r) then 0 else 1) = S.size)
        rw [if_pos rfl]
        by_cases h : lostOf ⟨ra, 1, rc⟩ y ∈ S.l <;> simp [h])
      have HW6 : Hid (w.heap.size ≤ w6.heap.size ∧ w2.heap.size ≤ w6.heap.size ∧ w1.heap.size < w2.heap.size) := Lib.hid ⟨HC06.out.size, Nat.le_trans HW23.out (Nat.le_trans HB34.out.size HC46S.out), blk_lt HX6.out⟩
      as_aux_lemma =>
      go_wp2_with fail
      refine HNX.out.mono ?_
      rintro e w7 ⟨A15, m, c15, F15, rfl, ho15, hf15, hb7⟩
      obtain ⟨us, hx15, hsub⟩ := ownp_x ho15
      have HX15 := Lib.hid hx15
      have HM15 : Hid (NX.length = m) := Lib.hid ho15.len
      have HUS : Hid (us.length = m) := Lib.hid (by simpa using hx15.1.1)
      have HLO15 : Hid (∀ q, FX A15 m c15 us q → w6.heap.size ≤ q ∧ q < w7.heap.size) := Lib.hid (fun q a => hf15 q (hsub q a))
      have HXX7 := Lib.hid (HXX6.out.below hb7)
      have HX67 := Lib.hid (blk_bel HX66.out hb7)
      have HB67 := Lib.hid hb7
      have HM6L : Hid (m ≤ 6) := Lib.hid (by have := HM15.out; have := HNLN.out; omega)
      have HDJ : Hid (∀ q, FX A15 m c15 us q → F6 q → False) := Lib.hid (fun q a b => by have h1 := (HLO15.out q a).1; have h2 := HXX6.out.lt q b; omega)
      clear ho15 hx15 hsub hf15 hb7 z0 z1 z2
      go_wp2_with fail
      go_loopw [13, 16] (fun f q wr => ∃ (k : Nat) (Sk : St3) (Fk : Nat → Prop), k ≤ m ∧ q = .int .i64 k ∧ f = .bool (decide (¬ Sk.size = S.size)) ∧ Hid (Sk = addF ((NX.map (fun z => rc :: z)).take k) (winF ⟨ra, 1, rc⟩ y S) ∧ Rises Sk.c ∧ S.size ≤ Sk.size ∧ Sk.size ≤ S.size + 1 + k) ∧ Hid (RefE wr Fk g N Sk) ∧ Hid (∀ q, Fk q → GJ F6 us k q ∨ w7.heap.size ≤ q) ∧ Hid (Ch (GJ F6 us k) w7 wr)) (fun _ q _ => m - (intOf q).toNat)
      case atStart => exact ⟨0, (winF ⟨ra, 1, rc⟩ y S), F6, Nat.zero_le _, rfl, by rw [HFR.out], Lib.hid ⟨rfl, HIW.out.rc, by have h := HWZ.out; omega, by have h := HWZ.out; rw [h]; exact Nat.add_le_add_left (ite01 _) _⟩, Lib.hid ⟨_, _, _, _, _, _, _, _, _, _, _, _, _, _, _, _, HL.out, HXX7.out⟩, Lib.hid (fun q a => .inl (.inl a)), Lib.hid (Ch.refl _ _)⟩
      case round =>
        as_aux_lemma =>
        obtain ⟨k, Sk, Fk, hk, rfl, rfl, HSK, HRE, HFK, HCH⟩ := hrel
        by_cases hlt : k < m
        · have HLT := Lib.hid hlt
          have hlti : (k : Int) < (m : Int) := by omega
          have hk0 : (0 : Int) ≤ (k : Int) := by omega
          obtain ⟨z, hz⟩ := get_some (xs := NX) (k := k) (by rw [HM15.out]; exact hlt)
          obtain ⟨u, hu⟩ := get_some (xs := us) (k := k) (by rw [HUS.out]; exact hlt)
          obtain ⟨A8, n8, c8, rfl, hn8, ho8, hfu8⟩ := HX15.out.2.2.1 k u z hu hz
          obtain ⟨b3, o3, e3, hl3, hc3⟩ := (own_rd HX15.out.1).at_ hu
          subst e3
          have HU := Lib.hid hu; have HZK := Lib.hid hz
          have HFU8 : Hid (∀ q, Fo (.slice A8 n8 c8) q → ¬ GJ F6 us k q) := Lib.hid (fun q a b => by
            rcases b with b | ⟨j, v, hj, hv, b⟩
            · exact HDJ.out q (.inr (hfu8 q a)) b
            · have := HX15.out.2.2.2 k j _ v hu hv q a b; omega)
          have HB3 : Hid (¬ GJ F6 us k b3) := Lib.hid (fun b => by
            have hb : Fo (.slice (some ⟨b3, o3, none⟩) m c15) b3 := by simp [Fo, Value.ownBlock]
            rcases b with b | ⟨j, v, hj, hv, b⟩
            · exact HDJ.out b3 (.inl hb) b
            · exact fu_types HX15.out.1 HX15.out.2 b3 ⟨v, List.mem_of_getElem? hv, b⟩ hb)
          have HB3K : Hid (¬ Fk b3) := Lib.hid (fun b => by rcases HFK.out b3 b with d | d; exact HB3.out d; omega)
          have HNG7 : Hid (¬ GJ F6 us k w1.heap.size) := Lib.hid (fun b => by
            have h6 := HW6.out
            rcases b with b | ⟨j, v, hj, hv, b⟩
            · rcases HF6.out _ b with d | d
              · exact HNG.out d
              · omega
            · have := (HLO15.out _ (.inr ⟨v, List.mem_of_getElem? hv, b⟩)).1; omega)
          have HNGK : Hid (¬ Fk w1.heap.size) := Lib.hid (fun b => by rcases HFK.out _ b with d | d; exact HNG7.out d; have h6 := HW6.out; have h7 := HB67.out.size; omega)
          have q3 := cell_chF HCH.out hl3 HB3.out hc3
          have hrb := blk_ch HX67.out HCH.out HNG7.out
          have HRB := Lib.hid hrb
          have z2 := blk_cell hrb 2 rfl
          have HQ3 := Lib.hid q3
          have HB3L : Hid (b3 < wr.heap.size) := Lib.hid (Nat.lt_of_lt_of_le hl3 HCH.out.size)
          have HO8 := Lib.hid (own_ch ho8 HCH.out (fun q a b => HFU8.out q a b))
          have HD8 : Hid (∀ q, Fo (.slice A8 n8 c8) q → Fk q → False) := Lib.hid (fun q a b => by
            rcases HFK.out q b with d | d
            · exact HFU8.out q a d
            · have := (HLO15.out q (.inr (hfu8 q a))).2; omega)
          have HFUS : Hid (∀ q, Fo (.slice A8 n8 c8) q → GJ F6 us (k + 1) q) := Lib.hid (fun q a => .inr ⟨k, _, Nat.lt_succ_self _, HU.out, a⟩)
          have HN8 : Hid (n8 ≤ 1000000) := Lib.hid (by have h1 := HO8.out.1; have h2 := (HNG2.out z (List.mem_of_getElem? hz)).2; have := HN4.out; simp only [List.length_map] at h1; omega)
          obtain ⟨B1, m1, d1, vs1, B2, m2, d2, vs2, B3', m3, d3, vs3, B4, d4, sts', cs', hlk, hxk⟩ := HRE.out
          have HXK := Lib.hid hxk; have HLK := Lib.hid hlk
          have HM3 : Hid (m3 ≤ 1000000) := Lib.hid (by
            have h1 := congrArg List.length hxk.st
            unfold stated at h1
            simp only [List.length_zipWith] at h1
            have h2 := hxk.x3.ownp.rdl.len
            have h3 := HSK.out.2.2.2
            have h4 := HSZ.out
            have h5 := HM6L.out
            have h6 := HLT.out
            unfold St3.size at h3
            unfold St3.size at h4
            omega)
          obtain ⟨ba, hba⟩ : ∃ ba, ba = !decide ((rc :: z) ∈ Sk.c) := ⟨_, rfl⟩
          have HBA := Lib.hid hba
          have HAD : Hid (∀ wx : World, Below wr.heap.size wr wx → Calls Tryz.prog 86 #[.pointer (some ⟨g, 0, none⟩), .int .i64 rc, .slice A8 n8 c8] wx (fun e w' => e = .returned (.bool ba) ∧ RefE w' (FN Fk (.slice A8 n8 c8) wx w') g N ⟨Sk.l, Sk.r, putL Sk.c (rc :: z)⟩ ∧ Ch Fk wx w')) := Lib.hid (fun wx hbx => by
            have hxw := HXK.out.below hbx
            have ho8w := ownN_below HO8.out hbx (Nat.le_refl _)
            refine (l29Add_any wx g N (.slice B1 m1 d1) (.slice B2 m2 d2) B3' m3 d3 vs3 B4 d4 sts' cs' hxw.bs hxw.x3 hxw.x4 HM3.out (by rw [hxw.st]; exact HSK.out.2.1) rc A8 n8 c8 z (own_rd ho8w) HN8.out).mono ?_
            intro e w' hq
            obtain ⟨_, _, _, _, _, _, _, _, rfl, hl', hx', hc'⟩ := refx_add hxw HSK.out.2.1 HLK.out ho8w (by have := HN8.out; omega) HD8.out hq
            exact ⟨by rw [HBA.out], ⟨_, _, _, _, _, _, _, _, _, _, _, _, _, _, _, _, hl', hx'⟩, hc'⟩)
          have HRF : Hid (Below wr.heap.size wr wr) := Lib.hid (Below.refl _ _)
          have HRD : Hid (Below wr.heap.size wr wr.drew) := Lib.hid (below_drewN (n := 1) (Below.refl _ _))
          clear hz hu ho8 hc3 hl3 hfu8 hlk hxk hba hrb hn8
          go_wp2_with fail
          (first | (go_region_held3 (fun w' => w'.cell? ⟨w1.heap.size, 2, none⟩ = some (.int .i64 rc) ∧ w'.cell? ⟨b3, o3 + k, none⟩ = some (.slice A8 n8 c8)) (exact ⟨by assumption, by assumption⟩) (first
            | (go_simp
               go_at_call 86
               with_reducible refine (HAD.out _ (by first | exact HRF.out | exact HRD.out)).mono ?_
               rintro e w8 ⟨rfl, hre8, hch8⟩
               have HCH8 : Hid (Ch Fk wr w8) := Lib.hid (by first | exact hch8 | exact (ch_drew (Ch.refl _ _)).trans hch8)
               have HRE8 : Hid (RefE w8 (FN Fk (.slice A8 n8 c8) wr w8) g N ⟨Sk.l, Sk.r, putL Sk.c (rc :: z)⟩) := Lib.hid hre8
               have z2 := blk_cell (blk_ch HRB.out HCH8.out HNGK.out) 2 rfl
               have q3 := cell_chF HCH8.out HB3L.out HB3K.out HQ3.out
               clear hre8 hch8))) | fail)
          all_goals
            as_aux_lemma =>
            have HCW8 : Hid (Ch (GJ F6 us (k + 1)) w7 w8) := Lib.hid (ch_ext (HCH.out.mono (fun q a => by
              rcases a with a | ⟨j, v, hj, hv, a⟩
              · exact .inl a
              · exact .inr ⟨j, v, by omega, hv, a⟩)) HCH8.out (fun q a => by
              rcases HFK.out q a with (b | ⟨j, v, hj, hv, b⟩) | b
              · exact .inl (.inl b)
              · exact .inl (.inr ⟨j, v, by omega, hv, b⟩)
              · exact .inr b))
            have HFK8 : Hid (∀ q, FN Fk (.slice A8 n8 c8) wr w8 q → GJ F6 us (k + 1) q ∨ w7.heap.size ≤ q) := Lib.hid (fun q a => by
              rcases a.1 with a | a | a
              · rcases HFK.out q a with (b | ⟨j, v, hj, hv, b⟩) | b
                · exact .inl (.inl b)
                · exact .inl (.inr ⟨j, v, by omega, hv, b⟩)
                · exact .inr b
              · exact .inl (HFUS.out q a)
              · exact .inr (Nat.le_trans HCH.out.size a))
            have HSZP := Lib.hid (size_put (x := rc :: z) HSK.out.2.1)
            have HSK8 : Hid ((⟨Sk.l, Sk.r, putL Sk.c (rc :: z)⟩ : St3) = addF ((NX.map (fun z => rc :: z)).take (k + 1)) (winF ⟨ra, 1, rc⟩ y S)) := Lib.hid (by
              rw [List.take_add_one, List.getElem?_map, HZK.out]
              show _ = addF (_ ++ [rc :: z]) (winF ⟨ra, 1, rc⟩ y S)
              rw [addF_snoc, ← HSK.out.1])
            cases ba with
            | false =>
              as_aux_lemma =>
              have HIN : Hid ((rc :: z) ∈ Sk.c) := Lib.hid (by have h := HBA.out; simpa using h)
              have HZ8 : Hid ((⟨Sk.l, Sk.r, putL Sk.c (rc :: z)⟩ : St3).size = Sk.size) := Lib.hid (by rw [HSZP.out, if_pos HIN.out]; rfl)
              go_wp2_with fail
              go_roundw
              case rel => exact ⟨k + 1, ⟨Sk.l, Sk.r, putL Sk.c (rc :: z)⟩, _, HLT.out, by rw [wrap_g HLT.out HM6L.out], by rw [HZ8.out]; simp, Lib.hid ⟨HSK8.out, putL_rises HSK.out.2.1, by rw [HZ8.out]; exact HSK.out.2.2.1, by rw [HZ8.out]; exact Nat.le_succ_of_le HSK.out.2.2.2⟩, (by first | exact HRE8 | exact Lib.hid (HRE8.out.below (below_drew1 (Below.refl _ _)))), HFK8, (by first | exact HCW8 | exact Lib.hid (ch_drew HCW8.out))⟩
              case measure => exact meas_g HLT.out HM6L.out
            | true =>
              as_aux_lemma =>
              have HIN : Hid (¬ (rc :: z) ∈ Sk.c) := Lib.hid (by have h := HBA.out; simpa using h)
              have HZ8 : Hid ((⟨Sk.l, Sk.r, putL Sk.c (rc :: z)⟩ : St3).size = Sk.size + 1) := Lib.hid (by rw [HSZP.out, if_neg HIN.out])
              go_wp2_with fail
              go_roundw
              case rel => exact ⟨k + 1, ⟨Sk.l, Sk.r, putL Sk.c (rc :: z)⟩, _, HLT.out, by rw [wrap_g HLT.out HM6L.out], by rw [fresh_yes HSK.out.2.2.1 HZ8.out], Lib.hid ⟨HSK8.out, putL_rises HSK.out.2.1, by rw [HZ8.out]; exact Nat.le_succ_of_le HSK.out.2.2.1, by rw [HZ8.out]; exact Nat.succ_le_succ HSK.out.2.2.2⟩, (by first | exact HRE8 | exact Lib.hid (HRE8.out.below (below_drew1 (Below.refl _ _)))), HFK8, (by first | exact HCW8 | exact Lib.hid (ch_drew HCW8.out))⟩
              case measure => exact meas_g HLT.out HM6L.out
        · obtain rfl : k = m := by omega
          have HES : Hid (growF s rs S st y = some Sk) := Lib.hid (by
            unfold growF
            rw [← HRX.out, HISR.out, if_pos rfl, HNF.out, HSK.out.1, List.take_of_length_le (by rw [List.length_map, HM15.out]; exact Nat.le_refl _)])
          have HFF : Hid (∀ q, Fk q → F q ∨ w.heap.size ≤ q) := Lib.hid (fun q a => by
            rcases HFK.out q a with (b | ⟨j, v, hj, hv, b⟩) | b
            · rcases HF6.out q b with d | d
              · exact .inl d
              · have := HB2.out.size; exact .inr (by omega)
            · have h1 := (HLO15.out q (.inr ⟨v, List.mem_of_getElem? hv, b⟩)).1; have h2 := HW6.out.1; exact .inr (by omega)
            · have h1 := HB67.out.size; have h2 := HW6.out.1; exact .inr (by omega))
          have HCF : Hid (Ch F w wr) := Lib.hid (ch_ext (HC06.out.trans (ch_below HB67.out)) HCH.out (fun q a => by
            rcases a with b | ⟨j, v, hj, hv, b⟩
            · rcases HF6.out q b with d | d
              · exact .inl d
              · have := HB2.out.size; exact .inr (by omega)
            · have h1 := (HLO15.out q (.inr ⟨v, List.mem_of_getElem? hv, b⟩)).1; have h2 := HW6.out.1; exact .inr (by omega)))
          go_wp2_with fail
          go_ret2
          exact Or.inr ⟨Sk, Fk, HES.out, rfl, HRE.out, HFF.out, HCF.out⟩
    · as_aux_lemma =>
      have HISR : Hid (isR ⟨ra, -1, rc⟩ = true) := Lib.hid HBO.out.symm
      have HLL : Hid (letB s N (lostOf ⟨ra, -1, rc⟩ y)) := Lib.hid (lost_let HZ.out HY.out _)
      have HIW : Hid (InvF s t rs N (winF ⟨ra, -1, rc⟩ y S)) := Lib.hid (winF_inv HI.out HZ.out HY.out _)
      have HWE : Hid (winF ⟨ra, -1, rc⟩ y S = ⟨S.l, putL S.r (lostOf ⟨ra, -1, rc⟩ y), S.c⟩) := Lib.hid rfl
      have HWZ := Lib.hid (winF_size (r := ⟨ra, -1, rc⟩) (y := y) HI.out.rl HI.out.rr)
      have e1 : decide ((0 : Int) < (-1 : Int)) = false := by decide
      go_enter Tryz.func88, Tryz.ntmps88
      go_upto_region 4 with (go_at_call 120; refine HRU.out.mono ?_; rintro e w1 ⟨rfl, hb1⟩)
      as_aux_lemma =>
      obtain ⟨w2, hw2⟩ : ∃ w2, w2 = w1.alloc (.cells #[.int .i64 ra, .int .i64 (-1), .int .i64 rc] 97) := ⟨_, rfl⟩
      have HB2 : Hid (Below w.heap.size w w2) := Lib.hid (by rw [hw2]; exact hb1.alloc hb1.size _)
      have HX6 : Hid (w2.heap[w1.heap.size]? = some (.cells #[.int .i64 ra, .int .i64 (-1), .int .i64 rc] 97 (0, 0))) := Lib.hid (by rw [hw2]; exact box_new _ _ _)
      have HG6 : Hid (w.heap.size ≤ w1.heap.size) := Lib.hid hb1.size
      rw [← hw2]
      clear hw2 hb1
      have z0 := blk_cell HX6.out 0 rfl
      have z1 := blk_cell HX6.out 1 rfl
      have z2 := blk_cell HX6.out 2 rfl
      have HXX2 := Lib.hid (HX.out.below HB2.out)
      have HLO := Lib.hid (l29Lost_any w2 ra (-1) rc A5 n5 c5 y (HR5.out.below HB2.out (Nat.le_refl _)) HC5.out (by rw [HY.out]; omega) (by rw [HY.out]; have := HN4.out; omega) (by decide))
      go_wp2_with fail
      refine HLO.out.mono ?_
      rintro e w3 ⟨A7, n7, c7, rfl, ho7, hb3⟩
      have HO7 := Lib.hid ho7
      have HN7 : Hid (n7 ≤ 1000000) := Lib.hid (by have h1 := ho7.1; have h2 := HLL.out.1; have := HN4.out; simp only [List.length_map] at h1; omega)
      have HXX3 := Lib.hid (HXX2.out.below hb3)
      have HW23 : Hid (w2.heap.size ≤ w3.heap.size) := Lib.hid hb3.size
      have HX63 := Lib.hid (blk_bel HX6.out hb3)
      have HB3 : Hid (Below w.heap.size w w3) := Lib.hid (HB2.out.trans (hb3.mono HB2.out.size))
      have hbs := HXX3.out.bs
      have q1 := blk_cell hbs 1 rfl
      have q2 := blk_cell hbs 2 rfl
      have z0 := blk_cell HX63.out 0 rfl
      have z1 := blk_cell HX63.out 1 rfl
      have z2 := blk_cell HX63.out 2 rfl
      obtain ⟨bh, hbh⟩ : ∃ bh, bh = decide (lostOf ⟨ra, -1, rc⟩ y ∈ S.r) := ⟨_, rfl⟩
      have HBH := Lib.hid hbh
      have HHS : Hid (Calls Tryz.prog 34 #[.slice A2 n2 c2, .slice A7 n7 c7] w3 (DrP w3 (.bool bh))) := Lib.hid (by
        rw [hbh]
        exact l29Has_any w3 A2 n2 c2 S.r HXX3.out.x2.ownp.rdl (by have h := HXX3.out.x2.ownp.rdl.len; have h2 := HSZ.out; unfold St3.size at h2; omega) A7 n7 c7 _ (own_rd HO7.out) (by have := HN7.out; omega))
      have HNL : Hid (n2 ≤ 1000000) := Lib.hid (by have h := HXX3.out.x2.ownp.rdl.len; have h2 := HSZ.out; unfold St3.size at h2; omega)
      clear ho7 hb3 hbs hbh
      go_upto_region 11 with (go_at_call 34; refine HHS.out.mono ?_; rintro e w4 ⟨rfl, j4, rfl⟩)
      as_aux_lemma =>
      obtain ⟨w4, hw4⟩ : ∃ w4, w4 = w3.drewN j4 := ⟨_, rfl⟩
      have HB34 : Hid (Below w3.heap.size w3 w4) := Lib.hid (by rw [hw4]; exact below_drewN (Below.refl _ _))
      rw [← hw4]
      clear hw4 q1 q2 z0 z1 z2
      have HXX4 := Lib.hid (HXX3.out.below HB34.out)
      have HX64 := Lib.hid (blk_bel HX63.out HB34.out)
      have HB4 : Hid (Below w.heap.size w w4) := Lib.hid (HB3.out.trans (HB34.out.mono HB3.out.size))
      have HO74 : Hid (w4.ownsRow 0 2 1 (.slice A7 n7 c7) n7 (ints (lostOf ⟨ra, -1, rc⟩ y))) := Lib.hid (ownN_base (ownN_below HO7.out HB34.out (Nat.le_refl _)) (Nat.zero_le _))
      have HD7 : Hid (∀ q, Fo (.slice A7 n7 c7) q → F q → False) := Lib.hid (fun q a b => by have h1 := (HO7.out.lt q a).1; have h2 := HX.out.lt q b; have h3 := HB2.out.size; omega)
      have HPU := Lib.hid (l29Put_go w4 A2 n2 c2 us2 S.r HXX4.out.x2 HNL.out HI.out.rr A7 n7 c7 _ (own_rd HO74.out) HN7.out)
      have hbs := HXX4.out.bs
      have q1 := blk_cell hbs 1 rfl
      have q2 := blk_cell hbs 2 rfl
      have f1 := blk_free hbs 1
      have f2 := blk_free hbs 2
      have z0 := blk_cell HX64.out 0 rfl
      have z1 := blk_cell HX64.out 1 rfl
      have z2 := blk_cell HX64.out 2 rfl
      clear hbs
      go_upto_region 13 with (go_at_call 71
                              refine HPU.out.mono ?_
                              rintro e w5 hq5
                              obtain ⟨A', n', c', us', rfl, hx6, hc6, hbk⟩ := refx_putr HXX4.out HI.out.rr HO74.out (by have := HN7.out; omega) HD7.out hq5
                              have hbs5 := hbk.trans HXX4.out.bs
                              have q1 := blk_cell hbs5 1 rfl
                              have q2 := blk_cell hbs5 2 rfl
                              have f1 := blk_free hbs5 1
                              have f2 := blk_free hbs5 2)
      as_aux_lemma =>
      obtain ⟨w6, hw6⟩ : ∃ w6, w6 = w5.setCell ⟨g, 2, none⟩ (.slice A' n' c') := ⟨_, rfl⟩
      rw [← hw6] at hx6 hc6
      rw [← hw6]
      obtain ⟨F6, hF6⟩ : ∃ F6, F6 = FN F (.slice A7 n7 c7) w4 w6 := ⟨_, rfl⟩
      rw [← hF6] at hx6
      have HXX6 := Lib.hid hx6
      have HF6 : Hid (∀ q, F6 q → F q ∨ w2.heap.size ≤ q) := Lib.hid (fun q a => by
        rw [hF6] at a
        rcases a.1 with b | b | b
        · exact .inl b
        · exact .inr (HO7.out.lt q b).1
        · exact .inr (Nat.le_trans (Nat.le_trans HW23.out HB34.out.size) b))
      have HC46S : Hid (w4.heap.size ≤ w6.heap.size) := Lib.hid hc6.size
      have HC06 : Hid (Ch F w w6) := Lib.hid ((ch_below HB4.out).trans hc6)
      have HNG : Hid (¬ F w1.heap.size) := Lib.hid (fun a => by have h1 := HX.out.lt _ a; have h2 := HG6.out; omega)
      have HX66 := Lib.hid (blk_ch HX64.out hc6 HNG.out)
      have HM6 : Hid (BM w6 gm s t A n c) := Lib.hid (blk_ch HM.out HC06.out HGM.out)
      have HR56 := Lib.hid (rd_chF HR5.out HC06.out HA5.out)
      have HNX := Lib.hid (l29Next_any w6 gm s t A n c HM6.out HSS.out.2 ra (-1) rc (by decide) A5 n5 c5 N y HR56.out HC5.out HN5.out HN4.out (gctx_sm HZ.out) A1 n1 c1 (winF ⟨ra, -1, rc⟩ y S).l (winF ⟨ra, -1, rc⟩ y S).r (by rw [if_neg (show ¬ ((-1 : Int) = 1) by decide)]; exact HXX6.out.x1.ownp.rdl) (by have h : S.l.length = n1 := HXX6.out.x1.ownp.rdl.len; have h2 := HSZ.out; unfold St3.size at h2; omega))
      have z0 := blk_cell HX66.out 0 rfl
      have z1 := blk_cell HX66.out 1 rfl
      have z2 := blk_cell HX66.out 2 rfl
      clear hw6 hF6 hx6 hc6 hq5 hbk hbs5 q1 q2 f1 f2
      obtain ⟨NX, hNX⟩ : ∃ NX, NX = nextsOf s ⟨ra, -1, rc⟩ y (winF ⟨ra, -1, rc⟩ y S).l (winF ⟨ra, -1, rc⟩ y S).r := ⟨_, rfl⟩
      rw [← hNX] at HNX
      have HNE := Lib.hid hNX
      have HNLN : Hid (NX.length ≤ 6) := Lib.hid (by rw [hNX]; exact Nat.le_trans (nexts_len _ _ _ _ _) HSS.out.2)
      have HNG2 : Hid (∀ z ∈ NX, ctxC s t rs rc z = 0 ∧ z.length = 2 * N + 1) := Lib.hid (fun z hz => by
        rw [hNX] at hz
        have h := next_row (ls := (winF ⟨ra, -1, rc⟩ y S).l) (ws := (winF ⟨ra, -1, rc⟩ y S).r) HZ.out (by rw [← HRX.out]; exact HISR.out) HY.out (z := z) (by rw [← HRX.out]; exact hz)
        rw [← HRX.out] at h
        exact h)
      have HNF : Hid (nxF s ⟨ra, -1, rc⟩ y (winF ⟨ra, -1, rc⟩ y S) = NX.map (fun z => rc :: z)) := Lib.hid (by unfold nxF; rw [← hNX])
      clear hNX
      have HFR : Hid ((!bh) = decide (¬ (winF ⟨ra, -1, rc⟩ y S).size = S.size)) := Lib.hid (by
        rw [HBH.out, HWZ.out]
        show (!decide (lostOf ⟨ra, -1, rc⟩ y ∈ S.r)) = decide (¬ S.size + (if lostOf ⟨ra, -1, rc⟩ y ∈ (if (-1 : Int) = 1 then S.l else S.r) then 0 else 1) = S.size)
        rw [if_neg (show ¬ ((-1 : Int) = 1) by decide)]
        by_cases h : lostOf ⟨ra, -1, rc⟩ y ∈ S.r <;> simp [h])
      have HW6 : Hid (w.heap.size ≤ w6.heap.size ∧ w2.heap.size ≤ w6.heap.size ∧ w1.heap.size < w2.heap.size) := Lib.hid ⟨HC06.out.size, Nat.le_trans HW23.out (Nat.le_trans HB34.out.size HC46S.out), blk_lt HX6.out⟩
      as_aux_lemma =>
      go_wp2_with fail
      refine HNX.out.mono ?_
      rintro e w7 ⟨A15, m, c15, F15, rfl, ho15, hf15, hb7⟩
      obtain ⟨us, hx15, hsub⟩ := ownp_x ho15
      have HX15 := Lib.hid hx15
      have HM15 : Hid (NX.length = m) := Lib.hid ho15.len
      have HUS : Hid (us.length = m) := Lib.hid (by simpa using hx15.1.1)
      have HLO15 : Hid (∀ q, FX A15 m c15 us q → w6.heap.size ≤ q ∧ q < w7.heap.size) := Lib.hid (fun q a => hf15 q (hsub q a))
      have HXX7 := Lib.hid (HXX6.out.below hb7)
      have HX67 := Lib.hid (blk_bel HX66.out hb7)
      have HB67 := Lib.hid hb7
      have HM6L : Hid (m ≤ 6) := Lib.hid (by have := HM15.out; have := HNLN.out; omega)
      have HDJ : Hid (∀ q, FX A15 m c15 us q → F6 q → False) := Lib.hid (fun q a b => by have h1 := (HLO15.out q a).1; have h2 := HXX6.out.lt q b; omega)
      clear ho15 hx15 hsub hf15 hb7 z0 z1 z2
      go_wp2_with fail
      go_loopw [13, 16] (fun f q wr => ∃ (k : Nat) (Sk : St3) (Fk : Nat → Prop), k ≤ m ∧ q = .int .i64 k ∧ f = .bool (decide (¬ Sk.size = S.size)) ∧ Hid (Sk = addF ((NX.map (fun z => rc :: z)).take k) (winF ⟨ra, -1, rc⟩ y S) ∧ Rises Sk.c ∧ S.size ≤ Sk.size ∧ Sk.size ≤ S.size + 1 + k) ∧ Hid (RefE wr Fk g N Sk) ∧ Hid (∀ q, Fk q → GJ F6 us k q ∨ w7.heap.size ≤ q) ∧ Hid (Ch (GJ F6 us k) w7 wr)) (fun _ q _ => m - (intOf q).toNat)
      case atStart => exact ⟨0, (winF ⟨ra, -1, rc⟩ y S), F6, Nat.zero_le _, rfl, by rw [HFR.out], Lib.hid ⟨rfl, HIW.out.rc, by have h := HWZ.out; omega, by have h := HWZ.out; rw [h]; exact Nat.add_le_add_left (ite01 _) _⟩, Lib.hid ⟨_, _, _, _, _, _, _, _, _, _, _, _, _, _, _, _, HL.out, HXX7.out⟩, Lib.hid (fun q a => .inl (.inl a)), Lib.hid (Ch.refl _ _)⟩
      case round =>
        as_aux_lemma =>
        obtain ⟨k, Sk, Fk, hk, rfl, rfl, HSK, HRE, HFK, HCH⟩ := hrel
        by_cases hlt : k < m
        · have HLT := Lib.hid hlt
          have hlti : (k : Int) < (m : Int) := by omega
          have hk0 : (0 : Int) ≤ (k : Int) := by omega
          obtain ⟨z, hz⟩ := get_some (xs := NX) (k := k) (by rw [HM15.out]; exact hlt)
          obtain ⟨u, hu⟩ := get_some (xs := us) (k := k) (by rw [HUS.out]; exact hlt)
          obtain ⟨A8, n8, c8, rfl, hn8, ho8, hfu8⟩ := HX15.out.2.2.1 k u z hu hz
          obtain ⟨b3, o3, e3, hl3, hc3⟩ := (own_rd HX15.out.1).at_ hu
          subst e3
          have HU := Lib.hid hu; have HZK := Lib.hid hz
          have HFU8 : Hid (∀ q, Fo (.slice A8 n8 c8) q → ¬ GJ F6 us k q) := Lib.hid (fun q a b => by
            rcases b with b | ⟨j, v, hj, hv, b⟩
            · exact HDJ.out q (.inr (hfu8 q a)) b
            · have := HX15.out.2.2.2 k j _ v hu hv q a b; omega)
          have HB3 : Hid (¬ GJ F6 us k b3) := Lib.hid (fun b => by
            have hb : Fo (.slice (some ⟨b3, o3, none⟩) m c15) b3 := by simp [Fo, Value.ownBlock]
            rcases b with b | ⟨j, v, hj, hv, b⟩
            · exact HDJ.out b3 (.inl hb) b
            · exact fu_types HX15.out.1 HX15.out.2 b3 ⟨v, List.mem_of_getElem? hv, b⟩ hb)
          have HB3K : Hid (¬ Fk b3) := Lib.hid (fun b => by rcases HFK.out b3 b with d | d; exact HB3.out d; omega)
          have HNG7 : Hid (¬ GJ F6 us k w1.heap.size) := Lib.hid (fun b => by
            have h6 := HW6.out
            rcases b with b | ⟨j, v, hj, hv, b⟩
            · rcases HF6.out _ b with d | d
              · exact HNG.out d
              · omega
            · have := (HLO15.out _ (.inr ⟨v, List.mem_of_getElem? hv, b⟩)).1; omega)
          have HNGK : Hid (¬ Fk w1.heap.size) := Lib.hid (fun b => by rcases HFK.out _ b with d | d; exact HNG7.out d; have h6 := HW6.out; have h7 := HB67.out.size; omega)
          have q3 := cell_chF HCH.out hl3 HB3.out hc3
          have hrb := blk_ch HX67.out HCH.out HNG7.out
          have HRB := Lib.hid hrb
          have z2 := blk_cell hrb 2 rfl
          have HQ3 := Lib.hid q3
          have HB3L : Hid (b3 < wr.heap.size) := Lib.hid (Nat.lt_of_lt_of_le hl3 HCH.out.size)
          have HO8 := Lib.hid (own_ch ho8 HCH.out (fun q a b => HFU8.out q a b))
          have HD8 : Hid (∀ q, Fo (.slice A8 n8 c8) q → Fk q → False) := Lib.hid (fun q a b => by
            rcases HFK.out q b with d | d
            · exact HFU8.out q a d
            · have := (HLO15.out q (.inr (hfu8 q a))).2; omega)
          have HFUS : Hid (∀ q, Fo (.slice A8 n8 c8) q → GJ F6 us (k + 1) q) := Lib.hid (fun q a => .inr ⟨k, _, Nat.lt_succ_self _, HU.out, a⟩)
          have HN8 : Hid (n8 ≤ 1000000) := Lib.hid (by have h1 := HO8.out.1; have h2 := (HNG2.out z (List.mem_of_getElem? hz)).2; have := HN4.out; simp only [List.length_map] at h1; omega)
          obtain ⟨B1, m1, d1, vs1, B2, m2, d2, vs2, B3', m3, d3, vs3, B4, d4, sts', cs', hlk, hxk⟩ := HRE.out
          have HXK := Lib.hid hxk; have HLK := Lib.hid hlk
          have HM3 : Hid (m3 ≤ 1000000) := Lib.hid (by
            have h1 := congrArg List.length hxk.st
            unfold stated at h1
            simp only [List.length_zipWith] at h1
            have h2 := hxk.x3.ownp.rdl.len
            have h3 := HSK.out.2.2.2
            have h4 := HSZ.out
            have h5 := HM6L.out
            have h6 := HLT.out
            unfold St3.size at h3
            unfold St3.size at h4
            omega)
          obtain ⟨ba, hba⟩ : ∃ ba, ba = !decide ((rc :: z) ∈ Sk.c) := ⟨_, rfl⟩
          have HBA := Lib.hid hba
          have HAD : Hid (∀ wx : World, Below wr.heap.size wr wx → Calls Tryz.prog 86 #[.pointer (some ⟨g, 0, none⟩), .int .i64 rc, .slice A8 n8 c8] wx (fun e w' => e = .returned (.bool ba) ∧ RefE w' (FN Fk (.slice A8 n8 c8) wx w') g N ⟨Sk.l, Sk.r, putL Sk.c (rc :: z)⟩ ∧ Ch Fk wx w')) := Lib.hid (fun wx hbx => by
            have hxw := HXK.out.below hbx
            have ho8w := ownN_below HO8.out hbx (Nat.le_refl _)
            refine (l29Add_any wx g N (.slice B1 m1 d1) (.slice B2 m2 d2) B3' m3 d3 vs3 B4 d4 sts' cs' hxw.bs hxw.x3 hxw.x4 HM3.out (by rw [hxw.st]; exact HSK.out.2.1) rc A8 n8 c8 z (own_rd ho8w) HN8.out).mono ?_
            intro e w' hq
            obtain ⟨_, _, _, _, _, _, _, _, rfl, hl', hx', hc'⟩ := refx_add hxw HSK.out.2.1 HLK.out ho8w (by have := HN8.out; omega) HD8.out hq
            exact ⟨by rw [HBA.out], ⟨_, _, _, _, _, _, _, _, _, _, _, _, _, _, _, _, hl', hx'⟩, hc'⟩)
          have HRF : Hid (Below wr.heap.size wr wr) := Lib.hid (Below.refl _ _)
          have HRD : Hid (Below wr.heap.size wr wr.drew) := Lib.hid (below_drewN (n := 1) (Below.refl _ _))
          clear hz hu ho8 hc3 hl3 hfu8 hlk hxk hba hrb hn8
          go_wp2_with fail
          (first | (go_region_held3 (fun w' => w'.cell? ⟨w1.heap.size, 2, none⟩ = some (.int .i64 rc) ∧ w'.cell? ⟨b3, o3 + k, none⟩ = some (.slice A8 n8 c8)) (exact ⟨by assumption, by assumption⟩) (first
            | (go_simp
               go_at_call 86
               with_reducible refine (HAD.out _ (by first | exact HRF.out | exact HRD.out)).mono ?_
               rintro e w8 ⟨rfl, hre8, hch8⟩
               have HCH8 : Hid (Ch Fk wr w8) := Lib.hid (by first | exact hch8 | exact (ch_drew (Ch.refl _ _)).trans hch8)
               have HRE8 : Hid (RefE w8 (FN Fk (.slice A8 n8 c8) wr w8) g N ⟨Sk.l, Sk.r, putL Sk.c (rc :: z)⟩) := Lib.hid hre8
               have z2 := blk_cell (blk_ch HRB.out HCH8.out HNGK.out) 2 rfl
               have q3 := cell_chF HCH8.out HB3L.out HB3K.out HQ3.out
               clear hre8 hch8))) | fail)
          all_goals
            as_aux_lemma =>
            have HCW8 : Hid (Ch (GJ F6 us (k + 1)) w7 w8) := Lib.hid (ch_ext (HCH.out.mono (fun q a => by
              rcases a with a | ⟨j, v, hj, hv, a⟩
              · exact .inl a
              · exact .inr ⟨j, v, by omega, hv, a⟩)) HCH8.out (fun q a => by
              rcases HFK.out q a with (b | ⟨j, v, hj, hv, b⟩) | b
              · exact .inl (.inl b)
              · exact .inl (.inr ⟨j, v, by omega, hv, b⟩)
              · exact .inr b))
            have HFK8 : Hid (∀ q, FN Fk (.slice A8 n8 c8) wr w8 q → GJ F6 us (k + 1) q ∨ w7.heap.size ≤ q) := Lib.hid (fun q a => by
              rcases a.1 with a | a | a
              · rcases HFK.out q a with (b | ⟨j, v, hj, hv, b⟩) | b
                · exact .inl (.inl b)
                · exact .inl (.inr ⟨j, v, by omega, hv, b⟩)
                · exact .inr b
              · exact .inl (HFUS.out q a)
              · exact .inr (Nat.le_trans HCH.out.size a))
            have HSZP := Lib.hid (size_put (x := rc :: z) HSK.out.2.1)
            have HSK8 : Hid ((⟨Sk.l, Sk.r, putL Sk.c (rc :: z)⟩ : St3) = addF ((NX.map (fun z => rc :: z)).take (k + 1)) (winF ⟨ra, -1, rc⟩ y S)) := Lib.hid (by
              rw [List.take_add_one, List.getElem?_map, HZK.out]
              show _ = addF (_ ++ [rc :: z]) (winF ⟨ra, -1, rc⟩ y S)
              rw [addF_snoc, ← HSK.out.1])
            cases ba with
            | false =>
              as_aux_lemma =>
              have HIN : Hid ((rc :: z) ∈ Sk.c) := Lib.hid (by have h := HBA.out; simpa using h)
              have HZ8 : Hid ((⟨Sk.l, Sk.r, putL Sk.c (rc :: z)⟩ : St3).size = Sk.size) := Lib.hid (by rw [HSZP.out, if_pos HIN.out]; rfl)
              go_wp2_with fail
              go_roundw
              case rel => exact ⟨k + 1, ⟨Sk.l, Sk.r, putL Sk.c (rc :: z)⟩, _, HLT.out, by rw [wrap_g HLT.out HM6L.out], by rw [HZ8.out]; simp, Lib.hid ⟨HSK8.out, putL_rises HSK.out.2.1, by rw [HZ8.out]; exact HSK.out.2.2.1, by rw [HZ8.out]; exact Nat.le_succ_of_le HSK.out.2.2.2⟩, (by first | exact HRE8 | exact Lib.hid (HRE8.out.below (below_drew1 (Below.refl _ _)))), HFK8, (by first | exact HCW8 | exact Lib.hid (ch_drew HCW8.out))⟩
              case measure => exact meas_g HLT.out HM6L.out
            | true =>
              as_aux_lemma =>
              have HIN : Hid (¬ (rc :: z) ∈ Sk.c) := Lib.hid (by have h := HBA.out; simpa using h)
              have HZ8 : Hid ((⟨Sk.l, Sk.r, putL Sk.c (rc :: z)⟩ : St3).size = Sk.size + 1) := Lib.hid (by rw [HSZP.out, if_neg HIN.out])
              go_wp2_with fail
              go_roundw
              case rel => exact ⟨k + 1, ⟨Sk.l, Sk.r, putL Sk.c (rc :: z)⟩, _, HLT.out, by rw [wrap_g HLT.out HM6L.out], by rw [fresh_yes HSK.out.2.2.1 HZ8.out], Lib.hid ⟨HSK8.out, putL_rises HSK.out.2.1, by rw [HZ8.out]; exact Nat.le_succ_of_le HSK.out.2.2.1, by rw [HZ8.out]; exact Nat.succ_le_succ HSK.out.2.2.2⟩, (by first | exact HRE8 | exact Lib.hid (HRE8.out.below (below_drew1 (Below.refl _ _)))), HFK8, (by first | exact HCW8 | exact Lib.hid (ch_drew HCW8.out))⟩
              case measure => exact meas_g HLT.out HM6L.out
        · obtain rfl : k = m := by omega
          have HES : Hid (growF s rs S st y = some Sk) := Lib.hid (by
            unfold growF
            rw [← HRX.out, HISR.out, if_pos rfl, HNF.out, HSK.out.1, List.take_of_length_le (by rw [List.length_map, HM15.out]; exact Nat.le_refl _)])
          have HFF : Hid (∀ q, Fk q → F q ∨ w.heap.size ≤ q) := Lib.hid (fun q a => by
            rcases HFK.out q a with (b | ⟨j, v, hj, hv, b⟩) | b
            · rcases HF6.out q b with d | d
              · exact .inl d
              · have := HB2.out.size; exact .inr (by omega)
            · have h1 := (HLO15.out q (.inr ⟨v, List.mem_of_getElem? hv, b⟩)).1; have h2 := HW6.out.1; exact .inr (by omega)
            · have h1 := HB67.out.size; have h2 := HW6.out.1; exact .inr (by omega))
          have HCF : Hid (Ch F w wr) := Lib.hid (ch_ext (HC06.out.trans (ch_below HB67.out)) HCH.out (fun q a => by
            rcases a with b | ⟨j, v, hj, hv, b⟩
            · rcases HF6.out q b with d | d
              · exact .inl d
              · have := HB2.out.size; exact .inr (by omega)
            · have h1 := (HLO15.out q (.inr ⟨v, List.mem_of_getElem? hv, b⟩)).1; have h2 := HW6.out.1; exact .inr (by omega)))
          go_wp2_with fail
          go_ret2
          exact Or.inr ⟨Sk, Fk, HES.out, rfl, HRE.out, HFF.out, HCF.out⟩
end Go.Proofs.YtanicbbgneobpaaGreat
