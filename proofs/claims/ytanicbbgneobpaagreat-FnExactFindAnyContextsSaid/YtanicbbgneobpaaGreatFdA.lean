/- FindAnyContexts (program). Written by mk_fdk.py. -/
import Derived.Test.YtanicbbgneobpaaGreatFdK
namespace Go.Proofs.YtanicbbgneobpaaGreat
open Go.RowKit
set_option linter.unusedVariables false
set_option linter.unusedSimpArgs false
/-- The first size of k that has a proof. -/
noncomputable def anyG (s : Nat) (rs : List Rul) : Nat → ResF
  | 0 => (0, [], [], 3)
  | k + 1 => if (anyG s rs k).2.2.2 = 0 then anyG s rs k else fdP s rs (k + 1) (st0 (k + 1))
noncomputable def faP (s t : Int) (rs : List Rul) (m : Int) : ResF := if okM s t rs then (if inB m 1 4 then anyG s.toNat rs m.toNat else (0, [], [], 2)) else (0, [], [], 1)
theorem fdR_err {s : Nat} {rs : List Rul} {n : Nat} {S : St3} {r : ResF} (h : FdR s rs n S r) (hc : ¬ r.2.2.2 = 0) : r = (0, [], [], r.2.2.2) := by
  induction h with
  | stuck => rfl
  | full => rfl
  | stop _ hok _ =>
    obtain ⟨ns, ws, hp⟩ := prF_ok hok
    rw [hp] at hc
    exact absurd rfl hc
  | more _ _ _ _ ih => exact ih hc
theorem fdP_err {s : Nat} {rs : List Rul} {n : Nat} {S : St3} (hc : ¬ (fdP s rs n S).2.2.2 = 0) : fdP s rs n S = (0, [], [], (fdP s rs n S).2.2.2) := by
  by_cases hx : ∃ a, FdR s rs n S a
  · obtain ⟨a, ha⟩ := hx
    rw [fdP_of ha] at hc ⊢
    exact fdR_err ha hc
  · exfalso; apply hc; unfold fdP; rw [dif_neg hx]
theorem anyG_yes {s : Nat} {rs : List Rul} {k : Nat} (h : (anyG s rs k).2.2.2 = 0) : ∀ j, k ≤ j → anyG s rs j = anyG s rs k := by
  intro j hj
  induction j with
  | zero => obtain rfl : k = 0 := by omega
            rfl
  | succ j ih =>
    by_cases e : k = j + 1
    · subst e; rfl
    · have := ih (by omega)
      show (if (anyG s rs j).2.2.2 = 0 then anyG s rs j else _) = _
      rw [this, if_pos h]
theorem anyG_no {s : Nat} {rs : List Rul} {k : Nat} (h : ¬ (anyG s rs k).2.2.2 = 0) : anyG s rs (k + 1) = fdP s rs (k + 1) (st0 (k + 1)) := by
  show (if (anyG s rs k).2.2.2 = 0 then anyG s rs k else _) = _
  rw [if_neg h]
/-- A result's memory, whatever the rest. -/
def PfO (b : Nat) (r : ResF) (A : Option Addr) (n c : Nat) (B : Option Addr) (m d : Nat) (W : World) : Prop := ∃ F : Nat → Prop, W.ownsRow b 2 1 (.slice A n c) n (ints r.2.1) ∧ OwnP W F B m d r.2.2.1 ∧ (∀ k, F k → b ≤ k ∧ k < W.heap.size) ∧ (∀ k, Fo (.slice A n c) k → F k → False)
theorem pfo_of {b : Nat} {w0 wx : World} {r : ResF} {A B : Option Addr} {n c m d : Nat} {F : Nat → Prop} (hb : b ≤ w0.heap.size) (ho : wx.ownsRow w0.heap.size 2 1 (.slice A n c) n (ints r.2.1)) (hp : OwnP wx F B m d r.2.2.1) (hF : ∀ k, F k → w0.heap.size ≤ k ∧ k < wx.heap.size) (hd : ∀ k, Fo (.slice A n c) k → F k → False) : PfO b r A n c B m d wx :=
  ⟨F, ownN_base ho hb, hp, fun k hk => ⟨Nat.le_trans hb (hF k hk).1, (hF k hk).2⟩, hd⟩
theorem pfo_set {b q : Nat} {W : World} {r : ResF} {A B : Option Addr} {n c m d : Nat} {v0 v1 v2 : Value} (h : PfO b r A n c B m d W) (hq : q < b) : PfO b r A n c B m d (((W.setCell ⟨q, 0, none⟩ v0).setCell ⟨q, 1, none⟩ v1).setCell ⟨q, 2, none⟩ v2) := by
  obtain ⟨F, ho, hp, hF, hd⟩ := h
  have hs := ch_set3 W q v0 v1 v2
  have h2 := hp.ch hs (fun k hk e => by have e2 : k = q := e; have := (hF k hk).1; omega)
  exact ⟨F, own_ch ho hs (fun k hk e => by have e2 : k = q := e; have := (ho.lt k hk).1; omega), h2, fun k hk => ⟨(hF k hk).1, h2.lt k hk⟩, hd⟩
theorem pfo_end {b : Nat} {w W : World} {r : ResF} {A B : Option Addr} {n c m d : Nat} (h : PfO b r A n c B m d W) (hb : w.heap.size ≤ b) (hw : Below w.heap.size w W) : PfP w r (.returned (.tuple #[prfV r.1 A n c B m d, .int .i64 r.2.2.2])) W := by
  obtain ⟨F, ho, hp, hF, hd⟩ := h
  exact ⟨A, n, c, B, m, d, F, rfl, ownN_base ho hb, hp, fun k hk => ⟨Nat.le_trans hb (hF k hk).1, (hF k hk).2⟩, hd, hw⟩
theorem pfo_nil (b : Nat) (W : World) (z : Int) : PfO b (0, [], [], z) none 0 0 none 0 0 W := ⟨fun _ => False, own_nil _ _ _, OwnP.nil _, by simp, by simp⟩
theorem below_setq {b : Nat} {w W : World} {q : Nat} {v0 v1 v2 : Value} (h : Below b w W) (hq : b ≤ q) : Below b w (((W.setCell ⟨q, 0, none⟩ v0).setCell ⟨q, 1, none⟩ v1).setCell ⟨q, 2, none⟩ v2) := ((h.setCell hq v0).setCell hq v1).setCell hq v2
theorem wrap_n1 {k N : Nat} (h : k < N) (h2 : N ≤ 4) : IntKind.i64.wrap ((k : Int) + 1) = (k : Int) + 1 := IntWalk.i64_in _ (by omega)
set_option maxHeartbeats 8000000 in
set_option maxRecDepth 100000 in
theorem implFindAnyContexts_any (w : World) (s t : Int) (A : Option Addr) (n c : Nat) (rs : List Rul) (hr : Rd w A (n * 3) (ints (flatR rs))) (hn : n ≤ 1099511627776) (m : Int) :
    Calls Tryz.prog 23 #[mchV s t A n c, .int .i64 m] w (PfP w (faP s t rs m)) := by
  obtain ⟨w0, hw0⟩ : ∃ w0, w0 = (w.alloc (.cells #[.int .i64 s, .int .i64 t, .slice A n c] 37)).alloc (.cells pfZq 39) := ⟨_, rfl⟩
  have hB : Below w.heap.size w w0 := by rw [hw0]; exact (below_new w _).trans ((below_new _ _).mono (by simp))
  have hx0 : w0.heap[w.heap.size]? = some (.cells #[.int .i64 s, .int .i64 t, .slice A n c] 37 (0, 0)) := by rw [hw0]; exact blk_alloc (box_new w _ _) _
  have hz : w0.heap[w.heap.size + 1]? = some (.cells pfZq 39 (0, 0)) := by rw [hw0]; have h := box_new (w.alloc (.cells #[.int .i64 s, .int .i64 t, .slice A n c] 37)) pfZq 39; simpa using h
  have HX0 := Lib.hid hx0; have HZ := Lib.hid hz; have HB := Lib.hid hB
  have HR := Lib.hid (hr.below hB (Nat.le_refl _)); have HNN := Lib.hid hn
  have HSZ : Hid (w.heap.size + 1 < w0.heap.size) := Lib.hid (blk_lt hz)
  have HVM : Hid (∀ wx : World, Below w0.heap.size w0 wx → Calls Tryz.prog 53 #[mchV s t A n c] wx (RetV wx (.bool (okM s t rs)))) := Lib.hid (fun wx hbx => ValidMachine_any wx s t A n c rs (HR.out.below hbx (Nat.le_refl _)) HNN.out)
  have x0 := blk_cell hx0 0 rfl
  have x1 := blk_cell hx0 1 rfl
  have x2 := blk_cell hx0 2 rfl
  clear hB hx0 hz hr hn
  cases hok : okM s t rs with
  | false =>
    have HO : Hid (faP s t rs m = (0, [], [], 1)) := Lib.hid (by unfold faP; rw [hok]; rfl)
    rw [hok] at HVM
    clear hok
    go_enter Tryz.func23, Tryz.ntmps23
    go_upto_region 1 with fail
    rw [← hw0]
    clear hw0
    go_wp2_with fail
    refine (HVM.out w0 (Below.refl _ _)).mono ?_
    rintro e w2 ⟨rfl, hb2⟩
    have HB2 := Lib.hid hb2
    have hzb := blk_bel HZ.out hb2
    have z0 := blk_cell hzb 0 rfl
    have z1 := blk_cell hzb 1 rfl
    have z2 := blk_cell hzb 2 rfl
    have f0 := blk_free hzb 0
    have f1 := blk_free hzb 1
    have f2 := blk_free hzb 2
    clear hb2 hzb x0 x1 x2
    go_wp2_with fail
    exact bodyPost_ret (v := .tuple #[prfV 0 none 0 0 none 0 0, .int .i64 1]) (by simp [results, Tryz.results23, go_sem, z0, z1, z2]) rfl (by rw [HO.out]; exact pfp_err (HB.out.trans (HB2.out.mono HB.out.size)) (Nat.le_succ _))
  | true =>
    have HOK := Lib.hid hok
    rw [hok] at HVM
    cases hi : inB m 1 4 with
    | false =>
      have HO : Hid (faP s t rs m = (0, [], [], 2)) := Lib.hid (by unfold faP; rw [hok, hi]; rfl)
      have HI := Lib.hid hi
      clear hok hi
      go_enter Tryz.func23, Tryz.ntmps23
      go_upto_region 1 with fail
      rw [← hw0]
      clear hw0
      go_wp2_with fail
      refine (HVM.out w0 (Below.refl _ _)).mono ?_
      rintro e w2 ⟨rfl, hb2⟩
      have HB2 := Lib.hid hb2
      have hx2 := blk_bel HX0.out hb2
      clear x0 x1 x2
      have x0 := blk_cell hx2 0 rfl
      have x1 := blk_cell hx2 1 rfl
      have x2 := blk_cell hx2 2 rfl
      have hzb := blk_bel HZ.out hb2
      have z0 := blk_cell hzb 0 rfl
      have z1 := blk_cell hzb 1 rfl
      have z2 := blk_cell hzb 2 rfl
      have f0 := blk_free hzb 0
      have f1 := blk_free hzb 1
      have f2 := blk_free hzb 2
      clear hb2 hx2 hzb
      go_wp2_with fail
      refine (contextSizeOk_any _ _).mono ?_
      rw [HI.out]
      rintro e w3 ⟨rfl, rfl⟩
      clear x0 x1 x2
      go_wp2_with fail
      exact bodyPost_ret (v := .tuple #[prfV 0 none 0 0 none 0 0, .int .i64 2]) (by simp [results, Tryz.results23, go_sem, z0, z1, z2]) rfl (by rw [HO.out]; exact pfp_err (HB.out.trans (HB2.out.mono HB.out.size)) (Nat.le_succ _))
    | true =>
      have HI := Lib.hid hi
      obtain ⟨N, rfl⟩ : ∃ N : Nat, m = (N : Int) := ⟨m.toNat, by have h := inB_true.1 hi; omega⟩
      obtain ⟨sn, rfl⟩ : ∃ sn : Nat, s = (sn : Int) := ⟨s.toNat, by have h := (okM_all hok).1; omega⟩
      have HN4 : Hid (1 ≤ N ∧ N ≤ 4) := Lib.hid (by have h := inB_true.1 hi; omega)
      have HO : Hid (faP (sn : Int) t rs N = (anyG sn rs N)) := Lib.hid (by unfold faP; rw [hok, hi]; simp)
      clear hok hi
      go_enter Tryz.func23, Tryz.ntmps23
      go_upto_region 1 with fail
      rw [← hw0]
      clear hw0
      go_wp2_with fail
      refine (HVM.out w0 (Below.refl _ _)).mono ?_
      rintro e w2 ⟨rfl, hb2⟩
      have HB2 := Lib.hid hb2
      have hx2 := blk_bel HX0.out hb2
      clear x0 x1 x2
      have x0 := blk_cell hx2 0 rfl
      have x1 := blk_cell hx2 1 rfl
      have x2 := blk_cell hx2 2 rfl
      have hzb := blk_bel HZ.out hb2
      have z0 := blk_cell hzb 0 rfl
      have z1 := blk_cell hzb 1 rfl
      have z2 := blk_cell hzb 2 rfl
      have f0 := blk_free hzb 0
      have f1 := blk_free hzb 1
      have f2 := blk_free hzb 2
      clear hb2 hx2 hzb
      go_wp2_with fail
      refine (contextSizeOk_any _ _).mono ?_
      rw [HI.out]
      rintro e w3 ⟨rfl, rfl⟩
      have HBW2 : Hid (Below w.heap.size w w2) := Lib.hid (HB.out.trans (HB2.out.mono HB.out.size))
      have HX2 := Lib.hid (blk_bel HX0.out HB2.out); have HZ2 := Lib.hid (blk_bel HZ.out HB2.out); have HR2 := Lib.hid (HR.out.below HB2.out (Nat.le_refl _))
      have HQ2 : Hid (w.heap.size + 1 < w2.heap.size) := Lib.hid (Nat.lt_of_lt_of_le HSZ.out HB2.out.size)
      obtain ⟨w4, hw4⟩ : ∃ w4, w4 = w2.alloc (.cells pfZq 39) := ⟨_, rfl⟩
      have HB24 : Hid (Below w2.heap.size w2 w4) := Lib.hid (by rw [hw4]; exact below_new _ _)
      have HZ4 : Hid (w4.heap.size = w2.heap.size + 1) := Lib.hid (by rw [hw4]; simp)
      have HP0 : Hid (w4.heap[w2.heap.size]? = some (.cells pfZq 39 (0, 0))) := Lib.hid (by rw [hw4]; exact box_new _ _ _)
      have HFF : Hid (∀ (wx : World) (k : Nat), Below w2.heap.size w2 wx → k < N → Calls Tryz.prog 55 #[mchV sn t A n c, .int .i64 ((k : Int) + 1)] wx (PfP wx (fdP sn rs (k + 1) (st0 (k + 1))))) := Lib.hid (fun wx k hbx hk => findContexts_any wx sn t A n c rs (HR2.out.below hbx (Nat.le_refl _)) HNN.out HOK.out (k + 1) (by have := HN4.out; omega))
      go_upto_region 6 with fail
      rw [← hw4]
      clear hw4 x0 x1 x2 z0 z1 z2 f0 f1 f2
      as_aux_lemma =>
      go_wp2_with fail
      go_loopw [7, 19] (fun q i wr => ∃ (k : Nat) (r : ResF) (A9 : Option Addr) (n9 c9 : Nat) (A10 : Option Addr) (n10 c10 : Nat), k ≤ N ∧ i = .int .i64 k ∧ q = .int .i64 r.2.2.2 ∧ wr.heap[w2.heap.size]? = some (.cells #[.int .i64 r.1, .slice A9 n9 c9, .slice A10 n10 c10] 39 (0, 0)) ∧ Hid (PfO w4.heap.size r A9 n9 c9 A10 n10 c10 wr) ∧ Hid ((k = 0 ∧ r = (0, [], [], 0)) ∨ (0 < k ∧ r = anyG sn rs k ∧ ¬ r.2.2.2 = 0)) ∧ Below w2.heap.size w2 wr ∧ Hid (w4.heap.size ≤ wr.heap.size)) (fun _ i _ => N - (intOf i).toNat)
      case atStart => exact ⟨0, (0, [], [], 0), none, 0, 0, none, 0, 0, Nat.zero_le _, rfl, rfl, HP0.out, Lib.hid (pfo_nil _ _ _), Lib.hid (.inl ⟨rfl, rfl⟩), HB24.out, Lib.hid (Nat.le_refl _)⟩
      case round =>
        as_aux_lemma =>
        obtain ⟨k, r, A9, n9, c9, A10, n10, c10, hk, rfl, rfl, hbox, HP, HC, hb, HSW⟩ := hrel
        have HBX := Lib.hid hbox; have HBR := Lib.hid hb
        by_cases hlt : k < N
        · have HLT := Lib.hid hlt
          have hwk := wrap_n1 hlt HN4.out.2
          have hx := blk_bel HX2.out hb
          have x0 := blk_cell hx 0 rfl
          have x1 := blk_cell hx 1 rfl
          have x2 := blk_cell hx 2 rfl
          have hlti : (k : Int) < (N : Int) := by omega
          obtain ⟨R, hR⟩ : ∃ R, R = fdP sn rs (k + 1) (st0 (k + 1)) := ⟨_, rfl⟩
          have HRR := Lib.hid hR
          have HFC := HFF.out wr k hb hlt
          rw [← hR] at HFC
          replace HFC := Lib.hid HFC
          have HAN : Hid (anyG sn rs (k + 1) = R) := Lib.hid (by
            rw [hR]
            refine anyG_no ?_
            rcases HC.out with ⟨rfl, _⟩ | ⟨_, h1, h2⟩
            · show ¬ (3 : Int) = 0; decide
            · rw [← h1]; exact h2)
          clear hR hx hbox hb hlt
          go_wp2_with fail
          refine HFC.out.mono ?_
          rintro e w5 ⟨A7, n7, c7, A8, n8, c8, F7, rfl, ho7, hp7, hF7, hd7, hb5⟩
          have HP5 : Hid (PfO w4.heap.size R A7 n7 c7 A8 n8 c8 w5) := Lib.hid (pfo_of HSW.out ho7 hp7 hF7 hd7)
          have HB5 : Hid (Below w2.heap.size w2 w5) := Lib.hid (HBR.out.trans (hb5.mono HBR.out.size))
          have HS5 : Hid (w4.heap.size ≤ w5.heap.size) := Lib.hid (Nat.le_trans HSW.out hb5.size)
          have hp5 := blk_bel HBX.out hb5
          have HX5 := Lib.hid hp5
          have p0 := blk_cell hp5 0 rfl
          have p1 := blk_cell hp5 1 rfl
          have p2 := blk_cell hp5 2 rfl
          have g0 := blk_free hp5 0
          have g1 := blk_free hp5 1
          have g2 := blk_free hp5 2
          obtain ⟨w6, hw6⟩ : ∃ w6, w6 = ((w5.setCell ⟨w2.heap.size, 0, none⟩ (.int .i64 R.1)).setCell ⟨w2.heap.size, 1, none⟩ (.slice A7 n7 c7)).setCell ⟨w2.heap.size, 2, none⟩ (.slice A8 n8 c8) := ⟨_, rfl⟩
          have HX6 : Hid (w6.heap[w2.heap.size]? = some (.cells #[.int .i64 R.1, .slice A7 n7 c7, .slice A8 n8 c8] 39 (0, 0))) := Lib.hid (by rw [hw6]; simpa using blk_set (blk_set (blk_set HX5.out 0 (.int .i64 R.1)) 1 (.slice A7 n7 c7)) 2 (.slice A8 n8 c8))
          have HP6 : Hid (PfO w4.heap.size R A7 n7 c7 A8 n8 c8 w6) := Lib.hid (by rw [hw6]; exact pfo_set HP5.out (by have := HZ4.out; omega))
          have HB6 : Hid (Below w2.heap.size w2 w6) := Lib.hid (by rw [hw6]; exact below_setq HB5.out (Nat.le_refl _))
          have HS6 : Hid (w4.heap.size ≤ w6.heap.size) := Lib.hid (by rw [hw6]; simpa using HS5.out)
          clear ho7 hp7 hF7 hd7 hb5 hp5 x0 x1 x2
          by_cases h0 : R.2.2.2 = 0
          · have hcmp : (R.2.2.2 == (0 : Int)) = true := by rw [h0]; rfl
            have HRES : Hid (anyG sn rs N = R) := Lib.hid (by
              have h1 := anyG_yes (s := sn) (rs := rs) (k := k + 1) (by rw [HAN.out]; exact h0) N HLT.out
              rw [h1, HAN.out])
            clear h0
            as_aux_lemma =>
            go_upto_region 12 with fail
            rw [← hw6]
            clear hw6 p0 p1 p2 g0 g1 g2
            have hy6 := HX6.out
            have y0 := blk_cell hy6 0 rfl
            have y1 := blk_cell hy6 1 rfl
            have y2 := blk_cell hy6 2 rfl
            have hzb := blk_bel HZ2.out HB6.out
            have z0 := blk_cell hzb 0 rfl
            have z1 := blk_cell hzb 1 rfl
            have z2 := blk_cell hzb 2 rfl
            have f0 := blk_free hzb 0
            have f1 := blk_free hzb 1
            have f2 := blk_free hzb 2
            clear hzb hy6
            go_wp2_with fail
            exact bodyPost_ret (v := .tuple #[prfV R.1 A7 n7 c7 A8 n8 c8, .int .i64 R.2.2.2]) (by simp [results, Tryz.results23, go_sem, z0, z1, z2]) rfl (by rw [HO.out, HRES.out]; exact pfo_end (pfo_set HP6.out (by have := HZ4.out; have := HQ2.out; omega)) (by have := HZ4.out; have := HQ2.out; omega) (below_setq (HBW2.out.trans (HB6.out.mono HBW2.out.size)) (Nat.le_succ _)))
          · have hcmp : (R.2.2.2 == (0 : Int)) = false := by rw [beq_eq_false_iff_ne]; exact h0
            have HNZ := Lib.hid h0
            clear h0
            as_aux_lemma =>
            go_wp2_with fail
            rw [← hw6]
            go_roundw
            case rel => exact ⟨k + 1, R, A7, n7, c7, A8, n8, c8, HLT.out, by go_num, rfl, HX6.out, HP6, Lib.hid (.inr ⟨Nat.succ_pos _, HAN.out.symm, HNZ.out⟩), HB6.out, HS6⟩
            case measure => have := HLT.out; simp only [intOf]; omega
        · obtain rfl : k = N := by omega
          have HRES : Hid (r = anyG sn rs k ∧ ¬ r.2.2.2 = 0) := Lib.hid (by
            rcases HC.out with ⟨h1, _⟩ | ⟨_, h1, h2⟩
            · have := HN4.out; omega
            · exact ⟨h1, h2⟩)
          have y0 := blk_cell hbox 0 rfl
          have y1 := blk_cell hbox 1 rfl
          have y2 := blk_cell hbox 2 rfl
          have hzb := blk_bel HZ2.out hb
          have z0 := blk_cell hzb 0 rfl
          have z1 := blk_cell hzb 1 rfl
          have z2 := blk_cell hzb 2 rfl
          have f0 := blk_free hzb 0
          have f1 := blk_free hzb 1
          have f2 := blk_free hzb 2
          clear hzb hbox hb
          go_wp2_with fail
          exact bodyPost_ret (v := .tuple #[prfV r.1 A9 n9 c9 A10 n10 c10, .int .i64 r.2.2.2]) (by simp [results, Tryz.results23, go_sem, z0, z1, z2]) rfl (by rw [HO.out, ← HRES.out.1]; exact pfo_end (pfo_set HP.out (by have := HZ4.out; have := HQ2.out; omega)) (by have := HZ4.out; have := HQ2.out; omega) (below_setq (HBW2.out.trans (HBR.out.mono HBW2.out.size)) (Nat.le_succ _)))
end Go.Proofs.YtanicbbgneobpaaGreat
