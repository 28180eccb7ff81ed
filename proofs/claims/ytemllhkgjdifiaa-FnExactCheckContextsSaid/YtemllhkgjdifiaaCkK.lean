/- CheckContexts (program): the walk's front, as far as it goes. -/
import Derived.Test.YtemllhkgjdifiaaCkP
import Derived.Test.YtemllhkgjdifiaaRpI
import Derived.Test.YtemllhkgjdifiaaGL
namespace Go.Proofs.Ytemllhkgjdifiaa
open Go.RowKit
set_option linter.unusedVariables false
set_option linter.unusedSimpArgs false
theorem chkI_code {s t : Int} {rs : List Rul} {k : Int} {ns : List Int} {ws : List (List Int)} (h : ¬ csC k ns ws = 0) : chkI s t rs k ns ws = false := by simp [chkI, h]
theorem chkI_mch {s t : Int} {rs : List Rul} {k : Int} {ns : List Int} {ws : List (List Int)} (h : okM s t rs = false) : chkI s t rs k ns ws = false := by simp [chkI, h]
theorem chkI_fit {s t : Int} {rs : List Rul} {k : Int} {ns : List Int} {ws : List (List Int)} (h : fitsB (pN ns) s t (lefts ns ws) (rights ns ws) (stated (ns.drop 3) (ctxs ns ws)) = false) : chkI s t rs k ns ws = false := by simp [chkI, h]
theorem ownp_hcp {w : World} {F : Nat → Prop} {A : Option Addr} {n c : Nat} {xss : List (List Int)} (h : OwnP w F A n c xss) {k b off : Nat} {A' : Option Addr} {n' c' : Nat} (hA : A = some ⟨b, off, none⟩) (hk : k < n) (hc : w.cell? ⟨b, off + k, none⟩ = some (.slice A' n' c')) : n' ≤ c' := by
  have hl := h.len
  obtain ⟨us, h1, _, h3, _⟩ := h
  have hr := own_rd h1
  have hu : us.length = n := hr.1
  obtain ⟨u, hu1⟩ := get_some (xs := us) (k := k) (by omega)
  obtain ⟨x, hx⟩ := get_some (xs := xss) (k := k) (by omega)
  obtain ⟨A5, n5, c5, rfl, _, ho, _⟩ := h3.2.1 k u x hu1 hx
  obtain ⟨b2, off2, e2, _, h8⟩ := hr.at_ hu1
  rw [e2] at hA
  injection hA with hA
  injection hA with hb ho2 _
  subst hb
  subst ho2
  have h7 := ownN_cap ho
  rw [hc] at h8
  injection h8 with h8
  injection h8 with h9 h10 h11
  omega
theorem parts_gwC {s t : Int} {n : Nat} {ls ws cs : List (List Int)} {sts : List Int} (hp : PartsP n ls ws sts cs) (hs : s ≤ 6) (ht : t ≤ 1000) (hf : fitB s t ls ws sts cs = true) : ∀ x ∈ stated sts cs, Gw x ∧ x.length = 2 * n + 2 := by
  simp only [fitB, Bool.and_eq_true, List.all_eq_true, decide_eq_true_eq, overB] at hf
  have hn := hp.n1
  intro x hx
  obtain ⟨i, hi, rfl⟩ := (statedN_mem hp.len).1 hx
  have hj : i < sts.length := by rw [hp.len]; exact hi
  have e1 : sts.getD i 0 = sts[i] := by simp [List.getD_eq_getElem?_getD, List.getElem?_eq_getElem hj]
  have e2 : cs.getD i [] = cs[i] := by simp [List.getD_eq_getElem?_getD, List.getElem?_eq_getElem hi]
  rw [e1, e2]
  have hl := hp.lc _ (List.getElem_mem hi)
  have h0 := hp.pos _ (List.getElem_mem hj)
  have h1 := hf.2 _ (List.getElem_mem hj)
  refine ⟨⟨by simp only [List.length_cons]; omega, fun y hy => ?_⟩, by simp only [List.length_cons]; omega⟩
  rcases List.mem_cons.1 hy with rfl | hy
  · unfold SmI; omega
  · have := allIn_true.1 (hf.1.2 _ (List.getElem_mem hi)) y hy
    unfold SmI; omega
theorem csCN_zero2 {k : Int} {ns : List Int} {ws : List (List Int)} (h : csC k ns ws = 0) : okP k ns ws = true := by
  have := csCN_zero (k := k) (ns := ns) (ws := ws)
  simp only [h, decide_true] at this
  exact (Bool.and_eq_true _ _ ▸ this.symm).1
theorem csCN_zero' {k : Int} {ns : List Int} {ws : List (List Int)} (h : csC k ns ws = 0) : csOk k ns ws = true := by
  have := csCN_zero (k := k) (ns := ns) (ws := ws)
  simp only [h, decide_true] at this
  exact (Bool.and_eq_true _ _ ▸ this.symm).2
theorem wrap_k {k m : Nat} (h : k < m) (h2 : m ≤ 300) : wrap64 ((k : Int) + 1) = ((k + 1 : Nat) : Int) := by unfold wrap64; omega
theorem meas_k {k m : Nat} (h : k < m) (h2 : m ≤ 300) : m - (intOf (.int .i64 (wrap64 ((k : Int) + 1)))).toNat < m - (intOf (.int .i64 (k : Int))).toNat := by
  rw [wrap_k h h2]; simp only [intOf]; omega
theorem sep_alloc {w w1 : World} {cs : Array Value} {T e n : Nat} {v : Value} {vs : List Value} (ho : w1.ownsRow (w.alloc (.cells cs T)).heap.size e 1 v n vs) : ¬ Fo v w.heap.size := fun h => by
  have h2 := (ho.lt _ h).1
  have h3 : (w.alloc (.cells cs T)).heap.size = w.heap.size + 1 := by simp
  omega
set_option maxHeartbeats 8000000 in
set_option maxRecDepth 100000 in
theorem implCheckContexts_any (w : World) (s t : Int) (A : Option Addr) (n c : Nat) (rs : List Rul) (hr : Rd w A (n * 3) (ints (flatR rs))) (hn : n ≤ 1099511627776) (k0 : Int) (A1 : Option Addr) (n1 c1 : Nat) (ns : List Int) (hr1 : Rd w A1 n1 (ints ns)) (hn1 : n1 ≤ 1000000000) (hc1 : n1 ≤ c1) (A2 : Option Addr) (n2 c2 : Nat) (ws : List (List Int)) (hr2 : RdL w A2 n2 ws) (hn2 : n2 ≤ 1000000000) (hc2 : n2 ≤ c2) :
    Calls Try.prog 26 #[mchV s t A n c, prfV k0 A1 n1 c1 A2 n2 c2] w (RetV w (.bool (chkI s t rs k0 ns ws))) := by
  obtain ⟨w0, hw0⟩ : ∃ w0, w0 = (w.alloc (.cells #[.int .i64 s, .int .i64 t, .slice A n c] 33)).alloc (.cells #[.int .i64 k0, .slice A1 n1 c1, .slice A2 n2 c2] 47) := ⟨_, rfl⟩
  have hB : Below w.heap.size w w0 := by rw [hw0]; exact (below_new w _).trans ((below_new _ _).mono (by simp))
  have hx0 : BM w0 w.heap.size s t A n c := by rw [hw0]; exact blk_alloc (box_new w _ _) _
  have hx1 : BP w0 (w.heap.size + 1) k0 A1 n1 c1 A2 n2 c2 := by rw [hw0]; have h := box_new (w.alloc (.cells #[.int .i64 s, .int .i64 t, .slice A n c] 33)) #[.int .i64 k0, .slice A1 n1 c1, .slice A2 n2 c2] 47; simpa [BP] using h
  have HM := Lib.hid hx0
  have q := hx1.cells
  have HR := Lib.hid (hr.below hB (Nat.le_refl _)); have HR1 := Lib.hid (hr1.below hB (Nat.le_refl _)); have HR2 := Lib.hid (hr2.below hB (Nat.le_refl _)); have HB := Lib.hid hB
  obtain ⟨q0, q1, q2⟩ := q
  clear hx0 hx1 hr hr1 hr2 hB
  go_enter Try.func26, Try.ntmps26
  go_wp2_with fail
  rw [← hw0]
  clear hw0
  by_cases hc : csC k0 ns ws = 0
  · have HST := setsOf_any w0 k0 A1 n1 c1 ns HR1.out hn1 hc1 A2 n2 c2 ws HR2.out hn2 hc2
    rw [hc] at HST
    replace HST := Lib.hid HST
    have HC := Lib.hid hc
    clear hc
    go_upto_region 2 with (go_at_call 66; refine (HST.out).mono ?_; rintro e w1 ⟨m', B1, m1, d1, B2, m2, d2, B3, m3, d3, rfl, hb, hcode⟩)
    obtain ⟨rfl, F1, F2, F3, ho1, ho2, ho3, hF, h12, h13, h23⟩ := hcode trivial
    obtain ⟨w2, hw2⟩ : ∃ w2, w2 = w1.alloc (.cells #[.int .i64 (pN ns), .slice B1 m1 d1, .slice B2 m2 d2, .slice B3 m3 d3] 103) := ⟨_, rfl⟩
    rw [← hw2]
    have hb2 : Below w1.heap.size w1 w2 := by rw [hw2]; exact below_new w1 _
    have hb02 : Below w0.heap.size w0 w2 := hb.trans (hb2.mono hb.size)
    have hx2 : w2.heap[w1.heap.size]? = some (.cells #[.int .i64 (pN ns), .slice B1 m1 d1, .slice B2 m2 d2, .slice B3 m3 d3] 103 (0, 0)) := by rw [hw2]; exact box_new w1 _ _
    clear hw2
    have HM2 := Lib.hid (HM.out.bel hb02); have HRm := Lib.hid (HR.out.below hb02 (Nat.le_refl _)); have HX2 := Lib.hid hx2
    have HP := Lib.hid (parts_of (csCN_zero' HC.out)); 
    have HO1 := Lib.hid (ho1.below hb2); have HO2 := Lib.hid (ho2.below hb2); have HO3 := Lib.hid (ho3.below hb2)
    have HBB := Lib.hid (HB.out.trans (hb02.mono HB.out.size))
    clear q0 q1 q2 hb hb2 hb02 hx2 ho1 ho2 ho3 hF h12 h13 h23
    have HVM := Lib.hid (fun (w' : World) (h : Below w2.heap.size w2 w') => ValidMachine_any w' s t A n c rs (HRm.out.below h (Nat.le_refl _)) hn)
    have p0 := HM2.out.cells.1
    have p1 := HM2.out.cells.2.1
    have p2 := HM2.out.cells.2.2
    cases hok : okM s t rs with
    | false =>
      have HV : Hid (chkI s t rs k0 ns ws = false) := Lib.hid (chkI_mch hok)
      have HVN := HVM.out
      rw [hok] at HVN
      replace HVM := Lib.hid HVN
      clear HVN hok
      go_wp2_with (go_at_call 67; refine (HVM.out w2 (Below.refl _ _)).mono ?_; rintro e w3 ⟨rfl, hb3⟩)
      go_ret
      exact ⟨by rw [HV.out]; rfl, HBB.out.trans (hb3.mono HBB.out.size)⟩
    | true =>
      have HVN := HVM.out
      rw [hok] at HVN
      replace HVM := Lib.hid HVN
      have HOK := Lib.hid hok
      clear HVN hok
      have HSS : Hid (2 ≤ s ∧ s ≤ 6) := Lib.hid (okM_all HOK.out).1
      have hw3 : ws.length ≤ 300 := (okP_bd (csCN_zero2 HC.out)).2.2.1
      have hm1 : m1 ≤ 300 := by rw [← HO1.out.len]; simp [lefts]; omega
      have hm2 : m2 ≤ 300 := by rw [← HO2.out.len]; simp [rights]; omega
      have hm3 : m3 ≤ 300 := by rw [← HO3.out.len, statedN_len HP.out.len]; simp [ctxs]; omega
      have HX3 : Hid (∀ ys ∈ stated (ns.drop 3) (ctxs ns ws), 1 ≤ ys.length) := Lib.hid (fun ys hy => by obtain ⟨i, hi, rfl⟩ := (statedN_mem HP.out.len).1 hy; simp)
      have HM1 := Lib.hid hm1; have HM3 := Lib.hid hm3; have HMM := Lib.hid hm2
      have HFT := Lib.hid (fun (w' : World) (h : Below w2.heap.size w2 w') => fits_any w' (pN ns) B1 m1 d1 B2 m2 d2 B3 m3 d3 s t A n c HSS.out _ _ _ (HO1.out.below h).rdl (by omega) (HO2.out.below h).rdl (by omega) (HO3.out.below h).rdl (by omega) HX3.out (fun k b off A' n' c' hA hk hc => ownp_hcp (HO3.out.below h) hA hk hc))
      clear hm1 hm2 hm3 hw3
      have x0 := blk_cell HX2.out 0 rfl
      have x1 := blk_cell HX2.out 1 rfl
      have x2 := blk_cell HX2.out 2 rfl
      have x3 := blk_cell HX2.out 3 rfl
      cases hft : fitsB (pN ns) s t (lefts ns ws) (rights ns ws) (stated (ns.drop 3) (ctxs ns ws)) with
      | false =>
        have HV : Hid (chkI s t rs k0 ns ws = false) := Lib.hid (chkI_fit hft)
        have HVN := HFT.out
        rw [hft] at HVN
        replace HFT := Lib.hid HVN
        clear HVN hft
        go_wp2_with (first
          | (go_at_call 67
             refine (HVM.out w2 (Below.refl _ _)).mono ?_
             rintro e w3 ⟨rfl, hb3⟩
             have HB3 := Lib.hid hb3
             replace x0 := blk_cell (blk_bel HX2.out hb3) 0 rfl
             replace x1 := blk_cell (blk_bel HX2.out hb3) 1 rfl
             replace x2 := blk_cell (blk_bel HX2.out hb3) 2 rfl
             replace x3 := blk_cell (blk_bel HX2.out hb3) 3 rfl
             replace p0 := (HM2.out.bel hb3).cells.1
             replace p1 := (HM2.out.bel hb3).cells.2.1
             replace p2 := (HM2.out.bel hb3).cells.2.2
             clear hb3)
          | (go_at_call 68
             refine (HFT.out _ HB3.out).mono ?_
             rintro e w4 ⟨rfl, hb4⟩))
        go_ret
        exact ⟨by rw [HV.out]; rfl, HBB.out.trans ((HB3.out.trans (hb4.mono HB3.out.size)).mono HBB.out.size)⟩
      | true =>
        have HFB : Hid (fitB s t (lefts ns ws) (rights ns ws) (ns.drop 3) (ctxs ns ws) = true) := Lib.hid (by
          have h5 := fits_stated (s := s) (t := t) HP.out
          rw [← h5, show (((pN ns).toNat : Nat) : Int) = pN ns by have := HP.out.n1; omega]
          exact hft)
        have HVN := HFT.out
        rw [hft] at HVN
        replace HFT := Lib.hid HVN
        have HV : Hid (chkI s t rs k0 ns ws = (blankB (pN ns).toNat (lefts ns ws) (rights ns ws) (ns.drop 3) (ctxs ns ws) && (stated (ns.drop 3) (ctxs ns ws)).all (closW s t rs (lefts ns ws) (rights ns ws) (stated (ns.drop 3) (ctxs ns ws))))) := Lib.hid (by
          unfold chkI; rw [HC.out, HOK.out, hft]; rfl)
        clear HVN hft
        go_upto_region 4 with (first
          | (go_at_call 67
             refine (HVM.out w2 (Below.refl _ _)).mono ?_
             rintro e w3 ⟨rfl, hb3⟩
             have HB3 := Lib.hid hb3
             replace x0 := blk_cell (blk_bel HX2.out hb3) 0 rfl
             replace x1 := blk_cell (blk_bel HX2.out hb3) 1 rfl
             replace x2 := blk_cell (blk_bel HX2.out hb3) 2 rfl
             replace x3 := blk_cell (blk_bel HX2.out hb3) 3 rfl
             replace p0 := (HM2.out.bel hb3).cells.1
             replace p1 := (HM2.out.bel hb3).cells.2.1
             replace p2 := (HM2.out.bel hb3).cells.2.2
             clear hb3)
          | (go_at_call 68
             refine (HFT.out _ HB3.out).mono ?_
             rintro e w4 ⟨rfl, hb4⟩))
        as_aux_lemma =>
        have HB4 : Hid (Below w2.heap.size w2 w4) := Lib.hid (HB3.out.trans (hb4.mono HB3.out.size))
        clear hb4 x0 x1 x2 x3 p0 p1 p2
        have HX4 := Lib.hid (blk_bel HX2.out HB4.out); have HM4 := Lib.hid (HM2.out.bel HB4.out)
        have HO14 := Lib.hid (HO1.out.below HB4.out); have HO24 := Lib.hid (HO2.out.below HB4.out); have HO34 := Lib.hid (HO3.out.below HB4.out)
        have HR4 := Lib.hid (HRm.out.below HB4.out (Nat.le_refl _))
        have HBW := Lib.hid (HBB.out.trans (HB4.out.mono HBB.out.size))
        have HGS := Lib.hid (parts_gw HP.out HSS.out.2 HFB.out)
        have HGC := Lib.hid (parts_gwC HP.out HSS.out.2 (okM_all HOK.out).2.1.2 HFB.out)
        have HSA : Hid (∀ (wx : World), Below w4.heap.size w4 wx → Calls Try.prog 59 #[.int .i64 (pN ns), .slice B1 m1 d1] wx (fun e w' => ∃ g mB, e = .returned (.pointer (some ⟨g, 0, none⟩)) ∧ IsSet w' g mB (pN ns) (lefts ns ws) ∧ wx.heap.size ≤ g ∧ wx.heap.size ≤ mB ∧ Below wx.heap.size wx w')) := Lib.hid (fun wx hbx => setOf_any wx (pN ns) B1 m1 d1 _ (HO14.out.below hbx).rdl (Nat.le_trans HM1.out (by omega)) (fun ys hy => (HGS.out.1 ys hy).1))
        have HSB : Hid (∀ (wx : World), Below w4.heap.size w4 wx → Calls Try.prog 59 #[.int .i64 (pN ns), .slice B2 m2 d2] wx (fun e w' => ∃ g mB, e = .returned (.pointer (some ⟨g, 0, none⟩)) ∧ IsSet w' g mB (pN ns) (rights ns ws) ∧ wx.heap.size ≤ g ∧ wx.heap.size ≤ mB ∧ Below wx.heap.size wx w')) := Lib.hid (fun wx hbx => setOf_any wx (pN ns) B2 m2 d2 _ (HO24.out.below hbx).rdl (Nat.le_trans HMM.out (by omega)) (fun ys hy => (HGS.out.2 ys hy).1))
        have HSC : Hid (∀ (wx : World), Below w4.heap.size w4 wx → Calls Try.prog 59 #[.int .i64 (2 * pN ns + 2), .slice B3 m3 d3] wx (fun e w' => ∃ g mB, e = .returned (.pointer (some ⟨g, 0, none⟩)) ∧ IsSet w' g mB (2 * pN ns + 2) (stated (ns.drop 3) (ctxs ns ws)) ∧ wx.heap.size ≤ g ∧ wx.heap.size ≤ mB ∧ Below wx.heap.size wx w')) := Lib.hid (fun wx hbx => setOf_any wx (2 * pN ns + 2) B3 m3 d3 _ (HO34.out.below hbx).rdl (Nat.le_trans HM3.out (by omega)) (fun ys hy => (HGC.out ys hy).1))
        have HRF : Hid (Below w4.heap.size w4 w4) := Lib.hid (Below.refl _ _)
        have HRD : Hid (Below w4.heap.size w4 w4.drew) := Lib.hid (below_drewN (n := 1) (Below.refl _ _))
        have x0 := blk_cell HX4.out 0 rfl
        have x1 := blk_cell HX4.out 1 rfl
        have x2 := blk_cell HX4.out 2 rfl
        have x3 := blk_cell HX4.out 3 rfl
        have hpn : 1 ≤ pN ns ∧ pN ns ≤ 4 := by have := HP.out.n1; omega
        have HPN := Lib.hid hpn
        have e1 : IntKind.i64.wrap (2 * pN ns) = 2 * pN ns := IntWalk.i64_in _ (by omega)
        have e2 : IntKind.i64.wrap (2 * pN ns + 2) = 2 * pN ns + 2 := IntWalk.i64_in _ (by omega)
        clear hpn
        as_aux_lemma =>
        (first | (go_region_held3 (fun w' => w'.cell? ⟨w1.heap.size, 0, none⟩ = some (.int .i64 (pN ns)) ∧ w'.cell? ⟨w1.heap.size, 1, none⟩ = some (.slice B1 m1 d1) ∧ w'.cell? ⟨w1.heap.size, 2, none⟩ = some (.slice B2 m2 d2) ∧ w'.cell? ⟨w1.heap.size, 3, none⟩ = some (.slice B3 m3 d3)) (exact ⟨by assumption, by assumption, by assumption, by assumption⟩) (first
            | (have hq := HSR.out
               clear hq
               go_simp
               go_at_call 59
               with_reducible refine (HSC.out _ HB10.out).mono ?_
               rintro e w11 ⟨gc, mc, rfl, hsc, _, _, hb11⟩
               have HSX := Lib.hid hsc
               have HSL3 := Lib.hid (HSL2.out.below hb11)
               have HSR3 := Lib.hid (HSR.out.below hb11)
               have HB11 := Lib.hid (HB10.out.trans (hb11.mono HB10.out.size))
               have y11 := blk_bel HX4.out HB11.out
               have x0 := blk_cell y11 0 rfl
               have x1 := blk_cell y11 1 rfl
               have x2 := blk_cell y11 2 rfl
               have x3 := blk_cell y11 3 rfl
               clear hsc hb11 y11)
            | (have hq := HSL.out
               clear hq
               go_simp
               go_at_call 59
               with_reducible refine (HSB.out _ HB9.out).mono ?_
               rintro e w10 ⟨gr, mr, rfl, hsr, _, _, hb10⟩
               have HSR := Lib.hid hsr
               have HSL2 := Lib.hid (HSL.out.below hb10)
               have HB10 := Lib.hid (HB9.out.trans (hb10.mono HB9.out.size))
               have y10 := blk_bel HX4.out HB10.out
               have x0 := blk_cell y10 0 rfl
               have x1 := blk_cell y10 1 rfl
               have x2 := blk_cell y10 2 rfl
               have x3 := blk_cell y10 3 rfl
               clear hsr hb10 y10)
            | (go_simp
               go_at_call 59
               with_reducible refine (HSA.out _ (by first | exact HRF.out | exact HRD.out)).mono ?_
               rintro e w9 ⟨gl, ml, rfl, hsl, _, _, hb9⟩
               (try replace hb9 := und1 hb9)
               have HSL := Lib.hid hsl
               have HB9 : Hid (Below w4.heap.size w4 w9) := Lib.hid hb9
               have y9 := blk_bel HX4.out HB9.out
               have x0 := blk_cell y9 0 rfl
               have x1 := blk_cell y9 1 rfl
               have x2 := blk_cell y9 2 rfl
               have x3 := blk_cell y9 3 rfl
               clear hsl hb9 y9))) | fail)
        all_goals
        as_aux_lemma =>
        have HE1 := Lib.hid e1; have HE2 := Lib.hid e2
        clear e1 e2
        obtain ⟨P, hP⟩ : ∃ P, P = (pN ns).toNat := ⟨_, rfl⟩
        have hpp := HPN.out
        have hPI : pN ns = (P : Int) := by omega
        have hP4 : P ≤ 4 := by omega
        clear hpp
        have HPI := Lib.hid hPI; have HPT := Lib.hid hP
        have HBL : Hid (blankB (pN ns).toNat (lefts ns ws) (rights ns ws) (ns.drop 3) (ctxs ns ws) = (decide (List.replicate P (0 : Int) ∈ lefts ns ws) && decide (List.replicate P (0 : Int) ∈ rights ns ws) && decide (List.replicate (2 * P + 2) (0 : Int) ∈ stated (ns.drop 3) (ctxs ns ws)))) := Lib.hid (by unfold blankB; rw [← hP, show List.replicate (2 * P + 2) (0 : Int) = 0 :: List.replicate (2 * P + 1) 0 from rfl])
        obtain ⟨N, hN⟩ : ∃ N, N = 2 * P + 2 := ⟨_, rfl⟩
        rw [← hN] at HBL
        have hN1 : N ≤ 100000 := by omega
        have hPN : P ≤ N := by omega
        have hmk : ∀ w, (Instr.makeSlice 25 (.int .i64 (2 * pN ns + 2)) (.int .i64 (2 * pN ns + 2))).run Try.prog w = .ok (.slice (some ⟨w.heap.size, 0, none⟩) N N) (w.alloc (.cells (madeCells #[.int .i64 0] N) 2)) := fun w => by
          have h := run_mk1 N hN1 w
          have e : (N : Int) = 2 * pN ns + 2 := by omega
          rwa [e] at h
        have HRZ := Lib.hid (rd_made N hN1 w11)
        obtain ⟨w12, hw12⟩ : ∃ w12, w12 = w11.alloc (.cells (madeCells #[.int .i64 0] N) 2) := ⟨_, rfl⟩
        have hb : Below w11.heap.size w11 w12 := by rw [hw12]; exact below_new _ _
        rw [← hw12] at HRZ
        have HGZ : Hid (Gw (List.replicate P (0 : Int)) ∧ Gw (List.replicate N (0 : Int))) := Lib.hid ⟨⟨by simp; omega, fun x hx => by rw [List.eq_of_mem_replicate hx]; unfold SmI; omega⟩, ⟨by simp; omega, fun x hx => by rw [List.eq_of_mem_replicate hx]; unfold SmI; omega⟩⟩
        have HNP := Lib.hid hN
        have hcut := fun (w0 : World) => run_cutTo Try.underlying25 Try.szI w0 (some ⟨w11.heap.size, 0, none⟩) N N P (pN ns) .i64 hPI hPN
        have HRP : Hid (Rd w12 (some ⟨w11.heap.size, 0, none⟩) P (ints (List.replicate P 0))) := Lib.hid (by have h := Rd.take HRZ.out P hPN; simpa [ints, Nat.min_eq_left hPN] using h)
        have HPNN := Lib.hid hPN
        clear hN hPI hP
        have e1 := HE1.out; have e2 := HE2.out
        go_upto_region 6 with fail
        clear e1 e2
        rw [← hw12]
        have HB12 := Lib.hid (HB11.out.trans (hb.mono HB11.out.size))
        have HSL4 := Lib.hid (HSL3.out.below hb); have HSR4 := Lib.hid (HSR3.out.below hb); have HSX4 := Lib.hid (HSX.out.below hb)
        clear hb hw12 hmk x0 x1 x2 x3
        have HX12 := Lib.hid (blk_bel HX4.out HB12.out)
        have x0 := blk_cell HX12.out 0 rfl
        have HBX := Lib.hid (HBW.out.trans (HB12.out.mono HBW.out.size))
        have HR12 : Hid (Below w12.heap.size w12 w12) := Lib.hid (Below.refl _ _)
        have HQ1 : Hid (∀ (wx : World), Below w12.heap.size w12 wx → Calls Try.prog 69 #[.pointer (some ⟨gl, 0, none⟩), .slice (some ⟨w11.heap.size, 0, none⟩) P N] wx (RetV wx (.bool (decide (List.replicate P (0 : Int) ∈ lefts ns ws))))) := Lib.hid (fun wx hbx => has_any wx gl ml _ _ (HSL4.out.below hbx) _ P N _ (HRP.out.below hbx (Nat.le_refl _)) HGZ.out.1 (fun ys hy => ⟨(HGS.out.1 ys hy).1, by rw [(HGS.out.1 ys hy).2, List.length_replicate, HPT.out]⟩))
        have HQ2 : Hid (∀ (wx : World), Below w12.heap.size w12 wx → Calls Try.prog 69 #[.pointer (some ⟨gr, 0, none⟩), .slice (some ⟨w11.heap.size, 0, none⟩) P N] wx (RetV wx (.bool (decide (List.replicate P (0 : Int) ∈ rights ns ws))))) := Lib.hid (fun wx hbx => has_any wx gr mr _ _ (HSR4.out.below hbx) _ P N _ (HRP.out.below hbx (Nat.le_refl _)) HGZ.out.1 (fun ys hy => ⟨(HGS.out.2 ys hy).1, by rw [(HGS.out.2 ys hy).2, List.length_replicate, HPT.out]⟩))
        have HQ3 : Hid (∀ (wx : World), Below w12.heap.size w12 wx → Calls Try.prog 69 #[.pointer (some ⟨gc, 0, none⟩), .slice (some ⟨w11.heap.size, 0, none⟩) N N] wx (RetV wx (.bool (decide (List.replicate N (0 : Int) ∈ stated (ns.drop 3) (ctxs ns ws)))))) := Lib.hid (fun wx hbx => has_any wx gc mc _ _ (HSX4.out.below hbx) _ N N _ (HRZ.out.below hbx (Nat.le_refl _)) HGZ.out.2 (fun ys hy => ⟨(HGC.out ys hy).1, by rw [(HGC.out ys hy).2, List.length_replicate, HNP.out, HPT.out]⟩))
        have HRD12 : Hid (Below w12.heap.size w12 w12.drew) := Lib.hid (below_drewN (n := 1) (Below.refl _ _))
        cases hz1 : decide (List.replicate P (0 : Int) ∈ lefts ns ws) with
        | false =>
          have hq := HQ1.out
          rw [hz1] at hq
          replace HQ1 := Lib.hid hq
          clear hq
          have HVF : Hid (chkI s t rs k0 ns ws = false) := Lib.hid (by rw [HV.out, HBL.out, hz1]; simp)
          clear hz1
          as_aux_lemma =>
          go_wp2_with (first
            | (go_at_call 69
               with_reducible refine (HQ1.out _ HR12.out).mono ?_
               rintro e w13 ⟨rfl, hb13⟩
               have HB13 := Lib.hid hb13
               have x0 := blk_cell (blk_bel HX12.out HB13.out) 0 rfl
               clear hb13))
          go_ret
          exact ⟨by rw [HVF.out]; rfl, HBX.out.trans (HB13.out.mono HBX.out.size)⟩
        | true =>
          have hq := HQ1.out
          rw [hz1] at hq
          replace HQ1 := Lib.hid hq
          clear hq
          have Z1 := Lib.hid hz1
          clear hz1
          cases hz2 : decide (List.replicate P (0 : Int) ∈ rights ns ws) with
          | false =>
          have hq := HQ2.out
          rw [hz2] at hq
          replace HQ2 := Lib.hid hq
          clear hq
          have HVF : Hid (chkI s t rs k0 ns ws = false) := Lib.hid (by rw [HV.out, HBL.out, Z1.out, hz2]; simp)
          clear hz2
          as_aux_lemma =>
          go_wp2_with (first
            | (have hq := HB13.out
               clear hq
               go_at_call 69
               with_reducible refine (HQ2.out _ HB13.out).mono ?_
               rintro e w14 ⟨rfl, hb14⟩
               have HB14 := Lib.hid (HB13.out.trans (hb14.mono HB13.out.size))
               clear hb14)
            | (go_at_call 69
               with_reducible refine (HQ1.out _ HR12.out).mono ?_
               rintro e w13 ⟨rfl, hb13⟩
               have HB13 := Lib.hid hb13
               have x0 := blk_cell (blk_bel HX12.out HB13.out) 0 rfl
               clear hb13))
          go_ret
          exact ⟨by rw [HVF.out]; rfl, HBX.out.trans (HB14.out.mono HBX.out.size)⟩
          | true =>
          have hq := HQ2.out
          rw [hz2] at hq
          replace HQ2 := Lib.hid hq
          clear hq
          have Z2 := Lib.hid hz2
          clear hz2
          cases hz3 : decide (List.replicate N (0 : Int) ∈ stated (ns.drop 3) (ctxs ns ws)) with
          | false =>
          have hq := HQ3.out
          rw [hz3] at hq
          replace HQ3 := Lib.hid hq
          clear hq
          have HVF : Hid (chkI s t rs k0 ns ws = false) := Lib.hid (by rw [HV.out, HBL.out, Z1.out, Z2.out, hz3]; simp)
          clear hz3
          as_aux_lemma =>
          go_wp2_with (first
            | (have hq := HB14.out
               clear hq
               go_at_call 69
               with_reducible refine (HQ3.out _ HB14.out).mono ?_
               rintro e w15 ⟨rfl, hb15⟩
               have HB15 := Lib.hid (HB14.out.trans (hb15.mono HB14.out.size))
               clear hb15)
            | (have hq := HB13.out
               clear hq
               go_at_call 69
               with_reducible refine (HQ2.out _ HB13.out).mono ?_
               rintro e w14 ⟨rfl, hb14⟩
               have HB14 := Lib.hid (HB13.out.trans (hb14.mono HB13.out.size))
               clear hb14)
            | (go_at_call 69
               with_reducible refine (HQ1.out _ HR12.out).mono ?_
               rintro e w13 ⟨rfl, hb13⟩
               have HB13 := Lib.hid hb13
               have x0 := blk_cell (blk_bel HX12.out HB13.out) 0 rfl
               clear hb13))
          go_ret
          exact ⟨by rw [HVF.out]; rfl, HBX.out.trans (HB15.out.mono HBX.out.size)⟩
          | true =>
          have hq := HQ3.out
          rw [hz3] at hq
          replace HQ3 := Lib.hid hq
          clear hq
          have HVA : Hid (chkI s t rs k0 ns ws = (stated (ns.drop 3) (ctxs ns ws)).all (closW s t rs (lefts ns ws) (rights ns ws) (stated (ns.drop 3) (ctxs ns ws)))) := Lib.hid (by rw [HV.out, HBL.out, Z1.out, Z2.out, hz3]; simp)
          clear hz3
          as_aux_lemma =>
          go_wp2_with (first
            | (have hq := HB14.out
               clear hq
               go_at_call 69
               with_reducible refine (HQ3.out _ HB14.out).mono ?_
               rintro e w15 ⟨rfl, hb15⟩
               have HB15 := Lib.hid (HB14.out.trans (hb15.mono HB14.out.size))
               have x3 := blk_cell (blk_bel HX12.out HB15.out) 3 rfl
               clear hb15)
            | (have hq := HB13.out
               clear hq
               go_at_call 69
               with_reducible refine (HQ2.out _ HB13.out).mono ?_
               rintro e w14 ⟨rfl, hb14⟩
               have HB14 := Lib.hid (HB13.out.trans (hb14.mono HB13.out.size))
               clear hb14)
            | (go_at_call 69
               with_reducible refine (HQ1.out _ HR12.out).mono ?_
               rintro e w13 ⟨rfl, hb13⟩
               have HB13 := Lib.hid hb13
               have x0 := blk_cell (blk_bel HX12.out HB13.out) 0 rfl
               clear hb13))
          as_aux_lemma =>
          have HB415 : Hid (Below w4.heap.size w4 w15) := Lib.hid (HB12.out.trans (HB15.out.mono HB12.out.size))
          have HBY : Hid (Below w.heap.size w w15) := Lib.hid (HBW.out.trans (HB415.out.mono HBW.out.size))
          have HM15 := Lib.hid (HM4.out.bel HB415.out)
          have HR15 := Lib.hid (HR4.out.below HB415.out (Nat.le_refl _))
          have HO15 := Lib.hid (HO34.out.below HB415.out)
          have HSL5 := Lib.hid (HSL4.out.below HB15.out); have HSR5 := Lib.hid (HSR4.out.below HB15.out); have HSX5 := Lib.hid (HSX4.out.below HB15.out)
          have HCL : Hid ((stated (ns.drop 3) (ctxs ns ws)).length = m3) := Lib.hid HO15.out.rdl.len
          clear x0 x3 HR4 HO34 HM4
          go_loopw [81] (fun q wr => ∃ k : Nat, k ≤ m3 ∧ q = .int .i64 k ∧ Hid (((stated (ns.drop 3) (ctxs ns ws)).take k).all (closW s t rs (lefts ns ws) (rights ns ws) (stated (ns.drop 3) (ctxs ns ws))) = true) ∧ Below w15.heap.size w15 wr) (fun q _ => m3 - (intOf q).toNat)
          case atStart => exact ⟨0, Nat.zero_le _, rfl, Lib.hid (by simp), Below.refl _ _⟩
          case round =>
            as_aux_lemma =>
            obtain ⟨k, hk, rfl, HK, hb⟩ := hrel
            have HB := Lib.hid hb
            have HBR := Lib.hid (HBY.out.trans (hb.mono HBY.out.size))
            by_cases hlt : k < m3
            · obtain ⟨x, hx⟩ := get_some (xs := (stated (ns.drop 3) (ctxs ns ws))) (k := k) (by rw [HCL.out]; exact hlt)
              have HX := Lib.hid hx
              have HLTK := Lib.hid hlt
              obtain ⟨st, y, rfl, hz, hyl⟩ := stated_ctx HP.out HOK.out HFB.out hx
              rw [← HPT.out] at hyl
              have HZ := Lib.hid hz; have HYL := Lib.hid hyl
              obtain ⟨b3, o3, A5, n5, c5, e3, hl3, hc3, hn5, hr5⟩ := (HO15.out.rdl.below hb (Nat.le_refl _)).at_ hx
              have hcap : n5 ≤ c5 := ownp_hcp (HO15.out.below hb) e3 hlt hc3
              have hlen : n5 = 2 * P + 2 := by have h1 := hr5.1; simp at h1; omega
              obtain ⟨b5, o5, e5, hb5, q5⟩ := hr5.at_ (ints_get (xs := st :: y) (k := 0) (x := st) rfl)
              simp only [Nat.add_zero] at q5
              subst e3 e5
              have hcf := fun (w : World) => run_cutF Try.underlying25 Try.szI w (some ⟨b5, o5, none⟩) n5 c5 1 1 .i64 (by rfl) (by omega)
              have hrt : Rd wr (cutA (some ⟨b5, o5, none⟩) 1 c5 1) (n5 - 1) (ints y) := by have h := hr5.cut 1 c5 (by omega) hcap; simpa using h
              have hcap2 : n5 - 1 ≤ c5 - 1 := by omega
              generalize cutA (some ⟨b5, o5, none⟩) 1 c5 1 = AT at *
              obtain ⟨n6, hn6⟩ : ∃ n6, n6 = n5 - 1 := ⟨_, rfl⟩
              obtain ⟨c6, hc6⟩ : ∃ c6, c6 = c5 - 1 := ⟨_, rfl⟩
              rw [← hn6, ← hc6] at hcf
              rw [← hn6] at hrt
              rw [← hn6, ← hc6] at hcap2
              have hz0 : (0 : Int) < (n5 : Int) := by omega
              have hz1 : 0 < n5 := by omega
              have HN6 : Hid (n6 = 2 * P + 1) := Lib.hid (by omega)
              have HRT := Lib.hid hrt; have HCP2 := Lib.hid hcap2
              obtain ⟨⟨ra, mv, rc⟩, hru⟩ : ∃ r : Rul, r = ruleOf s rs st y := ⟨_, rfl⟩
              have HRX := Lib.hid hru
              obtain ⟨bo, hbo⟩ : ∃ b, b = isR ⟨ra, mv, rc⟩ := ⟨_, rfl⟩
              have HBO := Lib.hid hbo
              have HRM := Lib.hid (HR15.out.below hb (Nat.le_refl _))
              have HLO : Hid (∀ wx : World, Below wr.heap.size wr wx → Calls Try.prog 57 #[mchV s t A n c, .int .i64 st, .slice AT n6 c6] wx (fun e w' => ∃ A7 n7 c7, e = .returned (.tuple #[.agg #[.int .i64 ra, .int .i64 mv, .int .i64 rc], .slice A7 n7 c7, .bool bo]) ∧ w'.ownsRow wx.heap.size 2 1 (.slice A7 n7 c7) n7 (ints (if bo then lostOf ⟨ra, mv, rc⟩ y else [])) ∧ Below wx.heap.size wx w')) := Lib.hid (fun wx hbx => by
                have h := lost_any wx s t A n c rs (HRM.out.below hbx (Nat.le_refl _)) hn st AT n6 c6 y (HRT.out.below hbx (Nat.le_refl _)) HCP2.out HZ.out
                rw [← HRX.out] at h
                unfold LosP at h
                rw [← HBO.out] at h
                exact h)
              have hmb := HM15.out.bel hb
              have HMB := Lib.hid hmb
              have m0 := blk_cell hmb 0 rfl
              have m1 := blk_cell hmb 1 rfl
              have m2 := blk_cell hmb 2 rfl
              have ZZ := Lib.hid (box_new wr #[.int .i64 0, .int .i64 0, .int .i64 0] 82)
              have hma := blk_alloc hmb (.cells #[.int .i64 0, .int .i64 0, .int .i64 0] 82)
              have m0' := blk_cell hma 0 rfl
              have m1' := blk_cell hma 1 rfl
              have m2' := blk_cell hma 2 rfl
              have q5' := ((below_new wr (.cells #[.int .i64 0, .int .i64 0, .int .i64 0] 82)).cell (p := ⟨b5, o5, none⟩) hb5).trans q5
              have hml := blk_lt hmb
              have HQ5 := Lib.hid q5
              have hc3' := hc3
              clear hx hz hyl hr5 hrt hru hbo hn6 hc6 hn5 hcap hcap2 hl3 hmb hma hb hlen
              go_upto_region 11 with fail
              go_cut [13, 14, 15] from 85 to 95 (fun s13 s14 s15 wx => ∃ (g6 : Nat) (A7 : Option Addr) (n7 c7 : Nat), s13 = .pointer (some ⟨g6, 0, none⟩) ∧ s14 = .slice A7 n7 c7 ∧ s15 = .bool bo ∧ wx.heap[g6]? = some (.cells #[.int .i64 ra, .int .i64 mv, .int .i64 rc] 82 (0, 0)) ∧ wx.ownsRow 0 2 1 (.slice A7 n7 c7) n7 (ints (if bo then lostOf ⟨ra, mv, rc⟩ y else [])) ∧ wr.heap.size ≤ g6 ∧ Below wr.heap.size wr wx)
              case first =>
                as_aux_lemma =>
                (first | (go_region_held3 (fun w' => w'.cell? ⟨w.heap.size, 0, none⟩ = some (.int .i64 s) ∧ w'.cell? ⟨w.heap.size, 1, none⟩ = some (.int .i64 t) ∧ w'.cell? ⟨w.heap.size, 2, none⟩ = some (.slice A n c) ∧ w'.cell? ⟨b5, o5, none⟩ = some (.int .i64 st)) (first | exact ⟨by assumption, by assumption, by assumption, by assumption⟩ | (refine ⟨?_, ?_, ?_, ?_⟩ <;> (repeat (refine cell_far ?_ (by omega))) <;> assumption) | go_keep) (first
                  | (go_at_call 57
                     refine (HLO.out _ (by first | exact Below.refl _ _ | exact below_new _ _ | exact below_drew1 (Below.refl _ _) | exact below_drew1 (below_new _ _))).mono ?_
                     rintro e w1 ⟨A7, n7, c7, rfl, ho7, hb1⟩
                     (try replace hb1 := und1 hb1)
                     have HO7 : Hid (w1.ownsRow 0 2 1 (.slice A7 n7 c7) n7 (ints (if bo then lostOf ⟨ra, mv, rc⟩ y else []))) := Lib.hid (ownN_base ho7 (Nat.zero_le _))
                     have HO7L : Hid (∀ q, Fo (.slice A7 n7 c7) q → wr.heap.size ≤ q ∧ q < w1.heap.size) := Lib.hid (fun q hq => by have h := ho7.lt q hq; simp at h; omega)
                     have HO7N : Hid (∀ q, Fo (.slice A7 n7 c7) q → q ≠ wr.heap.size ∨ True) := Lib.hid (fun _ _ => .inr trivial)
                     have HB1 : Hid (Below wr.heap.size wr w1) := Lib.hid (by first | exact hb1 | exact (below_new _ _).trans (hb1.mono (by simp)))
                     (try (have hxz := blk_bel ZZ.out hb1; have y0 := blk_cell hxz 0 rfl; have y1 := blk_cell hxz 1 rfl; have y2 := blk_cell hxz 2 rfl; have f0 := blk_free hxz 0; have f1 := blk_free hxz 1; have f2 := blk_free hxz 2))
                     (try (have HSEP : Hid (¬ Fo (.slice A7 n7 c7) wr.heap.size) := Lib.hid (sep_alloc (cs := #[.int .i64 0, .int .i64 0, .int .i64 0]) (T := 82) (w := wr) ho7)))
                     have z1 := blk_bel HMB.out HB1.out
                     have m0 := blk_cell z1 0 rfl
                     have m1 := blk_cell z1 1 rfl
                     have m2 := blk_cell z1 2 rfl
                     have q5 := (HB1.out.cell (p := ⟨b5, o5, none⟩) hb5).trans HQ5.out
                     have hsz1 : wr.heap.size ≤ w1.heap.size := HB1.out.size
                     clear z1 ho7))) | fail)
                all_goals
                  go_wp2_with fail
                  go_meet
                  exact ⟨_, A7, n7, c7, rfl, rfl, rfl, (by first | exact box_new _ _ _ | simpa using blk_set (blk_set (blk_set hxz 0 _) 1 _) 2 _), (by first | exact ownN_below HO7.out (below_new _ _) (Nat.le_refl _) | exact own_set3 HO7.out HSEP.out), (by first | exact Nat.le_refl _ | exact hsz1), (by first | exact HB1.out.alloc HB1.out.size _ | exact ((HB1.out.setCell (Nat.le_refl _) _).setCell (Nat.le_refl _) _).setCell (Nat.le_refl _) _ | exact below_drew1 (HB1.out.alloc HB1.out.size _) | exact below_drew1 (((HB1.out.setCell (Nat.le_refl _) _).setCell (Nat.le_refl _) _).setCell (Nat.le_refl _) _))⟩
              case rest =>
                as_aux_lemma =>
                obtain ⟨g6, A7, n7, c7, rfl, rfl, rfl, hx6, ho7, hg6, hbc⟩ := hcut
                obtain ⟨w2, rfl⟩ : ∃ v, v = wc := ⟨_, rfl⟩
                have HB152 : Hid (Below w15.heap.size w15 w2) := Lib.hid (HB.out.trans (hbc.mono HB.out.size))
                have HB2 : Hid (Below w.heap.size w w2) := Lib.hid (HBR.out.trans (hbc.mono HBR.out.size))
                have HX6 := Lib.hid hx6; have HO7 := Lib.hid ho7
                have HMB2 := Lib.hid (HMB.out.bel hbc)
                have HRT2 := Lib.hid (HRT.out.below hbc (Nat.le_refl _))
                have HRF2 : Hid (Below w2.heap.size w2 w2) := Lib.hid (Below.refl _ _)
                have z1 := blk_cell hx6 1 rfl
                have z0 := blk_cell hx6 0 rfl
                have z2 := blk_cell hx6 2 rfl
                clear hx6 ho7 hbc hg6 m0 m1 m2 m0' m1' m2' q5 q5'
                cases bo with
                | false =>
                  as_aux_lemma =>
                  have HVF : Hid (chkI s t rs k0 ns ws = false) := Lib.hid (by rw [HVA.out]; exact all_out HX.out (closW_no HRX.out HBO.out.symm))
                  go_wp2_with fail
                  go_ret
                  exact ⟨by rw [HVF.out]; rfl, HB2.out⟩
                | true =>
                  as_aux_lemma =>
                  have hmv := isR_mv HZ.out (by rw [← HRX.out]; exact HBO.out.symm)
                  rw [← HRX.out] at hmv
                  simp only at hmv
                  rcases hmv with rfl | rfl
                  · as_aux_lemma =>
                    have HMV : Hid ((1 : Int) = 1 ∨ (1 : Int) = -1) := Lib.hid (by decide)
                    obtain ⟨bl, hbl⟩ : ∃ bl, bl = decide (lostOf ⟨ra, 1, rc⟩ y ∈ (lefts ns ws)) := ⟨_, rfl⟩
                    have HBL2 := Lib.hid hbl
                    have HLL : Hid ((lostOf ⟨ra, 1, rc⟩ y).length = P ∧ Gw (lostOf ⟨ra, 1, rc⟩ y)) := Lib.hid (by
                      have h1 := HYL.out
                      have h2 := ctx_sm HZ.out
                      have h3 := HPN.out; have h4 := HPI.out
                      have hl : (lostOf ⟨ra, 1, rc⟩ y).length = P := by
                        unfold lostOf
                        split
                        · simp only [List.length_take]; omega
                        · simp only [List.length_drop]; omega
                      refine ⟨hl, by omega, fun z hzz => ?_⟩
                      unfold lostOf at hzz
                      split at hzz
                      · exact h2 z (List.mem_of_mem_take hzz)
                      · exact h2 z (List.mem_of_mem_drop hzz))
                    have HRW : Hid (Rd w2 A7 n7 (ints (lostOf ⟨ra, 1, rc⟩ y))) := Lib.hid (own_rd HO7.out)
                    have HHS : Hid (∀ (wx : World), Below w2.heap.size w2 wx → Calls Try.prog 69 #[.pointer (some ⟨gl, 0, none⟩), .slice A7 n7 c7] wx (RetV wx (.bool bl))) := Lib.hid (fun wx hbx => by
                      rw [HBL2.out]
                      exact has_any wx gl ml _ _ ((HSL5.out.below HB152.out).below hbx) A7 n7 c7 _ (HRW.out.below hbx (Nat.le_refl _)) HLL.out.2 (fun ys hy => ⟨(HGS.out.1 ys hy).1, by rw [(HGS.out.1 ys hy).2, HLL.out.1, HPT.out]⟩))
                    clear hbl
                    have e1 : (((1 : Int)) == 1) = true := by decide
                    have e2 : (((1 : Int)) == -1) = false := by decide
                    cases bl with
                    | false =>
                      as_aux_lemma =>
                      have HVF : Hid (chkI s t rs k0 ns ws = false) := Lib.hid (by
                        rw [HVA.out]
                        refine all_out HX.out (closW_out HRX.out ?_)
                        show ¬ lostOf ⟨ra, 1, rc⟩ y ∈ (if (1 : Int) = 1 then _ else _)
                        rw [if_pos rfl]
                        exact of_decide_eq_false HBL2.out.symm)
                      go_wp2_with (go_at_call 69
                                   with_reducible refine (HHS.out _ HRF2.out).mono ?_
                                   rintro e w5 ⟨rfl, hb5x⟩
                                   have x5 := blk_bel HX6.out hb5x
                                   have z1 := blk_cell x5 1 rfl)
                      go_ret
                      exact ⟨by rw [HVF.out]; rfl, HB2.out.trans (hb5x.mono HB2.out.size)⟩
                    | true =>
                      as_aux_lemma =>
                      have HIN : Hid (lostOf ⟨ra, 1, rc⟩ y ∈ (if (1 : Int) = 1 then (lefts ns ws) else (rights ns ws))) := Lib.hid (by rw [if_pos rfl]; exact of_decide_eq_true HBL2.out.symm)
                      obtain ⟨sn, hsn⟩ := Int.eq_ofNat_of_zero_le (show 0 ≤ s by have := HSS.out; omega)
                      subst hsn
                      have HS6 : Hid (sn ≤ 6) := Lib.hid (by have := HSS.out; omega)
                      have HISR : Hid (isR ⟨ra, 1, rc⟩ = true) := Lib.hid HBO.out.symm
                      have HNL : Hid ((nextsOf sn ⟨ra, 1, rc⟩ y (lefts ns ws) (rights ns ws)).length ≤ 6) := Lib.hid (Nat.le_trans (nexts_len _ _ _ _ _) HS6.out)
                      have HP4 : Hid (1 ≤ P ∧ P ≤ 4) := Lib.hid (by have h3 := HPN.out; have h4 := HPI.out; omega)
                      have HNG : Hid (∀ z ∈ nextsOf sn ⟨ra, 1, rc⟩ y (lefts ns ws) (rights ns ws), z.length = 2 * P + 1 ∧ ∀ q ∈ z, SmI q) := Lib.hid (by
                        have h := nexts_gw (ls := lefts ns ws) (ws := rights ns ws) HS6.out HZ.out HYL.out HP4.out (by rw [← HRX.out]; exact HISR.out)
                        rw [← HRX.out] at h
                        exact h)
                      have HRC : Hid (SmI rc) := Lib.hid (by have h := (rule_bd HZ.out).2; rw [← HRX.out] at h; simp only at h; unfold SmI; omega)
                      obtain ⟨bc, hbc2⟩ : ∃ bc, bc = (nextsOf sn ⟨ra, 1, rc⟩ y (lefts ns ws) (rights ns ws)).all (fun z => decide ((rc :: z) ∈ (stated (ns.drop 3) (ctxs ns ws)))) := ⟨_, rfl⟩
                      have HBC2 := Lib.hid hbc2
                      have HCW : Hid (closW (sn : Int) t rs (lefts ns ws) (rights ns ws) (stated (ns.drop 3) (ctxs ns ws)) (st :: y) = bc) := Lib.hid (by
                        rw [closW_eq HRX.out HISR.out HIN.out, hbc2, Int.toNat_natCast])
                      clear hbc2
                      go_upto_region 14 with (go_at_call 69
                                              with_reducible refine (HHS.out _ HRF2.out).mono ?_
                                              rintro e w5 ⟨rfl, hb5x⟩
                                              have x5 := blk_bel HX6.out hb5x
                                              have z1 := blk_cell x5 1 rfl)
                      as_aux_lemma =>
                      have HB25 := Lib.hid hb5x
                      have HB155 : Hid (Below w15.heap.size w15 w5) := Lib.hid (HB152.out.trans (hb5x.mono HB152.out.size))
                      have HX65 := Lib.hid x5
                      have hmb5 := HMB2.out.bel hb5x
                      have HMB5 := Lib.hid hmb5
                      have HRT5 := Lib.hid (HRT2.out.below hb5x (Nat.le_refl _))
                      have HFW : Hid (∀ (wx : World), Below w5.heap.size w5 wx → Calls Try.prog 58 #[mchV (sn : Int) t A n c, rulV ⟨ra, 1, rc⟩, .slice AT n6 c6, .pointer (some ⟨gl, 0, none⟩), .pointer (some ⟨gr, 0, none⟩)] wx (RetP wx (nextsOf sn ⟨ra, 1, rc⟩ y (lefts ns ws) (rights ns ws)))) := Lib.hid (fun wx hbx => following_any wx sn t A n c HS6.out ra (1) rc (by decide) AT n6 c6 P y (HRT5.out.below hbx (Nat.le_refl _)) HCP2.out HN6.out HP4.out (ctx_sm HZ.out) gl ml gr mr _ _ (lefts ns ws) (rights ns ws) ((HSL5.out.below HB155.out).below hbx) ((HSR5.out.below HB155.out).below hbx) (fun ys hy => ⟨(HGS.out.1 ys hy).1, by rw [(HGS.out.1 ys hy).2, HPT.out]⟩) (fun ys hy => ⟨(HGS.out.2 ys hy).1, by rw [(HGS.out.2 ys hy).2, HPT.out]⟩))
                      have HSX6 := Lib.hid (HSX5.out.below HB155.out)
                      have HGC2 : Hid (∀ ys ∈ (stated (ns.drop 3) (ctxs ns ws)), Gw ys ∧ ys.length = 2 * P + 2) := Lib.hid (fun ys hy => ⟨(HGC.out ys hy).1, by rw [(HGC.out ys hy).2, HPT.out]⟩)
                      have HBF : Hid (Below w.heap.size w w5) := Lib.hid (HB2.out.trans (hb5x.mono HB2.out.size))
                      have HRF5 : Hid (Below w5.heap.size w5 w5) := Lib.hid (Below.refl _ _)
                      have HRD5 : Hid (Below w5.heap.size w5 w5.drew) := Lib.hid (below_drewN (n := 1) (Below.refl _ _))
                      have m0 := blk_cell hmb5 0 rfl
                      have m1 := blk_cell hmb5 1 rfl
                      have m2 := blk_cell hmb5 2 rfl
                      have z0 := blk_cell x5 0 rfl
                      replace z1 := blk_cell x5 1 rfl
                      have z2 := blk_cell x5 2 rfl
                      clear hmb5 x5 hb5x e1 e2
                      as_aux_lemma =>
                      (first | (go_region_held3 (fun w' => w'.cell? ⟨w.heap.size, 0, none⟩ = some (.int .i64 (sn : Int)) ∧ w'.cell? ⟨w.heap.size, 1, none⟩ = some (.int .i64 t) ∧ w'.cell? ⟨w.heap.size, 2, none⟩ = some (.slice A n c) ∧ w'.cell? ⟨g6, 0, none⟩ = some (.int .i64 ra) ∧ w'.cell? ⟨g6, 1, none⟩ = some (.int .i64 (1)) ∧ w'.cell? ⟨g6, 2, none⟩ = some (.int .i64 rc)) (exact ⟨by assumption, by assumption, by assumption, by assumption, by assumption, by assumption⟩) (first
                        | (have hq := HO12.out
                           clear hq
                           go_simp
                           go_at_call 70
                           with_reducible refine (HCT.out _ HRF12.out).mono ?_
                           rintro e w13x ⟨rfl, hb13x⟩
                           have HB13x : Hid (Below w5.heap.size w5 w13x) := Lib.hid (HB12x.out.trans (hb13x.mono HB12x.out.size))
                           have y13 := blk_bel HMB5.out HB13x.out
                           have m0 := blk_cell y13 0 rfl
                           have m1 := blk_cell y13 1 rfl
                           have m2 := blk_cell y13 2 rfl
                           have x13 := blk_bel HX65.out HB13x.out
                           have z0 := blk_cell x13 0 rfl
                           have z1 := blk_cell x13 1 rfl
                           have z2 := blk_cell x13 2 rfl
                           clear hb13x y13 x13)
                        | (have hq := HO11.out
                           clear hq
                           go_simp
                           go_at_call 71
                           with_reducible refine (HSTA.out _ HRF11.out).mono ?_
                           rintro e w12x ⟨A12, n12, c12, F12, rfl, ho12, hf12, hb12x⟩
                           have HO12 := Lib.hid ho12
                           have HB12x : Hid (Below w5.heap.size w5 w12x) := Lib.hid (HB11x.out.trans (hb12x.mono HB11x.out.size))
                           have HRF12 : Hid (Below w12x.heap.size w12x w12x) := Lib.hid (Below.refl _ _)
                           have HCT : Hid (∀ (wx : World), Below w12x.heap.size w12x wx → Calls Try.prog 70 #[.pointer (some ⟨gc, 0, none⟩), .slice A12 n12 c12] wx (RetV wx (.bool bc))) := Lib.hid (fun wx hbx => by
                             have hl := HL11.out
                             have h := contains_any wx gc mc _ (stated (ns.drop 3) (ctxs ns ws)) ((HSX6.out.below HB12x.out).below hbx) (2 * P + 2) HGC2.out A12 n12 c12 (stated (List.replicate n11 rc) (nextsOf sn ⟨ra, 1, rc⟩ y (lefts ns ws) (rights ns ws))) (HO12.out.rdl.below hbx (Nat.le_refl _)) (by have h1 := HO12.out.len; rw [stated_rep rc n11 _ hl] at h1; simp at h1; have := HNL.out; omega) (fun ys hy => by
                               rw [stated_rep rc n11 _ hl] at hy
                               obtain ⟨z, hz1, rfl⟩ := List.mem_map.1 hy
                               obtain ⟨h1, h2⟩ := HNG.out z hz1
                               refine ⟨⟨by simp only [List.length_cons]; have := HP4.out; omega, fun q hq => ?_⟩, by simp only [List.length_cons]; omega⟩
                               rcases List.mem_cons.1 hq with rfl | hq
                               · exact HRC.out
                               · exact h2 q hq)
                             rw [stated_rep rc n11 _ hl, List.all_map] at h
                             rw [HBC2.out]
                             exact h)
                           have y12 := blk_bel HMB5.out HB12x.out
                           have m0 := blk_cell y12 0 rfl
                           have m1 := blk_cell y12 1 rfl
                           have m2 := blk_cell y12 2 rfl
                           have x12 := blk_bel HX65.out HB12x.out
                           have z0 := blk_cell x12 0 rfl
                           have z1 := blk_cell x12 1 rfl
                           have z2 := blk_cell x12 2 rfl
                           clear ho12 hf12 hb12x y12 x12)
                        | (go_simp
                           go_at_call 58
                           with_reducible refine (HFW.out _ (by first | exact HRF5.out | exact HRD5.out)).mono ?_
                           rintro e w11x ⟨A11, n11, c11, F11, rfl, ho11, hf11, hb11x⟩
                           (try replace hb11x := und1 hb11x)
                           have HO11 := Lib.hid ho11
                           have HL11 := Lib.hid ho11.len
                           have HB11x : Hid (Below w5.heap.size w5 w11x) := Lib.hid hb11x
                           have HRF11 : Hid (Below w11x.heap.size w11x w11x) := Lib.hid (Below.refl _ _)
                           have HSTA : Hid (∀ (wx : World), Below w11x.heap.size w11x wx → Calls Try.prog 71 #[.int .i64 rc, .slice A11 n11 c11] wx (RetP wx (stated (List.replicate n11 rc) (nextsOf sn ⟨ra, 1, rc⟩ y (lefts ns ws) (rights ns ws))))) := Lib.hid (fun wx hbx => statedAll_any wx rc A11 n11 c11 _ (HO11.out.rdl.below hbx (Nat.le_refl _)) (by have h1 := HL11.out; have := HNL.out; omega) (fun xs hxs => by have h1 := (HNG.out xs hxs).1; have := HP4.out; omega))
                           have y11 := blk_bel HMB5.out HB11x.out
                           have m0 := blk_cell y11 0 rfl
                           have m1 := blk_cell y11 1 rfl
                           have m2 := blk_cell y11 2 rfl
                           have x11 := blk_bel HX65.out HB11x.out
                           have z0 := blk_cell x11 0 rfl
                           have z1 := blk_cell x11 1 rfl
                           have z2 := blk_cell x11 2 rfl
                           clear ho11 hf11 hb11x y11 x11))) | fail)
                      all_goals
                        as_aux_lemma =>
                        cases bc with
                        | false =>
                          have HVF : Hid (chkI (sn : Int) t rs k0 ns ws = false) := Lib.hid (by rw [HVA.out]; exact all_out HX.out HCW.out)
                          go_wp2_with fail
                          go_ret
                          exact ⟨by rw [HVF.out]; rfl, by first | exact HBF.out.trans (HB13x.out.mono HBF.out.size) | exact below_drew1 (HBF.out.trans (HB13x.out.mono HBF.out.size))⟩
                        | true =>
                          have HK2 : Hid (((stated (ns.drop 3) (ctxs ns ws)).take (k + 1)).all (closW (sn : Int) t rs (lefts ns ws) (rights ns ws) (stated (ns.drop 3) (ctxs ns ws))) = true) := Lib.hid (all_step HK.out HX.out HCW.out)
                          go_wp2_with fail
                          go_roundw
                          case rel => exact ⟨k + 1, HLTK.out, (by rw [wrap_k HLTK.out HM3.out]), HK2, by first | exact HB155.out.trans (HB13x.out.mono HB155.out.size) | exact below_drew1 (HB155.out.trans (HB13x.out.mono HB155.out.size))⟩
                          case measure => exact meas_k HLTK.out HM3.out
                  · as_aux_lemma =>
                    have HMV : Hid ((-1 : Int) = 1 ∨ (-1 : Int) = -1) := Lib.hid (by decide)
                    obtain ⟨bl, hbl⟩ : ∃ bl, bl = decide (lostOf ⟨ra, -1, rc⟩ y ∈ (rights ns ws)) := ⟨_, rfl⟩
                    have HBL2 := Lib.hid hbl
                    have HLL : Hid ((lostOf ⟨ra, -1, rc⟩ y).length = P ∧ Gw (lostOf ⟨ra, -1, rc⟩ y)) := Lib.hid (by
                      have h1 := HYL.out
                      have h2 := ctx_sm HZ.out
                      have h3 := HPN.out; have h4 := HPI.out
                      have hl : (lostOf ⟨ra, -1, rc⟩ y).length = P := by
                        unfold lostOf
                        split
                        · simp only [List.length_take]; omega
                        · simp only [List.length_drop]; omega
                      refine ⟨hl, by omega, fun z hzz => ?_⟩
                      unfold lostOf at hzz
                      split at hzz
                      · exact h2 z (List.mem_of_mem_take hzz)
                      · exact h2 z (List.mem_of_mem_drop hzz))
                    have HRW : Hid (Rd w2 A7 n7 (ints (lostOf ⟨ra, -1, rc⟩ y))) := Lib.hid (own_rd HO7.out)
                    have HHS : Hid (∀ (wx : World), Below w2.heap.size w2 wx → Calls Try.prog 69 #[.pointer (some ⟨gr, 0, none⟩), .slice A7 n7 c7] wx (RetV wx (.bool bl))) := Lib.hid (fun wx hbx => by
                      rw [HBL2.out]
                      exact has_any wx gr mr _ _ ((HSR5.out.below HB152.out).below hbx) A7 n7 c7 _ (HRW.out.below hbx (Nat.le_refl _)) HLL.out.2 (fun ys hy => ⟨(HGS.out.2 ys hy).1, by rw [(HGS.out.2 ys hy).2, HLL.out.1, HPT.out]⟩))
                    clear hbl
                    have e1 : (((-1 : Int)) == 1) = false := by decide
                    have e2 : (((-1 : Int)) == -1) = true := by decide
                    cases bl with
                    | false =>
                      as_aux_lemma =>
                      have HVF : Hid (chkI s t rs k0 ns ws = false) := Lib.hid (by
                        rw [HVA.out]
                        refine all_out HX.out (closW_out HRX.out ?_)
                        show ¬ lostOf ⟨ra, -1, rc⟩ y ∈ (if (-1 : Int) = 1 then _ else _)
                        rw [if_neg (by decide)]
                        exact of_decide_eq_false HBL2.out.symm)
                      go_wp2_with (go_at_call 69
                                   with_reducible refine (HHS.out _ HRF2.out).mono ?_
                                   rintro e w5 ⟨rfl, hb5x⟩
                                   have x5 := blk_bel HX6.out hb5x
                                   have z1 := blk_cell x5 1 rfl)
                      go_ret
                      exact ⟨by rw [HVF.out]; rfl, HB2.out.trans (hb5x.mono HB2.out.size)⟩
                    | true =>
                      as_aux_lemma =>
                      have HIN : Hid (lostOf ⟨ra, -1, rc⟩ y ∈ (if (-1 : Int) = 1 then (lefts ns ws) else (rights ns ws))) := Lib.hid (by rw [if_neg (by decide)]; exact of_decide_eq_true HBL2.out.symm)
                      obtain ⟨sn, hsn⟩ := Int.eq_ofNat_of_zero_le (show 0 ≤ s by have := HSS.out; omega)
                      subst hsn
                      have HS6 : Hid (sn ≤ 6) := Lib.hid (by have := HSS.out; omega)
                      have HISR : Hid (isR ⟨ra, -1, rc⟩ = true) := Lib.hid HBO.out.symm
                      have HNL : Hid ((nextsOf sn ⟨ra, -1, rc⟩ y (lefts ns ws) (rights ns ws)).length ≤ 6) := Lib.hid (Nat.le_trans (nexts_len _ _ _ _ _) HS6.out)
                      have HP4 : Hid (1 ≤ P ∧ P ≤ 4) := Lib.hid (by have h3 := HPN.out; have h4 := HPI.out; omega)
                      have HNG : Hid (∀ z ∈ nextsOf sn ⟨ra, -1, rc⟩ y (lefts ns ws) (rights ns ws), z.length = 2 * P + 1 ∧ ∀ q ∈ z, SmI q) := Lib.hid (by
                        have h := nexts_gw (ls := lefts ns ws) (ws := rights ns ws) HS6.out HZ.out HYL.out HP4.out (by rw [← HRX.out]; exact HISR.out)
                        rw [← HRX.out] at h
                        exact h)
                      have HRC : Hid (SmI rc) := Lib.hid (by have h := (rule_bd HZ.out).2; rw [← HRX.out] at h; simp only at h; unfold SmI; omega)
                      obtain ⟨bc, hbc2⟩ : ∃ bc, bc = (nextsOf sn ⟨ra, -1, rc⟩ y (lefts ns ws) (rights ns ws)).all (fun z => decide ((rc :: z) ∈ (stated (ns.drop 3) (ctxs ns ws)))) := ⟨_, rfl⟩
                      have HBC2 := Lib.hid hbc2
                      have HCW : Hid (closW (sn : Int) t rs (lefts ns ws) (rights ns ws) (stated (ns.drop 3) (ctxs ns ws)) (st :: y) = bc) := Lib.hid (by
                        rw [closW_eq HRX.out HISR.out HIN.out, hbc2, Int.toNat_natCast])
                      clear hbc2
                      go_upto_region 14 with (go_at_call 69
                                              with_reducible refine (HHS.out _ HRF2.out).mono ?_
                                              rintro e w5 ⟨rfl, hb5x⟩
                                              have x5 := blk_bel HX6.out hb5x
                                              have z1 := blk_cell x5 1 rfl)
                      as_aux_lemma =>
                      have HB25 := Lib.hid hb5x
                      have HB155 : Hid (Below w15.heap.size w15 w5) := Lib.hid (HB152.out.trans (hb5x.mono HB152.out.size))
                      have HX65 := Lib.hid x5
                      have hmb5 := HMB2.out.bel hb5x
                      have HMB5 := Lib.hid hmb5
                      have HRT5 := Lib.hid (HRT2.out.below hb5x (Nat.le_refl _))
                      have HFW : Hid (∀ (wx : World), Below w5.heap.size w5 wx → Calls Try.prog 58 #[mchV (sn : Int) t A n c, rulV ⟨ra, -1, rc⟩, .slice AT n6 c6, .pointer (some ⟨gl, 0, none⟩), .pointer (some ⟨gr, 0, none⟩)] wx (RetP wx (nextsOf sn ⟨ra, -1, rc⟩ y (lefts ns ws) (rights ns ws)))) := Lib.hid (fun wx hbx => following_any wx sn t A n c HS6.out ra (-1) rc (by decide) AT n6 c6 P y (HRT5.out.below hbx (Nat.le_refl _)) HCP2.out HN6.out HP4.out (ctx_sm HZ.out) gl ml gr mr _ _ (lefts ns ws) (rights ns ws) ((HSL5.out.below HB155.out).below hbx) ((HSR5.out.below HB155.out).below hbx) (fun ys hy => ⟨(HGS.out.1 ys hy).1, by rw [(HGS.out.1 ys hy).2, HPT.out]⟩) (fun ys hy => ⟨(HGS.out.2 ys hy).1, by rw [(HGS.out.2 ys hy).2, HPT.out]⟩))
                      have HSX6 := Lib.hid (HSX5.out.below HB155.out)
                      have HGC2 : Hid (∀ ys ∈ (stated (ns.drop 3) (ctxs ns ws)), Gw ys ∧ ys.length = 2 * P + 2) := Lib.hid (fun ys hy => ⟨(HGC.out ys hy).1, by rw [(HGC.out ys hy).2, HPT.out]⟩)
                      have HBF : Hid (Below w.heap.size w w5) := Lib.hid (HB2.out.trans (hb5x.mono HB2.out.size))
                      have HRF5 : Hid (Below w5.heap.size w5 w5) := Lib.hid (Below.refl _ _)
                      have HRD5 : Hid (Below w5.heap.size w5 w5.drew) := Lib.hid (below_drewN (n := 1) (Below.refl _ _))
                      have m0 := blk_cell hmb5 0 rfl
                      have m1 := blk_cell hmb5 1 rfl
                      have m2 := blk_cell hmb5 2 rfl
                      have z0 := blk_cell x5 0 rfl
                      replace z1 := blk_cell x5 1 rfl
                      have z2 := blk_cell x5 2 rfl
                      clear hmb5 x5 hb5x e1 e2
                      as_aux_lemma =>
                      (first | (go_region_held3 (fun w' => w'.cell? ⟨w.heap.size, 0, none⟩ = some (.int .i64 (sn : Int)) ∧ w'.cell? ⟨w.heap.size, 1, none⟩ = some (.int .i64 t) ∧ w'.cell? ⟨w.heap.size, 2, none⟩ = some (.slice A n c) ∧ w'.cell? ⟨g6, 0, none⟩ = some (.int .i64 ra) ∧ w'.cell? ⟨g6, 1, none⟩ = some (.int .i64 (-1)) ∧ w'.cell? ⟨g6, 2, none⟩ = some (.int .i64 rc)) (exact ⟨by assumption, by assumption, by assumption, by assumption, by assumption, by assumption⟩) (first
                        | (have hq := HO12.out
                           clear hq
                           go_simp
                           go_at_call 70
                           with_reducible refine (HCT.out _ HRF12.out).mono ?_
                           rintro e w13x ⟨rfl, hb13x⟩
                           have HB13x : Hid (Below w5.heap.size w5 w13x) := Lib.hid (HB12x.out.trans (hb13x.mono HB12x.out.size))
                           have y13 := blk_bel HMB5.out HB13x.out
                           have m0 := blk_cell y13 0 rfl
                           have m1 := blk_cell y13 1 rfl
                           have m2 := blk_cell y13 2 rfl
                           have x13 := blk_bel HX65.out HB13x.out
                           have z0 := blk_cell x13 0 rfl
                           have z1 := blk_cell x13 1 rfl
                           have z2 := blk_cell x13 2 rfl
                           clear hb13x y13 x13)
                        | (have hq := HO11.out
                           clear hq
                           go_simp
                           go_at_call 71
                           with_reducible refine (HSTA.out _ HRF11.out).mono ?_
                           rintro e w12x ⟨A12, n12, c12, F12, rfl, ho12, hf12, hb12x⟩
                           have HO12 := Lib.hid ho12
                           have HB12x : Hid (Below w5.heap.size w5 w12x) := Lib.hid (HB11x.out.trans (hb12x.mono HB11x.out.size))
                           have HRF12 : Hid (Below w12x.heap.size w12x w12x) := Lib.hid (Below.refl _ _)
                           have HCT : Hid (∀ (wx : World), Below w12x.heap.size w12x wx → Calls Try.prog 70 #[.pointer (some ⟨gc, 0, none⟩), .slice A12 n12 c12] wx (RetV wx (.bool bc))) := Lib.hid (fun wx hbx => by
                             have hl := HL11.out
                             have h := contains_any wx gc mc _ (stated (ns.drop 3) (ctxs ns ws)) ((HSX6.out.below HB12x.out).below hbx) (2 * P + 2) HGC2.out A12 n12 c12 (stated (List.replicate n11 rc) (nextsOf sn ⟨ra, -1, rc⟩ y (lefts ns ws) (rights ns ws))) (HO12.out.rdl.below hbx (Nat.le_refl _)) (by have h1 := HO12.out.len; rw [stated_rep rc n11 _ hl] at h1; simp at h1; have := HNL.out; omega) (fun ys hy => by
                               rw [stated_rep rc n11 _ hl] at hy
                               obtain ⟨z, hz1, rfl⟩ := List.mem_map.1 hy
                               obtain ⟨h1, h2⟩ := HNG.out z hz1
                               refine ⟨⟨by simp only [List.length_cons]; have := HP4.out; omega, fun q hq => ?_⟩, by simp only [List.length_cons]; omega⟩
                               rcases List.mem_cons.1 hq with rfl | hq
                               · exact HRC.out
                               · exact h2 q hq)
                             rw [stated_rep rc n11 _ hl, List.all_map] at h
                             rw [HBC2.out]
                             exact h)
                           have y12 := blk_bel HMB5.out HB12x.out
                           have m0 := blk_cell y12 0 rfl
                           have m1 := blk_cell y12 1 rfl
                           have m2 := blk_cell y12 2 rfl
                           have x12 := blk_bel HX65.out HB12x.out
                           have z0 := blk_cell x12 0 rfl
                           have z1 := blk_cell x12 1 rfl
                           have z2 := blk_cell x12 2 rfl
                           clear ho12 hf12 hb12x y12 x12)
                        | (go_simp
                           go_at_call 58
                           with_reducible refine (HFW.out _ (by first | exact HRF5.out | exact HRD5.out)).mono ?_
                           rintro e w11x ⟨A11, n11, c11, F11, rfl, ho11, hf11, hb11x⟩
                           (try replace hb11x := und1 hb11x)
                           have HO11 := Lib.hid ho11
                           have HL11 := Lib.hid ho11.len
                           have HB11x : Hid (Below w5.heap.size w5 w11x) := Lib.hid hb11x
                           have HRF11 : Hid (Below w11x.heap.size w11x w11x) := Lib.hid (Below.refl _ _)
                           have HSTA : Hid (∀ (wx : World), Below w11x.heap.size w11x wx → Calls Try.prog 71 #[.int .i64 rc, .slice A11 n11 c11] wx (RetP wx (stated (List.replicate n11 rc) (nextsOf sn ⟨ra, -1, rc⟩ y (lefts ns ws) (rights ns ws))))) := Lib.hid (fun wx hbx => statedAll_any wx rc A11 n11 c11 _ (HO11.out.rdl.below hbx (Nat.le_refl _)) (by have h1 := HL11.out; have := HNL.out; omega) (fun xs hxs => by have h1 := (HNG.out xs hxs).1; have := HP4.out; omega))
                           have y11 := blk_bel HMB5.out HB11x.out
                           have m0 := blk_cell y11 0 rfl
                           have m1 := blk_cell y11 1 rfl
                           have m2 := blk_cell y11 2 rfl
                           have x11 := blk_bel HX65.out HB11x.out
                           have z0 := blk_cell x11 0 rfl
                           have z1 := blk_cell x11 1 rfl
                           have z2 := blk_cell x11 2 rfl
                           clear ho11 hf11 hb11x y11 x11))) | fail)
                      all_goals
                        as_aux_lemma =>
                        cases bc with
                        | false =>
                          have HVF : Hid (chkI (sn : Int) t rs k0 ns ws = false) := Lib.hid (by rw [HVA.out]; exact all_out HX.out HCW.out)
                          go_wp2_with fail
                          go_ret
                          exact ⟨by rw [HVF.out]; rfl, by first | exact HBF.out.trans (HB13x.out.mono HBF.out.size) | exact below_drew1 (HBF.out.trans (HB13x.out.mono HBF.out.size))⟩
                        | true =>
                          have HK2 : Hid (((stated (ns.drop 3) (ctxs ns ws)).take (k + 1)).all (closW (sn : Int) t rs (lefts ns ws) (rights ns ws) (stated (ns.drop 3) (ctxs ns ws))) = true) := Lib.hid (all_step HK.out HX.out HCW.out)
                          go_wp2_with fail
                          go_roundw
                          case rel => exact ⟨k + 1, HLTK.out, (by rw [wrap_k HLTK.out HM3.out]), HK2, by first | exact HB155.out.trans (HB13x.out.mono HB155.out.size) | exact below_drew1 (HB155.out.trans (HB13x.out.mono HB155.out.size))⟩
                          case measure => exact meas_k HLTK.out HM3.out
            · obtain rfl : k = m3 := by omega
              have HO : Hid (chkI s t rs k0 ns ws = true) := Lib.hid (by
                have h := HK.out
                rw [List.take_of_length_le (by rw [HCL.out]; exact Nat.le_refl _)] at h
                rw [HVA.out]; exact h)
              go_wp2_with fail
              go_ret
              exact ⟨by rw [HO.out]; rfl, HBR.out⟩
  · have HV : Hid (chkI s t rs k0 ns ws = false) := Lib.hid (chkI_code hc)
    have HST := Lib.hid (setsOf_any w0 k0 A1 n1 c1 ns HR1.out hn1 hc1 A2 n2 c2 ws HR2.out hn2 hc2)
    go_wp2_with (go_at_call 66; refine (HST.out).mono ?_; rintro e w1 ⟨m', B1, m1, d1, B2, m2, d2, B3, m3, d3, rfl, hb, hcode⟩)
    go_ret
    exact ⟨by rw [HV.out]; rfl, HB.out.trans ((hb.trans ((below_new w1 _).mono hb.size)).mono HB.out.size)⟩
end Go.Proofs.Ytemllhkgjdifiaa
