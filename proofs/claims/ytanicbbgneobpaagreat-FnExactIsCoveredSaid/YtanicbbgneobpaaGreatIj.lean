/- IsCovered: the program's answer. Written by mk_icj.py. -/
import Derived.Test.YtanicbbgneobpaaGreatIc
import Derived.Test.YtanicbbgneobpaaGreatGI
import Derived.Test.YtanicbbgneobpaaGreatGE
import Derived.Test.YtanicbbgneobpaaGreatWo
import Derived.Test.YtanicbbgneobpaaGreatCoI
import Derived.Deep.DrawnRows
namespace Go.Proofs.YtanicbbgneobpaaGreat
open Go.RowKit
set_option linter.unusedVariables false
set_option linter.unusedSimpArgs false
attribute [local go_sem ↓] Go.wp_at_zero Go.wp_at_succ

theorem ba1 {w4 w5 w6 : World} {o : Obj} (h : Below w4.heap.size w4 w5) (h6 : Below (w5.alloc o).heap.size (w5.alloc o) w6) : Below w4.heap.size w4 w6 :=
  (h.trans ((below_new w5 o).mono h.size)).trans (h6.mono (by have := h.size; simp; omega))
theorem ba2 {w4 w5 w6 : World} {o o' : Obj} (h : Below w4.heap.size w4 w5) (h6 : Below ((w5.alloc o).alloc o').heap.size ((w5.alloc o).alloc o') w6) : Below w4.heap.size w4 w6 :=
  ba1 (h.trans ((below_new w5 o).mono h.size)) h6
theorem rd_pairT {w : World} {At : Option Addr} {nt ct : Nat} {F : List Int} {x : Int} (h : Rd w At nt (ints F)) (hn : nt ≤ 1000000000) (T I : Nat) : RdL ((w.alloc (.cells #[.int .i64 x] I)).alloc (.cells #[.slice (some ⟨w.heap.size, 0, none⟩) 1 1, .slice At nt ct] T)) (some ⟨w.heap.size + 1, 0, none⟩) 2 [[x], F] := by
  have h1 := rdL2 (c3 := 1) (c4 := ct) (T := T) (own_rd (tmp_new w (.int .i64 x) I) : Rd _ _ 1 (ints [x])) (h.below (below_new w (.cells #[.int .i64 x] I)) (Nat.le_refl _)) (by omega) hn
  rw [World.size_alloc] at h1
  exact h1
theorem rdl_drw {w : World} {A : Option Addr} {n : Nat} {xss : List (List Int)} (h : RdL w A n xss) : RdL w.drew A n xss := h
theorem tmp_rd (w w5 : World) (x : Int) (T : Nat) (h : Below (w.alloc (.cells #[.int .i64 x] T)).heap.size (w.alloc (.cells #[.int .i64 x] T)) w5) : Rd w5 (some ⟨w.heap.size, 0, none⟩) 1 (ints [x]) :=
  own_rd (ownN_below (tmp_new w (.int .i64 x) T) h (Nat.le_refl _))
theorem statedJ_mem {sts : List Int} {cs : List (List Int)} {x : List Int} (h : x ∈ stated sts cs) : ∃ a y, a ∈ sts ∧ y ∈ cs ∧ x = a :: y := by
  unfold stated at h
  obtain ⟨i, h⟩ := List.mem_iff_getElem?.1 h
  rw [List.getElem?_zipWith] at h
  cases h1 : sts[i]? with
  | none => simp [h1] at h
  | some a =>
    cases h2 : cs[i]? with
    | none => simp [h1, h2] at h
    | some y => simp [h1, h2] at h; exact ⟨a, y, List.mem_of_getElem? h1, List.mem_of_getElem? h2, h.symm⟩
theorem csok_gw {k : Int} {ns : List Int} {ws : List (List Int)} (h0 : okP k ns ws = true) (h : csOk k ns ws = true) : (∀ x ∈ lefts ns ws, Gw x ∧ x.length = (pN ns).toNat) ∧ (∀ x ∈ rights ns ws, Gw x ∧ x.length = (pN ns).toNat) ∧ (∀ x ∈ stated (ns.drop 3) (ctxs ns ws), Gw x ∧ x.length = 2 * (pN ns).toNat + 2) := by
  have hp := parts_of h
  have hb := (okP_bd h0).2.2.2.1
  simp only [csOk, g3, Bool.and_eq_true, List.all_eq_true, lenB] at h
  obtain ⟨⟨_, ⟨hl, hr⟩, hc⟩, _⟩ := h
  have hn := hp.n1
  have sm : ∀ x : List Int, allIn x 0 9 = true → ∀ y ∈ x, SmI y := fun x hx y hy => by have := allIn_true.1 hx y hy; unfold SmI; omega
  refine ⟨fun x hx => ⟨⟨by have := hp.ll x hx; omega, sm x (hl x hx).2⟩, hp.ll x hx⟩, fun x hx => ⟨⟨by have := hp.lw x hx; omega, sm x (hr x hx).2⟩, hp.lw x hx⟩, fun x hx => ?_⟩
  obtain ⟨a, y, ha, hy, rfl⟩ := statedJ_mem hx
  have h1 := hp.lc y hy
  have h2 := allIn_true.1 hb a (List.mem_of_mem_drop ha)
  refine ⟨⟨by simp only [List.length_cons]; omega, fun z hz => ?_⟩, by simp only [List.length_cons]; omega⟩
  rcases List.mem_cons.1 hz with rfl | hz
  · unfold SmI; omega
  · exact sm y (hc y hy).2 z hz
theorem ctx_gw {ls rs : List Int} {P : Nat} {st : Int} (hp : P ≤ 4) (hs : SmI st) (hl : ∀ x ∈ ls, SmI x) (hr : ∀ x ∈ rs, SmI x) : Gw (st :: ctxOf ls rs P) := by
  refine ⟨by simp only [List.length_cons, ctxOf_len]; omega, fun z hz => ?_⟩
  rcases List.mem_cons.1 hz with rfl | hz
  · exact hs
  · unfold ctxOf at hz
    rcases List.mem_append.1 hz with hz | hz
    · exact (cells_gw (f := 0) (len := P) (by omega) hl).2 z hz
    · exact (cells_gw (f := 0) (len := P + 1) (by omega) hr).2 z hz
theorem okCf_st {s t st : Int} {ps : List Rul} {ls rs : List Int} (hm : okM s t ps = true) (h : okCf s t st ls rs = true) : SmI st := by
  have h1 := (okM_all hm).2.1
  simp only [okCf, Bool.and_eq_true] at h
  have h2 := inB_true.1 h.1.1
  unfold SmI; omega
set_option maxHeartbeats 8000000 in
set_option maxRecDepth 100000 in
theorem implIsCovered_any (w : World) (s t : Int) (A : Option Addr) (n c : Nat) (ps : List Rul) (hr : Rd w A (n * 3) (ints (flatR ps))) (hn : n ≤ 1099511627776) (k : Int) (A1 : Option Addr) (n1 c1 : Nat) (ns : List Int) (hr1 : Rd w A1 n1 (ints ns)) (hn1 : n1 ≤ 1000000000) (hc1 : n1 ≤ c1) (A2 : Option Addr) (n2 c2 : Nat) (ws : List (List Int)) (hr2 : RdL w A2 n2 ws) (hn2 : n2 ≤ 1000000000) (hc2 : n2 ≤ c2) (st : Int) (A3 : Option Addr) (n3 c3 : Nat) (ls : List Int) (hr3 : Rd w A3 n3 (ints ls)) (hn3 : n3 ≤ 1000000000) (A4 : Option Addr) (n4 c4 : Nat) (rs : List Int) (hr4 : Rd w A4 n4 (ints rs)) (hn4 : n4 ≤ 1000000000) (hc4 : n4 ≤ c4) :
    Calls Tryz.prog 13 #[mchV s t A n c, prfV k A1 n1 c1 A2 n2 c2, cfgV st A3 n3 c3 A4 n4 c4] w (RetV w (.bool (icB s t ps k ns ws st ls rs))) := by
  obtain ⟨w0, hw0⟩ : ∃ w0, w0 = ((w.alloc (.cells #[.int .i64 s, .int .i64 t, .slice A n c] 37)).alloc (.cells #[.int .i64 k, .slice A1 n1 c1, .slice A2 n2 c2] 39)).alloc (.cells #[.int .i64 st, .slice A3 n3 c3, .slice A4 n4 c4] 41) := ⟨_, rfl⟩
  have hB : Below w.heap.size w w0 := by rw [hw0]; exact ((below_new w _).trans ((below_new _ _).mono (by simp))).trans ((below_new _ _).mono (by simp; omega))
  have hx0 : BM w0 w.heap.size s t A n c := by rw [hw0]; exact blk_alloc (blk_alloc (box_new w _ _) _) _
  have hx1 : BP w0 (w.heap.size + 1) k A1 n1 c1 A2 n2 c2 := by rw [hw0]; have h := box_new (w.alloc (.cells #[.int .i64 s, .int .i64 t, .slice A n c] 37)) #[.int .i64 k, .slice A1 n1 c1, .slice A2 n2 c2] 39; exact blk_alloc (by simpa [BP] using h) _
  have hx2 : BC w0 (w.heap.size + 1 + 1) st A3 n3 c3 A4 n4 c4 := by rw [hw0]; have h := box_new ((w.alloc (.cells #[.int .i64 s, .int .i64 t, .slice A n c] 37)).alloc (.cells #[.int .i64 k, .slice A1 n1 c1, .slice A2 n2 c2] 39)) #[.int .i64 st, .slice A3 n3 c3, .slice A4 n4 c4] 41; unfold BC; simpa using h
  have HX0 := Lib.hid hx0; have HX1 := Lib.hid hx1; have HX2 := Lib.hid hx2
  have HR := Lib.hid (hr.below hB (Nat.le_refl _)); have HR1 := Lib.hid (hr1.below hB (Nat.le_refl _)); have HR2 := Lib.hid (hr2.below hB (Nat.le_refl _)); have HR3 := Lib.hid (hr3.below hB (Nat.le_refl _)); have HR4 := Lib.hid (hr4.below hB (Nat.le_refl _))
  have HB := Lib.hid hB
  obtain ⟨z0, z1, z2⟩ : w0.cell? ⟨w.heap.size, 0, none⟩ = some (.int .i64 s) ∧ w0.cell? ⟨w.heap.size, 1, none⟩ = some (.int .i64 t) ∧ w0.cell? ⟨w.heap.size, 2, none⟩ = some (.slice A n c) := ⟨blk_cell hx0 0 rfl, blk_cell hx0 1 rfl, blk_cell hx0 2 rfl⟩
  obtain ⟨y0, y1, y2⟩ := hx2.cells
  have HRV : Hid (∀ wx : World, Below w0.heap.size w0 wx → Calls Tryz.prog 38 #[mchV s t A n c, cfgV st A3 n3 c3 A4 n4 c4] wx (RetV wx (.bool (okM s t ps && okCf s t st ls rs)))) := Lib.hid (fun wx hb => ValidConfig_any wx s t A n c ps (HR.out.below hb (Nat.le_refl _)) hn st A3 n3 c3 ls (HR3.out.below hb (Nat.le_refl _)) (by omega) A4 n4 c4 rs (HR4.out.below hb (Nat.le_refl _)) (by omega))
  clear hB hx0 hx1 hx2 hr hr1 hr2 hr3 hr4
  cases hv : (okM s t ps && okCf s t st ls rs) with
  | false =>
    have HO : Hid (icB s t ps k ns ws st ls rs = false) := Lib.hid (by simp only [icB, hv]; simp)
    rw [hv] at HRV
    clear hv
    go_enter Tryz.func13, Tryz.ntmps13
    go_wp2_with fail
    rw [← hw0]
    clear hw0
    refine (HRV.out _ (Below.refl _ _)).mono ?_
    rintro e w2 ⟨rfl, hb2⟩
    go_wp2_with fail
    go_ret
    exact ⟨by rw [HO.out]; rfl, HB.out.trans (hb2.mono HB.out.size)⟩
  | true =>
    have HV := Lib.hid hv
    rw [hv] at HRV
    clear hv
    go_enter Tryz.func13, Tryz.ntmps13
    go_wp2_with fail
    rw [← hw0]
    clear hw0
    refine (HRV.out _ (Below.refl _ _)).mono ?_
    rintro e w2 ⟨rfl, hb2⟩
    have HB2 := Lib.hid hb2
    have HB02 := Lib.hid (HB.out.trans (hb2.mono HB.out.size))
    have HX12 := Lib.hid (BP.bel HX1.out hb2); have HX22 := Lib.hid (BC.bel HX2.out hb2)
    have HR12 := Lib.hid (HR1.out.below hb2 (Nat.le_refl _)); have HR22 := Lib.hid (HR2.out.below hb2 (Nat.le_refl _)); have HR32 := Lib.hid (HR3.out.below hb2 (Nat.le_refl _)); have HR42 := Lib.hid (HR4.out.below hb2 (Nat.le_refl _))
    obtain ⟨q0, q1, q2⟩ := HX12.out.cells
    clear hb2 z0 z1 z2 y0 y1 y2
    by_cases hc : csC k ns ws = 0
    · have HST := setsOf_any w2 k A1 n1 c1 ns HR12.out hn1 hc1 A2 n2 c2 ws HR22.out hn2 hc2
      rw [hc] at HST
      replace HST := Lib.hid HST
      have HC := Lib.hid (csC_zero hc)
      clear hc
      go_upto_region 6 with (go_at_call 39; refine (HST.out).mono ?_; rintro e w3 ⟨m', B1, m1, d1, B2, m2, d2, B3, m3, d3, rfl, hb3, hcode⟩)
      as_aux_lemma =>
      obtain ⟨rfl, F1, F2, F3, ho1, ho2, ho3, _, _, _, _⟩ := hcode trivial
      obtain ⟨w4, hw4⟩ : ∃ w4, w4 = w3.alloc (.cells #[.int .i64 (pN ns), .slice B1 m1 d1, .slice B2 m2 d2, .slice B3 m3 d3] 75) := ⟨_, rfl⟩
      rw [← hw4]
      have hb34 : Below w3.heap.size w3 w4 := by rw [hw4]; exact below_new w3 _
      have hb24 : Below w2.heap.size w2 w4 := hb3.trans (hb34.mono hb3.size)
      have hx4 : w4.heap[w3.heap.size]? = some (.cells #[.int .i64 (pN ns), .slice B1 m1 d1, .slice B2 m2 d2, .slice B3 m3 d3] 75 (0, 0)) := by rw [hw4]; exact box_new w3 _ _
      clear hw4
      have HX4 := Lib.hid hx4
      have HX24 := Lib.hid (BC.bel HX22.out hb24)
      have HR34 := Lib.hid (HR32.out.below hb24 (Nat.le_refl _)); have HR44 := Lib.hid (HR42.out.below hb24 (Nat.le_refl _))
      have HO1 := Lib.hid (ho1.below hb34); have HO2 := Lib.hid (ho2.below hb34); have HO3 := Lib.hid (ho3.below hb34)
      have HB04 : Hid (Below w.heap.size w w4) := Lib.hid (HB02.out.trans (hb24.mono HB02.out.size))
      have HPP := Lib.hid (parts_of HC.out.2)
      have HGW := Lib.hid (csok_gw HC.out.1 HC.out.2)
      have HVV : Hid (okM s t ps = true ∧ okCf s t st ls rs = true) := Lib.hid (by have h := HV.out; rwa [Bool.and_eq_true] at h)
      have HCL4 := Lib.hid (wo_cl HVV.out.1 HVV.out.2)
      have HSS := Lib.hid (okCf_st HVV.out.1 HVV.out.2)
      obtain ⟨P, hP⟩ : ∃ P, P = (pN ns).toNat := ⟨_, rfl⟩
      have HPT := Lib.hid hP
      have HPI : Hid (pN ns = (P : Int)) := Lib.hid (by have := HPP.out.n1; omega)
      have HP4 : Hid (1 ≤ P ∧ P ≤ 4) := Lib.hid (by have := HPP.out.n1; omega)
      have HLS : Hid (n3 ≤ 900 ∧ n4 ≤ 900) := Lib.hid (by have h1 := HR34.out.1; have h2 := HR44.out.1; simp only [List.length_map] at h1 h2; have := HCL4.out.1; have := HCL4.out.2.1; omega)
      have HCL : Hid ((ctxOf ls rs P).length ≤ 9) := Lib.hid (by rw [ctxOf_len]; have := HP4.out; omega)
      have HKL : Hid ((([[st], ctxOf ls rs P] : List (List Int)).flatten).length ≤ 1000000000) := Lib.hid (by have := HCL.out; simp; omega)
      have HSX : Hid (∀ wx : World, Below w4.heap.size w4 wx → wx.cell? ⟨w.heap.size + 1 + 1, 0, none⟩ = some (.int .i64 st) ∧ wx.cell? ⟨w.heap.size + 1 + 1, 1, none⟩ = some (.slice A3 n3 c3) ∧ wx.cell? ⟨w.heap.size + 1 + 1, 2, none⟩ = some (.slice A4 n4 c4) ∧ wx.cell? ⟨w3.heap.size, 0, none⟩ = some (.int .i64 (pN ns))) := Lib.hid (fun wx hbx => by
        obtain ⟨a0, a1, a2⟩ := BC.cells (BC.bel HX24.out hbx)
        exact ⟨a0, a1, a2, blk_cell (blk_bel HX4.out hbx) 0 rfl⟩)
      have HCT : Hid (∀ wx : World, Below w4.heap.size w4 wx → Calls Tryz.prog 41 #[cfgV st A3 n3 c3 A4 n4 c4, .int .i64 (pN ns)] wx (RetS wx 2 (ints (ctxOf ls rs P)))) := Lib.hid (fun wx hbx => by
        rw [HPI.out]
        exact contextOf_any wx st A3 n3 c3 ls (HR34.out.below hbx (Nat.le_refl _)) (by have := HLS.out.1; omega) A4 n4 c4 rs (HR44.out.below hbx (Nat.le_refl _)) (by have := HLS.out.2; omega) P (by have := HP4.out.2; omega))
      have HR0 : Hid (Below w4.heap.size w4 w4) := Lib.hid (Below.refl _ _)
      have HRD : Hid (Below w4.heap.size w4 w4.drew) := Lib.hid (below_drewN (n := 1) (Below.refl _ _))
      clear hb3 hcode ho1 ho2 ho3 hb34 hb24 hx4 hP q0 q1 q2
      have q0 := (HSX.out _ HR0.out).1
      have q1 := (HSX.out _ HR0.out).2.1
      have q2 := (HSX.out _ HR0.out).2.2.1
      have q3 := (HSX.out _ HR0.out).2.2.2
      as_aux_lemma =>
      (first | (go_region_held3 (fun w' => w'.cell? ⟨w.heap.size + 1 + 1, 0, none⟩ = some (.int .i64 st) ∧ w'.cell? ⟨w.heap.size + 1 + 1, 1, none⟩ = some (.slice A3 n3 c3) ∧ w'.cell? ⟨w.heap.size + 1 + 1, 2, none⟩ = some (.slice A4 n4 c4) ∧ w'.cell? ⟨w3.heap.size, 0, none⟩ = some (.int .i64 (pN ns))) (first | exact HSX.out _ HR0.out | exact HSX.out _ HRD.out | exact HSX.out _ (below_alq HR0.out) | exact HSX.out _ (below_alq HRD.out) | exact HSX.out _ (below_drew1 (below_alq HR0.out)) | exact HSX.out _ HB5.out | exact HSX.out _ (below_alq HB5.out) | exact HSX.out _ (below_alq (below_alq HB5.out)) | exact HSX.out _ (below_drew1 HB5.out) | exact HSX.out _ (below_drew1 (below_alq HB5.out)) | exact HSX.out _ (below_drew1 (below_alq (below_alq HB5.out))) | exact HSX.out _ HB6.out | exact HSX.out _ (below_drew1 HB6.out)) (first
        | (have hq := HO5.out
           clear hq
           go_simp
           go_at_call 40
           refine (joined_any _ _ 2 _ [[st], ctxOf ls rs P] (by first | exact HRT.out _ | exact rdl_drw (HRT.out _) | exact HRU.out _ _ | exact rdl_drw (HRU.out _ _)) (by decide) (by exact HKL.out)).mono ?_
           rintro e w6 ⟨A6, n6, c6, rfl, ho6, hb6⟩
           (try replace hb6 := und1 hb6)
           have HB6 : Hid (Below w4.heap.size w4 w6) := Lib.hid (by first | exact ba1 HB5.out hb6 | exact ba2 HB5.out hb6)
           have HR6 : Hid (Rd w6 A6 n6 (ints (st :: ctxOf ls rs P))) := Lib.hid (by simpa using own_rd ho6)
           clear ho6 hb6)
        | (go_simp
           go_at_call 41
           with_reducible refine (HCT.out _ (by first | exact HR0.out | exact HRD.out | exact below_alq HR0.out | exact below_drew1 (below_alq HR0.out) | exact below_alq HRD.out)).mono ?_
           rintro e w5 ⟨A5, n5, c5, rfl, ho5, hb5⟩
           (try replace hb5 := und1 hb5)
           have HB5 : Hid (Below w4.heap.size w4 w5) := Lib.hid (by first | exact hb5 | exact ba1 (Below.refl _ _) hb5)
           have HN5 : Hid (n5 ≤ 1000000000) := Lib.hid (by have h := ho5.1; have h2 := HCL.out; simp only [List.length_map] at h; omega)
           (try (have HRT : Hid (∀ (T : Nat), RdL (w5.alloc (.cells #[.slice (some ⟨w4.heap.size, 0, none⟩) 1 1, .slice A5 n5 c5] T)) (some ⟨w5.heap.size, 0, none⟩) 2 [[st], ctxOf ls rs P]) := Lib.hid (fun T => rdL2 (tmp_rd w4 w5 st 2 hb5) (own_rd ho5) (by decide) HN5.out)))
           have HRU : Hid (∀ (T I : Nat), RdL ((w5.alloc (.cells #[.int .i64 st] I)).alloc (.cells #[.slice (some ⟨w5.heap.size, 0, none⟩) 1 1, .slice A5 n5 c5] T)) (some ⟨w5.heap.size + 1, 0, none⟩) 2 [[st], ctxOf ls rs P]) := Lib.hid (fun T I => rd_pairT (own_rd ho5) HN5.out T I)
           have HO5 := Lib.hid ho5
           clear ho5 hb5))) | fail)
      all_goals
        as_aux_lemma =>
        (try (have hq := HRU.out; clear hq HRU))
        (try (have hq := HRT.out; clear hq HRT))
        clear HO5 HN5
        have HB06 : Hid (Below w.heap.size w w6) := Lib.hid (HB04.out.trans (HB6.out.mono HB04.out.size))
        have HX6 := Lib.hid (blk_bel HX4.out HB6.out)
        have HC6 := Lib.hid (BC.bel HX24.out HB6.out)
        have HR36 := Lib.hid (HR34.out.below HB6.out (Nat.le_refl _)); have HR46 := Lib.hid (HR44.out.below HB6.out (Nat.le_refl _))
        have HO16 := Lib.hid (HO1.out.below HB6.out); have HO26 := Lib.hid (HO2.out.below HB6.out); have HO36 := Lib.hid (HO3.out.below HB6.out)
        clear HB5
        have hw3 : ws.length ≤ 300 := (okP_bd HC.out.1).2.2.1
        have hm1 : m1 ≤ 1000000000 := by rw [← HO16.out.len]; simp [lefts]; omega
        have hm2 : m2 ≤ 1000000000 := by rw [← HO26.out.len]; simp [rights]; omega
        have hm3 : m3 ≤ 1000000000 := by rw [← HO36.out.len]; simp [stated, ctxs]; omega
        have HM := Lib.hid (And.intro hm1 (And.intro hm2 hm3))
        clear hw3 hm1 hm2 hm3
        obtain ⟨LF, hLF⟩ : ∃ LF, LF = lefts ns ws := ⟨_, rfl⟩
        obtain ⟨RT, hRT⟩ : ∃ RT, RT = rights ns ws := ⟨_, rfl⟩
        obtain ⟨CX, hCX⟩ : ∃ CX, CX = stated (ns.drop 3) (ctxs ns ws) := ⟨_, rfl⟩
        obtain ⟨WL, hWL⟩ : ∃ WL, WL = wl ls 1 P (n3 - 1) := ⟨_, rfl⟩
        obtain ⟨WR, hWR⟩ : ∃ WR, WR = wl (rs.drop 1) 1 P (n4 - 1 - 1) := ⟨_, rfl⟩
        have HGL : Hid (∀ x ∈ LF, Gw x ∧ x.length = P) := Lib.hid (by rw [hLF, HPT.out]; exact HGW.out.1)
        have HGR : Hid (∀ x ∈ RT, Gw x ∧ x.length = P) := Lib.hid (by rw [hRT, HPT.out]; exact HGW.out.2.1)
        have HGC : Hid (∀ x ∈ CX, Gw x ∧ x.length = 2 * P + 2) := Lib.hid (by rw [hCX, HPT.out]; exact HGW.out.2.2)
        have HWGL : Hid (∀ x ∈ WL, Gw x ∧ x.length = P) := Lib.hid (by rw [hWL]; exact wl_gw (by have := HP4.out; omega) HCL4.out.2.2.1)
        have HWGR : Hid (∀ x ∈ WR, Gw x ∧ x.length = P) := Lib.hid (by rw [hWR]; exact wl_gw (by have := HP4.out; omega) (fun x hx => HCL4.out.2.2.2 x (List.mem_of_mem_drop hx)))
        have HWSL : Hid (WL.length ≤ 1000000) := Lib.hid (by rw [hWL, wl_size]; have := HLS.out; omega)
        have HWSR : Hid (WR.length ≤ 1000000) := Lib.hid (by rw [hWR, wl_size]; have := HLS.out; omega)
        have HEL : Hid (winsOf ls 1 P = sortU WL) := Lib.hid (by unfold winsOf; have h1 := HR36.out.1; simp only [List.length_map] at h1; rw [hWL, h1])
        have HER : Hid (winsOf rs 2 P = sortU WR) := Lib.hid (by unfold winsOf; have h1 := HR46.out.1; simp only [List.length_map] at h1; rw [hWR, wl_drop, h1, Nat.sub_sub])
        obtain ⟨SL, hSL⟩ : ∃ SL, SL = sortU WL := ⟨_, rfl⟩
        obtain ⟨SR, hSR⟩ : ∃ SR, SR = sortU WR := ⟨_, rfl⟩
        obtain ⟨b1, hb1⟩ : ∃ b1, b1 = decide ((st :: ctxOf ls rs P) ∈ CX) := ⟨_, rfl⟩
        obtain ⟨b2, hb2⟩ : ∃ b2, b2 = SL.all (fun x => decide (x ∈ LF)) := ⟨_, rfl⟩
        obtain ⟨b3, hb3⟩ : ∃ b3, b3 = SR.all (fun x => decide (x ∈ RT)) := ⟨_, rfl⟩
        have HIC : Hid (icB s t ps k ns ws st ls rs = (b1 && b2 && b3)) := Lib.hid (by
          unfold icB
          rw [HVV.out.1, HVV.out.2, HC.out.1, HC.out.2, ← HPT.out, HEL.out, HER.out, hb1, hb2, hb3, hSL, hSR, hLF, hRT, hCX]
          simp)
        have HSX7 : Hid (∀ wx : World, Below w6.heap.size w6 wx → wx.cell? ⟨w.heap.size + 1 + 1, 1, none⟩ = some (.slice A3 n3 c3) ∧ wx.cell? ⟨w.heap.size + 1 + 1, 2, none⟩ = some (.slice A4 n4 c4) ∧ wx.cell? ⟨w3.heap.size, 0, none⟩ = some (.int .i64 (pN ns)) ∧ wx.cell? ⟨w3.heap.size, 1, none⟩ = some (.slice B1 m1 d1) ∧ wx.cell? ⟨w3.heap.size, 2, none⟩ = some (.slice B2 m2 d2) ∧ wx.cell? ⟨w3.heap.size, 3, none⟩ = some (.slice B3 m3 d3)) := Lib.hid (fun wx hbx => by
          obtain ⟨a0, a1, a2⟩ := BC.cells (BC.bel HC6.out hbx)
          have hz := blk_bel HX6.out hbx
          exact ⟨a1, a2, blk_cell hz 0 rfl, blk_cell hz 1 rfl, blk_cell hz 2 rfl, blk_cell hz 3 rfl⟩)
        have HSA : Hid (∀ wx : World, Below w6.heap.size w6 wx → Calls Tryz.prog 42 #[.int .i64 (pN ns), .slice B1 m1 d1] wx (fun e w' => ∃ g mB, e = .returned (.pointer (some ⟨g, 0, none⟩)) ∧ IsSet w' g mB (pN ns) LF ∧ wx.heap.size ≤ g ∧ wx.heap.size ≤ mB ∧ Below wx.heap.size wx w')) := Lib.hid (fun wx hbx => setOf_any wx (pN ns) B1 m1 d1 _ (by rw [hLF]; exact (HO16.out.below hbx).rdl) HM.out.1 (fun ys hy => (HGL.out ys hy).1))
        have HSB : Hid (∀ wx : World, Below w6.heap.size w6 wx → Calls Tryz.prog 42 #[.int .i64 (pN ns), .slice B2 m2 d2] wx (fun e w' => ∃ g mB, e = .returned (.pointer (some ⟨g, 0, none⟩)) ∧ IsSet w' g mB (pN ns) RT ∧ wx.heap.size ≤ g ∧ wx.heap.size ≤ mB ∧ Below wx.heap.size wx w')) := Lib.hid (fun wx hbx => setOf_any wx (pN ns) B2 m2 d2 _ (by rw [hRT]; exact (HO26.out.below hbx).rdl) HM.out.2.1 (fun ys hy => (HGR.out ys hy).1))
        have HSC : Hid (∀ wx : World, Below w6.heap.size w6 wx → Calls Tryz.prog 42 #[.int .i64 (2 * pN ns + 2), .slice B3 m3 d3] wx (fun e w' => ∃ g mB, e = .returned (.pointer (some ⟨g, 0, none⟩)) ∧ IsSet w' g mB (2 * pN ns + 2) CX ∧ wx.heap.size ≤ g ∧ wx.heap.size ≤ mB ∧ Below wx.heap.size wx w')) := Lib.hid (fun wx hbx => setOf_any wx (2 * pN ns + 2) B3 m3 d3 _ (by rw [hCX]; exact (HO36.out.below hbx).rdl) HM.out.2.2 (fun ys hy => (HGC.out ys hy).1))
        have HHA : Hid (∀ wx : World, Below w6.heap.size w6 wx → ∀ g mB : Nat, IsSet wx g mB (2 * pN ns + 2) CX → Calls Tryz.prog 43 #[.pointer (some ⟨g, 0, none⟩), .slice A6 n6 c6] wx (RetV wx (.bool b1))) := Lib.hid (fun wx hbx g mB hs => by
          rw [hb1]
          exact has_any wx g mB _ CX hs A6 n6 c6 _ (HR6.out.below hbx (Nat.le_refl _)) (ctx_gw HP4.out.2 HSS.out HCL4.out.2.2.1 HCL4.out.2.2.2) (fun ys hy => ⟨(HGC.out ys hy).1, by rw [(HGC.out ys hy).2]; simp only [List.length_cons, ctxOf_len]⟩))
        have HWA : Hid (∀ wx : World, Below w6.heap.size w6 wx → Calls Tryz.prog 45 #[.slice A3 n3 c3, .int .i64 (pN ns)] wx (SetP wx P WL)) := Lib.hid (fun wx hbx => by
          rw [hWL, HPI.out]
          exact windowsOf_any wx A3 n3 c3 ls (HR36.out.below hbx (Nat.le_refl _)) HLS.out.1 HCL4.out.2.2.1 P HP4.out)
        have HWB : Hid (∀ (wx : World) (A9 : Option Addr) (n9 c9 : Nat), Rd wx A9 n9 (ints (rs.drop 1)) → Calls Tryz.prog 45 #[.slice A9 n9 c9, .int .i64 (pN ns)] wx (SetP wx P WR)) := Lib.hid (fun wx A9 n9 c9 hr9 => by
          have e : n9 = n4 - 1 := by have h := hr9.1; have h2 := HR46.out.1; simp at h h2; omega
          subst e
          rw [hWR, HPI.out]
          exact windowsOf_any wx A9 _ c9 (rs.drop 1) hr9 (by have := HLS.out; omega) (fun x hx => HCL4.out.2.2.2 x (List.mem_of_mem_drop hx)) P HP4.out)
        have HSO : Hid (∀ (wx : World) (g mB : Nat), IsSet wx g mB P WL → Calls Tryz.prog 46 #[.pointer (some ⟨g, 0, none⟩)] wx (RetP wx SL)) := Lib.hid (fun wx g mB hs => by
          rw [hSL]
          exact sorted_any wx g mB P _ hs (by have := HP4.out; omega) HWSL.out HWGL.out)
        have HSP : Hid (∀ (wx : World) (g mB : Nat), IsSet wx g mB P WR → Calls Tryz.prog 46 #[.pointer (some ⟨g, 0, none⟩)] wx (RetP wx SR)) := Lib.hid (fun wx g mB hs => by
          rw [hSR]
          exact sorted_any wx g mB P _ hs (by have := HP4.out; omega) HWSR.out HWGR.out)
        have HBY : Hid (∀ wx : World, Below w6.heap.size w6 wx → Calls Tryz.prog 47 #[.slice A4 n4 c4] wx (BeyP wx rs)) := Lib.hid (fun wx hbx => beyond_any wx A4 n4 c4 rs (HR46.out.below hbx (Nat.le_refl _)) (by have := HLS.out; omega) hc4)
        have HCA : Hid (∀ (wx : World) (g mB : Nat) (A : Option Addr) (n c : Nat), IsSet wx g mB (pN ns) LF → RdL wx A n SL → Calls Tryz.prog 44 #[.pointer (some ⟨g, 0, none⟩), .slice A n c] wx (RetV wx (.bool b2))) := Lib.hid (fun wx g mB A n c hs hr => by
          rw [hb2]
          exact contains_any wx g mB _ LF hs P HGL.out A n c SL hr (by have h := hr.len; have h2 := sortU_size WL; have := HWSL.out; rw [hSL] at h; omega) (fun ys hy => HWGL.out ys (by rw [hSL] at hy; exact sortU_mem.1 hy)))
        have HCB : Hid (∀ (wx : World) (g mB : Nat) (A : Option Addr) (n c : Nat), IsSet wx g mB (pN ns) RT → RdL wx A n SR → Calls Tryz.prog 44 #[.pointer (some ⟨g, 0, none⟩), .slice A n c] wx (RetV wx (.bool b3))) := Lib.hid (fun wx g mB A n c hs hr => by
          rw [hb3]
          exact contains_any wx g mB _ RT hs P HGR.out A n c SR hr (by have h := hr.len; have h2 := sortU_size WR; have := HWSR.out; rw [hSR] at h; omega) (fun ys hy => HWGR.out ys (by rw [hSR] at hy; exact sortU_mem.1 hy)))
        have HR7 : Hid (Below w6.heap.size w6 w6) := Lib.hid (Below.refl _ _)
        have HRD7 : Hid (Below w6.heap.size w6 w6.drew) := Lib.hid (below_drewN (n := 1) (Below.refl _ _))
        have e1 : IntKind.i64.wrap (2 * pN ns) = 2 * pN ns := IntWalk.i64_in _ (by have := HPI.out; have := HP4.out; omega)
        have e2 : IntKind.i64.wrap (2 * pN ns + 2) = 2 * pN ns + 2 := IntWalk.i64_in _ (by have := HPI.out; have := HP4.out; omega)
        have HE1 := Lib.hid e1; have HE2 := Lib.hid e2
        clear e1 e2 hLF hRT hCX hWL hWR hSL hSR hb1 hb2 hb3 q0 q1 q2 q3
        clear HGW HVV HO1 HO2 HO3 HB04 HR34 HR44 HX24 HX4 HCT HSX HR0 HRD
        as_aux_lemma =>
        cases b1 with
        | false =>
          as_aux_lemma =>
          have q1 := (HSX7.out _ HR7.out).1
          have q2 := (HSX7.out _ HR7.out).2.1
          have q3 := (HSX7.out _ HR7.out).2.2.1
          have q4 := (HSX7.out _ HR7.out).2.2.2.1
          have q5 := (HSX7.out _ HR7.out).2.2.2.2.1
          have q6 := (HSX7.out _ HR7.out).2.2.2.2.2
          have e1 := HE1.out; have e2 := HE2.out
          go_wp2_with fail
          refine wp_region_held_drew (S := fun w' => w'.cell? ⟨w.heap.size + 1 + 1, 1, none⟩ = some (.slice A3 n3 c3) ∧ w'.cell? ⟨w.heap.size + 1 + 1, 2, none⟩ = some (.slice A4 n4 c4) ∧ w'.cell? ⟨w3.heap.size, 0, none⟩ = some (.int .i64 (pN ns)) ∧ w'.cell? ⟨w3.heap.size, 1, none⟩ = some (.slice B1 m1 d1) ∧ w'.cell? ⟨w3.heap.size, 2, none⟩ = some (.slice B2 m2 d2) ∧ w'.cell? ⟨w3.heap.size, 3, none⟩ = some (.slice B3 m3 d3)) (by kernel_rfl) ?_ (fun hHeld => ?_)
          · (first | with_reducible exact HSX7.out _ HB21.out | with_reducible exact HSX7.out _ (below_drew1 HB21.out) | with_reducible exact HSX7.out _ HB20.out | with_reducible exact HSX7.out _ (below_drew1 HB20.out) | with_reducible exact HSX7.out _ HB19.out | with_reducible exact HSX7.out _ (below_drew1 HB19.out) | with_reducible exact HSX7.out _ HB17.out | with_reducible exact HSX7.out _ (below_drew1 HB17.out) | with_reducible exact HSX7.out _ HB16.out | with_reducible exact HSX7.out _ (below_drew1 HB16.out) | with_reducible exact HSX7.out _ HB15.out | with_reducible exact HSX7.out _ (below_drew1 HB15.out) | with_reducible exact HSX7.out _ HB14.out | with_reducible exact HSX7.out _ (below_drew1 HB14.out) | with_reducible exact HSX7.out _ HB13.out | with_reducible exact HSX7.out _ (below_drew1 HB13.out) | with_reducible exact HSX7.out _ HB12.out | with_reducible exact HSX7.out _ (below_drew1 HB12.out) | with_reducible exact HSX7.out _ HB11.out | with_reducible exact HSX7.out _ (below_drew1 HB11.out) | with_reducible exact HSX7.out _ HR7.out | with_reducible exact HSX7.out _ HRD7.out)
          refine wpAnyH_take (i := 0) (oi := _) (v := ?_) rfl (by kernel_rfl) (by kernel_rfl) (by kernel_rfl) (fun _ _ _ h => h) (Or.inl ⟨by rfl, ?_⟩) (by assumption) ?_
          rotate_left
          · intro wS hSw
            (try dsimp only at hSw)
            simp only [List.getElem_toArray, List.getElem_cons_succ, List.getElem_cons_zero]
            first | (go_simp; done) | (go_simp; with_reducible rfl)
          try simp only [Act.put, List.setIfInBounds_toArray, List.set_cons_zero, List.set_cons_succ, List.getElem_toArray, List.getElem_cons_succ, List.getElem_cons_zero]
          refine wpAnyH_take (i := 1) (oi := _) (v := ?_) rfl (by kernel_rfl) (by kernel_rfl) (by kernel_rfl) (fun _ _ _ h => h) (Or.inl ⟨by rfl, ?_⟩) (by assumption) ?_
          rotate_left
          · intro wS hSw
            (try dsimp only at hSw)
            simp only [List.getElem_toArray, List.getElem_cons_succ, List.getElem_cons_zero]
            first | (go_simp; done) | (go_simp; with_reducible rfl)
          try simp only [Act.put, List.setIfInBounds_toArray, List.set_cons_zero, List.set_cons_succ, List.getElem_toArray, List.getElem_cons_succ, List.getElem_cons_zero]
          refine wpAnyH_take (i := 2) (oi := _) (v := ?_) rfl (by kernel_rfl) (by kernel_rfl) (by kernel_rfl) (fun _ _ _ h => h) (Or.inl ⟨by rfl, ?_⟩) (by assumption) ?_
          rotate_left
          · intro wS hSw
            (try dsimp only at hSw)
            simp only [List.getElem_toArray, List.getElem_cons_succ, List.getElem_cons_zero]
            first | (go_simp; done) | (go_simp; with_reducible rfl)
          try simp only [Act.put, List.setIfInBounds_toArray, List.set_cons_zero, List.set_cons_succ, List.getElem_toArray, List.getElem_cons_succ, List.getElem_cons_zero]
          refine wpAnyH_take (i := 3) (oi := _) (v := ?_) rfl (by kernel_rfl) (by kernel_rfl) (by kernel_rfl) (fun _ _ _ h => h) (Or.inl ⟨by rfl, ?_⟩) (by assumption) ?_
          rotate_left
          · intro wS hSw
            (try dsimp only at hSw)
            simp only [List.getElem_toArray, List.getElem_cons_succ, List.getElem_cons_zero]
            first | (go_simp; done) | (go_simp; with_reducible rfl)
          try simp only [Act.put, List.setIfInBounds_toArray, List.set_cons_zero, List.set_cons_succ, List.getElem_toArray, List.getElem_cons_succ, List.getElem_cons_zero]
          refine wpAnyH_take (i := 4) (oi := _) (v := ?_) rfl (by kernel_rfl) (by kernel_rfl) (by kernel_rfl) (fun _ _ _ h => h) (Or.inl ⟨by rfl, ?_⟩) (by assumption) ?_
          rotate_left
          · intro wS hSw
            (try dsimp only at hSw)
            simp only [List.getElem_toArray, List.getElem_cons_succ, List.getElem_cons_zero]
            first | (go_simp; done) | (go_simp; with_reducible rfl)
          try simp only [Act.put, List.setIfInBounds_toArray, List.set_cons_zero, List.set_cons_succ, List.getElem_toArray, List.getElem_cons_succ, List.getElem_cons_zero]
          refine wpAnyH_take (i := 5) (oi := _) (v := ?_) rfl (by kernel_rfl) (by kernel_rfl) (by kernel_rfl) (fun _ _ _ h => h) (Or.inl ⟨by rfl, ?_⟩) (by assumption) ?_
          rotate_left
          · intro wS hSw
            (try dsimp only at hSw)
            simp only [List.getElem_toArray, List.getElem_cons_succ, List.getElem_cons_zero]
            first | (go_simp; done) | (go_simp; with_reducible rfl)
          try simp only [Act.put, List.setIfInBounds_toArray, List.set_cons_zero, List.set_cons_succ, List.getElem_toArray, List.getElem_cons_succ, List.getElem_cons_zero]
          refine wpAnyH_take (i := 7) (oi := _) (v := ?_) rfl (by kernel_rfl) (by kernel_rfl) (by kernel_rfl) (fun _ _ _ h => h) (Or.inl ⟨by rfl, ?_⟩) (by assumption) ?_
          rotate_left
          · intro wS hSw
            (try dsimp only at hSw)
            simp only [List.getElem_toArray, List.getElem_cons_succ, List.getElem_cons_zero]
            first | (go_simp; done) | (go_simp; with_reducible rfl)
          try simp only [Act.put, List.setIfInBounds_toArray, List.set_cons_zero, List.set_cons_succ, List.getElem_toArray, List.getElem_cons_succ, List.getElem_cons_zero]
          refine wpAnyH_ready (rs := [6]) (by kernel_rfl) (by simp) ?_
          refine AllReadyH.cons (o := _) rfl (fun K hK => ?_) AllReadyH.nil
          try simp only [List.getElem_toArray, List.getElem_cons_succ, List.getElem_cons_zero]
          go_simp
          go_at_call 42
          with_reducible refine (HSC.out _ (by first | exact HR7.out | exact HRD7.out)).mono ?_
          rintro e w11 ⟨g1, k1, rfl, hs11, _, _, hb11⟩
          (try replace hb11 := und1 hb11)
          have HS11 := Lib.hid hs11
          have HB11 : Hid (Below w6.heap.size w6 w11) := Lib.hid hb11
          clear hs11 hb11
          refine hK.out _ _ ?_ (fun hHeld => ?_)
          · (first | with_reducible exact HSX7.out _ HB21.out | with_reducible exact HSX7.out _ (below_drew1 HB21.out) | with_reducible exact HSX7.out _ HB20.out | with_reducible exact HSX7.out _ (below_drew1 HB20.out) | with_reducible exact HSX7.out _ HB19.out | with_reducible exact HSX7.out _ (below_drew1 HB19.out) | with_reducible exact HSX7.out _ HB17.out | with_reducible exact HSX7.out _ (below_drew1 HB17.out) | with_reducible exact HSX7.out _ HB16.out | with_reducible exact HSX7.out _ (below_drew1 HB16.out) | with_reducible exact HSX7.out _ HB15.out | with_reducible exact HSX7.out _ (below_drew1 HB15.out) | with_reducible exact HSX7.out _ HB14.out | with_reducible exact HSX7.out _ (below_drew1 HB14.out) | with_reducible exact HSX7.out _ HB13.out | with_reducible exact HSX7.out _ (below_drew1 HB13.out) | with_reducible exact HSX7.out _ HB12.out | with_reducible exact HSX7.out _ (below_drew1 HB12.out) | with_reducible exact HSX7.out _ HB11.out | with_reducible exact HSX7.out _ (below_drew1 HB11.out) | with_reducible exact HSX7.out _ HR7.out | with_reducible exact HSX7.out _ HRD7.out)
          clear hK K
          try simp only [Act.put, List.setIfInBounds_toArray, List.set_cons_zero, List.set_cons_succ, List.getElem_toArray, List.getElem_cons_succ, List.getElem_cons_zero]
          refine wpAnyH_ready (rs := [8]) (by kernel_rfl) (by simp) ?_
          refine AllReadyH.cons (o := _) rfl (fun K hK => ?_) AllReadyH.nil
          try simp only [List.getElem_toArray, List.getElem_cons_succ, List.getElem_cons_zero]
          have hq := HS11.out
          clear hq
          go_simp
          go_at_call 43
          with_reducible refine (HHA.out _ HB11.out g1 k1 HS11.out).mono ?_
          rintro e w12 ⟨rfl, hb12⟩
          have HB12 : Hid (Below w6.heap.size w6 w12) := Lib.hid (HB11.out.trans (hb12.mono HB11.out.size))
          clear hb12
          refine hK.out _ _ ?_ (fun hHeld => ?_)
          · (first | with_reducible exact HSX7.out _ HB21.out | with_reducible exact HSX7.out _ (below_drew1 HB21.out) | with_reducible exact HSX7.out _ HB20.out | with_reducible exact HSX7.out _ (below_drew1 HB20.out) | with_reducible exact HSX7.out _ HB19.out | with_reducible exact HSX7.out _ (below_drew1 HB19.out) | with_reducible exact HSX7.out _ HB17.out | with_reducible exact HSX7.out _ (below_drew1 HB17.out) | with_reducible exact HSX7.out _ HB16.out | with_reducible exact HSX7.out _ (below_drew1 HB16.out) | with_reducible exact HSX7.out _ HB15.out | with_reducible exact HSX7.out _ (below_drew1 HB15.out) | with_reducible exact HSX7.out _ HB14.out | with_reducible exact HSX7.out _ (below_drew1 HB14.out) | with_reducible exact HSX7.out _ HB13.out | with_reducible exact HSX7.out _ (below_drew1 HB13.out) | with_reducible exact HSX7.out _ HB12.out | with_reducible exact HSX7.out _ (below_drew1 HB12.out) | with_reducible exact HSX7.out _ HB11.out | with_reducible exact HSX7.out _ (below_drew1 HB11.out) | with_reducible exact HSX7.out _ HR7.out | with_reducible exact HSX7.out _ HRD7.out)
          clear hK K
          try simp only [Act.put, List.setIfInBounds_toArray, List.set_cons_zero, List.set_cons_succ, List.getElem_toArray, List.getElem_cons_succ, List.getElem_cons_zero]
          refine wpAnyH_take (i := 9) (oi := _) (v := ?_) rfl (by kernel_rfl) (by kernel_rfl) (by kernel_rfl) (fun _ _ _ h => h) (Or.inl ⟨by rfl, ?_⟩) (by assumption) ?_
          rotate_left
          · intro wS hSw
            (try dsimp only at hSw)
            simp only [List.getElem_toArray, List.getElem_cons_succ, List.getElem_cons_zero]
            first | (go_simp; done) | (go_simp; with_reducible rfl)
          try simp only [Act.put, List.setIfInBounds_toArray, List.set_cons_zero, List.set_cons_succ, List.getElem_toArray, List.getElem_cons_succ, List.getElem_cons_zero]
          refine wpAnyH_take (i := 10) (oi := _) (v := undef) rfl (by kernel_rfl) (by kernel_rfl) (by kernel_rfl) (fun _ _ _ h => h) (Or.inr ⟨by rfl, rfl⟩) (by assumption) ?_
          try simp only [Act.put, List.setIfInBounds_toArray, List.set_cons_zero, List.set_cons_succ, List.getElem_toArray, List.getElem_cons_succ, List.getElem_cons_zero]
          refine wpAnyH_take (i := 11) (oi := _) (v := undef) rfl (by kernel_rfl) (by kernel_rfl) (by kernel_rfl) (fun _ _ _ h => h) (Or.inr ⟨by rfl, rfl⟩) (by assumption) ?_
          try simp only [Act.put, List.setIfInBounds_toArray, List.set_cons_zero, List.set_cons_succ, List.getElem_toArray, List.getElem_cons_succ, List.getElem_cons_zero]
          refine wpAnyH_take (i := 12) (oi := _) (v := undef) rfl (by kernel_rfl) (by kernel_rfl) (by kernel_rfl) (fun _ _ _ h => h) (Or.inr ⟨by rfl, rfl⟩) (by assumption) ?_
          try simp only [Act.put, List.setIfInBounds_toArray, List.set_cons_zero, List.set_cons_succ, List.getElem_toArray, List.getElem_cons_succ, List.getElem_cons_zero]
          refine wpAnyH_take (i := 13) (oi := _) (v := undef) rfl (by kernel_rfl) (by kernel_rfl) (by kernel_rfl) (fun _ _ _ h => h) (Or.inr ⟨by rfl, rfl⟩) (by assumption) ?_
          try simp only [Act.put, List.setIfInBounds_toArray, List.set_cons_zero, List.set_cons_succ, List.getElem_toArray, List.getElem_cons_succ, List.getElem_cons_zero]
          refine wpAnyH_take (i := 14) (oi := _) (v := undef) rfl (by kernel_rfl) (by kernel_rfl) (by kernel_rfl) (fun _ _ _ h => h) (Or.inr ⟨by rfl, rfl⟩) (by assumption) ?_
          try simp only [Act.put, List.setIfInBounds_toArray, List.set_cons_zero, List.set_cons_succ, List.getElem_toArray, List.getElem_cons_succ, List.getElem_cons_zero]
          refine wpAnyH_take (i := 15) (oi := _) (v := undef) rfl (by kernel_rfl) (by kernel_rfl) (by kernel_rfl) (fun _ _ _ h => h) (Or.inr ⟨by rfl, rfl⟩) (by assumption) ?_
          try simp only [Act.put, List.setIfInBounds_toArray, List.set_cons_zero, List.set_cons_succ, List.getElem_toArray, List.getElem_cons_succ, List.getElem_cons_zero]
          refine wpAnyH_take (i := 16) (oi := _) (v := undef) rfl (by kernel_rfl) (by kernel_rfl) (by kernel_rfl) (fun _ _ _ h => h) (Or.inr ⟨by rfl, rfl⟩) (by assumption) ?_
          try simp only [Act.put, List.setIfInBounds_toArray, List.set_cons_zero, List.set_cons_succ, List.getElem_toArray, List.getElem_cons_succ, List.getElem_cons_zero]
          refine wpAnyH_take (i := 17) (oi := _) (v := undef) rfl (by kernel_rfl) (by kernel_rfl) (by kernel_rfl) (fun _ _ _ h => h) (Or.inr ⟨by rfl, rfl⟩) (by assumption) ?_
          try simp only [Act.put, List.setIfInBounds_toArray, List.set_cons_zero, List.set_cons_succ, List.getElem_toArray, List.getElem_cons_succ, List.getElem_cons_zero]
          refine wpAnyH_take (i := 18) (oi := _) (v := undef) rfl (by kernel_rfl) (by kernel_rfl) (by kernel_rfl) (fun _ _ _ h => h) (Or.inr ⟨by rfl, rfl⟩) (by assumption) ?_
          try simp only [Act.put, List.setIfInBounds_toArray, List.set_cons_zero, List.set_cons_succ, List.getElem_toArray, List.getElem_cons_succ, List.getElem_cons_zero]
          refine wpAnyH_take (i := 19) (oi := _) (v := undef) rfl (by kernel_rfl) (by kernel_rfl) (by kernel_rfl) (fun _ _ _ h => h) (Or.inr ⟨by rfl, rfl⟩) (by assumption) ?_
          try simp only [Act.put, List.setIfInBounds_toArray, List.set_cons_zero, List.set_cons_succ, List.getElem_toArray, List.getElem_cons_succ, List.getElem_cons_zero]
          refine wpAnyH_take (i := 20) (oi := _) (v := undef) rfl (by kernel_rfl) (by kernel_rfl) (by kernel_rfl) (fun _ _ _ h => h) (Or.inr ⟨by rfl, rfl⟩) (by assumption) ?_
          try simp only [Act.put, List.setIfInBounds_toArray, List.set_cons_zero, List.set_cons_succ, List.getElem_toArray, List.getElem_cons_succ, List.getElem_cons_zero]
          refine wpAnyH_take (i := 21) (oi := _) (v := undef) rfl (by kernel_rfl) (by kernel_rfl) (by kernel_rfl) (fun _ _ _ h => h) (Or.inr ⟨by rfl, rfl⟩) (by assumption) ?_
          try simp only [Act.put, List.setIfInBounds_toArray, List.set_cons_zero, List.set_cons_succ, List.getElem_toArray, List.getElem_cons_succ, List.getElem_cons_zero]
          refine wpAnyH_take (i := 22) (oi := _) (v := ?_) rfl (by kernel_rfl) (by kernel_rfl) (by kernel_rfl) (fun _ _ _ h => h) (Or.inl ⟨by rfl, ?_⟩) (by assumption) ?_
          rotate_left
          · intro wS hSw
            (try dsimp only at hSw)
            simp only [List.getElem_toArray, List.getElem_cons_succ, List.getElem_cons_zero]
            first | (go_simp; done) | (go_simp; with_reducible rfl)
          try simp only [Act.put, List.setIfInBounds_toArray, List.set_cons_zero, List.set_cons_succ, List.getElem_toArray, List.getElem_cons_succ, List.getElem_cons_zero]
          refine wpAnyH_take (i := 23) (oi := _) (v := ?_) rfl (by kernel_rfl) (by kernel_rfl) (by kernel_rfl) (fun _ _ _ h => h) (Or.inl ⟨by rfl, ?_⟩) (by assumption) ?_
          rotate_left
          · intro wS hSw
            (try dsimp only at hSw)
            simp only [List.getElem_toArray, List.getElem_cons_succ, List.getElem_cons_zero]
            first | (go_simp; done) | (go_simp; with_reducible rfl)
          try simp only [Act.put, List.setIfInBounds_toArray, List.set_cons_zero, List.set_cons_succ, List.getElem_toArray, List.getElem_cons_succ, List.getElem_cons_zero]
          refine wpAnyH_take (i := 24) (oi := _) (v := undef) rfl (by kernel_rfl) (by kernel_rfl) (by kernel_rfl) (fun _ _ _ h => h) (Or.inr ⟨by rfl, rfl⟩) (by assumption) ?_
          try simp only [Act.put, List.setIfInBounds_toArray, List.set_cons_zero, List.set_cons_succ, List.getElem_toArray, List.getElem_cons_succ, List.getElem_cons_zero]
          refine wpAnyH_take (i := 25) (oi := _) (v := undef) rfl (by kernel_rfl) (by kernel_rfl) (by kernel_rfl) (fun _ _ _ h => h) (Or.inr ⟨by rfl, rfl⟩) (by assumption) ?_
          try simp only [Act.put, List.setIfInBounds_toArray, List.set_cons_zero, List.set_cons_succ, List.getElem_toArray, List.getElem_cons_succ, List.getElem_cons_zero]
          refine wpAnyH_take (i := 26) (oi := _) (v := undef) rfl (by kernel_rfl) (by kernel_rfl) (by kernel_rfl) (fun _ _ _ h => h) (Or.inr ⟨by rfl, rfl⟩) (by assumption) ?_
          try simp only [Act.put, List.setIfInBounds_toArray, List.set_cons_zero, List.set_cons_succ, List.getElem_toArray, List.getElem_cons_succ, List.getElem_cons_zero]
          refine wpAnyH_take (i := 27) (oi := _) (v := undef) rfl (by kernel_rfl) (by kernel_rfl) (by kernel_rfl) (fun _ _ _ h => h) (Or.inr ⟨by rfl, rfl⟩) (by assumption) ?_
          try simp only [Act.put, List.setIfInBounds_toArray, List.set_cons_zero, List.set_cons_succ, List.getElem_toArray, List.getElem_cons_succ, List.getElem_cons_zero]
          refine wpAnyH_take (i := 28) (oi := _) (v := undef) rfl (by kernel_rfl) (by kernel_rfl) (by kernel_rfl) (fun _ _ _ h => h) (Or.inr ⟨by rfl, rfl⟩) (by assumption) ?_
          try simp only [Act.put, List.setIfInBounds_toArray, List.set_cons_zero, List.set_cons_succ, List.getElem_toArray, List.getElem_cons_succ, List.getElem_cons_zero]
          refine wpAnyH_take (i := 29) (oi := _) (v := undef) rfl (by kernel_rfl) (by kernel_rfl) (by kernel_rfl) (fun _ _ _ h => h) (Or.inr ⟨by rfl, rfl⟩) (by assumption) ?_
          try simp only [Act.put, List.setIfInBounds_toArray, List.set_cons_zero, List.set_cons_succ, List.getElem_toArray, List.getElem_cons_succ, List.getElem_cons_zero]
          refine wpAnyH_take (i := 30) (oi := _) (v := undef) rfl (by kernel_rfl) (by kernel_rfl) (by kernel_rfl) (fun _ _ _ h => h) (Or.inr ⟨by rfl, rfl⟩) (by assumption) ?_
          try simp only [Act.put, List.setIfInBounds_toArray, List.set_cons_zero, List.set_cons_succ, List.getElem_toArray, List.getElem_cons_succ, List.getElem_cons_zero]
          refine wpAnyH_take (i := 31) (oi := _) (v := undef) rfl (by kernel_rfl) (by kernel_rfl) (by kernel_rfl) (fun _ _ _ h => h) (Or.inr ⟨by rfl, rfl⟩) (by assumption) ?_
          try simp only [Act.put, List.setIfInBounds_toArray, List.set_cons_zero, List.set_cons_succ, List.getElem_toArray, List.getElem_cons_succ, List.getElem_cons_zero]
          refine wpAnyH_take (i := 32) (oi := _) (v := undef) rfl (by kernel_rfl) (by kernel_rfl) (by kernel_rfl) (fun _ _ _ h => h) (Or.inr ⟨by rfl, rfl⟩) (by assumption) ?_
          try simp only [Act.put, List.setIfInBounds_toArray, List.set_cons_zero, List.set_cons_succ, List.getElem_toArray, List.getElem_cons_succ, List.getElem_cons_zero]
          refine wpAnyH_take (i := 33) (oi := _) (v := undef) rfl (by kernel_rfl) (by kernel_rfl) (by kernel_rfl) (fun _ _ _ h => h) (Or.inr ⟨by rfl, rfl⟩) (by assumption) ?_
          try simp only [Act.put, List.setIfInBounds_toArray, List.set_cons_zero, List.set_cons_succ, List.getElem_toArray, List.getElem_cons_succ, List.getElem_cons_zero]
          refine wpAnyH_take (i := 34) (oi := _) (v := undef) rfl (by kernel_rfl) (by kernel_rfl) (by kernel_rfl) (fun _ _ _ h => h) (Or.inr ⟨by rfl, rfl⟩) (by assumption) ?_
          try simp only [Act.put, List.setIfInBounds_toArray, List.set_cons_zero, List.set_cons_succ, List.getElem_toArray, List.getElem_cons_succ, List.getElem_cons_zero]
          refine wpAnyH_take (i := 35) (oi := _) (v := undef) rfl (by kernel_rfl) (by kernel_rfl) (by kernel_rfl) (fun _ _ _ h => h) (Or.inr ⟨by rfl, rfl⟩) (by assumption) ?_
          try simp only [Act.put, List.setIfInBounds_toArray, List.set_cons_zero, List.set_cons_succ, List.getElem_toArray, List.getElem_cons_succ, List.getElem_cons_zero]
          refine wpAnyH_take (i := 36) (oi := _) (v := undef) rfl (by kernel_rfl) (by kernel_rfl) (by kernel_rfl) (fun _ _ _ h => h) (Or.inr ⟨by rfl, rfl⟩) (by assumption) ?_
          try simp only [Act.put, List.setIfInBounds_toArray, List.set_cons_zero, List.set_cons_succ, List.getElem_toArray, List.getElem_cons_succ, List.getElem_cons_zero]
          refine wpAnyH_take (i := 37) (oi := _) (v := ?_) rfl (by kernel_rfl) (by kernel_rfl) (by kernel_rfl) (fun _ _ _ h => h) (Or.inl ⟨by rfl, ?_⟩) (by assumption) ?_
          rotate_left
          · intro wS hSw
            (try dsimp only at hSw)
            simp only [List.getElem_toArray, List.getElem_cons_succ, List.getElem_cons_zero]
            first | (go_simp; done) | (go_simp; with_reducible rfl)
          try simp only [Act.put, List.setIfInBounds_toArray, List.set_cons_zero, List.set_cons_succ, List.getElem_toArray, List.getElem_cons_succ, List.getElem_cons_zero]
          refine wpAnyH_take (i := 38) (oi := _) (v := ?_) rfl (by kernel_rfl) (by kernel_rfl) (by kernel_rfl) (fun _ _ _ h => h) (Or.inl ⟨by rfl, ?_⟩) (by assumption) ?_
          rotate_left
          · intro wS hSw
            (try dsimp only at hSw)
            simp only [List.getElem_toArray, List.getElem_cons_succ, List.getElem_cons_zero]
            first | (go_simp; done) | (go_simp; with_reducible rfl)
          try simp only [Act.put, List.setIfInBounds_toArray, List.set_cons_zero, List.set_cons_succ, List.getElem_toArray, List.getElem_cons_succ, List.getElem_cons_zero]
          refine wpAnyH_done (by kernel_rfl) ?_ _
          clear e1 e2
          go_wp2_with fail
          go_ret
          exact ⟨by rw [HIC.out]; rfl, by first | exact HB06.out.trans (HB12.out.mono HB06.out.size) | exact below_drew1 (HB06.out.trans (HB12.out.mono HB06.out.size))⟩
        | true =>
          cases b2 with
          | false =>
            as_aux_lemma =>
            have q1 := (HSX7.out _ HR7.out).1
            have q2 := (HSX7.out _ HR7.out).2.1
            have q3 := (HSX7.out _ HR7.out).2.2.1
            have q4 := (HSX7.out _ HR7.out).2.2.2.1
            have q5 := (HSX7.out _ HR7.out).2.2.2.2.1
            have q6 := (HSX7.out _ HR7.out).2.2.2.2.2
            have e1 := HE1.out; have e2 := HE2.out
            go_wp2_with fail
            refine wp_region_held_drew (S := fun w' => w'.cell? ⟨w.heap.size + 1 + 1, 1, none⟩ = some (.slice A3 n3 c3) ∧ w'.cell? ⟨w.heap.size + 1 + 1, 2, none⟩ = some (.slice A4 n4 c4) ∧ w'.cell? ⟨w3.heap.size, 0, none⟩ = some (.int .i64 (pN ns)) ∧ w'.cell? ⟨w3.heap.size, 1, none⟩ = some (.slice B1 m1 d1) ∧ w'.cell? ⟨w3.heap.size, 2, none⟩ = some (.slice B2 m2 d2) ∧ w'.cell? ⟨w3.heap.size, 3, none⟩ = some (.slice B3 m3 d3)) (by kernel_rfl) ?_ (fun hHeld => ?_)
            · (first | with_reducible exact HSX7.out _ HB21.out | with_reducible exact HSX7.out _ (below_drew1 HB21.out) | with_reducible exact HSX7.out _ HB20.out | with_reducible exact HSX7.out _ (below_drew1 HB20.out) | with_reducible exact HSX7.out _ HB19.out | with_reducible exact HSX7.out _ (below_drew1 HB19.out) | with_reducible exact HSX7.out _ HB17.out | with_reducible exact HSX7.out _ (below_drew1 HB17.out) | with_reducible exact HSX7.out _ HB16.out | with_reducible exact HSX7.out _ (below_drew1 HB16.out) | with_reducible exact HSX7.out _ HB15.out | with_reducible exact HSX7.out _ (below_drew1 HB15.out) | with_reducible exact HSX7.out _ HB14.out | with_reducible exact HSX7.out _ (below_drew1 HB14.out) | with_reducible exact HSX7.out _ HB13.out | with_reducible exact HSX7.out _ (below_drew1 HB13.out) | with_reducible exact HSX7.out _ HB12.out | with_reducible exact HSX7.out _ (below_drew1 HB12.out) | with_reducible exact HSX7.out _ HB11.out | with_reducible exact HSX7.out _ (below_drew1 HB11.out) | with_reducible exact HSX7.out _ HR7.out | with_reducible exact HSX7.out _ HRD7.out)
            refine wpAnyH_take (i := 0) (oi := _) (v := ?_) rfl (by kernel_rfl) (by kernel_rfl) (by kernel_rfl) (fun _ _ _ h => h) (Or.inl ⟨by rfl, ?_⟩) (by assumption) ?_
            rotate_left
            · intro wS hSw
              (try dsimp only at hSw)
              simp only [List.getElem_toArray, List.getElem_cons_succ, List.getElem_cons_zero]
              first | (go_simp; done) | (go_simp; with_reducible rfl)
            try simp only [Act.put, List.setIfInBounds_toArray, List.set_cons_zero, List.set_cons_succ, List.getElem_toArray, List.getElem_cons_succ, List.getElem_cons_zero]
            refine wpAnyH_take (i := 1) (oi := _) (v := ?_) rfl (by kernel_rfl) (by kernel_rfl) (by kernel_rfl) (fun _ _ _ h => h) (Or.inl ⟨by rfl, ?_⟩) (by assumption) ?_
            rotate_left
            · intro wS hSw
              (try dsimp only at hSw)
              simp only [List.getElem_toArray, List.getElem_cons_succ, List.getElem_cons_zero]
              first | (go_simp; done) | (go_simp; with_reducible rfl)
            try simp only [Act.put, List.setIfInBounds_toArray, List.set_cons_zero, List.set_cons_succ, List.getElem_toArray, List.getElem_cons_succ, List.getElem_cons_zero]
            refine wpAnyH_take (i := 2) (oi := _) (v := ?_) rfl (by kernel_rfl) (by kernel_rfl) (by kernel_rfl) (fun _ _ _ h => h) (Or.inl ⟨by rfl, ?_⟩) (by assumption) ?_
            rotate_left
            · intro wS hSw
              (try dsimp only at hSw)
              simp only [List.getElem_toArray, List.getElem_cons_succ, List.getElem_cons_zero]
              first | (go_simp; done) | (go_simp; with_reducible rfl)
            try simp only [Act.put, List.setIfInBounds_toArray, List.set_cons_zero, List.set_cons_succ, List.getElem_toArray, List.getElem_cons_succ, List.getElem_cons_zero]
            refine wpAnyH_take (i := 3) (oi := _) (v := ?_) rfl (by kernel_rfl) (by kernel_rfl) (by kernel_rfl) (fun _ _ _ h => h) (Or.inl ⟨by rfl, ?_⟩) (by assumption) ?_
            rotate_left
            · intro wS hSw
              (try dsimp only at hSw)
              simp only [List.getElem_toArray, List.getElem_cons_succ, List.getElem_cons_zero]
              first | (go_simp; done) | (go_simp; with_reducible rfl)
            try simp only [Act.put, List.setIfInBounds_toArray, List.set_cons_zero, List.set_cons_succ, List.getElem_toArray, List.getElem_cons_succ, List.getElem_cons_zero]
            refine wpAnyH_take (i := 4) (oi := _) (v := ?_) rfl (by kernel_rfl) (by kernel_rfl) (by kernel_rfl) (fun _ _ _ h => h) (Or.inl ⟨by rfl, ?_⟩) (by assumption) ?_
            rotate_left
            · intro wS hSw
              (try dsimp only at hSw)
              simp only [List.getElem_toArray, List.getElem_cons_succ, List.getElem_cons_zero]
              first | (go_simp; done) | (go_simp; with_reducible rfl)
            try simp only [Act.put, List.setIfInBounds_toArray, List.set_cons_zero, List.set_cons_succ, List.getElem_toArray, List.getElem_cons_succ, List.getElem_cons_zero]
            refine wpAnyH_take (i := 5) (oi := _) (v := ?_) rfl (by kernel_rfl) (by kernel_rfl) (by kernel_rfl) (fun _ _ _ h => h) (Or.inl ⟨by rfl, ?_⟩) (by assumption) ?_
            rotate_left
            · intro wS hSw
              (try dsimp only at hSw)
              simp only [List.getElem_toArray, List.getElem_cons_succ, List.getElem_cons_zero]
              first | (go_simp; done) | (go_simp; with_reducible rfl)
            try simp only [Act.put, List.setIfInBounds_toArray, List.set_cons_zero, List.set_cons_succ, List.getElem_toArray, List.getElem_cons_succ, List.getElem_cons_zero]
            refine wpAnyH_take (i := 7) (oi := _) (v := ?_) rfl (by kernel_rfl) (by kernel_rfl) (by kernel_rfl) (fun _ _ _ h => h) (Or.inl ⟨by rfl, ?_⟩) (by assumption) ?_
            rotate_left
            · intro wS hSw
              (try dsimp only at hSw)
              simp only [List.getElem_toArray, List.getElem_cons_succ, List.getElem_cons_zero]
              first | (go_simp; done) | (go_simp; with_reducible rfl)
            try simp only [Act.put, List.setIfInBounds_toArray, List.set_cons_zero, List.set_cons_succ, List.getElem_toArray, List.getElem_cons_succ, List.getElem_cons_zero]
            refine wpAnyH_ready (rs := [6]) (by kernel_rfl) (by simp) ?_
            refine AllReadyH.cons (o := _) rfl (fun K hK => ?_) AllReadyH.nil
            try simp only [List.getElem_toArray, List.getElem_cons_succ, List.getElem_cons_zero]
            go_simp
            go_at_call 42
            with_reducible refine (HSC.out _ (by first | exact HR7.out | exact HRD7.out)).mono ?_
            rintro e w11 ⟨g1, k1, rfl, hs11, _, _, hb11⟩
            (try replace hb11 := und1 hb11)
            have HS11 := Lib.hid hs11
            have HB11 : Hid (Below w6.heap.size w6 w11) := Lib.hid hb11
            clear hs11 hb11
            refine hK.out _ _ ?_ (fun hHeld => ?_)
            · (first | with_reducible exact HSX7.out _ HB21.out | with_reducible exact HSX7.out _ (below_drew1 HB21.out) | with_reducible exact HSX7.out _ HB20.out | with_reducible exact HSX7.out _ (below_drew1 HB20.out) | with_reducible exact HSX7.out _ HB19.out | with_reducible exact HSX7.out _ (below_drew1 HB19.out) | with_reducible exact HSX7.out _ HB17.out | with_reducible exact HSX7.out _ (below_drew1 HB17.out) | with_reducible exact HSX7.out _ HB16.out | with_reducible exact HSX7.out _ (below_drew1 HB16.out) | with_reducible exact HSX7.out _ HB15.out | with_reducible exact HSX7.out _ (below_drew1 HB15.out) | with_reducible exact HSX7.out _ HB14.out | with_reducible exact HSX7.out _ (below_drew1 HB14.out) | with_reducible exact HSX7.out _ HB13.out | with_reducible exact HSX7.out _ (below_drew1 HB13.out) | with_reducible exact HSX7.out _ HB12.out | with_reducible exact HSX7.out _ (below_drew1 HB12.out) | with_reducible exact HSX7.out _ HB11.out | with_reducible exact HSX7.out _ (below_drew1 HB11.out) | with_reducible exact HSX7.out _ HR7.out | with_reducible exact HSX7.out _ HRD7.out)
            clear hK K
            try simp only [Act.put, List.setIfInBounds_toArray, List.set_cons_zero, List.set_cons_succ, List.getElem_toArray, List.getElem_cons_succ, List.getElem_cons_zero]
            refine wpAnyH_ready (rs := [8]) (by kernel_rfl) (by simp) ?_
            refine AllReadyH.cons (o := _) rfl (fun K hK => ?_) AllReadyH.nil
            try simp only [List.getElem_toArray, List.getElem_cons_succ, List.getElem_cons_zero]
            have hq := HS11.out
            clear hq
            go_simp
            go_at_call 43
            with_reducible refine (HHA.out _ HB11.out g1 k1 HS11.out).mono ?_
            rintro e w12 ⟨rfl, hb12⟩
            have HB12 : Hid (Below w6.heap.size w6 w12) := Lib.hid (HB11.out.trans (hb12.mono HB11.out.size))
            clear hb12
            refine hK.out _ _ ?_ (fun hHeld => ?_)
            · (first | with_reducible exact HSX7.out _ HB21.out | with_reducible exact HSX7.out _ (below_drew1 HB21.out) | with_reducible exact HSX7.out _ HB20.out | with_reducible exact HSX7.out _ (below_drew1 HB20.out) | with_reducible exact HSX7.out _ HB19.out | with_reducible exact HSX7.out _ (below_drew1 HB19.out) | with_reducible exact HSX7.out _ HB17.out | with_reducible exact HSX7.out _ (below_drew1 HB17.out) | with_reducible exact HSX7.out _ HB16.out | with_reducible exact HSX7.out _ (below_drew1 HB16.out) | with_reducible exact HSX7.out _ HB15.out | with_reducible exact HSX7.out _ (below_drew1 HB15.out) | with_reducible exact HSX7.out _ HB14.out | with_reducible exact HSX7.out _ (below_drew1 HB14.out) | with_reducible exact HSX7.out _ HB13.out | with_reducible exact HSX7.out _ (below_drew1 HB13.out) | with_reducible exact HSX7.out _ HB12.out | with_reducible exact HSX7.out _ (below_drew1 HB12.out) | with_reducible exact HSX7.out _ HB11.out | with_reducible exact HSX7.out _ (below_drew1 HB11.out) | with_reducible exact HSX7.out _ HR7.out | with_reducible exact HSX7.out _ HRD7.out)
            clear hK K
            try simp only [Act.put, List.setIfInBounds_toArray, List.set_cons_zero, List.set_cons_succ, List.getElem_toArray, List.getElem_cons_succ, List.getElem_cons_zero]
            refine wpAnyH_take (i := 9) (oi := _) (v := ?_) rfl (by kernel_rfl) (by kernel_rfl) (by kernel_rfl) (fun _ _ _ h => h) (Or.inl ⟨by rfl, ?_⟩) (by assumption) ?_
            rotate_left
            · intro wS hSw
              (try dsimp only at hSw)
              simp only [List.getElem_toArray, List.getElem_cons_succ, List.getElem_cons_zero]
              first | (go_simp; done) | (go_simp; with_reducible rfl)
            try simp only [Act.put, List.setIfInBounds_toArray, List.set_cons_zero, List.set_cons_succ, List.getElem_toArray, List.getElem_cons_succ, List.getElem_cons_zero]
            refine wpAnyH_take (i := 10) (oi := _) (v := ?_) rfl (by kernel_rfl) (by kernel_rfl) (by kernel_rfl) (fun _ _ _ h => h) (Or.inl ⟨by rfl, ?_⟩) (by assumption) ?_
            rotate_left
            · intro wS hSw
              (try dsimp only at hSw)
              simp only [List.getElem_toArray, List.getElem_cons_succ, List.getElem_cons_zero]
              first | (go_simp; done) | (go_simp; with_reducible rfl)
            try simp only [Act.put, List.setIfInBounds_toArray, List.set_cons_zero, List.set_cons_succ, List.getElem_toArray, List.getElem_cons_succ, List.getElem_cons_zero]
            refine wpAnyH_take (i := 11) (oi := _) (v := ?_) rfl (by kernel_rfl) (by kernel_rfl) (by kernel_rfl) (fun _ _ _ h => h) (Or.inl ⟨by rfl, ?_⟩) (by assumption) ?_
            rotate_left
            · intro wS hSw
              (try dsimp only at hSw)
              simp only [List.getElem_toArray, List.getElem_cons_succ, List.getElem_cons_zero]
              first | (go_simp; done) | (go_simp; with_reducible rfl)
            try simp only [Act.put, List.setIfInBounds_toArray, List.set_cons_zero, List.set_cons_succ, List.getElem_toArray, List.getElem_cons_succ, List.getElem_cons_zero]
            refine wpAnyH_take (i := 12) (oi := _) (v := ?_) rfl (by kernel_rfl) (by kernel_rfl) (by kernel_rfl) (fun _ _ _ h => h) (Or.inl ⟨by rfl, ?_⟩) (by assumption) ?_
            rotate_left
            · intro wS hSw
              (try dsimp only at hSw)
              simp only [List.getElem_toArray, List.getElem_cons_succ, List.getElem_cons_zero]
              first | (go_simp; done) | (go_simp; with_reducible rfl)
            try simp only [Act.put, List.setIfInBounds_toArray, List.set_cons_zero, List.set_cons_succ, List.getElem_toArray, List.getElem_cons_succ, List.getElem_cons_zero]
            refine wpAnyH_take (i := 13) (oi := _) (v := ?_) rfl (by kernel_rfl) (by kernel_rfl) (by kernel_rfl) (fun _ _ _ h => h) (Or.inl ⟨by rfl, ?_⟩) (by assumption) ?_
            rotate_left
            · intro wS hSw
              (try dsimp only at hSw)
              simp only [List.getElem_toArray, List.getElem_cons_succ, List.getElem_cons_zero]
              first | (go_simp; done) | (go_simp; with_reducible rfl)
            try simp only [Act.put, List.setIfInBounds_toArray, List.set_cons_zero, List.set_cons_succ, List.getElem_toArray, List.getElem_cons_succ, List.getElem_cons_zero]
            refine wpAnyH_take (i := 15) (oi := _) (v := ?_) rfl (by kernel_rfl) (by kernel_rfl) (by kernel_rfl) (fun _ _ _ h => h) (Or.inl ⟨by rfl, ?_⟩) (by assumption) ?_
            rotate_left
            · intro wS hSw
              (try dsimp only at hSw)
              simp only [List.getElem_toArray, List.getElem_cons_succ, List.getElem_cons_zero]
              first | (go_simp; done) | (go_simp; with_reducible rfl)
            try simp only [Act.put, List.setIfInBounds_toArray, List.set_cons_zero, List.set_cons_succ, List.getElem_toArray, List.getElem_cons_succ, List.getElem_cons_zero]
            refine wpAnyH_take (i := 16) (oi := _) (v := ?_) rfl (by kernel_rfl) (by kernel_rfl) (by kernel_rfl) (fun _ _ _ h => h) (Or.inl ⟨by rfl, ?_⟩) (by assumption) ?_
            rotate_left
            · intro wS hSw
              (try dsimp only at hSw)
              simp only [List.getElem_toArray, List.getElem_cons_succ, List.getElem_cons_zero]
              first | (go_simp; done) | (go_simp; with_reducible rfl)
            try simp only [Act.put, List.setIfInBounds_toArray, List.set_cons_zero, List.set_cons_succ, List.getElem_toArray, List.getElem_cons_succ, List.getElem_cons_zero]
            refine wpAnyH_take (i := 17) (oi := _) (v := ?_) rfl (by kernel_rfl) (by kernel_rfl) (by kernel_rfl) (fun _ _ _ h => h) (Or.inl ⟨by rfl, ?_⟩) (by assumption) ?_
            rotate_left
            · intro wS hSw
              (try dsimp only at hSw)
              simp only [List.getElem_toArray, List.getElem_cons_succ, List.getElem_cons_zero]
              first | (go_simp; done) | (go_simp; with_reducible rfl)
            try simp only [Act.put, List.setIfInBounds_toArray, List.set_cons_zero, List.set_cons_succ, List.getElem_toArray, List.getElem_cons_succ, List.getElem_cons_zero]
            refine wpAnyH_take (i := 18) (oi := _) (v := ?_) rfl (by kernel_rfl) (by kernel_rfl) (by kernel_rfl) (fun _ _ _ h => h) (Or.inl ⟨by rfl, ?_⟩) (by assumption) ?_
            rotate_left
            · intro wS hSw
              (try dsimp only at hSw)
              simp only [List.getElem_toArray, List.getElem_cons_succ, List.getElem_cons_zero]
              first | (go_simp; done) | (go_simp; with_reducible rfl)
            try simp only [Act.put, List.setIfInBounds_toArray, List.set_cons_zero, List.set_cons_succ, List.getElem_toArray, List.getElem_cons_succ, List.getElem_cons_zero]
            refine wpAnyH_ready (rs := [14]) (by kernel_rfl) (by simp) ?_
            refine AllReadyH.cons (o := _) rfl (fun K hK => ?_) AllReadyH.nil
            try simp only [List.getElem_toArray, List.getElem_cons_succ, List.getElem_cons_zero]
            have hq := HB12.out
            clear hq
            go_simp
            go_at_call 42
            with_reducible refine (HSA.out _ HB12.out).mono ?_
            rintro e w13 ⟨g3, k3, rfl, hs13, _, _, hb13⟩
            have HS13 := Lib.hid hs13
            have HB13 : Hid (Below w6.heap.size w6 w13) := Lib.hid (HB12.out.trans (hb13.mono HB12.out.size))
            clear hs13 hb13
            refine hK.out _ _ ?_ (fun hHeld => ?_)
            · (first | with_reducible exact HSX7.out _ HB21.out | with_reducible exact HSX7.out _ (below_drew1 HB21.out) | with_reducible exact HSX7.out _ HB20.out | with_reducible exact HSX7.out _ (below_drew1 HB20.out) | with_reducible exact HSX7.out _ HB19.out | with_reducible exact HSX7.out _ (below_drew1 HB19.out) | with_reducible exact HSX7.out _ HB17.out | with_reducible exact HSX7.out _ (below_drew1 HB17.out) | with_reducible exact HSX7.out _ HB16.out | with_reducible exact HSX7.out _ (below_drew1 HB16.out) | with_reducible exact HSX7.out _ HB15.out | with_reducible exact HSX7.out _ (below_drew1 HB15.out) | with_reducible exact HSX7.out _ HB14.out | with_reducible exact HSX7.out _ (below_drew1 HB14.out) | with_reducible exact HSX7.out _ HB13.out | with_reducible exact HSX7.out _ (below_drew1 HB13.out) | with_reducible exact HSX7.out _ HB12.out | with_reducible exact HSX7.out _ (below_drew1 HB12.out) | with_reducible exact HSX7.out _ HB11.out | with_reducible exact HSX7.out _ (below_drew1 HB11.out) | with_reducible exact HSX7.out _ HR7.out | with_reducible exact HSX7.out _ HRD7.out)
            clear hK K
            try simp only [Act.put, List.setIfInBounds_toArray, List.set_cons_zero, List.set_cons_succ, List.getElem_toArray, List.getElem_cons_succ, List.getElem_cons_zero]
            refine wpAnyH_ready (rs := [19]) (by kernel_rfl) (by simp) ?_
            refine AllReadyH.cons (o := _) rfl (fun K hK => ?_) AllReadyH.nil
            try simp only [List.getElem_toArray, List.getElem_cons_succ, List.getElem_cons_zero]
            have hq := HB13.out
            clear hq
            go_simp
            go_at_call 45
            with_reducible refine (HWA.out _ HB13.out).mono ?_
            rintro e w14 ⟨g4, k4, rfl, hs14, _, _, hb14⟩
            have HS14 := Lib.hid hs14
            have HS134 := Lib.hid (HS13.out.below hb14)
            have HB14 : Hid (Below w6.heap.size w6 w14) := Lib.hid (HB13.out.trans (hb14.mono HB13.out.size))
            clear hs14 hb14
            refine hK.out _ _ ?_ (fun hHeld => ?_)
            · (first | with_reducible exact HSX7.out _ HB21.out | with_reducible exact HSX7.out _ (below_drew1 HB21.out) | with_reducible exact HSX7.out _ HB20.out | with_reducible exact HSX7.out _ (below_drew1 HB20.out) | with_reducible exact HSX7.out _ HB19.out | with_reducible exact HSX7.out _ (below_drew1 HB19.out) | with_reducible exact HSX7.out _ HB17.out | with_reducible exact HSX7.out _ (below_drew1 HB17.out) | with_reducible exact HSX7.out _ HB16.out | with_reducible exact HSX7.out _ (below_drew1 HB16.out) | with_reducible exact HSX7.out _ HB15.out | with_reducible exact HSX7.out _ (below_drew1 HB15.out) | with_reducible exact HSX7.out _ HB14.out | with_reducible exact HSX7.out _ (below_drew1 HB14.out) | with_reducible exact HSX7.out _ HB13.out | with_reducible exact HSX7.out _ (below_drew1 HB13.out) | with_reducible exact HSX7.out _ HB12.out | with_reducible exact HSX7.out _ (below_drew1 HB12.out) | with_reducible exact HSX7.out _ HB11.out | with_reducible exact HSX7.out _ (below_drew1 HB11.out) | with_reducible exact HSX7.out _ HR7.out | with_reducible exact HSX7.out _ HRD7.out)
            clear hK K
            try simp only [Act.put, List.setIfInBounds_toArray, List.set_cons_zero, List.set_cons_succ, List.getElem_toArray, List.getElem_cons_succ, List.getElem_cons_zero]
            refine wpAnyH_ready (rs := [20]) (by kernel_rfl) (by simp) ?_
            refine AllReadyH.cons (o := _) rfl (fun K hK => ?_) AllReadyH.nil
            try simp only [List.getElem_toArray, List.getElem_cons_succ, List.getElem_cons_zero]
            have hq := HS14.out
            clear hq
            go_simp
            go_at_call 46
            with_reducible refine (HSO.out _ g4 k4 HS14.out).mono ?_
            rintro e w15 ⟨A15, n15, c15, F15, rfl, ho15, _, hb15⟩
            have HO15 := Lib.hid ho15.rdl
            have HS135 := Lib.hid (HS134.out.below hb15)
            have HB15 : Hid (Below w6.heap.size w6 w15) := Lib.hid (HB14.out.trans (hb15.mono HB14.out.size))
            clear ho15 hb15
            refine hK.out _ _ ?_ (fun hHeld => ?_)
            · (first | with_reducible exact HSX7.out _ HB21.out | with_reducible exact HSX7.out _ (below_drew1 HB21.out) | with_reducible exact HSX7.out _ HB20.out | with_reducible exact HSX7.out _ (below_drew1 HB20.out) | with_reducible exact HSX7.out _ HB19.out | with_reducible exact HSX7.out _ (below_drew1 HB19.out) | with_reducible exact HSX7.out _ HB17.out | with_reducible exact HSX7.out _ (below_drew1 HB17.out) | with_reducible exact HSX7.out _ HB16.out | with_reducible exact HSX7.out _ (below_drew1 HB16.out) | with_reducible exact HSX7.out _ HB15.out | with_reducible exact HSX7.out _ (below_drew1 HB15.out) | with_reducible exact HSX7.out _ HB14.out | with_reducible exact HSX7.out _ (below_drew1 HB14.out) | with_reducible exact HSX7.out _ HB13.out | with_reducible exact HSX7.out _ (below_drew1 HB13.out) | with_reducible exact HSX7.out _ HB12.out | with_reducible exact HSX7.out _ (below_drew1 HB12.out) | with_reducible exact HSX7.out _ HB11.out | with_reducible exact HSX7.out _ (below_drew1 HB11.out) | with_reducible exact HSX7.out _ HR7.out | with_reducible exact HSX7.out _ HRD7.out)
            clear hK K
            try simp only [Act.put, List.setIfInBounds_toArray, List.set_cons_zero, List.set_cons_succ, List.getElem_toArray, List.getElem_cons_succ, List.getElem_cons_zero]
            refine wpAnyH_ready (rs := [21]) (by kernel_rfl) (by simp) ?_
            refine AllReadyH.cons (o := _) rfl (fun K hK => ?_) AllReadyH.nil
            try simp only [List.getElem_toArray, List.getElem_cons_succ, List.getElem_cons_zero]
            have hq := HO15.out
            clear hq
            go_simp
            go_at_call 44
            with_reducible refine (HCA.out _ g3 k3 A15 n15 _ HS135.out HO15.out).mono ?_
            rintro e w16 ⟨rfl, hb16⟩
            have HB16 : Hid (Below w6.heap.size w6 w16) := Lib.hid (HB15.out.trans (hb16.mono HB15.out.size))
            clear hb16
            refine hK.out _ _ ?_ (fun hHeld => ?_)
            · (first | with_reducible exact HSX7.out _ HB21.out | with_reducible exact HSX7.out _ (below_drew1 HB21.out) | with_reducible exact HSX7.out _ HB20.out | with_reducible exact HSX7.out _ (below_drew1 HB20.out) | with_reducible exact HSX7.out _ HB19.out | with_reducible exact HSX7.out _ (below_drew1 HB19.out) | with_reducible exact HSX7.out _ HB17.out | with_reducible exact HSX7.out _ (below_drew1 HB17.out) | with_reducible exact HSX7.out _ HB16.out | with_reducible exact HSX7.out _ (below_drew1 HB16.out) | with_reducible exact HSX7.out _ HB15.out | with_reducible exact HSX7.out _ (below_drew1 HB15.out) | with_reducible exact HSX7.out _ HB14.out | with_reducible exact HSX7.out _ (below_drew1 HB14.out) | with_reducible exact HSX7.out _ HB13.out | with_reducible exact HSX7.out _ (below_drew1 HB13.out) | with_reducible exact HSX7.out _ HB12.out | with_reducible exact HSX7.out _ (below_drew1 HB12.out) | with_reducible exact HSX7.out _ HB11.out | with_reducible exact HSX7.out _ (below_drew1 HB11.out) | with_reducible exact HSX7.out _ HR7.out | with_reducible exact HSX7.out _ HRD7.out)
            clear hK K
            try simp only [Act.put, List.setIfInBounds_toArray, List.set_cons_zero, List.set_cons_succ, List.getElem_toArray, List.getElem_cons_succ, List.getElem_cons_zero]
            refine wpAnyH_take (i := 22) (oi := _) (v := ?_) rfl (by kernel_rfl) (by kernel_rfl) (by kernel_rfl) (fun _ _ _ h => h) (Or.inl ⟨by rfl, ?_⟩) (by assumption) ?_
            rotate_left
            · intro wS hSw
              (try dsimp only at hSw)
              simp only [List.getElem_toArray, List.getElem_cons_succ, List.getElem_cons_zero]
              first | (go_simp; done) | (go_simp; with_reducible rfl)
            try simp only [Act.put, List.setIfInBounds_toArray, List.set_cons_zero, List.set_cons_succ, List.getElem_toArray, List.getElem_cons_succ, List.getElem_cons_zero]
            refine wpAnyH_take (i := 23) (oi := _) (v := ?_) rfl (by kernel_rfl) (by kernel_rfl) (by kernel_rfl) (fun _ _ _ h => h) (Or.inl ⟨by rfl, ?_⟩) (by assumption) ?_
            rotate_left
            · intro wS hSw
              (try dsimp only at hSw)
              simp only [List.getElem_toArray, List.getElem_cons_succ, List.getElem_cons_zero]
              first | (go_simp; done) | (go_simp; with_reducible rfl)
            try simp only [Act.put, List.setIfInBounds_toArray, List.set_cons_zero, List.set_cons_succ, List.getElem_toArray, List.getElem_cons_succ, List.getElem_cons_zero]
            refine wpAnyH_take (i := 24) (oi := _) (v := undef) rfl (by kernel_rfl) (by kernel_rfl) (by kernel_rfl) (fun _ _ _ h => h) (Or.inr ⟨by rfl, rfl⟩) (by assumption) ?_
            try simp only [Act.put, List.setIfInBounds_toArray, List.set_cons_zero, List.set_cons_succ, List.getElem_toArray, List.getElem_cons_succ, List.getElem_cons_zero]
            refine wpAnyH_take (i := 25) (oi := _) (v := undef) rfl (by kernel_rfl) (by kernel_rfl) (by kernel_rfl) (fun _ _ _ h => h) (Or.inr ⟨by rfl, rfl⟩) (by assumption) ?_
            try simp only [Act.put, List.setIfInBounds_toArray, List.set_cons_zero, List.set_cons_succ, List.getElem_toArray, List.getElem_cons_succ, List.getElem_cons_zero]
            refine wpAnyH_take (i := 26) (oi := _) (v := undef) rfl (by kernel_rfl) (by kernel_rfl) (by kernel_rfl) (fun _ _ _ h => h) (Or.inr ⟨by rfl, rfl⟩) (by assumption) ?_
            try simp only [Act.put, List.setIfInBounds_toArray, List.set_cons_zero, List.set_cons_succ, List.getElem_toArray, List.getElem_cons_succ, List.getElem_cons_zero]
            refine wpAnyH_take (i := 27) (oi := _) (v := undef) rfl (by kernel_rfl) (by kernel_rfl) (by kernel_rfl) (fun _ _ _ h => h) (Or.inr ⟨by rfl, rfl⟩) (by assumption) ?_
            try simp only [Act.put, List.setIfInBounds_toArray, List.set_cons_zero, List.set_cons_succ, List.getElem_toArray, List.getElem_cons_succ, List.getElem_cons_zero]
            refine wpAnyH_take (i := 28) (oi := _) (v := undef) rfl (by kernel_rfl) (by kernel_rfl) (by kernel_rfl) (fun _ _ _ h => h) (Or.inr ⟨by rfl, rfl⟩) (by assumption) ?_
            try simp only [Act.put, List.setIfInBounds_toArray, List.set_cons_zero, List.set_cons_succ, List.getElem_toArray, List.getElem_cons_succ, List.getElem_cons_zero]
            refine wpAnyH_take (i := 29) (oi := _) (v := undef) rfl (by kernel_rfl) (by kernel_rfl) (by kernel_rfl) (fun _ _ _ h => h) (Or.inr ⟨by rfl, rfl⟩) (by assumption) ?_
            try simp only [Act.put, List.setIfInBounds_toArray, List.set_cons_zero, List.set_cons_succ, List.getElem_toArray, List.getElem_cons_succ, List.getElem_cons_zero]
            refine wpAnyH_take (i := 30) (oi := _) (v := undef) rfl (by kernel_rfl) (by kernel_rfl) (by kernel_rfl) (fun _ _ _ h => h) (Or.inr ⟨by rfl, rfl⟩) (by assumption) ?_
            try simp only [Act.put, List.setIfInBounds_toArray, List.set_cons_zero, List.set_cons_succ, List.getElem_toArray, List.getElem_cons_succ, List.getElem_cons_zero]
            refine wpAnyH_take (i := 31) (oi := _) (v := undef) rfl (by kernel_rfl) (by kernel_rfl) (by kernel_rfl) (fun _ _ _ h => h) (Or.inr ⟨by rfl, rfl⟩) (by assumption) ?_
            try simp only [Act.put, List.setIfInBounds_toArray, List.set_cons_zero, List.set_cons_succ, List.getElem_toArray, List.getElem_cons_succ, List.getElem_cons_zero]
            refine wpAnyH_take (i := 32) (oi := _) (v := undef) rfl (by kernel_rfl) (by kernel_rfl) (by kernel_rfl) (fun _ _ _ h => h) (Or.inr ⟨by rfl, rfl⟩) (by assumption) ?_
            try simp only [Act.put, List.setIfInBounds_toArray, List.set_cons_zero, List.set_cons_succ, List.getElem_toArray, List.getElem_cons_succ, List.getElem_cons_zero]
            refine wpAnyH_take (i := 33) (oi := _) (v := undef) rfl (by kernel_rfl) (by kernel_rfl) (by kernel_rfl) (fun _ _ _ h => h) (Or.inr ⟨by rfl, rfl⟩) (by assumption) ?_
            try simp only [Act.put, List.setIfInBounds_toArray, List.set_cons_zero, List.set_cons_succ, List.getElem_toArray, List.getElem_cons_succ, List.getElem_cons_zero]
            refine wpAnyH_take (i := 34) (oi := _) (v := undef) rfl (by kernel_rfl) (by kernel_rfl) (by kernel_rfl) (fun _ _ _ h => h) (Or.inr ⟨by rfl, rfl⟩) (by assumption) ?_
            try simp only [Act.put, List.setIfInBounds_toArray, List.set_cons_zero, List.set_cons_succ, List.getElem_toArray, List.getElem_cons_succ, List.getElem_cons_zero]
            refine wpAnyH_take (i := 35) (oi := _) (v := undef) rfl (by kernel_rfl) (by kernel_rfl) (by kernel_rfl) (fun _ _ _ h => h) (Or.inr ⟨by rfl, rfl⟩) (by assumption) ?_
            try simp only [Act.put, List.setIfInBounds_toArray, List.set_cons_zero, List.set_cons_succ, List.getElem_toArray, List.getElem_cons_succ, List.getElem_cons_zero]
            refine wpAnyH_take (i := 36) (oi := _) (v := undef) rfl (by kernel_rfl) (by kernel_rfl) (by kernel_rfl) (fun _ _ _ h => h) (Or.inr ⟨by rfl, rfl⟩) (by assumption) ?_
            try simp only [Act.put, List.setIfInBounds_toArray, List.set_cons_zero, List.set_cons_succ, List.getElem_toArray, List.getElem_cons_succ, List.getElem_cons_zero]
            refine wpAnyH_take (i := 37) (oi := _) (v := ?_) rfl (by kernel_rfl) (by kernel_rfl) (by kernel_rfl) (fun _ _ _ h => h) (Or.inl ⟨by rfl, ?_⟩) (by assumption) ?_
            rotate_left
            · intro wS hSw
              (try dsimp only at hSw)
              simp only [List.getElem_toArray, List.getElem_cons_succ, List.getElem_cons_zero]
              first | (go_simp; done) | (go_simp; with_reducible rfl)
            try simp only [Act.put, List.setIfInBounds_toArray, List.set_cons_zero, List.set_cons_succ, List.getElem_toArray, List.getElem_cons_succ, List.getElem_cons_zero]
            refine wpAnyH_take (i := 38) (oi := _) (v := ?_) rfl (by kernel_rfl) (by kernel_rfl) (by kernel_rfl) (fun _ _ _ h => h) (Or.inl ⟨by rfl, ?_⟩) (by assumption) ?_
            rotate_left
            · intro wS hSw
              (try dsimp only at hSw)
              simp only [List.getElem_toArray, List.getElem_cons_succ, List.getElem_cons_zero]
              first | (go_simp; done) | (go_simp; with_reducible rfl)
            try simp only [Act.put, List.setIfInBounds_toArray, List.set_cons_zero, List.set_cons_succ, List.getElem_toArray, List.getElem_cons_succ, List.getElem_cons_zero]
            refine wpAnyH_done (by kernel_rfl) ?_ _
            clear e1 e2
            go_wp2_with fail
            go_ret
            exact ⟨by rw [HIC.out]; rfl, by first | exact HB06.out.trans (HB16.out.mono HB06.out.size) | exact below_drew1 (HB06.out.trans (HB16.out.mono HB06.out.size))⟩
          | true =>
            as_aux_lemma =>
            have q1 := (HSX7.out _ HR7.out).1
            have q2 := (HSX7.out _ HR7.out).2.1
            have q3 := (HSX7.out _ HR7.out).2.2.1
            have q4 := (HSX7.out _ HR7.out).2.2.2.1
            have q5 := (HSX7.out _ HR7.out).2.2.2.2.1
            have q6 := (HSX7.out _ HR7.out).2.2.2.2.2
            have e1 := HE1.out; have e2 := HE2.out
            go_wp2_with fail
            refine wp_region_held_drew (S := fun w' => w'.cell? ⟨w.heap.size + 1 + 1, 1, none⟩ = some (.slice A3 n3 c3) ∧ w'.cell? ⟨w.heap.size + 1 + 1, 2, none⟩ = some (.slice A4 n4 c4) ∧ w'.cell? ⟨w3.heap.size, 0, none⟩ = some (.int .i64 (pN ns)) ∧ w'.cell? ⟨w3.heap.size, 1, none⟩ = some (.slice B1 m1 d1) ∧ w'.cell? ⟨w3.heap.size, 2, none⟩ = some (.slice B2 m2 d2) ∧ w'.cell? ⟨w3.heap.size, 3, none⟩ = some (.slice B3 m3 d3)) (by kernel_rfl) ?_ (fun hHeld => ?_)
            · (first | with_reducible exact HSX7.out _ HB21.out | with_reducible exact HSX7.out _ (below_drew1 HB21.out) | with_reducible exact HSX7.out _ HB20.out | with_reducible exact HSX7.out _ (below_drew1 HB20.out) | with_reducible exact HSX7.out _ HB19.out | with_reducible exact HSX7.out _ (below_drew1 HB19.out) | with_reducible exact HSX7.out _ HB17.out | with_reducible exact HSX7.out _ (below_drew1 HB17.out) | with_reducible exact HSX7.out _ HB16.out | with_reducible exact HSX7.out _ (below_drew1 HB16.out) | with_reducible exact HSX7.out _ HB15.out | with_reducible exact HSX7.out _ (below_drew1 HB15.out) | with_reducible exact HSX7.out _ HB14.out | with_reducible exact HSX7.out _ (below_drew1 HB14.out) | with_reducible exact HSX7.out _ HB13.out | with_reducible exact HSX7.out _ (below_drew1 HB13.out) | with_reducible exact HSX7.out _ HB12.out | with_reducible exact HSX7.out _ (below_drew1 HB12.out) | with_reducible exact HSX7.out _ HB11.out | with_reducible exact HSX7.out _ (below_drew1 HB11.out) | with_reducible exact HSX7.out _ HR7.out | with_reducible exact HSX7.out _ HRD7.out)
            refine wpAnyH_take (i := 0) (oi := _) (v := ?_) rfl (by kernel_rfl) (by kernel_rfl) (by kernel_rfl) (fun _ _ _ h => h) (Or.inl ⟨by rfl, ?_⟩) (by assumption) ?_
            rotate_left
            · intro wS hSw
              (try dsimp only at hSw)
              simp only [List.getElem_toArray, List.getElem_cons_succ, List.getElem_cons_zero]
              first | (go_simp; done) | (go_simp; with_reducible rfl)
            try simp only [Act.put, List.setIfInBounds_toArray, List.set_cons_zero, List.set_cons_succ, List.getElem_toArray, List.getElem_cons_succ, List.getElem_cons_zero]
            refine wpAnyH_take (i := 1) (oi := _) (v := ?_) rfl (by kernel_rfl) (by kernel_rfl) (by kernel_rfl) (fun _ _ _ h => h) (Or.inl ⟨by rfl, ?_⟩) (by assumption) ?_
            rotate_left
            · intro wS hSw
              (try dsimp only at hSw)
              simp only [List.getElem_toArray, List.getElem_cons_succ, List.getElem_cons_zero]
              first | (go_simp; done) | (go_simp; with_reducible rfl)
            try simp only [Act.put, List.setIfInBounds_toArray, List.set_cons_zero, List.set_cons_succ, List.getElem_toArray, List.getElem_cons_succ, List.getElem_cons_zero]
            refine wpAnyH_take (i := 2) (oi := _) (v := ?_) rfl (by kernel_rfl) (by kernel_rfl) (by kernel_rfl) (fun _ _ _ h => h) (Or.inl ⟨by rfl, ?_⟩) (by assumption) ?_
            rotate_left
            · intro wS hSw
              (try dsimp only at hSw)
              simp only [List.getElem_toArray, List.getElem_cons_succ, List.getElem_cons_zero]
              first | (go_simp; done) | (go_simp; with_reducible rfl)
            try simp only [Act.put, List.setIfInBounds_toArray, List.set_cons_zero, List.set_cons_succ, List.getElem_toArray, List.getElem_cons_succ, List.getElem_cons_zero]
            refine wpAnyH_take (i := 3) (oi := _) (v := ?_) rfl (by kernel_rfl) (by kernel_rfl) (by kernel_rfl) (fun _ _ _ h => h) (Or.inl ⟨by rfl, ?_⟩) (by assumption) ?_
            rotate_left
            · intro wS hSw
              (try dsimp only at hSw)
              simp only [List.getElem_toArray, List.getElem_cons_succ, List.getElem_cons_zero]
              first | (go_simp; done) | (go_simp; with_reducible rfl)
            try simp only [Act.put, List.setIfInBounds_toArray, List.set_cons_zero, List.set_cons_succ, List.getElem_toArray, List.getElem_cons_succ, List.getElem_cons_zero]
            refine wpAnyH_take (i := 4) (oi := _) (v := ?_) rfl (by kernel_rfl) (by kernel_rfl) (by kernel_rfl) (fun _ _ _ h => h) (Or.inl ⟨by rfl, ?_⟩) (by assumption) ?_
            rotate_left
            · intro wS hSw
              (try dsimp only at hSw)
              simp only [List.getElem_toArray, List.getElem_cons_succ, List.getElem_cons_zero]
              first | (go_simp; done) | (go_simp; with_reducible rfl)
            try simp only [Act.put, List.setIfInBounds_toArray, List.set_cons_zero, List.set_cons_succ, List.getElem_toArray, List.getElem_cons_succ, List.getElem_cons_zero]
            refine wpAnyH_take (i := 5) (oi := _) (v := ?_) rfl (by kernel_rfl) (by kernel_rfl) (by kernel_rfl) (fun _ _ _ h => h) (Or.inl ⟨by rfl, ?_⟩) (by assumption) ?_
            rotate_left
            · intro wS hSw
              (try dsimp only at hSw)
              simp only [List.getElem_toArray, List.getElem_cons_succ, List.getElem_cons_zero]
              first | (go_simp; done) | (go_simp; with_reducible rfl)
            try simp only [Act.put, List.setIfInBounds_toArray, List.set_cons_zero, List.set_cons_succ, List.getElem_toArray, List.getElem_cons_succ, List.getElem_cons_zero]
            refine wpAnyH_take (i := 7) (oi := _) (v := ?_) rfl (by kernel_rfl) (by kernel_rfl) (by kernel_rfl) (fun _ _ _ h => h) (Or.inl ⟨by rfl, ?_⟩) (by assumption) ?_
            rotate_left
            · intro wS hSw
              (try dsimp only at hSw)
              simp only [List.getElem_toArray, List.getElem_cons_succ, List.getElem_cons_zero]
              first | (go_simp; done) | (go_simp; with_reducible rfl)
            try simp only [Act.put, List.setIfInBounds_toArray, List.set_cons_zero, List.set_cons_succ, List.getElem_toArray, List.getElem_cons_succ, List.getElem_cons_zero]
            refine wpAnyH_ready (rs := [6]) (by kernel_rfl) (by simp) ?_
            refine AllReadyH.cons (o := _) rfl (fun K hK => ?_) AllReadyH.nil
            try simp only [List.getElem_toArray, List.getElem_cons_succ, List.getElem_cons_zero]
            go_simp
            go_at_call 42
            with_reducible refine (HSC.out _ (by first | exact HR7.out | exact HRD7.out)).mono ?_
            rintro e w11 ⟨g1, k1, rfl, hs11, _, _, hb11⟩
            (try replace hb11 := und1 hb11)
            have HS11 := Lib.hid hs11
            have HB11 : Hid (Below w6.heap.size w6 w11) := Lib.hid hb11
            clear hs11 hb11
            refine hK.out _ _ ?_ (fun hHeld => ?_)
            · (first | with_reducible exact HSX7.out _ HB21.out | with_reducible exact HSX7.out _ (below_drew1 HB21.out) | with_reducible exact HSX7.out _ HB20.out | with_reducible exact HSX7.out _ (below_drew1 HB20.out) | with_reducible exact HSX7.out _ HB19.out | with_reducible exact HSX7.out _ (below_drew1 HB19.out) | with_reducible exact HSX7.out _ HB17.out | with_reducible exact HSX7.out _ (below_drew1 HB17.out) | with_reducible exact HSX7.out _ HB16.out | with_reducible exact HSX7.out _ (below_drew1 HB16.out) | with_reducible exact HSX7.out _ HB15.out | with_reducible exact HSX7.out _ (below_drew1 HB15.out) | with_reducible exact HSX7.out _ HB14.out | with_reducible exact HSX7.out _ (below_drew1 HB14.out) | with_reducible exact HSX7.out _ HB13.out | with_reducible exact HSX7.out _ (below_drew1 HB13.out) | with_reducible exact HSX7.out _ HB12.out | with_reducible exact HSX7.out _ (below_drew1 HB12.out) | with_reducible exact HSX7.out _ HB11.out | with_reducible exact HSX7.out _ (below_drew1 HB11.out) | with_reducible exact HSX7.out _ HR7.out | with_reducible exact HSX7.out _ HRD7.out)
            clear hK K
            try simp only [Act.put, List.setIfInBounds_toArray, List.set_cons_zero, List.set_cons_succ, List.getElem_toArray, List.getElem_cons_succ, List.getElem_cons_zero]
            refine wpAnyH_ready (rs := [8]) (by kernel_rfl) (by simp) ?_
            refine AllReadyH.cons (o := _) rfl (fun K hK => ?_) AllReadyH.nil
            try simp only [List.getElem_toArray, List.getElem_cons_succ, List.getElem_cons_zero]
            have hq := HS11.out
            clear hq
            go_simp
            go_at_call 43
            with_reducible refine (HHA.out _ HB11.out g1 k1 HS11.out).mono ?_
            rintro e w12 ⟨rfl, hb12⟩
            have HB12 : Hid (Below w6.heap.size w6 w12) := Lib.hid (HB11.out.trans (hb12.mono HB11.out.size))
            clear hb12
            refine hK.out _ _ ?_ (fun hHeld => ?_)
            · (first | with_reducible exact HSX7.out _ HB21.out | with_reducible exact HSX7.out _ (below_drew1 HB21.out) | with_reducible exact HSX7.out _ HB20.out | with_reducible exact HSX7.out _ (below_drew1 HB20.out) | with_reducible exact HSX7.out _ HB19.out | with_reducible exact HSX7.out _ (below_drew1 HB19.out) | with_reducible exact HSX7.out _ HB17.out | with_reducible exact HSX7.out _ (below_drew1 HB17.out) | with_reducible exact HSX7.out _ HB16.out | with_reducible exact HSX7.out _ (below_drew1 HB16.out) | with_reducible exact HSX7.out _ HB15.out | with_reducible exact HSX7.out _ (below_drew1 HB15.out) | with_reducible exact HSX7.out _ HB14.out | with_reducible exact HSX7.out _ (below_drew1 HB14.out) | with_reducible exact HSX7.out _ HB13.out | with_reducible exact HSX7.out _ (below_drew1 HB13.out) | with_reducible exact HSX7.out _ HB12.out | with_reducible exact HSX7.out _ (below_drew1 HB12.out) | with_reducible exact HSX7.out _ HB11.out | with_reducible exact HSX7.out _ (below_drew1 HB11.out) | with_reducible exact HSX7.out _ HR7.out | with_reducible exact HSX7.out _ HRD7.out)
            clear hK K
            try simp only [Act.put, List.setIfInBounds_toArray, List.set_cons_zero, List.set_cons_succ, List.getElem_toArray, List.getElem_cons_succ, List.getElem_cons_zero]
            refine wpAnyH_take (i := 9) (oi := _) (v := ?_) rfl (by kernel_rfl) (by kernel_rfl) (by kernel_rfl) (fun _ _ _ h => h) (Or.inl ⟨by rfl, ?_⟩) (by assumption) ?_
            rotate_left
            · intro wS hSw
              (try dsimp only at hSw)
              simp only [List.getElem_toArray, List.getElem_cons_succ, List.getElem_cons_zero]
              first | (go_simp; done) | (go_simp; with_reducible rfl)
            try simp only [Act.put, List.setIfInBounds_toArray, List.set_cons_zero, List.set_cons_succ, List.getElem_toArray, List.getElem_cons_succ, List.getElem_cons_zero]
            refine wpAnyH_take (i := 10) (oi := _) (v := ?_) rfl (by kernel_rfl) (by kernel_rfl) (by kernel_rfl) (fun _ _ _ h => h) (Or.inl ⟨by rfl, ?_⟩) (by assumption) ?_
            rotate_left
            · intro wS hSw
              (try dsimp only at hSw)
              simp only [List.getElem_toArray, List.getElem_cons_succ, List.getElem_cons_zero]
              first | (go_simp; done) | (go_simp; with_reducible rfl)
            try simp only [Act.put, List.setIfInBounds_toArray, List.set_cons_zero, List.set_cons_succ, List.getElem_toArray, List.getElem_cons_succ, List.getElem_cons_zero]
            refine wpAnyH_take (i := 11) (oi := _) (v := ?_) rfl (by kernel_rfl) (by kernel_rfl) (by kernel_rfl) (fun _ _ _ h => h) (Or.inl ⟨by rfl, ?_⟩) (by assumption) ?_
            rotate_left
            · intro wS hSw
              (try dsimp only at hSw)
              simp only [List.getElem_toArray, List.getElem_cons_succ, List.getElem_cons_zero]
              first | (go_simp; done) | (go_simp; with_reducible rfl)
            try simp only [Act.put, List.setIfInBounds_toArray, List.set_cons_zero, List.set_cons_succ, List.getElem_toArray, List.getElem_cons_succ, List.getElem_cons_zero]
            refine wpAnyH_take (i := 12) (oi := _) (v := ?_) rfl (by kernel_rfl) (by kernel_rfl) (by kernel_rfl) (fun _ _ _ h => h) (Or.inl ⟨by rfl, ?_⟩) (by assumption) ?_
            rotate_left
            · intro wS hSw
              (try dsimp only at hSw)
              simp only [List.getElem_toArray, List.getElem_cons_succ, List.getElem_cons_zero]
              first | (go_simp; done) | (go_simp; with_reducible rfl)
            try simp only [Act.put, List.setIfInBounds_toArray, List.set_cons_zero, List.set_cons_succ, List.getElem_toArray, List.getElem_cons_succ, List.getElem_cons_zero]
            refine wpAnyH_take (i := 13) (oi := _) (v := ?_) rfl (by kernel_rfl) (by kernel_rfl) (by kernel_rfl) (fun _ _ _ h => h) (Or.inl ⟨by rfl, ?_⟩) (by assumption) ?_
            rotate_left
            · intro wS hSw
              (try dsimp only at hSw)
              simp only [List.getElem_toArray, List.getElem_cons_succ, List.getElem_cons_zero]
              first | (go_simp; done) | (go_simp; with_reducible rfl)
            try simp only [Act.put, List.setIfInBounds_toArray, List.set_cons_zero, List.set_cons_succ, List.getElem_toArray, List.getElem_cons_succ, List.getElem_cons_zero]
            refine wpAnyH_take (i := 15) (oi := _) (v := ?_) rfl (by kernel_rfl) (by kernel_rfl) (by kernel_rfl) (fun _ _ _ h => h) (Or.inl ⟨by rfl, ?_⟩) (by assumption) ?_
            rotate_left
            · intro wS hSw
              (try dsimp only at hSw)
              simp only [List.getElem_toArray, List.getElem_cons_succ, List.getElem_cons_zero]
              first | (go_simp; done) | (go_simp; with_reducible rfl)
            try simp only [Act.put, List.setIfInBounds_toArray, List.set_cons_zero, List.set_cons_succ, List.getElem_toArray, List.getElem_cons_succ, List.getElem_cons_zero]
            refine wpAnyH_take (i := 16) (oi := _) (v := ?_) rfl (by kernel_rfl) (by kernel_rfl) (by kernel_rfl) (fun _ _ _ h => h) (Or.inl ⟨by rfl, ?_⟩) (by assumption) ?_
            rotate_left
            · intro wS hSw
              (try dsimp only at hSw)
              simp only [List.getElem_toArray, List.getElem_cons_succ, List.getElem_cons_zero]
              first | (go_simp; done) | (go_simp; with_reducible rfl)
            try simp only [Act.put, List.setIfInBounds_toArray, List.set_cons_zero, List.set_cons_succ, List.getElem_toArray, List.getElem_cons_succ, List.getElem_cons_zero]
            refine wpAnyH_take (i := 17) (oi := _) (v := ?_) rfl (by kernel_rfl) (by kernel_rfl) (by kernel_rfl) (fun _ _ _ h => h) (Or.inl ⟨by rfl, ?_⟩) (by assumption) ?_
            rotate_left
            · intro wS hSw
              (try dsimp only at hSw)
              simp only [List.getElem_toArray, List.getElem_cons_succ, List.getElem_cons_zero]
              first | (go_simp; done) | (go_simp; with_reducible rfl)
            try simp only [Act.put, List.setIfInBounds_toArray, List.set_cons_zero, List.set_cons_succ, List.getElem_toArray, List.getElem_cons_succ, List.getElem_cons_zero]
            refine wpAnyH_take (i := 18) (oi := _) (v := ?_) rfl (by kernel_rfl) (by kernel_rfl) (by kernel_rfl) (fun _ _ _ h => h) (Or.inl ⟨by rfl, ?_⟩) (by assumption) ?_
            rotate_left
            · intro wS hSw
              (try dsimp only at hSw)
              simp only [List.getElem_toArray, List.getElem_cons_succ, List.getElem_cons_zero]
              first | (go_simp; done) | (go_simp; with_reducible rfl)
            try simp only [Act.put, List.setIfInBounds_toArray, List.set_cons_zero, List.set_cons_succ, List.getElem_toArray, List.getElem_cons_succ, List.getElem_cons_zero]
            refine wpAnyH_ready (rs := [14]) (by kernel_rfl) (by simp) ?_
            refine AllReadyH.cons (o := _) rfl (fun K hK => ?_) AllReadyH.nil
            try simp only [List.getElem_toArray, List.getElem_cons_succ, List.getElem_cons_zero]
            have hq := HB12.out
            clear hq
            go_simp
            go_at_call 42
            with_reducible refine (HSA.out _ HB12.out).mono ?_
            rintro e w13 ⟨g3, k3, rfl, hs13, _, _, hb13⟩
            have HS13 := Lib.hid hs13
            have HB13 : Hid (Below w6.heap.size w6 w13) := Lib.hid (HB12.out.trans (hb13.mono HB12.out.size))
            clear hs13 hb13
            refine hK.out _ _ ?_ (fun hHeld => ?_)
            · (first | with_reducible exact HSX7.out _ HB21.out | with_reducible exact HSX7.out _ (below_drew1 HB21.out) | with_reducible exact HSX7.out _ HB20.out | with_reducible exact HSX7.out _ (below_drew1 HB20.out) | with_reducible exact HSX7.out _ HB19.out | with_reducible exact HSX7.out _ (below_drew1 HB19.out) | with_reducible exact HSX7.out _ HB17.out | with_reducible exact HSX7.out _ (below_drew1 HB17.out) | with_reducible exact HSX7.out _ HB16.out | with_reducible exact HSX7.out _ (below_drew1 HB16.out) | with_reducible exact HSX7.out _ HB15.out | with_reducible exact HSX7.out _ (below_drew1 HB15.out) | with_reducible exact HSX7.out _ HB14.out | with_reducible exact HSX7.out _ (below_drew1 HB14.out) | with_reducible exact HSX7.out _ HB13.out | with_reducible exact HSX7.out _ (below_drew1 HB13.out) | with_reducible exact HSX7.out _ HB12.out | with_reducible exact HSX7.out _ (below_drew1 HB12.out) | with_reducible exact HSX7.out _ HB11.out | with_reducible exact HSX7.out _ (below_drew1 HB11.out) | with_reducible exact HSX7.out _ HR7.out | with_reducible exact HSX7.out _ HRD7.out)
            clear hK K
            try simp only [Act.put, List.setIfInBounds_toArray, List.set_cons_zero, List.set_cons_succ, List.getElem_toArray, List.getElem_cons_succ, List.getElem_cons_zero]
            refine wpAnyH_ready (rs := [19]) (by kernel_rfl) (by simp) ?_
            refine AllReadyH.cons (o := _) rfl (fun K hK => ?_) AllReadyH.nil
            try simp only [List.getElem_toArray, List.getElem_cons_succ, List.getElem_cons_zero]
            have hq := HB13.out
            clear hq
            go_simp
            go_at_call 45
            with_reducible refine (HWA.out _ HB13.out).mono ?_
            rintro e w14 ⟨g4, k4, rfl, hs14, _, _, hb14⟩
            have HS14 := Lib.hid hs14
            have HS134 := Lib.hid (HS13.out.below hb14)
            have HB14 : Hid (Below w6.heap.size w6 w14) := Lib.hid (HB13.out.trans (hb14.mono HB13.out.size))
            clear hs14 hb14
            refine hK.out _ _ ?_ (fun hHeld => ?_)
            · (first | with_reducible exact HSX7.out _ HB21.out | with_reducible exact HSX7.out _ (below_drew1 HB21.out) | with_reducible exact HSX7.out _ HB20.out | with_reducible exact HSX7.out _ (below_drew1 HB20.out) | with_reducible exact HSX7.out _ HB19.out | with_reducible exact HSX7.out _ (below_drew1 HB19.out) | with_reducible exact HSX7.out _ HB17.out | with_reducible exact HSX7.out _ (below_drew1 HB17.out) | with_reducible exact HSX7.out _ HB16.out | with_reducible exact HSX7.out _ (below_drew1 HB16.out) | with_reducible exact HSX7.out _ HB15.out | with_reducible exact HSX7.out _ (below_drew1 HB15.out) | with_reducible exact HSX7.out _ HB14.out | with_reducible exact HSX7.out _ (below_drew1 HB14.out) | with_reducible exact HSX7.out _ HB13.out | with_reducible exact HSX7.out _ (below_drew1 HB13.out) | with_reducible exact HSX7.out _ HB12.out | with_reducible exact HSX7.out _ (below_drew1 HB12.out) | with_reducible exact HSX7.out _ HB11.out | with_reducible exact HSX7.out _ (below_drew1 HB11.out) | with_reducible exact HSX7.out _ HR7.out | with_reducible exact HSX7.out _ HRD7.out)
            clear hK K
            try simp only [Act.put, List.setIfInBounds_toArray, List.set_cons_zero, List.set_cons_succ, List.getElem_toArray, List.getElem_cons_succ, List.getElem_cons_zero]
            refine wpAnyH_ready (rs := [20]) (by kernel_rfl) (by simp) ?_
            refine AllReadyH.cons (o := _) rfl (fun K hK => ?_) AllReadyH.nil
            try simp only [List.getElem_toArray, List.getElem_cons_succ, List.getElem_cons_zero]
            have hq := HS14.out
            clear hq
            go_simp
            go_at_call 46
            with_reducible refine (HSO.out _ g4 k4 HS14.out).mono ?_
            rintro e w15 ⟨A15, n15, c15, F15, rfl, ho15, _, hb15⟩
            have HO15 := Lib.hid ho15.rdl
            have HS135 := Lib.hid (HS134.out.below hb15)
            have HB15 : Hid (Below w6.heap.size w6 w15) := Lib.hid (HB14.out.trans (hb15.mono HB14.out.size))
            clear ho15 hb15
            refine hK.out _ _ ?_ (fun hHeld => ?_)
            · (first | with_reducible exact HSX7.out _ HB21.out | with_reducible exact HSX7.out _ (below_drew1 HB21.out) | with_reducible exact HSX7.out _ HB20.out | with_reducible exact HSX7.out _ (below_drew1 HB20.out) | with_reducible exact HSX7.out _ HB19.out | with_reducible exact HSX7.out _ (below_drew1 HB19.out) | with_reducible exact HSX7.out _ HB17.out | with_reducible exact HSX7.out _ (below_drew1 HB17.out) | with_reducible exact HSX7.out _ HB16.out | with_reducible exact HSX7.out _ (below_drew1 HB16.out) | with_reducible exact HSX7.out _ HB15.out | with_reducible exact HSX7.out _ (below_drew1 HB15.out) | with_reducible exact HSX7.out _ HB14.out | with_reducible exact HSX7.out _ (below_drew1 HB14.out) | with_reducible exact HSX7.out _ HB13.out | with_reducible exact HSX7.out _ (below_drew1 HB13.out) | with_reducible exact HSX7.out _ HB12.out | with_reducible exact HSX7.out _ (below_drew1 HB12.out) | with_reducible exact HSX7.out _ HB11.out | with_reducible exact HSX7.out _ (below_drew1 HB11.out) | with_reducible exact HSX7.out _ HR7.out | with_reducible exact HSX7.out _ HRD7.out)
            clear hK K
            try simp only [Act.put, List.setIfInBounds_toArray, List.set_cons_zero, List.set_cons_succ, List.getElem_toArray, List.getElem_cons_succ, List.getElem_cons_zero]
            refine wpAnyH_ready (rs := [21]) (by kernel_rfl) (by simp) ?_
            refine AllReadyH.cons (o := _) rfl (fun K hK => ?_) AllReadyH.nil
            try simp only [List.getElem_toArray, List.getElem_cons_succ, List.getElem_cons_zero]
            have hq := HO15.out
            clear hq
            go_simp
            go_at_call 44
            with_reducible refine (HCA.out _ g3 k3 A15 n15 _ HS135.out HO15.out).mono ?_
            rintro e w16 ⟨rfl, hb16⟩
            have HB16 : Hid (Below w6.heap.size w6 w16) := Lib.hid (HB15.out.trans (hb16.mono HB15.out.size))
            clear hb16
            refine hK.out _ _ ?_ (fun hHeld => ?_)
            · (first | with_reducible exact HSX7.out _ HB21.out | with_reducible exact HSX7.out _ (below_drew1 HB21.out) | with_reducible exact HSX7.out _ HB20.out | with_reducible exact HSX7.out _ (below_drew1 HB20.out) | with_reducible exact HSX7.out _ HB19.out | with_reducible exact HSX7.out _ (below_drew1 HB19.out) | with_reducible exact HSX7.out _ HB17.out | with_reducible exact HSX7.out _ (below_drew1 HB17.out) | with_reducible exact HSX7.out _ HB16.out | with_reducible exact HSX7.out _ (below_drew1 HB16.out) | with_reducible exact HSX7.out _ HB15.out | with_reducible exact HSX7.out _ (below_drew1 HB15.out) | with_reducible exact HSX7.out _ HB14.out | with_reducible exact HSX7.out _ (below_drew1 HB14.out) | with_reducible exact HSX7.out _ HB13.out | with_reducible exact HSX7.out _ (below_drew1 HB13.out) | with_reducible exact HSX7.out _ HB12.out | with_reducible exact HSX7.out _ (below_drew1 HB12.out) | with_reducible exact HSX7.out _ HB11.out | with_reducible exact HSX7.out _ (below_drew1 HB11.out) | with_reducible exact HSX7.out _ HR7.out | with_reducible exact HSX7.out _ HRD7.out)
            clear hK K
            try simp only [Act.put, List.setIfInBounds_toArray, List.set_cons_zero, List.set_cons_succ, List.getElem_toArray, List.getElem_cons_succ, List.getElem_cons_zero]
            refine wpAnyH_take (i := 22) (oi := _) (v := ?_) rfl (by kernel_rfl) (by kernel_rfl) (by kernel_rfl) (fun _ _ _ h => h) (Or.inl ⟨by rfl, ?_⟩) (by assumption) ?_
            rotate_left
            · intro wS hSw
              (try dsimp only at hSw)
              simp only [List.getElem_toArray, List.getElem_cons_succ, List.getElem_cons_zero]
              first | (go_simp; done) | (go_simp; with_reducible rfl)
            try simp only [Act.put, List.setIfInBounds_toArray, List.set_cons_zero, List.set_cons_succ, List.getElem_toArray, List.getElem_cons_succ, List.getElem_cons_zero]
            refine wpAnyH_take (i := 23) (oi := _) (v := ?_) rfl (by kernel_rfl) (by kernel_rfl) (by kernel_rfl) (fun _ _ _ h => h) (Or.inl ⟨by rfl, ?_⟩) (by assumption) ?_
            rotate_left
            · intro wS hSw
              (try dsimp only at hSw)
              simp only [List.getElem_toArray, List.getElem_cons_succ, List.getElem_cons_zero]
              first | (go_simp; done) | (go_simp; with_reducible rfl)
            try simp only [Act.put, List.setIfInBounds_toArray, List.set_cons_zero, List.set_cons_succ, List.getElem_toArray, List.getElem_cons_succ, List.getElem_cons_zero]
            refine wpAnyH_take (i := 24) (oi := _) (v := ?_) rfl (by kernel_rfl) (by kernel_rfl) (by kernel_rfl) (fun _ _ _ h => h) (Or.inl ⟨by rfl, ?_⟩) (by assumption) ?_
            rotate_left
            · intro wS hSw
              (try dsimp only at hSw)
              simp only [List.getElem_toArray, List.getElem_cons_succ, List.getElem_cons_zero]
              first | (go_simp; done) | (go_simp; with_reducible rfl)
            try simp only [Act.put, List.setIfInBounds_toArray, List.set_cons_zero, List.set_cons_succ, List.getElem_toArray, List.getElem_cons_succ, List.getElem_cons_zero]
            refine wpAnyH_take (i := 25) (oi := _) (v := ?_) rfl (by kernel_rfl) (by kernel_rfl) (by kernel_rfl) (fun _ _ _ h => h) (Or.inl ⟨by rfl, ?_⟩) (by assumption) ?_
            rotate_left
            · intro wS hSw
              (try dsimp only at hSw)
              simp only [List.getElem_toArray, List.getElem_cons_succ, List.getElem_cons_zero]
              first | (go_simp; done) | (go_simp; with_reducible rfl)
            try simp only [Act.put, List.setIfInBounds_toArray, List.set_cons_zero, List.set_cons_succ, List.getElem_toArray, List.getElem_cons_succ, List.getElem_cons_zero]
            refine wpAnyH_take (i := 26) (oi := _) (v := ?_) rfl (by kernel_rfl) (by kernel_rfl) (by kernel_rfl) (fun _ _ _ h => h) (Or.inl ⟨by rfl, ?_⟩) (by assumption) ?_
            rotate_left
            · intro wS hSw
              (try dsimp only at hSw)
              simp only [List.getElem_toArray, List.getElem_cons_succ, List.getElem_cons_zero]
              first | (go_simp; done) | (go_simp; with_reducible rfl)
            try simp only [Act.put, List.setIfInBounds_toArray, List.set_cons_zero, List.set_cons_succ, List.getElem_toArray, List.getElem_cons_succ, List.getElem_cons_zero]
            refine wpAnyH_take (i := 27) (oi := _) (v := ?_) rfl (by kernel_rfl) (by kernel_rfl) (by kernel_rfl) (fun _ _ _ h => h) (Or.inl ⟨by rfl, ?_⟩) (by assumption) ?_
            rotate_left
            · intro wS hSw
              (try dsimp only at hSw)
              simp only [List.getElem_toArray, List.getElem_cons_succ, List.getElem_cons_zero]
              first | (go_simp; done) | (go_simp; with_reducible rfl)
            try simp only [Act.put, List.setIfInBounds_toArray, List.set_cons_zero, List.set_cons_succ, List.getElem_toArray, List.getElem_cons_succ, List.getElem_cons_zero]
            refine wpAnyH_take (i := 29) (oi := _) (v := ?_) rfl (by kernel_rfl) (by kernel_rfl) (by kernel_rfl) (fun _ _ _ h => h) (Or.inl ⟨by rfl, ?_⟩) (by assumption) ?_
            rotate_left
            · intro wS hSw
              (try dsimp only at hSw)
              simp only [List.getElem_toArray, List.getElem_cons_succ, List.getElem_cons_zero]
              first | (go_simp; done) | (go_simp; with_reducible rfl)
            try simp only [Act.put, List.setIfInBounds_toArray, List.set_cons_zero, List.set_cons_succ, List.getElem_toArray, List.getElem_cons_succ, List.getElem_cons_zero]
            refine wpAnyH_take (i := 30) (oi := _) (v := ?_) rfl (by kernel_rfl) (by kernel_rfl) (by kernel_rfl) (fun _ _ _ h => h) (Or.inl ⟨by rfl, ?_⟩) (by assumption) ?_
            rotate_left
            · intro wS hSw
              (try dsimp only at hSw)
              simp only [List.getElem_toArray, List.getElem_cons_succ, List.getElem_cons_zero]
              first | (go_simp; done) | (go_simp; with_reducible rfl)
            try simp only [Act.put, List.setIfInBounds_toArray, List.set_cons_zero, List.set_cons_succ, List.getElem_toArray, List.getElem_cons_succ, List.getElem_cons_zero]
            refine wpAnyH_take (i := 32) (oi := _) (v := ?_) rfl (by kernel_rfl) (by kernel_rfl) (by kernel_rfl) (fun _ _ _ h => h) (Or.inl ⟨by rfl, ?_⟩) (by assumption) ?_
            rotate_left
            · intro wS hSw
              (try dsimp only at hSw)
              simp only [List.getElem_toArray, List.getElem_cons_succ, List.getElem_cons_zero]
              first | (go_simp; done) | (go_simp; with_reducible rfl)
            try simp only [Act.put, List.setIfInBounds_toArray, List.set_cons_zero, List.set_cons_succ, List.getElem_toArray, List.getElem_cons_succ, List.getElem_cons_zero]
            refine wpAnyH_take (i := 33) (oi := _) (v := ?_) rfl (by kernel_rfl) (by kernel_rfl) (by kernel_rfl) (fun _ _ _ h => h) (Or.inl ⟨by rfl, ?_⟩) (by assumption) ?_
            rotate_left
            · intro wS hSw
              (try dsimp only at hSw)
              simp only [List.getElem_toArray, List.getElem_cons_succ, List.getElem_cons_zero]
              first | (go_simp; done) | (go_simp; with_reducible rfl)
            try simp only [Act.put, List.setIfInBounds_toArray, List.set_cons_zero, List.set_cons_succ, List.getElem_toArray, List.getElem_cons_succ, List.getElem_cons_zero]
            refine wpAnyH_ready (rs := [28]) (by kernel_rfl) (by simp) ?_
            refine AllReadyH.cons (o := _) rfl (fun K hK => ?_) AllReadyH.nil
            try simp only [List.getElem_toArray, List.getElem_cons_succ, List.getElem_cons_zero]
            have hq := HB16.out
            clear hq
            go_simp
            go_at_call 42
            with_reducible refine (HSB.out _ HB16.out).mono ?_
            rintro e w17 ⟨g7, k7, rfl, hs17, _, _, hb17⟩
            have HS17 := Lib.hid hs17
            have HB17 : Hid (Below w6.heap.size w6 w17) := Lib.hid (HB16.out.trans (hb17.mono HB16.out.size))
            clear hs17 hb17
            refine hK.out _ _ ?_ (fun hHeld => ?_)
            · (first | with_reducible exact HSX7.out _ HB21.out | with_reducible exact HSX7.out _ (below_drew1 HB21.out) | with_reducible exact HSX7.out _ HB20.out | with_reducible exact HSX7.out _ (below_drew1 HB20.out) | with_reducible exact HSX7.out _ HB19.out | with_reducible exact HSX7.out _ (below_drew1 HB19.out) | with_reducible exact HSX7.out _ HB17.out | with_reducible exact HSX7.out _ (below_drew1 HB17.out) | with_reducible exact HSX7.out _ HB16.out | with_reducible exact HSX7.out _ (below_drew1 HB16.out) | with_reducible exact HSX7.out _ HB15.out | with_reducible exact HSX7.out _ (below_drew1 HB15.out) | with_reducible exact HSX7.out _ HB14.out | with_reducible exact HSX7.out _ (below_drew1 HB14.out) | with_reducible exact HSX7.out _ HB13.out | with_reducible exact HSX7.out _ (below_drew1 HB13.out) | with_reducible exact HSX7.out _ HB12.out | with_reducible exact HSX7.out _ (below_drew1 HB12.out) | with_reducible exact HSX7.out _ HB11.out | with_reducible exact HSX7.out _ (below_drew1 HB11.out) | with_reducible exact HSX7.out _ HR7.out | with_reducible exact HSX7.out _ HRD7.out)
            clear hK K
            try simp only [Act.put, List.setIfInBounds_toArray, List.set_cons_zero, List.set_cons_succ, List.getElem_toArray, List.getElem_cons_succ, List.getElem_cons_zero]
            refine wpAnyH_ready (rs := [31]) (by kernel_rfl) (by simp) ?_
            refine AllReadyH.cons (o := _) rfl (fun K hK => ?_) AllReadyH.nil
            try simp only [List.getElem_toArray, List.getElem_cons_succ, List.getElem_cons_zero]
            have hq := HS17.out
            clear hq
            go_simp
            go_at_call 47
            with_reducible refine (HBY.out _ HB17.out).mono ?_
            rintro e w18 ⟨A18, n18, c18, rfl, hr18, rfl⟩
            have HR18 := Lib.hid hr18
            clear hr18
            refine hK.out _ _ ?_ (fun hHeld => ?_)
            · (first | with_reducible exact HSX7.out _ HB21.out | with_reducible exact HSX7.out _ (below_drew1 HB21.out) | with_reducible exact HSX7.out _ HB20.out | with_reducible exact HSX7.out _ (below_drew1 HB20.out) | with_reducible exact HSX7.out _ HB19.out | with_reducible exact HSX7.out _ (below_drew1 HB19.out) | with_reducible exact HSX7.out _ HB17.out | with_reducible exact HSX7.out _ (below_drew1 HB17.out) | with_reducible exact HSX7.out _ HB16.out | with_reducible exact HSX7.out _ (below_drew1 HB16.out) | with_reducible exact HSX7.out _ HB15.out | with_reducible exact HSX7.out _ (below_drew1 HB15.out) | with_reducible exact HSX7.out _ HB14.out | with_reducible exact HSX7.out _ (below_drew1 HB14.out) | with_reducible exact HSX7.out _ HB13.out | with_reducible exact HSX7.out _ (below_drew1 HB13.out) | with_reducible exact HSX7.out _ HB12.out | with_reducible exact HSX7.out _ (below_drew1 HB12.out) | with_reducible exact HSX7.out _ HB11.out | with_reducible exact HSX7.out _ (below_drew1 HB11.out) | with_reducible exact HSX7.out _ HR7.out | with_reducible exact HSX7.out _ HRD7.out)
            clear hK K
            try simp only [Act.put, List.setIfInBounds_toArray, List.set_cons_zero, List.set_cons_succ, List.getElem_toArray, List.getElem_cons_succ, List.getElem_cons_zero]
            refine wpAnyH_ready (rs := [34]) (by kernel_rfl) (by simp) ?_
            refine AllReadyH.cons (o := _) rfl (fun K hK => ?_) AllReadyH.nil
            try simp only [List.getElem_toArray, List.getElem_cons_succ, List.getElem_cons_zero]
            have hq := HR18.out
            clear hq
            go_simp
            go_at_call 45
            with_reducible refine (HWB.out _ A18 n18 _ HR18.out).mono ?_
            rintro e w19 ⟨g9, k9, rfl, hs19, _, _, hb19⟩
            have HS19 := Lib.hid hs19
            have HS179 := Lib.hid (HS17.out.below hb19)
            have HB19 : Hid (Below w6.heap.size w6 w19) := Lib.hid (HB17.out.trans (hb19.mono HB17.out.size))
            clear hs19 hb19
            refine hK.out _ _ ?_ (fun hHeld => ?_)
            · (first | with_reducible exact HSX7.out _ HB21.out | with_reducible exact HSX7.out _ (below_drew1 HB21.out) | with_reducible exact HSX7.out _ HB20.out | with_reducible exact HSX7.out _ (below_drew1 HB20.out) | with_reducible exact HSX7.out _ HB19.out | with_reducible exact HSX7.out _ (below_drew1 HB19.out) | with_reducible exact HSX7.out _ HB17.out | with_reducible exact HSX7.out _ (below_drew1 HB17.out) | with_reducible exact HSX7.out _ HB16.out | with_reducible exact HSX7.out _ (below_drew1 HB16.out) | with_reducible exact HSX7.out _ HB15.out | with_reducible exact HSX7.out _ (below_drew1 HB15.out) | with_reducible exact HSX7.out _ HB14.out | with_reducible exact HSX7.out _ (below_drew1 HB14.out) | with_reducible exact HSX7.out _ HB13.out | with_reducible exact HSX7.out _ (below_drew1 HB13.out) | with_reducible exact HSX7.out _ HB12.out | with_reducible exact HSX7.out _ (below_drew1 HB12.out) | with_reducible exact HSX7.out _ HB11.out | with_reducible exact HSX7.out _ (below_drew1 HB11.out) | with_reducible exact HSX7.out _ HR7.out | with_reducible exact HSX7.out _ HRD7.out)
            clear hK K
            try simp only [Act.put, List.setIfInBounds_toArray, List.set_cons_zero, List.set_cons_succ, List.getElem_toArray, List.getElem_cons_succ, List.getElem_cons_zero]
            refine wpAnyH_ready (rs := [35]) (by kernel_rfl) (by simp) ?_
            refine AllReadyH.cons (o := _) rfl (fun K hK => ?_) AllReadyH.nil
            try simp only [List.getElem_toArray, List.getElem_cons_succ, List.getElem_cons_zero]
            have hq := HS19.out
            clear hq
            go_simp
            go_at_call 46
            with_reducible refine (HSP.out _ g9 k9 HS19.out).mono ?_
            rintro e w20 ⟨A20, n20, c20, F20, rfl, ho20, _, hb20⟩
            have HO20 := Lib.hid ho20.rdl
            have HS170 := Lib.hid (HS179.out.below hb20)
            have HB20 : Hid (Below w6.heap.size w6 w20) := Lib.hid (HB19.out.trans (hb20.mono HB19.out.size))
            clear ho20 hb20
            refine hK.out _ _ ?_ (fun hHeld => ?_)
            · (first | with_reducible exact HSX7.out _ HB21.out | with_reducible exact HSX7.out _ (below_drew1 HB21.out) | with_reducible exact HSX7.out _ HB20.out | with_reducible exact HSX7.out _ (below_drew1 HB20.out) | with_reducible exact HSX7.out _ HB19.out | with_reducible exact HSX7.out _ (below_drew1 HB19.out) | with_reducible exact HSX7.out _ HB17.out | with_reducible exact HSX7.out _ (below_drew1 HB17.out) | with_reducible exact HSX7.out _ HB16.out | with_reducible exact HSX7.out _ (below_drew1 HB16.out) | with_reducible exact HSX7.out _ HB15.out | with_reducible exact HSX7.out _ (below_drew1 HB15.out) | with_reducible exact HSX7.out _ HB14.out | with_reducible exact HSX7.out _ (below_drew1 HB14.out) | with_reducible exact HSX7.out _ HB13.out | with_reducible exact HSX7.out _ (below_drew1 HB13.out) | with_reducible exact HSX7.out _ HB12.out | with_reducible exact HSX7.out _ (below_drew1 HB12.out) | with_reducible exact HSX7.out _ HB11.out | with_reducible exact HSX7.out _ (below_drew1 HB11.out) | with_reducible exact HSX7.out _ HR7.out | with_reducible exact HSX7.out _ HRD7.out)
            clear hK K
            try simp only [Act.put, List.setIfInBounds_toArray, List.set_cons_zero, List.set_cons_succ, List.getElem_toArray, List.getElem_cons_succ, List.getElem_cons_zero]
            refine wpAnyH_ready (rs := [36]) (by kernel_rfl) (by simp) ?_
            refine AllReadyH.cons (o := _) rfl (fun K hK => ?_) AllReadyH.nil
            try simp only [List.getElem_toArray, List.getElem_cons_succ, List.getElem_cons_zero]
            have hq := HO20.out
            clear hq
            go_simp
            go_at_call 44
            with_reducible refine (HCB.out _ g7 k7 A20 n20 _ HS170.out HO20.out).mono ?_
            rintro e w21 ⟨rfl, hb21⟩
            have HB21 : Hid (Below w6.heap.size w6 w21) := Lib.hid (HB20.out.trans (hb21.mono HB20.out.size))
            clear hb21
            refine hK.out _ _ ?_ (fun hHeld => ?_)
            · (first | with_reducible exact HSX7.out _ HB21.out | with_reducible exact HSX7.out _ (below_drew1 HB21.out) | with_reducible exact HSX7.out _ HB20.out | with_reducible exact HSX7.out _ (below_drew1 HB20.out) | with_reducible exact HSX7.out _ HB19.out | with_reducible exact HSX7.out _ (below_drew1 HB19.out) | with_reducible exact HSX7.out _ HB17.out | with_reducible exact HSX7.out _ (below_drew1 HB17.out) | with_reducible exact HSX7.out _ HB16.out | with_reducible exact HSX7.out _ (below_drew1 HB16.out) | with_reducible exact HSX7.out _ HB15.out | with_reducible exact HSX7.out _ (below_drew1 HB15.out) | with_reducible exact HSX7.out _ HB14.out | with_reducible exact HSX7.out _ (below_drew1 HB14.out) | with_reducible exact HSX7.out _ HB13.out | with_reducible exact HSX7.out _ (below_drew1 HB13.out) | with_reducible exact HSX7.out _ HB12.out | with_reducible exact HSX7.out _ (below_drew1 HB12.out) | with_reducible exact HSX7.out _ HB11.out | with_reducible exact HSX7.out _ (below_drew1 HB11.out) | with_reducible exact HSX7.out _ HR7.out | with_reducible exact HSX7.out _ HRD7.out)
            clear hK K
            try simp only [Act.put, List.setIfInBounds_toArray, List.set_cons_zero, List.set_cons_succ, List.getElem_toArray, List.getElem_cons_succ, List.getElem_cons_zero]
            refine wpAnyH_take (i := 37) (oi := _) (v := ?_) rfl (by kernel_rfl) (by kernel_rfl) (by kernel_rfl) (fun _ _ _ h => h) (Or.inl ⟨by rfl, ?_⟩) (by assumption) ?_
            rotate_left
            · intro wS hSw
              (try dsimp only at hSw)
              simp only [List.getElem_toArray, List.getElem_cons_succ, List.getElem_cons_zero]
              first | (go_simp; done) | (go_simp; with_reducible rfl)
            try simp only [Act.put, List.setIfInBounds_toArray, List.set_cons_zero, List.set_cons_succ, List.getElem_toArray, List.getElem_cons_succ, List.getElem_cons_zero]
            refine wpAnyH_take (i := 38) (oi := _) (v := ?_) rfl (by kernel_rfl) (by kernel_rfl) (by kernel_rfl) (fun _ _ _ h => h) (Or.inl ⟨by rfl, ?_⟩) (by assumption) ?_
            rotate_left
            · intro wS hSw
              (try dsimp only at hSw)
              simp only [List.getElem_toArray, List.getElem_cons_succ, List.getElem_cons_zero]
              first | (go_simp; done) | (go_simp; with_reducible rfl)
            try simp only [Act.put, List.setIfInBounds_toArray, List.set_cons_zero, List.set_cons_succ, List.getElem_toArray, List.getElem_cons_succ, List.getElem_cons_zero]
            refine wpAnyH_done (by kernel_rfl) ?_ _
            clear e1 e2
            go_wp2_with fail
            go_ret
            exact ⟨by rw [HIC.out]; simp, by first | exact HB06.out.trans (HB21.out.mono HB06.out.size) | exact below_drew1 (HB06.out.trans (HB21.out.mono HB06.out.size))⟩
    · have HO : Hid (icB s t ps k ns ws st ls rs = false) := Lib.hid (by
        cases h1 : okP k ns ws with
        | false => exact ic_p h1
        | true =>
          cases h2 : csOk k ns ws with
          | false => exact ic_s h2
          | true => exact absurd (csC_ok h1 h2) hc)
      have HST := Lib.hid (setsOf_any w2 k A1 n1 c1 ns HR12.out hn1 hc1 A2 n2 c2 ws HR22.out hn2 hc2)
      go_wp2_with (go_at_call 39; refine (HST.out).mono ?_; rintro e w3 ⟨m', B1, m1, d1, B2, m2, d2, B3, m3, d3, rfl, hb, hcode⟩)
      go_ret
      exact ⟨by rw [HO.out]; rfl, HB02.out.trans ((hb.trans ((below_new _ _).mono hb.size)).mono HB02.out.size)⟩
end Go.Proofs.YtanicbbgneobpaaGreat
