/- IsCovered: the reference's answer. Written by mk_ic.py. -/
import Derived.Test.YtanicbbgneobpaaGreatWs
import Derived.Test.YtanicbbgneobpaaGreatCkS
import Derived.Test.YtanicbbgneobpaaGreatGE
import Derived.Test.YtanicbbgneobpaaGreatGI
namespace Go.Proofs.YtanicbbgneobpaaGreat
open Go.RowKit
set_option linter.unusedVariables false
set_option linter.unusedSimpArgs false
/-- What IsCovered answers. -/
def icB (s t : Int) (ps : List Rul) (k : Int) (ns : List Int) (ws : List (List Int)) (st : Int) (ls rs : List Int) : Bool :=
  okM s t ps && okCf s t st ls rs && okP k ns ws && csOk k ns ws && decide ((st :: ctxOf ls rs (pN ns).toNat) ∈ stated (ns.drop 3) (ctxs ns ws)) && (winsOf ls 1 (pN ns).toNat).all (fun x => decide (x ∈ lefts ns ws)) && (winsOf rs 2 (pN ns).toNat).all (fun x => decide (x ∈ rights ns ws))
section
variable {s t : Int} {ps : List Rul} {k : Int} {ns : List Int} {ws : List (List Int)} {st : Int} {ls rs : List Int}
theorem ic_m (h : okM s t ps = false) : icB s t ps k ns ws st ls rs = false := by simp [icB, h]
theorem ic_c (h : okCf s t st ls rs = false) : icB s t ps k ns ws st ls rs = false := by simp [icB, h]
theorem ic_p (h : okP k ns ws = false) : icB s t ps k ns ws st ls rs = false := by simp [icB, h]
theorem ic_s (h : csOk k ns ws = false) : icB s t ps k ns ws st ls rs = false := by simp [icB, h]
theorem ic_x (h : decide ((st :: ctxOf ls rs (pN ns).toNat) ∈ stated (ns.drop 3) (ctxs ns ws)) = false) : icB s t ps k ns ws st ls rs = false := by simp only [icB, h]; simp
theorem ic_l (h : (winsOf ls 1 (pN ns).toNat).all (fun x => decide (x ∈ lefts ns ws)) = false) : icB s t ps k ns ws st ls rs = false := by simp only [icB, h]; simp
theorem ic_r (h : (winsOf rs 2 (pN ns).toNat).all (fun x => decide (x ∈ rights ns ws)) = false) : icB s t ps k ns ws st ls rs = false := by simp only [icB, h]; simp
theorem ic_yes (h1 : okM s t ps = true) (h2 : okCf s t st ls rs = true) (h3 : okP k ns ws = true) (h4 : csOk k ns ws = true) (h5 : decide ((st :: ctxOf ls rs (pN ns).toNat) ∈ stated (ns.drop 3) (ctxs ns ws)) = true) (h6 : (winsOf ls 1 (pN ns).toNat).all (fun x => decide (x ∈ lefts ns ws)) = true) (h7 : (winsOf rs 2 (pN ns).toNat).all (fun x => decide (x ∈ rights ns ws)) = true) : icB s t ps k ns ws st ls rs = true := by simp only [icB, h1, h2, h3, h4, h5, h6, h7]; rfl
end
theorem spt_ofi {w : World} {g : Nat} {m : Int} {A1 A2 A3 A4 : Option Addr} {n1 c1 n2 c2 n3 c3 n4 c4 base : Nat} {u1 u2 u3 : List Value} {ls ws cs : List (List Int)} {sts : List Int} (hbs : BS w g m A1 n1 c1 A2 n2 c2 A3 n3 c3 A4 n4 c4)
    (o1 : OwnX w A1 n1 c1 u1 ls) (o2 : OwnX w A2 n2 c2 u2 ws) (o3 : OwnX w A3 n3 c3 u3 cs) (o4 : w.ownsRow base 2 1 (.slice A4 n4 c4) n4 (ints sts)) (h1 : ls.length ≤ 1000000) (h2 : ws.length ≤ 1000000) (h3 : cs.length ≤ 1000000) (he : sts.length = cs.length) : SPt w g m A1 n1 c1 A2 n2 c2 A3 n3 c3 A4 n4 c4 ls ws cs sts := by
  have l1 := o1.ownp.rdl.len; have l2 := o2.ownp.rdl.len; have l3 := o3.ownp.rdl.len
  refine ⟨hbs, o1.ownp.rdl, o2.ownp.rdl, o3.ownp.rdl, own_rd o4, by omega, by omega, by omega, he, ?_⟩
  intro k b off A' n' c' hA hk hc
  obtain ⟨hown, hin⟩ := o3
  have hul : u3.length = n3 := by simpa using hown.1
  obtain ⟨u, hu⟩ := get_some (xs := u3) (k := k) (by omega)
  obtain ⟨x, hx⟩ := get_some (xs := cs) (k := k) (by omega)
  obtain ⟨A6, n6, c6, rfl, _, ho, _⟩ := hin.2.1 k u x hu hx
  obtain ⟨g', hg', _, _, hcell, _⟩ := own_get hown hu
  rw [hA] at hg'
  injection hg' with hg'
  injection hg' with e1 e2
  subst e1 e2
  rw [Nat.zero_add] at hc
  rw [hcell] at hc
  injection hc with hc
  injection hc with e3 e4 e5
  subst e4 e5
  exact ownN_cap ho
theorem wo_cl3 {s t st : Int} {ps : List Rul} {ls rs : List Int} (hm : okM s t ps = true) (h : okCf s t st ls rs = true) : ls.length ≤ 200 ∧ rs.length ≤ 200 := by
  simp only [okCf, Bool.and_eq_true] at h
  have key : ∀ xs : List Int, okS s xs = true → xs.length ≤ 200 := by
    intro xs hx
    by_cases hl : xs.length ≤ 200
    · exact hl
    · rw [okS_len hl] at hx; cases hx
  exact ⟨key ls h.1.2, key rs h.2⟩
set_option maxHeartbeats 8000000 in
set_option maxRecDepth 100000 in
theorem specIsCovered_any (w : World) (s t : Int) (A : Option Addr) (n c : Nat) (ps : List Rul) (hr : Rd w A (n * 3) (ints (flatR ps))) (hn : n ≤ 1099511627776) (k : Int) (A1 : Option Addr) (n1 c1 : Nat) (ns : List Int) (hr1 : Rd w A1 n1 (ints ns)) (hn1 : n1 ≤ 1000000000) (hc1 : n1 ≤ c1) (A2 : Option Addr) (n2 c2 : Nat) (ws : List (List Int)) (hr2 : RdL w A2 n2 ws) (hn2 : n2 ≤ 1000000000) (st : Int) (A3 : Option Addr) (n3 c3 : Nat) (ls : List Int) (hr3 : Rd w A3 n3 (ints ls)) (hn3 : n3 ≤ 1000000000) (A4 : Option Addr) (n4 c4 : Nat) (rs : List Int) (hr4 : Rd w A4 n4 (ints rs)) (hn4 : n4 ≤ 1000000000) :
    Calls Tryz.prog 9 #[mchV s t A n c, prfV k A1 n1 c1 A2 n2 c2, cfgV st A3 n3 c3 A4 n4 c4] w (RetV w (.bool (icB s t ps k ns ws st ls rs))) := by
  obtain ⟨w0, hw0⟩ : ∃ w0, w0 = ((w.alloc (.cells #[.int .i64 s, .int .i64 t, .slice A n c] 37)).alloc (.cells #[.int .i64 k, .slice A1 n1 c1, .slice A2 n2 c2] 39)).alloc (.cells #[.int .i64 st, .slice A3 n3 c3, .slice A4 n4 c4] 41) := ⟨_, rfl⟩
  have hB : Below w.heap.size w w0 := by rw [hw0]; exact ((below_new w _).trans ((below_new _ _).mono (by simp))).trans ((below_new _ _).mono (by simp; omega))
  have hx0 : BM w0 w.heap.size s t A n c := by rw [hw0]; exact blk_alloc (blk_alloc (box_new w _ _) _) _
  have hx1 : BP w0 (w.heap.size + 1) k A1 n1 c1 A2 n2 c2 := by rw [hw0]; have h := box_new (w.alloc (.cells #[.int .i64 s, .int .i64 t, .slice A n c] 37)) #[.int .i64 k, .slice A1 n1 c1, .slice A2 n2 c2] 39; exact blk_alloc (by simpa [BP] using h) _
  have hx2 : BC w0 (w.heap.size + 1 + 1) st A3 n3 c3 A4 n4 c4 := by rw [hw0]; have h := box_new ((w.alloc (.cells #[.int .i64 s, .int .i64 t, .slice A n c] 37)).alloc (.cells #[.int .i64 k, .slice A1 n1 c1, .slice A2 n2 c2] 39)) #[.int .i64 st, .slice A3 n3 c3, .slice A4 n4 c4] 41; unfold BC; simpa using h
  have HX0 := Lib.hid hx0; have HX1 := Lib.hid hx1; have HX2 := Lib.hid hx2
  have HR := Lib.hid (hr.below hB (Nat.le_refl _)); have HR1 := Lib.hid (hr1.below hB (Nat.le_refl _)); have HR2 := Lib.hid (hr2.below hB (Nat.le_refl _)); have HR3 := Lib.hid (hr3.below hB (Nat.le_refl _)); have HR4 := Lib.hid (hr4.below hB (Nat.le_refl _))
  have HB := Lib.hid hB
  clear hB hx0 hx1 hx2 hr hr1 hr2 hr3 hr4
  cases hz : okM s t ps with
  | false =>
    have HO := Lib.hid (ic_m (s := s) (t := t) (ps := ps) (k := k) (ns := ns) (ws := ws) (st := st) (ls := ls) (rs := rs) hz)
    have HV := Lib.hid hz
    clear hz
    go_enter Tryz.func9, Tryz.ntmps9
    go_wp2_with fail
    rw [← hw0]
    clear hw0
    go_wp2_with (first
      | (go_at_call 27
         refine (l05Is_any _ _ s t A n c HX0.out ps HR.out hn).mono ?_
         rw [HV.out]
         rintro e w2 ⟨rfl, hb2⟩
         have HB2 := Lib.hid hb2
         clear hb2))
    go_ret
    exact ⟨by rw [HO.out]; rfl, HB.out.trans (HB2.out.mono HB.out.size)⟩
  | true =>
    have HV := Lib.hid hz
    have HST : Hid ((2 ≤ s ∧ s ≤ 6) ∧ (1 ≤ t ∧ t ≤ 1000)) := Lib.hid ⟨(okM_all hz).1, (okM_all hz).2.1⟩
    clear hz
    cases hz : okCf s t st ls rs with
    | false =>
      have HO := Lib.hid (ic_c (s := s) (t := t) (ps := ps) (k := k) (ns := ns) (ws := ws) (st := st) (ls := ls) (rs := rs) hz)
      have HF := Lib.hid hz
      clear hz
      go_enter Tryz.func9, Tryz.ntmps9
      go_wp2_with fail
      rw [← hw0]
      clear hw0
      go_wp2_with (first
        | (go_at_call 28
           refine (l05Good_any _ _ _ s t A n c (BM.bel HX0.out HB2.out) HST.out.1 HST.out.2 st A3 n3 c3 A4 n4 c4 (BC.bel HX2.out HB2.out) ls (HR3.out.below HB2.out (Nat.le_refl _)) (by omega) rs (HR4.out.below HB2.out (Nat.le_refl _)) (by omega)).mono ?_
           rw [HF.out]
           rintro e w3 ⟨rfl, hb3⟩
           have HB3 := Lib.hid (HB2.out.trans (hb3.mono HB2.out.size))
           clear hb3)
        | (go_at_call 27
           refine (l05Is_any _ _ s t A n c HX0.out ps HR.out hn).mono ?_
           rw [HV.out]
           rintro e w2 ⟨rfl, hb2⟩
           have HB2 := Lib.hid hb2
           clear hb2))
      go_ret
      exact ⟨by rw [HO.out]; rfl, HB.out.trans (HB3.out.mono HB.out.size)⟩
    | true =>
      have HF := Lib.hid hz
      clear hz
      cases hz : okP k ns ws with
      | false =>
        have HO := Lib.hid (ic_p (s := s) (t := t) (ps := ps) (k := k) (ns := ns) (ws := ws) (st := st) (ls := ls) (rs := rs) hz)
        have HPV := Lib.hid hz
        clear hz
        go_enter Tryz.func9, Tryz.ntmps9
        go_wp2_with fail
        rw [← hw0]
        clear hw0
        go_wp2_with (first
          | (go_at_call 29
             refine (l25Is_any _ _ k A1 n1 c1 A2 n2 c2 (BP.bel HX1.out HB3.out) ns (HR1.out.below HB3.out (Nat.le_refl _)) hn1 ws (HR2.out.below HB3.out (Nat.le_refl _)) hn2).mono ?_
             rw [HPV.out]
             rintro e w4 ⟨rfl, hb4⟩
             have HB4 := Lib.hid (HB3.out.trans (hb4.mono HB3.out.size))
             clear hb4)
          | (go_at_call 28
             refine (l05Good_any _ _ _ s t A n c (BM.bel HX0.out HB2.out) HST.out.1 HST.out.2 st A3 n3 c3 A4 n4 c4 (BC.bel HX2.out HB2.out) ls (HR3.out.below HB2.out (Nat.le_refl _)) (by omega) rs (HR4.out.below HB2.out (Nat.le_refl _)) (by omega)).mono ?_
             rw [HF.out]
             rintro e w3 ⟨rfl, hb3⟩
             have HB3 := Lib.hid (HB2.out.trans (hb3.mono HB2.out.size))
             clear hb3)
          | (go_at_call 27
             refine (l05Is_any _ _ s t A n c HX0.out ps HR.out hn).mono ?_
             rw [HV.out]
             rintro e w2 ⟨rfl, hb2⟩
             have HB2 := Lib.hid hb2
             clear hb2))
        go_ret
        exact ⟨by rw [HO.out]; rfl, HB.out.trans (HB4.out.mono HB.out.size)⟩
      | true =>
        have HPV := Lib.hid hz
        clear hz
        go_enter Tryz.func9, Tryz.ntmps9
        go_wp2_with fail
        rw [← hw0]
        clear hw0
        go_upto_region 3 with (first
          | (go_at_call 29
             refine (l25Is_any _ _ k A1 n1 c1 A2 n2 c2 (BP.bel HX1.out HB3.out) ns (HR1.out.below HB3.out (Nat.le_refl _)) hn1 ws (HR2.out.below HB3.out (Nat.le_refl _)) hn2).mono ?_
             rw [HPV.out]
             rintro e w4 ⟨rfl, hb4⟩
             have HB4 := Lib.hid (HB3.out.trans (hb4.mono HB3.out.size))
             clear hb4)
          | (go_at_call 28
             refine (l05Good_any _ _ _ s t A n c (BM.bel HX0.out HB2.out) HST.out.1 HST.out.2 st A3 n3 c3 A4 n4 c4 (BC.bel HX2.out HB2.out) ls (HR3.out.below HB2.out (Nat.le_refl _)) (by omega) rs (HR4.out.below HB2.out (Nat.le_refl _)) (by omega)).mono ?_
             rw [HF.out]
             rintro e w3 ⟨rfl, hb3⟩
             have HB3 := Lib.hid (HB2.out.trans (hb3.mono HB2.out.size))
             clear hb3)
          | (go_at_call 27
             refine (l05Is_any _ _ s t A n c HX0.out ps HR.out hn).mono ?_
             rw [HV.out]
             rintro e w2 ⟨rfl, hb2⟩
             have HB2 := Lib.hid hb2
             clear hb2))
        as_aux_lemma =>
        have HB04 : Hid (Below w.heap.size w w4) := Lib.hid (HB.out.trans (HB4.out.mono HB.out.size))
        have HX14 := Lib.hid (BP.bel HX1.out HB4.out); have HX24 := Lib.hid (BC.bel HX2.out HB4.out)
        have HR14 := Lib.hid (HR1.out.below HB4.out (Nat.le_refl _)); have HR24 := Lib.hid (HR2.out.below HB4.out (Nat.le_refl _)); have HR34 := Lib.hid (HR3.out.below HB4.out (Nat.le_refl _)); have HR44 := Lib.hid (HR4.out.below HB4.out (Nat.le_refl _))
        have HIN := Lib.hid (l29In_any w4 (w.heap.size + 1) k A1 n1 c1 A2 n2 c2 HX14.out ns HR14.out hn1 hc1 ws HR24.out HPV.out)
        have HWL : Hid (ws.length ≤ 300) := Lib.hid (okP_bd HPV.out).2.2.1
        cases hz : csOk k ns ws with
        | false =>
          have HO := Lib.hid (ic_s (s := s) (t := t) (ps := ps) (k := k) (ns := ns) (ws := ws) (st := st) (ls := ls) (rs := rs) hz)
          rw [hz] at HIN
          clear hz
          go_wp2_with (go_at_call 30; refine HIN.out.mono ?_; rintro e w5 ⟨v, rfl, hb5, _⟩)
          (first | (go_quiet (fail)) | fail)
          all_goals
            go_wp2_with fail
            go_ret
            exact ⟨by rw [HO.out]; rfl, below_drewN (HB04.out.trans (hb5.mono HB04.out.size))⟩
        | true =>
          as_aux_lemma =>
          have HCS := Lib.hid hz
          have HPP := Lib.hid (parts_of hz)
          rw [hz] at HIN
          clear hz
          go_upto_region 4 with (go_at_call 30; refine HIN.out.mono ?_; rintro e w5 ⟨v, rfl, hb5, hx⟩)
          obtain ⟨g, B1, m1, d1, u1, B2, m2, d2, u2, B3, m3, d3, u3, B4, m4, d4, rfl, hbs, o1, o2, o3, o4, _⟩ := hx trivial
          have hwl := HWL.out
          have HS5 : Hid (SPt w5 g (pN ns) B1 m1 d1 B2 m2 d2 B3 m3 d3 B4 m4 d4 (lefts ns ws) (rights ns ws) (ctxs ns ws) (ns.drop 3)) := Lib.hid (spt_ofi hbs o1 o2 o3 o4 (by simp only [lefts, List.length_take]; omega) (by simp only [rights, List.length_take, List.length_drop]; omega) (by simp only [ctxs, List.length_drop]; omega) HPP.out.len)
          have HB5 := Lib.hid hb5
          have HB05 : Hid (Below w.heap.size w w5) := Lib.hid (HB04.out.trans (hb5.mono HB04.out.size))
          obtain ⟨P, hP⟩ : ∃ P, P = (pN ns).toNat := ⟨_, rfl⟩
          have HPT := Lib.hid hP
          have HPI : Hid (pN ns = (P : Int)) := Lib.hid (by have := HPP.out.n1; omega)
          have HP4 : Hid (1 ≤ P ∧ P ≤ 4) := Lib.hid (by have := HPP.out.n1; omega)
          have HX25 := Lib.hid (BC.bel HX24.out hb5)
          have HR35 := Lib.hid (HR34.out.below hb5 (Nat.le_refl _)); have HR45 := Lib.hid (HR44.out.below hb5 (Nat.le_refl _))
          have HLS : Hid (n3 ≤ 900 ∧ n4 ≤ 900) := Lib.hid (by have h := wo_cl3 HV.out HF.out; have h1 := HR3.out.1; have h2 := HR4.out.1; simp only [List.length_map] at h1 h2; omega)
          clear hx hbs o1 o2 o3 o4 hwl hb5 hP
          obtain ⟨bh, hbh⟩ : ∃ bh, bh = decide ((st :: ctxOf ls rs P) ∈ stated (ns.drop 3) (ctxs ns ws)) := ⟨_, rfl⟩
          have HBH := Lib.hid hbh
          have HCT : Hid (∀ wx : World, Below w5.heap.size w5 wx → Calls Tryz.prog 32 #[.pointer (some ⟨w.heap.size + 1 + 1, 0, none⟩), .int .i64 (pN ns)] wx (RetS wx 2 (ints (ctxOf ls rs P)))) := Lib.hid (fun wx hbx => by
            rw [HPI.out]
            exact l29Context_any wx _ st A3 n3 c3 A4 n4 c4 (BC.bel HX25.out hbx) ls (HR35.out.below hbx (Nat.le_refl _)) (by have := HLS.out.1; omega) rs (HR45.out.below hbx (Nat.le_refl _)) (by have := HLS.out.2; omega) P (by have := HP4.out.2; omega))
          have HHC : Hid (∀ wx : World, Below w5.heap.size w5 wx → ∀ (A : Option Addr) (n c : Nat), Rd wx A n (ints (ctxOf ls rs P)) → Calls Tryz.prog 31 #[.pointer (some ⟨g, 0, none⟩), .int .i64 st, .slice A n c] wx (RetV wx (.bool bh))) := Lib.hid (fun wx hbx A n c hr => by
            have hn : n ≤ 1000000000 := by have h := hr.1; simp only [List.length_map, ctxOf_len] at h; have := HP4.out.2; omega
            rw [HBH.out]
            exact l29HasContext_any wx g (pN ns) B1 m1 d1 B2 m2 d2 B3 m3 d3 B4 m4 d4 (lefts ns ws) (rights ns ws) (ctxs ns ws) (ns.drop 3) (HS5.out.below hbx) st A n c _ hr hn)
          have HRF : Hid (Below w5.heap.size w5 w5) := Lib.hid (Below.refl _ _)
          have HRD : Hid (Below w5.heap.size w5 w5.drew) := Lib.hid (below_drewN (n := 1) (Below.refl _ _))
          have q1 := (BC.cells HX25.out).1
          have q2 := blk_cell HS5.out.bs 0 rfl
          clear hbh
          (first | (go_region_held3 (fun w' => w'.cell? ⟨w.heap.size + 1 + 1, 0, none⟩ = some (.int .i64 st) ∧ w'.cell? ⟨g, 0, none⟩ = some (.int .i64 (pN ns))) (exact ⟨by assumption, by assumption⟩) (first
            | (have hq := HO6.out
               clear hq
               go_simp
               go_at_call 31
               with_reducible refine (HHC.out _ HB6.out _ _ _ (by simpa using own_rd HO6.out)).mono ?_
               rintro e w7 ⟨rfl, hb7⟩
               have HB7 : Hid (Below w5.heap.size w5 w7) := Lib.hid (HB6.out.trans (hb7.mono HB6.out.size))
               have q1 := (BC.cells (BC.bel HX25.out HB7.out)).1
               have q2 := blk_cell (HS5.out.below HB7.out).bs 0 rfl
               clear hb7)
            | (go_simp
               go_at_call 32
               with_reducible refine (HCT.out _ (by first | exact HRF.out | exact HRD.out)).mono ?_
               rintro e w6 ⟨A6, n6, c6, rfl, ho6, hb6⟩
               (try replace hb6 := und1 hb6)
               have HO6 := Lib.hid ho6
               have HB6 : Hid (Below w5.heap.size w5 w6) := Lib.hid hb6
               have q1 := (BC.cells (BC.bel HX25.out HB6.out)).1
               have q2 := blk_cell (HS5.out.below HB6.out).bs 0 rfl
               clear ho6 hb6))) | fail)
          all_goals
            as_aux_lemma =>
            have HB07 : Hid (Below w.heap.size w w7) := Lib.hid (HB05.out.trans (HB7.out.mono HB05.out.size))
            cases bh with
            | false =>
              have HO := Lib.hid (ic_x (s := s) (t := t) (ps := ps) (k := k) (ns := ns) (ws := ws) (st := st) (ls := ls) (rs := rs) (by rw [← HPT.out]; exact HBH.out.symm))
              go_wp2_with fail
              go_ret
              exact ⟨by rw [HO.out]; rfl, by first | exact HB07.out | exact below_drew1 HB07.out⟩
            | true =>
              have HHX : Hid (decide ((st :: ctxOf ls rs (pN ns).toNat) ∈ stated (ns.drop 3) (ctxs ns ws)) = true) := Lib.hid (by rw [← HPT.out]; exact HBH.out.symm)
              have HW7 : Hid (∀ wx : World, Below w7.heap.size w7 wx → Calls Tryz.prog 33 #[.slice A3 n3 c3, .int .i64 1, .int .i64 (pN ns)] wx (RetP wx (winsOf ls 1 P))) := Lib.hid (fun wx hbx => by
                rw [HPI.out]
                exact l29Windows_any wx A3 n3 c3 ls ((HR35.out.below HB7.out (Nat.le_refl _)).below hbx (Nat.le_refl _)) HLS.out.1 1 P (by omega) HP4.out)
              have HRF7 : Hid (Below w7.heap.size w7 w7) := Lib.hid (Below.refl _ _)
              have HRD7 : Hid (Below w7.heap.size w7 w7.drew) := Lib.hid (below_drewN (n := 1) (Below.refl _ _))
              have s1 := (BC.cells (BC.bel HX25.out HB7.out)).2.1
              have s2 := blk_cell (HS5.out.below HB7.out).bs 0 rfl
              go_wp2_with fail
              (first | (go_region_held3 (fun w' => w'.cell? ⟨w.heap.size + 1 + 1, 1, none⟩ = some (.slice A3 n3 c3) ∧ w'.cell? ⟨g, 0, none⟩ = some (.int .i64 (pN ns))) (exact ⟨by assumption, by assumption⟩) (first
                | (go_simp
                   go_at_call 33
                   with_reducible refine (HW7.out _ (by first | exact HRF7.out | exact HRD7.out)).mono ?_
                   rintro e w9 ⟨A7, n7, c7, F7, rfl, ho, _, hb⟩
                   (try replace hb := und1 hb)
                   have HO7 := Lib.hid ho
                   have HBW7 : Hid (Below w7.heap.size w7 w9) := Lib.hid hb
                   have s1 := (BC.cells (BC.bel HX25.out (HB7.out.trans (HBW7.out.mono HB7.out.size)))).2.1
                   have s2 := blk_cell (HS5.out.below (HB7.out.trans (HBW7.out.mono HB7.out.size))).bs 0 rfl
                   clear ho hb))) | fail)
              all_goals
                as_aux_lemma =>
                have HB59 : Hid (Below w5.heap.size w5 w9) := Lib.hid (HB7.out.trans (HBW7.out.mono HB7.out.size))
                have HO7a := HO7
                have HW8 : Hid (∀ wx : World, Below w9.heap.size w9 wx → Calls Tryz.prog 33 #[.slice A4 n4 c4, .int .i64 2, .int .i64 (pN ns)] wx (RetP wx (winsOf rs 2 P))) := Lib.hid (fun wx hbx => by
                  rw [HPI.out]
                  exact l29Windows_any wx A4 n4 c4 rs ((HR45.out.below HB59.out (Nat.le_refl _)).below hbx (Nat.le_refl _)) HLS.out.2 2 P (by omega) HP4.out)
                have HRF8 : Hid (Below w9.heap.size w9 w9) := Lib.hid (Below.refl _ _)
                have HRD8 : Hid (Below w9.heap.size w9 w9.drew) := Lib.hid (below_drewN (n := 1) (Below.refl _ _))
                have s1 := (BC.cells (BC.bel HX25.out HB59.out)).2.2
                have s2 := blk_cell (HS5.out.below HB59.out).bs 0 rfl
                go_wp2_with fail
                (first | (go_region_held3 (fun w' => w'.cell? ⟨w.heap.size + 1 + 1, 2, none⟩ = some (.slice A4 n4 c4) ∧ w'.cell? ⟨g, 0, none⟩ = some (.int .i64 (pN ns))) (exact ⟨by assumption, by assumption⟩) (first
                  | (go_simp
                     go_at_call 33
                     with_reducible refine (HW8.out _ (by first | exact HRF8.out | exact HRD8.out)).mono ?_
                     rintro e w8 ⟨A8, n8, c8, F8, rfl, ho, _, hb⟩
                     (try replace hb := und1 hb)
                     have HO8 := Lib.hid ho
                     have HBW8 : Hid (Below w9.heap.size w9 w8) := Lib.hid hb
                     have s1 := (BC.cells (BC.bel HX25.out (HB59.out.trans (HBW8.out.mono HB59.out.size)))).2.2
                     have s2 := blk_cell (HS5.out.below (HB59.out.trans (HBW8.out.mono HB59.out.size))).bs 0 rfl
                     clear ho hb))) | fail)
                all_goals
                  as_aux_lemma =>
                  have HB58 : Hid (Below w5.heap.size w5 w8) := Lib.hid (HB59.out.trans (HBW8.out.mono HB59.out.size))
                  have HB80 : Hid (Below w.heap.size w w8) := Lib.hid (HB05.out.trans (HB58.out.mono HB05.out.size))
                  have HS8 := Lib.hid (HS5.out.below HB58.out)
                  have HO7 := Lib.hid (HO7a.out.below HBW8.out)
                  have HLl : Hid ((winsOf ls 1 P).length = n7) := Lib.hid (by simpa using HO7.out.rdl.len)
                  have HLr : Hid ((winsOf rs 2 P).length = n8) := Lib.hid (by simpa using HO8.out.rdl.len)
                  have HNl : Hid (n7 ≤ 1000) := Lib.hid (by have h := sortU_size (wl ls 1 P (ls.length - 1)); rw [wl_size] at h; have h1 : (winsOf ls 1 P).length ≤ ls.length - 1 + 1 := h; have h2 := HLl.out; have h3 := HR35.out.1; simp only [List.length_map] at h3; have := HLS.out.1; omega)
                  have HNr : Hid (n8 ≤ 1000) := Lib.hid (by have h := sortU_size (wl rs 2 P (rs.length - 2)); rw [wl_size] at h; have h1 : (winsOf rs 2 P).length ≤ rs.length - 2 + 1 := h; have h2 := HLr.out; have h3 := HR45.out.1; simp only [List.length_map] at h3; have := HLS.out.2; omega)
                  go_wp2_with fail
                  go_loopw [11] (fun q wr => ∃ j : Nat, j ≤ n7 ∧ q = .int .i64 j ∧ Hid (((winsOf ls 1 P).take j).all (fun x => decide (x ∈ lefts ns ws)) = true) ∧ Below w8.heap.size w8 wr) (fun q _ => n7 - (intOf q).toNat)
                  case atStart => exact ⟨0, Nat.zero_le _, rfl, Lib.hid (by simp), Below.refl _ _⟩
                  case round =>
                    as_aux_lemma =>
                    obtain ⟨j, hj, rfl, HJ, hb⟩ := hrel
                    have HB := Lib.hid hb
                    have HSW := Lib.hid (HS8.out.below hb)
                    have x1 := blk_cell HSW.out.bs 1 rfl
                    have hwn := HNl.out
                    by_cases hlt : j < n7
                    · have hlt' : (j : Int) < (n7 : Int) := by omega
                      obtain ⟨x, hx⟩ := get_some (xs := (winsOf ls 1 P)) (k := j) (by rw [HLl.out]; exact hlt)
                      obtain ⟨b9, o9, A9, n9, c9, rfl, hl9, hc9, hn9, hr9⟩ := (HO7.out.rdl.below hb (Nat.le_refl _)).at_ hx
                      have HX := Lib.hid hx
                      have HR9 := Lib.hid hr9
                      obtain ⟨bb, hbb⟩ : ∃ bb, bb = decide (x ∈ lefts ns ws) := ⟨_, rfl⟩
                      have HBB := Lib.hid hbb
                      have HC9 := Lib.hid hc9
                      have HHS : Hid (∀ wx : World, Below wr.heap.size wr wx → Calls Tryz.prog 34 #[.slice B1 m1 d1, .slice A9 n9 c9] wx (RetV wx (.bool bb))) := Lib.hid (fun wx hbx => by
                        rw [HBB.out]
                        exact (l29Has_any wx B1 m1 d1 _ ((HSW.out.below hbx).r1) (by have := HSW.out.b1; omega) A9 n9 c9 _ (HR9.out.below hbx (Nat.le_refl _)) hn9).mono (by rintro e w' ⟨rfl, hw⟩; exact ⟨rfl, drp_bel hw⟩))
                      have HRF : Hid (Below wr.heap.size wr wr) := Lib.hid (Below.refl _ _)
                      have HRD : Hid (Below wr.heap.size wr wr.drew) := Lib.hid (below_drewN (n := 1) (Below.refl _ _))
                      have HL9 := Lib.hid hl9
                      clear hx hbb hr9 hb hl9
                      go_wp2_with fail
                      (first | (go_region_held3 (fun w' => w'.cell? ⟨g, 1, none⟩ = some (.slice B1 m1 d1) ∧ w'.cell? ⟨b9, o9 + j, none⟩ = some (.slice A9 n9 c9)) (exact ⟨by assumption, by assumption⟩) (first
                        | (go_simp
                           go_at_call 34
                           with_reducible refine (HHS.out _ (by first | exact HRF.out | exact HRD.out)).mono ?_
                           rintro e w9 ⟨rfl, hb9⟩
                           (try replace hb9 := und1 hb9)
                           have HB9 : Hid (Below wr.heap.size wr w9) := Lib.hid hb9
                           have x1 := blk_cell (HSW.out.below HB9.out).bs 1 rfl
                           have hc9 := (HB9.out.cell (p := ⟨b9, o9 + j, none⟩) HL9.out).trans HC9.out
                           clear hb9))) | fail)
                      all_goals
                        as_aux_lemma =>
                        have HBZ : Hid (Below w8.heap.size w8 w9) := Lib.hid (HB.out.trans (HB9.out.mono HB.out.size))
                        cases bb with
                        | false =>
                          have HO := Lib.hid (ic_l (s := s) (t := t) (ps := ps) (k := k) (ns := ns) (ws := ws) (st := st) (ls := ls) (rs := rs) (by rw [← HPT.out]; exact all_out HX.out HBB.out.symm))
                          go_wp2_with fail
                          go_ret
                          exact ⟨by rw [HO.out]; rfl, by first | exact HB80.out.trans (HBZ.out.mono HB80.out.size) | exact below_drew1 (HB80.out.trans (HBZ.out.mono HB80.out.size))⟩
                        | true =>
                          have HJ2 := Lib.hid (all_step HJ.out HX.out HBB.out.symm)
                          go_wp2_with fail
                          go_roundw
                          case rel => exact ⟨j + 1, by omega, by go_num, HJ2, by first | exact HBZ.out | exact below_drew1 HBZ.out⟩
                          case measure => simp only [intOf]; omega
                    · obtain rfl : j = n7 := by omega
                      have HALLl : Hid ((winsOf ls 1 P).all (fun x => decide (x ∈ lefts ns ws)) = true) := Lib.hid (by have h := HJ.out; rwa [List.take_of_length_le (by rw [HLl.out]; exact Nat.le_refl _)] at h)
                      have HBW := HB
                      go_wp2_with fail
                      go_loopw [12] (fun q wr => ∃ j : Nat, j ≤ n8 ∧ q = .int .i64 j ∧ Hid (((winsOf rs 2 P).take j).all (fun x => decide (x ∈ rights ns ws)) = true) ∧ Below w8.heap.size w8 wr) (fun q _ => n8 - (intOf q).toNat)
                      case atStart => exact ⟨0, Nat.zero_le _, rfl, Lib.hid (by simp), HB.out⟩
                      case round =>
                        as_aux_lemma =>
                        obtain ⟨j, hj, rfl, HJ, hb⟩ := hrel
                        have HB := Lib.hid hb
                        have HSW := Lib.hid (HS8.out.below hb)
                        have x2 := blk_cell HSW.out.bs 2 rfl
                        have hwn := HNr.out
                        by_cases hlt : j < n8
                        · have hlt' : (j : Int) < (n8 : Int) := by omega
                          obtain ⟨x, hx⟩ := get_some (xs := (winsOf rs 2 P)) (k := j) (by rw [HLr.out]; exact hlt)
                          obtain ⟨b9, o9, A9, n9, c9, rfl, hl9, hc9, hn9, hr9⟩ := (HO8.out.rdl.below hb (Nat.le_refl _)).at_ hx
                          have HX := Lib.hid hx
                          have HR9 := Lib.hid hr9
                          obtain ⟨bb, hbb⟩ : ∃ bb, bb = decide (x ∈ rights ns ws) := ⟨_, rfl⟩
                          have HBB := Lib.hid hbb
                          have HC9 := Lib.hid hc9
                          have HHS : Hid (∀ wx : World, Below wr.heap.size wr wx → Calls Tryz.prog 34 #[.slice B2 m2 d2, .slice A9 n9 c9] wx (RetV wx (.bool bb))) := Lib.hid (fun wx hbx => by
                            rw [HBB.out]
                            exact (l29Has_any wx B2 m2 d2 _ ((HSW.out.below hbx).r2) (by have := HSW.out.b2; omega) A9 n9 c9 _ (HR9.out.below hbx (Nat.le_refl _)) hn9).mono (by rintro e w' ⟨rfl, hw⟩; exact ⟨rfl, drp_bel hw⟩))
                          have HRF : Hid (Below wr.heap.size wr wr) := Lib.hid (Below.refl _ _)
                          have HRD : Hid (Below wr.heap.size wr wr.drew) := Lib.hid (below_drewN (n := 1) (Below.refl _ _))
                          have HL9 := Lib.hid hl9
                          clear hx hbb hr9 hb hl9
                          go_wp2_with fail
                          (first | (go_region_held3 (fun w' => w'.cell? ⟨g, 2, none⟩ = some (.slice B2 m2 d2) ∧ w'.cell? ⟨b9, o9 + j, none⟩ = some (.slice A9 n9 c9)) (exact ⟨by assumption, by assumption⟩) (first
                            | (go_simp
                               go_at_call 34
                               with_reducible refine (HHS.out _ (by first | exact HRF.out | exact HRD.out)).mono ?_
                               rintro e w9 ⟨rfl, hb9⟩
                               (try replace hb9 := und1 hb9)
                               have HB9 : Hid (Below wr.heap.size wr w9) := Lib.hid hb9
                               have x2 := blk_cell (HSW.out.below HB9.out).bs 2 rfl
                               have hc9 := (HB9.out.cell (p := ⟨b9, o9 + j, none⟩) HL9.out).trans HC9.out
                               clear hb9))) | fail)
                          all_goals
                            as_aux_lemma =>
                            have HBZ : Hid (Below w8.heap.size w8 w9) := Lib.hid (HB.out.trans (HB9.out.mono HB.out.size))
                            cases bb with
                            | false =>
                              have HO := Lib.hid (ic_r (s := s) (t := t) (ps := ps) (k := k) (ns := ns) (ws := ws) (st := st) (ls := ls) (rs := rs) (by rw [← HPT.out]; exact all_out HX.out HBB.out.symm))
                              go_wp2_with fail
                              go_ret
                              exact ⟨by rw [HO.out]; rfl, by first | exact HB80.out.trans (HBZ.out.mono HB80.out.size) | exact below_drew1 (HB80.out.trans (HBZ.out.mono HB80.out.size))⟩
                            | true =>
                              have HJ2 := Lib.hid (all_step HJ.out HX.out HBB.out.symm)
                              go_wp2_with fail
                              go_roundw
                              case rel => exact ⟨j + 1, by omega, by go_num, HJ2, by first | exact HBZ.out | exact below_drew1 HBZ.out⟩
                              case measure => simp only [intOf]; omega
                        · obtain rfl : j = n8 := by omega
                          have HALLr : Hid ((winsOf rs 2 P).all (fun x => decide (x ∈ rights ns ws)) = true) := Lib.hid (by have h := HJ.out; rwa [List.take_of_length_le (by rw [HLr.out]; exact Nat.le_refl _)] at h)
                          have HBW := HB
                          have HO := Lib.hid (ic_yes (s := s) (t := t) (ps := ps) (k := k) (ns := ns) (ws := ws) (st := st) (ls := ls) (rs := rs) HV.out HF.out HPV.out HCS.out HHX.out (by rw [← HPT.out]; exact HALLl.out) (by rw [← HPT.out]; exact HALLr.out))
                          go_wp2_with fail
                          go_ret
                          exact ⟨by rw [HO.out]; rfl, HB80.out.trans (HB.out.mono HB80.out.size)⟩
end Go.Proofs.YtanicbbgneobpaaGreat
