/- WindowsOf: what both sides answer. Written by mk_wo.py. -/
import Derived.Test.YtemllhkgjdifiaaWi
import Derived.Test.YtemllhkgjdifiaaGE
namespace Go.Proofs.Ytemllhkgjdifiaa
open Go.RowKit
set_option linter.unusedVariables false
set_option linter.unusedSimpArgs false
def woP (s t : Int) (ps : List Rul) (st : Int) (ls rs : List Int) (n : Int) : List (List Int) × List (List Int) × Int :=
  if okM s t ps && okCf s t st ls rs then (if inB n 1 4 then (winsOf ls 1 n.toNat, winsOf rs 2 n.toNat, 0) else ([], [], 2)) else ([], [], 1)
theorem wo_bad {s t st n : Int} {ps : List Rul} {ls rs : List Int} (h : (okM s t ps && okCf s t st ls rs) = false) : woP s t ps st ls rs n = ([], [], 1) := by simp only [woP, h]; simp
theorem wo_n {s t st n : Int} {ps : List Rul} {ls rs : List Int} (h : (okM s t ps && okCf s t st ls rs) = true) (h2 : inB n 1 4 = false) : woP s t ps st ls rs n = ([], [], 2) := by simp only [woP, h, h2]; simp
theorem wo_ok {s t st n : Int} {ps : List Rul} {ls rs : List Int} (h : (okM s t ps && okCf s t st ls rs) = true) (h2 : inB n 1 4 = true) : woP s t ps st ls rs n = (winsOf ls 1 n.toNat, winsOf rs 2 n.toNat, 0) := by simp only [woP, h, h2]; simp
theorem wo_cl {s t st : Int} {ps : List Rul} {ls rs : List Int} (hm : okM s t ps = true) (h : okCf s t st ls rs = true) : ls.length ≤ 200 ∧ rs.length ≤ 200 ∧ (∀ x ∈ ls, SmI x) ∧ (∀ x ∈ rs, SmI x) := by
  obtain ⟨hs, _⟩ := okM_all hm
  simp only [okCf, Bool.and_eq_true] at h
  have key : ∀ xs : List Int, okS s xs = true → xs.length ≤ 200 ∧ ∀ x ∈ xs, SmI x := by
    intro xs hx
    have h1 : xs.length ≤ 200 := by
      by_cases hl : xs.length ≤ 200
      · exact hl
      · rw [okS_len hl] at hx; cases hx
    have h2 : allIn xs 0 (s - 1) = true := by
      cases ha : allIn xs 0 (s - 1) with
      | true => rfl
      | false => rw [okS_all ha] at hx; cases hx
    exact ⟨h1, fun x hxm => by have := allIn_true.1 h2 x hxm; unfold SmI; omega⟩
  exact ⟨(key ls h.1.2).1, (key rs h.2).1, (key ls h.1.2).2, (key rs h.2).2⟩
theorem wo_cl2 {s t st : Int} {ps : List Rul} {ls rs : List Int} (h : (okM s t ps && okCf s t st ls rs) = true) : ls.length ≤ 200 ∧ rs.length ≤ 200 ∧ (∀ x ∈ ls, SmI x) ∧ (∀ x ∈ rs, SmI x) := by
  rw [Bool.and_eq_true] at h; exact wo_cl h.1 h.2
theorem wl_drop (rs : List Int) (len k : Nat) : wl rs 2 len k = wl (rs.drop 1) 1 len k := by
  unfold wl cellsF
  congr 1
  apply List.map_congr_left
  intro i _
  apply List.map_congr_left
  intro j _
  rw [List.getD_eq_getElem?_getD, List.getD_eq_getElem?_getD, List.getElem?_drop, show 1 + (1 + i + j) = 2 + i + j by omega]
def WoP (w : World) (r : List (List Int) × List (List Int) × Int) (e : Ending) (w' : World) : Prop :=
  ∃ (A0 : Option Addr) (n0 c0 : Nat) (F0 : Nat → Prop) (A1 : Option Addr) (n1 c1 : Nat) (F1 : Nat → Prop), e = .returned (.tuple #[.slice A0 n0 c0, .slice A1 n1 c1, .int .i64 r.2.2]) ∧
    OwnP w' F0 A0 n0 c0 r.1 ∧ (∀ k, F0 k → w.heap.size ≤ k ∧ k < w'.heap.size) ∧ OwnP w' F1 A1 n1 c1 r.2.1 ∧ (∀ k, F1 k → w.heap.size ≤ k ∧ k < w'.heap.size) ∧ (∀ k, F0 k → F1 k → False) ∧ Below w.heap.size w w'
theorem woP_nil {w w' : World} {z : Int} (hb : Below w.heap.size w w') : WoP w ([], [], z) (.returned (.tuple #[.slice none 0 0, .slice none 0 0, .int .i64 z])) w' :=
  ⟨none, 0, 0, fun _ => False, none, 0, 0, fun _ => False, rfl, OwnP.nil _, by simp, OwnP.nil _, by simp, by simp, hb⟩
theorem woP_end {w w3 w5 w6 : World} {A5 A6 : Option Addr} {n5 c5 n6 c6 : Nat} {F5 F6 : Nat → Prop} {ls rs : List (List Int)} {z : Int} (hz : Below w.heap.size w w3) (ho5 : OwnP w6 F5 A5 n5 c5 ls) (hf5 : ∀ q, F5 q → w3.heap.size ≤ q ∧ q < w5.heap.size) (ho6 : OwnP w6 F6 A6 n6 c6 rs) (hf6 : ∀ q, F6 q → w5.heap.size ≤ q ∧ q < w6.heap.size) (hb : Below w3.heap.size w3 w6) (h56 : w5.heap.size ≤ w6.heap.size) (h35 : w3.heap.size ≤ w5.heap.size) :
    WoP w (ls, rs, z) (.returned (.tuple #[.slice A5 n5 c5, .slice A6 n6 c6, .int .i64 z])) w6 :=
  ⟨A5, n5, c5, F5, A6, n6, c6, F6, rfl, ho5, fun q hq => ⟨Nat.le_trans hz.size (hf5 q hq).1, Nat.lt_of_lt_of_le (hf5 q hq).2 h56⟩, ho6, fun q hq => ⟨Nat.le_trans (Nat.le_trans hz.size h35) (hf6 q hq).1, (hf6 q hq).2⟩, fun q h1 h2 => by have := (hf5 q h1).2; have := (hf6 q h2).1; omega, hz.trans (hb.mono hz.size)⟩
def BeyP (w : World) (xs : List Int) (e : Ending) (w' : World) : Prop := ∃ A' n' c', e = .returned (.slice A' n' c') ∧ Rd w A' n' (ints (xs.drop 1)) ∧ w = w'
theorem beyond_any (w : World) (A : Option Addr) (n c : Nat) (xs : List Int) (hr : Rd w A n (ints xs)) (hn : n ≤ 1099511627776) (hc : n ≤ c) :
    Calls Try.prog 79 #[.slice A n c] w (BeyP w xs) := by
  rcases Nat.eq_zero_or_pos n with hz | hp
  · subst hz
    have hcf := fun (w : World) => run_cutF Try.underlying25 Try.szI w A 0 c 0 0 .i64 (by rfl) (by omega)
    have hrt : Rd w (cutA A 0 c 1) (0 - 0) (ints (xs.drop 1)) := by have h := hr.cut 0 c (by omega) hc; have h1 := hr.1; simp at h1; subst h1; simpa using h
    generalize cutA A 0 c 1 = AT at *
    have HRT := Lib.hid hrt
    have hm0 : min (1 : Int) 0 = 0 := by decide
    clear hrt hr
    go_enter Try.func79, Try.ntmps79
    go_wp2_with fail
    go_ret
    exact ⟨AT, _, _, rfl, HRT.out, rfl⟩
  · have hcf := fun (w : World) => run_cutF Try.underlying25 Try.szI w A n c 1 1 .i64 (by rfl) (by omega)
    have hrt : Rd w (cutA A 1 c 1) (n - 1) (ints (xs.drop 1)) := by have h := hr.cut 1 c (by omega) hc; simpa using h
    generalize cutA A 1 c 1 = AT at *
    have HRT := Lib.hid hrt
    have hm1 : min (1 : Int) (n : Int) = 1 := by omega
    clear hrt hr
    go_enter Try.func79, Try.ntmps79
    go_wp2_with fail
    go_ret
    exact ⟨AT, _, _, rfl, HRT.out, rfl⟩
set_option maxHeartbeats 4000000 in
theorem specWindowsOf_any (w : World) (s t : Int) (A : Option Addr) (n c : Nat) (ps : List Rul) (hr : Rd w A (n * 3) (ints (flatR ps))) (hn : n ≤ 1099511627776) (st : Int) (A1 : Option Addr) (n1 c1 : Nat) (ls : List Int) (hr1 : Rd w A1 n1 (ints ls)) (hn1 : n1 ≤ 1099511627776) (A2 : Option Addr) (n2 c2 : Nat) (rs : List Int) (hr2 : Rd w A2 n2 (ints rs)) (hn2 : n2 ≤ 1099511627776) (hc2 : n2 ≤ c2) (m : Int) :
    Calls Try.prog 29 #[mchV s t A n c, cfgV st A1 n1 c1 A2 n2 c2, .int .i64 m] w (WoP w (woP s t ps st ls rs m)) := by
  obtain ⟨w0, hw0⟩ : ∃ w0, w0 = (w.alloc (.cells #[.int .i64 s, .int .i64 t, .slice A n c] 33)).alloc (.cells #[.int .i64 st, .slice A1 n1 c1, .slice A2 n2 c2] 56) := ⟨_, rfl⟩
  have hB : Below w.heap.size w w0 := by rw [hw0]; exact (below_new w _).trans ((below_new _ _).mono (by simp))
  have hx0 : BM w0 w.heap.size s t A n c := by rw [hw0]; exact blk_alloc (box_new w _ _) _
  have hx1 : BC w0 (w.heap.size + 1) st A1 n1 c1 A2 n2 c2 := by rw [hw0]; have h := box_new (w.alloc (.cells #[.int .i64 s, .int .i64 t, .slice A n c] 33)) #[.int .i64 st, .slice A1 n1 c1, .slice A2 n2 c2] 56; unfold BC; simpa using h
  have HX0 := Lib.hid hx0
  have HX1 := Lib.hid hx1
  have HR := Lib.hid (hr.below hB (Nat.le_refl _))
  have HR1 := Lib.hid (hr1.below hB (Nat.le_refl _))
  have HR2 := Lib.hid (hr2.below hB (Nat.le_refl _))
  have HB := Lib.hid hB
  clear hB hx0 hx1
  cases hok : okM s t ps with
  | false =>
    have HO := Lib.hid (wo_bad (s := s) (t := t) (ps := ps) (st := st) (ls := ls) (rs := rs) (n := m) (by rw [hok]; rfl))
    have HV := Lib.hid hok
    clear hok
    rw [HO.out]
    go_enter Try.func29, Try.ntmps29
    go_wp2_with fail
    rw [← hw0]
    clear hw0
    refine (l05Is_any _ _ s t A n c HX0.out ps HR.out hn).mono ?_
    rw [HV.out]
    rintro e w2 ⟨rfl, hb2⟩
    go_wp2_with fail
    go_ret3
    exact woP_nil (HB.out.trans (hb2.mono HB.out.size))
  | true =>
    obtain ⟨hs, ht, _, _⟩ := okM_all hok
    have HV := Lib.hid hok
    cases hcf : okCf s t st ls rs with
    | false =>
      have HO := Lib.hid (wo_bad (s := s) (t := t) (ps := ps) (st := st) (ls := ls) (rs := rs) (n := m) (by rw [hok, hcf]; rfl))
      have HF := Lib.hid hcf
      clear hok hcf
      rw [HO.out]
      go_enter Try.func29, Try.ntmps29
      go_wp2_with fail
      rw [← hw0]
      clear hw0
      refine (l05Is_any _ _ s t A n c HX0.out ps HR.out hn).mono ?_
      rw [HV.out]
      rintro e w2 ⟨rfl, hb2⟩
      go_wp2_with fail
      refine (l05Good_any _ _ _ s t A n c (BM.bel HX0.out hb2) hs ht st A1 n1 c1 A2 n2 c2 (BC.bel HX1.out hb2) ls (HR1.out.below hb2 (Nat.le_refl _)) hn1 rs (HR2.out.below hb2 (Nat.le_refl _)) hn2).mono ?_
      rw [HF.out]
      rintro e w3 ⟨rfl, hb3⟩
      have HZ := Lib.hid ((HB.out.trans (hb2.mono HB.out.size)).trans (hb3.mono (Nat.le_trans HB.out.size hb2.size)))
      clear hb2 hb3
      go_wp2_with fail
      go_ret3
      exact woP_nil HZ.out
    | true =>
      have HF := Lib.hid hcf
      cases hi : inB m 1 4 with
      | false =>
        have HO := Lib.hid (wo_n (s := s) (t := t) (ps := ps) (st := st) (ls := ls) (rs := rs) (n := m) (by rw [hok, hcf]; rfl) hi)
        have HI := Lib.hid hi
        clear hok hcf hi
        rw [HO.out]
        go_enter Try.func29, Try.ntmps29
        go_wp2_with fail
        rw [← hw0]
        clear hw0
        refine (l05Is_any _ _ s t A n c HX0.out ps HR.out hn).mono ?_
        rw [HV.out]
        rintro e w2 ⟨rfl, hb2⟩
        go_wp2_with fail
        refine (l05Good_any _ _ _ s t A n c (BM.bel HX0.out hb2) hs ht st A1 n1 c1 A2 n2 c2 (BC.bel HX1.out hb2) ls (HR1.out.below hb2 (Nat.le_refl _)) hn1 rs (HR2.out.below hb2 (Nat.le_refl _)) hn2).mono ?_
        rw [HF.out]
        rintro e w3 ⟨rfl, hb3⟩
        have HZ := Lib.hid ((HB.out.trans (hb2.mono HB.out.size)).trans (hb3.mono (Nat.le_trans HB.out.size hb2.size)))
        clear hb2 hb3
        go_wp2_with fail
        refine (l29Size_any _ _).mono ?_
        rw [HI.out]
        rintro e w4 ⟨rfl, rfl⟩
        go_wp2_with fail
        go_ret3
        exact woP_nil HZ.out
      | true =>
        have HO := Lib.hid (wo_ok (s := s) (t := t) (ps := ps) (st := st) (ls := ls) (rs := rs) (n := m) (by rw [hok, hcf]; rfl) hi)
        have HI := Lib.hid hi
        obtain ⟨k, rfl⟩ : ∃ k : Nat, m = (k : Int) := ⟨m.toNat, by have h := inB_true.1 hi; omega⟩
        have hk : k ≤ 4 := by have h := inB_true.1 hi; omega
        clear hok hcf hi
        rw [HO.out]
        go_enter Try.func29, Try.ntmps29
        go_wp2_with fail
        rw [← hw0]
        clear hw0
        refine (l05Is_any _ _ s t A n c HX0.out ps HR.out hn).mono ?_
        rw [HV.out]
        rintro e w2 ⟨rfl, hb2⟩
        go_wp2_with fail
        refine (l05Good_any _ _ _ s t A n c (BM.bel HX0.out hb2) hs ht st A1 n1 c1 A2 n2 c2 (BC.bel HX1.out hb2) ls (HR1.out.below hb2 (Nat.le_refl _)) hn1 rs (HR2.out.below hb2 (Nat.le_refl _)) hn2).mono ?_
        rw [HF.out]
        rintro e w3 ⟨rfl, hb3⟩
        have HB2 := Lib.hid (hb2.trans (hb3.mono hb2.size))
        have HZ := Lib.hid (HB.out.trans (HB2.out.mono HB.out.size))
        clear hb2 hb3
        go_wp2_with fail
        refine (l29Size_any _ _).mono ?_
        rw [HI.out]
        rintro e w4 ⟨rfl, rfl⟩
        have HXB := Lib.hid (BC.bel HX1.out HB2.out)
        have hcl := wo_cl HV.out HF.out
        have HLS : Hid (n1 ≤ 900 ∧ n2 ≤ 900) := Lib.hid (by have h1 := HR1.out.1; have h2 := HR2.out.1; simp only [List.length_map] at h1 h2; have := hcl.1; have := hcl.2.1; omega)
        have HK1 : Hid (1 ≤ k ∧ k ≤ 4) := Lib.hid (by have h := inB_true.1 HI.out; omega)
        have HW1 : Hid (∀ wx : World, Below w3.heap.size w3 wx → Calls Try.prog 74 #[.slice A1 n1 c1, .int .i64 1, .int .i64 k] wx (RetP wx (winsOf ls 1 k))) := Lib.hid (fun wx hbx => l29Windows_any wx A1 n1 c1 ls ((HR1.out.below HB2.out (Nat.le_refl _)).below hbx (Nat.le_refl _)) HLS.out.1 1 k (by omega) HK1.out)
        have HW2 : Hid (∀ wx : World, Below w3.heap.size w3 wx → Calls Try.prog 74 #[.slice A2 n2 c2, .int .i64 2, .int .i64 k] wx (RetP wx (winsOf rs 2 k))) := Lib.hid (fun wx hbx => l29Windows_any wx A2 n2 c2 rs ((HR2.out.below HB2.out (Nat.le_refl _)).below hbx (Nat.le_refl _)) HLS.out.2 2 k (by omega) HK1.out)
        have HRF : Hid (Below w3.heap.size w3 w3) := Lib.hid (Below.refl _ _)
        have HRD : Hid (Below w3.heap.size w3 w3.drew) := Lib.hid (below_drewN (n := 1) (Below.refl _ _))
        have hbb := HXB.out
        obtain ⟨y0, y1, y2⟩ := hbb.cells
        clear hbb hcl
        go_wp2_with fail
        (first | (go_region_held3 (fun w' => w'.cell? ⟨w.heap.size + 1, 1, none⟩ = some (.slice A1 n1 c1) ∧ w'.cell? ⟨w.heap.size + 1, 2, none⟩ = some (.slice A2 n2 c2)) (exact ⟨by assumption, by assumption⟩) (first
          | (have hq := HO5.out
             clear hq
             go_simp
             go_at_call 74
             with_reducible refine (HW2.out _ HB5.out).mono ?_
             rintro e w6 ⟨A6, n6, c6, F6, rfl, ho6, hf6, hb6⟩
             have HO6 := Lib.hid ho6; have HF6 := Lib.hid hf6
             have HO56 := Lib.hid (HO5.out.below hb6)
             have HB6 : Hid (Below w3.heap.size w3 w6) := Lib.hid (HB5.out.trans (hb6.mono HB5.out.size))
             have HZ6 : Hid (w5.heap.size ≤ w6.heap.size) := Lib.hid hb6.size
             have hx6 := blk_bel HXB.out HB6.out
             have y1 := blk_cell hx6 1 rfl
             have y2 := blk_cell hx6 2 rfl
             clear ho6 hf6 hb6 hx6)
          | (go_simp
             go_at_call 74
             with_reducible refine (HW1.out _ (by first | exact HRF.out | exact HRD.out)).mono ?_
             rintro e w5 ⟨A5, n5, c5, F5, rfl, ho5, hf5, hb5⟩
             (try replace hb5 := und1 hb5)
             have HO5 := Lib.hid ho5
             have HF5 : Hid (∀ q, F5 q → w3.heap.size ≤ q ∧ q < w5.heap.size) := Lib.hid (fun q hq => hf5 q hq)
             have HB5 : Hid (Below w3.heap.size w3 w5) := Lib.hid hb5
             have hx5 := blk_bel HXB.out HB5.out
             have y1 := blk_cell hx5 1 rfl
             have y2 := blk_cell hx5 2 rfl
             clear ho5 hf5 hb5 hx5))) | fail)
        all_goals
          as_aux_lemma =>
          go_wp2_with fail
          go_ret3
          exact woP_end HZ.out (by simpa using HO56.out) HF5.out (by simpa using HO6.out) HF6.out HB6.out HZ6.out HB5.out.size
set_option maxHeartbeats 4000000 in
theorem implWindowsOf_any (w : World) (s t : Int) (A : Option Addr) (n c : Nat) (ps : List Rul) (hr : Rd w A (n * 3) (ints (flatR ps))) (hn : n ≤ 1099511627776) (st : Int) (A1 : Option Addr) (n1 c1 : Nat) (ls : List Int) (hr1 : Rd w A1 n1 (ints ls)) (hn1 : n1 ≤ 1099511627776) (A2 : Option Addr) (n2 c2 : Nat) (rs : List Int) (hr2 : Rd w A2 n2 (ints rs)) (hn2 : n2 ≤ 1099511627776) (hc2 : n2 ≤ c2) (m : Int) :
    Calls Try.prog 31 #[mchV s t A n c, cfgV st A1 n1 c1 A2 n2 c2, .int .i64 m] w (WoP w (woP s t ps st ls rs m)) := by
  obtain ⟨w0, hw0⟩ : ∃ w0, w0 = (w.alloc (.cells #[.int .i64 s, .int .i64 t, .slice A n c] 33)).alloc (.cells #[.int .i64 st, .slice A1 n1 c1, .slice A2 n2 c2] 56) := ⟨_, rfl⟩
  have hB : Below w.heap.size w w0 := by rw [hw0]; exact (below_new w _).trans ((below_new _ _).mono (by simp))
  have hx0 : w0.heap[w.heap.size]? = some (.cells #[.int .i64 s, .int .i64 t, .slice A n c] 33 (0, 0)) := by rw [hw0]; exact blk_alloc (box_new w _ _) _
  have hx1 : w0.heap[w.heap.size + 1]? = some (.cells #[.int .i64 st, .slice A1 n1 c1, .slice A2 n2 c2] 56 (0, 0)) := by rw [hw0]; have h := box_new (w.alloc (.cells #[.int .i64 s, .int .i64 t, .slice A n c] 33)) #[.int .i64 st, .slice A1 n1 c1, .slice A2 n2 c2] 56; simpa using h
  have HX0 := Lib.hid hx0
  have HX1 := Lib.hid hx1
  have HR := Lib.hid (hr.below hB (Nat.le_refl _))
  have HR1 := Lib.hid (hr1.below hB (Nat.le_refl _))
  have HR2 := Lib.hid (hr2.below hB (Nat.le_refl _))
  have HB := Lib.hid hB
  have z0 := blk_cell hx0 0 rfl
  have z1 := blk_cell hx0 1 rfl
  have z2 := blk_cell hx0 2 rfl
  have y0 := blk_cell hx1 0 rfl
  have y1 := blk_cell hx1 1 rfl
  have y2 := blk_cell hx1 2 rfl
  clear hB hx0 hx1
  cases hv : (okM s t ps && okCf s t st ls rs) with
  | false =>
    have HO := Lib.hid (wo_bad (n := m) hv)
    have HV := Lib.hid hv
    clear hv
    rw [HO.out]
    go_enter Try.func31, Try.ntmps31
    go_wp2_with fail
    rw [← hw0]
    clear hw0
    refine (ValidConfig_any _ s t A n c ps HR.out hn st A1 n1 c1 ls HR1.out hn1 A2 n2 c2 rs HR2.out hn2).mono ?_
    rw [HV.out]
    rintro e w2 ⟨rfl, hb2⟩
    go_wp2_with fail
    go_ret3
    exact woP_nil (HB.out.trans (hb2.mono HB.out.size))
  | true =>
    have HV := Lib.hid hv
    cases hi : inB m 1 4 with
    | false =>
      have HO := Lib.hid (wo_n (n := m) hv hi)
      have HI := Lib.hid hi
      clear hv hi
      rw [HO.out]
      go_enter Try.func31, Try.ntmps31
      go_wp2_with fail
      rw [← hw0]
      clear hw0
      refine (ValidConfig_any _ s t A n c ps HR.out hn st A1 n1 c1 ls HR1.out hn1 A2 n2 c2 rs HR2.out hn2).mono ?_
      rw [HV.out]
      rintro e w2 ⟨rfl, hb2⟩
      go_wp2_with fail
      refine (contextSizeOk_any _ _).mono ?_
      rw [HI.out]
      rintro e w3 ⟨rfl, rfl⟩
      go_wp2_with fail
      go_ret3
      exact woP_nil (HB.out.trans (hb2.mono HB.out.size))
    | true =>
      have HO := Lib.hid (wo_ok (n := m) hv hi)
      have HI := Lib.hid hi
      obtain ⟨k, rfl⟩ : ∃ k : Nat, m = (k : Int) := ⟨m.toNat, by have h := inB_true.1 hi; omega⟩
      have hk : k ≤ 4 := by have h := inB_true.1 hi; omega
      clear hv hi
      rw [HO.out]
      go_enter Try.func31, Try.ntmps31
      go_wp2_with fail
      rw [← hw0]
      clear hw0
      refine (ValidConfig_any _ s t A n c ps HR.out hn st A1 n1 c1 ls HR1.out hn1 A2 n2 c2 rs HR2.out hn2).mono ?_
      rw [HV.out]
      rintro e w2 ⟨rfl, hb2⟩
      go_wp2_with fail
      refine (contextSizeOk_any _ _).mono ?_
      rw [HI.out]
      rintro e w3 ⟨rfl, rfl⟩
      have hx1 := blk_bel HX1.out hb2
      clear z0 z1 z2 y0 y1 y2
      have y0 := blk_cell hx1 0 rfl
      have y1 := blk_cell hx1 1 rfl
      have y2 := blk_cell hx1 2 rfl
      have HB2 := Lib.hid hb2
      have HXB := Lib.hid hx1
      have hcl := wo_cl2 HV.out
      have HLS : Hid (n1 ≤ 900 ∧ n2 ≤ 900) := Lib.hid (by have h1 := HR1.out.1; have h2 := HR2.out.1; simp only [List.length_map] at h1 h2; have := hcl.1; have := hcl.2.1; omega)
      have HSM := Lib.hid hcl.2.2
      have HK1 : Hid (1 ≤ k ∧ k ≤ 4) := Lib.hid (by have h := inB_true.1 HI.out; omega)
      have HR12 := Lib.hid (HR1.out.below hb2 (Nat.le_refl _)); have HR22 := Lib.hid (HR2.out.below hb2 (Nat.le_refl _))
      have HZ : Hid (Below w.heap.size w w2) := Lib.hid (HB.out.trans (hb2.mono HB.out.size))
      have HWA : Hid (∀ (wx : World) (A9 : Option Addr) (n9 c9 : Nat) (xs : List Int), n9 ≤ 900 → Rd wx A9 n9 (ints xs) → (∀ x ∈ xs, SmI x) → Calls Try.prog 77 #[.slice A9 n9 c9, .int .i64 k] wx (SetP wx k (wl xs 1 k (n9 - 1)))) := Lib.hid (fun wx A9 n9 c9 xs h9 hr9 hs9 => windowsOf_any wx A9 n9 c9 xs hr9 h9 hs9 k HK1.out)
      have HSO : Hid (∀ (wx : World) (g mB : Nat) (xs : List Int) (j : Nat), j ≤ 900 → (∀ x ∈ xs, SmI x) → IsSet wx g mB k (wl xs 1 k j) → Calls Try.prog 78 #[.pointer (some ⟨g, 0, none⟩)] wx (RetP wx (sortU (wl xs 1 k j)))) := Lib.hid (fun wx g mB xs j hj hs9 hs => sorted_any wx g mB k _ hs (by have := HK1.out; omega) (by rw [wl_size]; omega) (wl_gw (by have := HK1.out; omega) hs9))
      have HBY : Hid (∀ wx : World, Below w2.heap.size w2 wx → Calls Try.prog 79 #[.slice A2 n2 c2] wx (fun e w' => ∃ A' n' c', e = .returned (.slice A' n' c') ∧ Rd wx A' n' (ints (rs.drop 1)) ∧ wx = w')) := Lib.hid (fun wx hbx => beyond_any wx A2 n2 c2 rs (HR22.out.below hbx (Nat.le_refl _)) hn2 hc2)
      have HRF : Hid (Below w2.heap.size w2 w2) := Lib.hid (Below.refl _ _)
      have HRD : Hid (Below w2.heap.size w2 w2.drew) := Lib.hid (below_drewN (n := 1) (Below.refl _ _))
      clear hx1 hb2 hcl
      go_wp2_with fail
      (first | (go_region_held3 (fun w' => w'.cell? ⟨w.heap.size + 1, 1, none⟩ = some (.slice A1 n1 c1) ∧ w'.cell? ⟨w.heap.size + 1, 2, none⟩ = some (.slice A2 n2 c2)) (exact ⟨by assumption, by assumption⟩) (first
        | (have hq := HS8.out
           clear hq
           go_simp
           go_at_call 78
           with_reducible refine (HSO.out _ g8 m8 _ _ HJ8.out HSM8.out HS8.out).mono ?_
           rintro e w9 ⟨A9, n9, c9, F9, rfl, ho9, hf9, hb9⟩
           have HO9 := Lib.hid ho9; have HF9 := Lib.hid hf9
           have HO59 := Lib.hid (HO58.out.below hb9)
           have HB9 : Hid (Below w2.heap.size w2 w9) := Lib.hid (HB8.out.trans (hb9.mono HB8.out.size))
           have HZ9 := HZ8
           have HZ98 : Hid (w8.heap.size ≤ w9.heap.size) := Lib.hid hb9.size
           have hx9 := blk_bel HXB.out HB9.out
           have y1 := blk_cell hx9 1 rfl
           have y2 := blk_cell hx9 2 rfl
           clear ho9 hf9 hb9 hx9)
        | (have hq := HR7.out
           clear hq
           go_simp
           go_at_call 77
           with_reducible refine (HWA.out _ A7 n7 c7 _ HN7.out HR7.out HSM8.out).mono ?_
           rintro e w8 ⟨g8, m8, rfl, hs8, _, _, hb8⟩
           have HS8 := Lib.hid hs8
           have HJ8 : Hid (n7 - 1 ≤ 900) := Lib.hid (by have := HN7.out; omega)
           have HO58 := Lib.hid (HO5.out.below hb8)
           have HB8 : Hid (Below w2.heap.size w2 w8) := Lib.hid (HB5.out.trans (hb8.mono HB5.out.size))
           have HZ8 : Hid (w5.heap.size ≤ w8.heap.size) := Lib.hid hb8.size
           have hx8 := blk_bel HXB.out HB8.out
           have y1 := blk_cell hx8 1 rfl
           have y2 := blk_cell hx8 2 rfl
           clear hs8 hb8 hx8)
        | (have hq := HO5.out
           clear hq
           go_simp
           go_at_call 79
           with_reducible refine (HBY.out _ HB5.out).mono ?_
           rintro e w7 ⟨A7, n7, c7, rfl, hr7, rfl⟩
           have HR7 := Lib.hid hr7
           have HN7 : Hid (n7 ≤ 900) := Lib.hid (by have h := hr7.1; have h2 := HR2.out.1; simp at h h2; have := HLS.out; omega)
           have HL7 : Hid (n7 = rs.length - 1) := Lib.hid (by have h := hr7.1; simp at h; omega)
           have HSM8 : Hid (∀ x ∈ rs.drop 1, SmI x) := Lib.hid (fun x hx => HSM.out.2 x (List.mem_of_mem_drop hx))
           clear hr7)
        | (have hq := HS4.out
           clear hq
           go_simp
           go_at_call 78
           with_reducible refine (HSO.out _ g4 m4 _ _ HJ4.out HSM4.out HS4.out).mono ?_
           rintro e w5 ⟨A5, n5, c5, F5, rfl, ho5, hf5, hb5⟩
           have HO5 := Lib.hid ho5
           have HF5 : Hid (∀ q, F5 q → w2.heap.size ≤ q ∧ q < w5.heap.size) := Lib.hid (fun q hq => ⟨Nat.le_trans HB4.out.size (hf5 q hq).1, (hf5 q hq).2⟩)
           have HB5 : Hid (Below w2.heap.size w2 w5) := Lib.hid (HB4.out.trans (hb5.mono HB4.out.size))
           have hx5 := blk_bel HXB.out HB5.out
           have y1 := blk_cell hx5 1 rfl
           have y2 := blk_cell hx5 2 rfl
           clear ho5 hf5 hb5 hx5)
        | (go_simp
           go_at_call 77
           with_reducible refine (HWA.out _ A1 n1 c1 _ HLS.out.1 (by first | exact HR12.out | exact HR12.out.drew) HSM.out.1).mono ?_
           rintro e w4 ⟨g4, m4, rfl, hs4, _, _, hb4⟩
           (try replace hb4 := und1 hb4)
           have HS4 := Lib.hid hs4
           have HSM4 := Lib.hid HSM.out.1
           have HJ4 : Hid (n1 - 1 ≤ 900) := Lib.hid (by have := HLS.out; omega)
           have HB4 : Hid (Below w2.heap.size w2 w4) := Lib.hid hb4
           have hx4 := blk_bel HXB.out HB4.out
           have y1 := blk_cell hx4 1 rfl
           have y2 := blk_cell hx4 2 rfl
           clear hs4 hb4 hx4))) | fail)
      all_goals
        as_aux_lemma =>
        go_wp2_with fail
        go_ret3
        have e1 : winsOf ls 1 k = sortU (wl ls 1 k (n1 - 1)) := by unfold winsOf; have h1 := HR1.out.1; simp only [List.length_map] at h1; rw [h1]
        have e2 : winsOf rs 2 k = sortU (wl (rs.drop 1) 1 k (n7 - 1)) := by unfold winsOf; rw [wl_drop, HL7.out, Nat.sub_sub]
        refine woP_end HZ.out (by simp only [Int.toNat_natCast]; rw [e1]; exact HO59.out) HF5.out (by simp only [Int.toNat_natCast]; rw [e2]; exact HO9.out) (fun q hq => ⟨Nat.le_trans HZ9.out (HF9.out q hq).1, (HF9.out q hq).2⟩) HB9.out (Nat.le_trans HZ9.out HZ98.out) HB5.out.size
end Go.Proofs.Ytemllhkgjdifiaa
