/- Packages of two programs (reference). Printed by mk_pvu.py. -/
import Derived.Test.YtadmbphefpfbmaaGreatDoorPvT
import Derived.Test.YtadmbphefpfbmaaGreatDoorPvB
namespace Go.Proofs.YtadmbphefpfbmaaGreatDoor
open Go.RowKit
set_option linter.unusedVariables false
set_option linter.unusedSimpArgs false
attribute [local go_sem ↓] Go.wp_at_zero Go.wp_at_succ
/-- The package of a program with several variables. -/
def bothP (cs : List Cmd) (d : Tr) : List Bool × Int := if isW cs then (if isW (oneW cs) then pkP (oneW cs) d else ([], 5)) else ([], 5)
def compT (p q : List Cmd) : List Cmd := (pgComp1.cmds ++ p) ++ (pgComp2.cmds ++ q)
def pairT (p q : List Cmd) : List Cmd := ((pgPair1.cmds ++ p) ++ (pgPair2.cmds ++ q)) ++ pgPair3.cmds
def twoP (T : List Cmd → List Cmd → List Cmd) (bs ds : List Bool) : List Bool × Int := if isTr bs && isTr ds then (if opOk (treeB bs) && opOk (treeB ds) then bothP (T (opProg (treeB bs)) (opProg (treeB ds))) (.node (treeB bs).tl (treeB ds).tl) else ([], 9)) else ([], 1)
theorem both_len (cs : List Cmd) (d : Tr) : (bothP cs d).1.length ≤ 1000000 := by
  unfold bothP
  split
  · split
    · exact pk_len _ _
    · simp
  · simp
theorem two_len (T : List Cmd → List Cmd → List Cmd) (bs ds : List Bool) : (twoP T bs ds).1.length ≤ 1000000 := by
  unfold twoP
  split
  · split
    · exact both_len _ _
    · simp
  · simp
theorem two_1 {T : List Cmd → List Cmd → List Cmd} {bs ds : List Bool} (h : (isTr bs && isTr ds) = false) : twoP T bs ds = ([], 1) := by unfold twoP; rw [h]; rfl
theorem two_9 {T : List Cmd → List Cmd → List Cmd} {t d : Tr} (h : t.nodes ≤ 2000) (h2 : d.nodes ≤ 2000) (ho : (opOk t && opOk d) = false) : twoP T t.bits d.bits = ([], 9) := by unfold twoP; rw [isTr_bits h, isTr_bits h2, treeB_bits, treeB_bits, ho]; rfl
theorem two_0 {T : List Cmd → List Cmd → List Cmd} {t d : Tr} (h : t.nodes ≤ 2000) (h2 : d.nodes ≤ 2000) (ho : (opOk t && opOk d) = true) : twoP T t.bits d.bits = bothP (T (opProg t) (opProg d)) (.node t.tl d.tl) := by unfold twoP; rw [isTr_bits h, isTr_bits h2, treeB_bits, treeB_bits, ho]; rfl
theorem comp_ok {p q : List Cmd} (h : okC p = true) (h2 : okC q = true) : okC (compT p q) = true := okC_append _ (Nat.le_refl _) (okC_append _ (Nat.le_refl _) (Pg.okc ok_comp1.ok) h) (okC_append _ (Nat.le_refl _) (Pg.okc ok_comp2.ok) h2)
theorem pair_ok {p q : List Cmd} (h : okC p = true) (h2 : okC q = true) : okC (pairT p q) = true := okC_append _ (Nat.le_refl _) (okC_append _ (Nat.le_refl _) (okC_append _ (Nat.le_refl _) (Pg.okc ok_pair1.ok) h) (okC_append _ (Nat.le_refl _) (Pg.okc ok_pair2.ok) h2)) (Pg.okc ok_pair3.ok)
theorem two_vars {cs r : List Cmd} {x : Cmd} (h : cs = x :: r) (hk : x.k = 0) (hv : x.v = 1) : 2 ≤ topV 0 (varsL cs) := by
  have h1 : (1 : Int) ∈ varsL cs := by
    rw [h]
    simp only [varsL, List.flatMap_cons, List.mem_append, varsC, hk, hv]
    simp
  have := (topV_ge 0 (varsL cs)).2 1 h1
  omega
theorem comp_vars (p q : List Cmd) : 2 ≤ topV 0 (varsL (compT p q)) := two_vars (x := ⟨0, 1, 0, _⟩) rfl rfl rfl
theorem pair_vars (p q : List Cmd) : 2 ≤ topV 0 (varsL (pairT p q)) := two_vars (x := ⟨0, 1, 0, _⟩) rfl rfl rfl
/-- What OneVariable leaves. -/
def OvP (w : World) (cs : List Cmd) (e : Ending) (w' : World) : Prop := ∃ A m c code, e = .returned (.tuple #[.slice A m c, .int .i64 code]) ∧ code = (if isW cs then 0 else 5) ∧ (code = 0 → RdC w' A m cs ∧ m ≤ c) ∧ Below w.heap.size w w'
set_option maxHeartbeats 2000000 in
set_option maxRecDepth 100000 in
theorem specOneVariable_any (w : World) (A : Option Addr) (n c : Nat) (cs : List Cmd) (hr : RdC w A n cs) (hw : isW cs = true) (hv : 2 ≤ topV 0 (varsL cs)) : Calls Tryz.prog 57 #[.slice A n c] w (OvP w (oneW cs)) := by
  obtain ⟨h80, hok⟩ := isW_ok hw
  have hn : n ≤ 80 := by have := hr.len; omega
  have hb := topV_bound hok (m := 0) (by omega)
  have HIS := Lib.hid (l22IsX_any w A n c cs hr (by omega))
  rw [hw] at HIS
  have HON := Lib.hid (fun (wx : World) (hbx : Below w.heap.size w wx) => l23One_any wx A n c cs (hr.below hbx (Nat.le_refl _)) hok hn (topV 0 (varsL cs)).toNat (by omega) (by omega) (by omega))
  have HEQ : Hid (oneN (topV 0 (varsL cs)).toNat cs = oneW cs) := Lib.hid rfl
  have HLN : Hid ((oneW cs).length ≤ 82) := Lib.hid (by rw [← HEQ.out, oneN_len]; omega)
  rw [HEQ.out] at HON
  clear hr hw hv h80 hok hn hb
  generalize oneW cs = os at *
  obtain ⟨bo, hbo⟩ : ∃ b, b = isW os := ⟨_, rfl⟩
  have HBO := Lib.hid hbo
  clear hbo
  go_enter Tryz.func57, Tryz.ntmps57
  go_upto_region 3 with (go_at_call 56
                         refine HIS.out.mono ?_
                         rintro e w1 ⟨rfl, hb1⟩
                         have HB1 := Lib.hid hb1
                         have HON1 := Lib.hid (HON.out w1 hb1)
                         clear hb1)
  go_upto_region 4 with (go_at_call 84
                         refine HON1.out.mono ?_
                         rintro e w2 ⟨A2, m2, c2, rfl, ho2, hb2⟩
                         have HO2 := Lib.hid ho2
                         have HB2 : Hid (Below w.heap.size w w2) := Lib.hid (bqcP hb2 HB1.out)
                         have HI2 := Lib.hid (l22IsX_any w2 A2 m2 c2 os ho2.rdc (by have := ho2.len; have := HLN.out; omega))
                         rw [← HBO.out] at HI2
                         clear ho2 hb2)
  cases bo with
  | false =>
    go_wp2_with (go_at_call 56
                 refine HI2.out.mono ?_
                 rintro e w3 ⟨rfl, hb3⟩
                 have HB3 : Hid (Below w.heap.size w w3) := Lib.hid (bqcP hb3 HB2.out)
                 clear hb3)
    go_ret2
    exact ⟨none, 0, 0, 5, rfl, (by rw [← HBO.out]; rfl), (fun h => absurd h (by decide)), HB3.out⟩
  | true =>
    go_wp2_with (go_at_call 56
                 refine HI2.out.mono ?_
                 rintro e w3 ⟨rfl, hb3⟩
                 have HO3 := Lib.hid (HO2.out.below hb3)
                 have HB3 : Hid (Below w.heap.size w w3) := Lib.hid (bqcP hb3 HB2.out)
                 clear hb3)
    go_ret2
    exact ⟨A2, m2, c2, 0, rfl, (by rw [← HBO.out]; rfl), fun _ => ⟨HO3.out.rdc, HO3.out.cap⟩, HB3.out⟩
set_option maxHeartbeats 4000000 in
set_option maxRecDepth 100000 in
theorem l24Both_any (w : World) (A : Option Addr) (n c : Nat) (cs : List Cmd) (hr : RdC w A n cs) (hok : okC cs = true) (hn : n ≤ 1000000) (hv : 2 ≤ topV 0 (varsL cs)) (A1 : Option Addr) (n1 c1 : Nat) (t : Tr) (h1 : Rd w A1 n1 (bools t.bits)) (ht : t.nodes ≤ 2000) (A2 : Option Addr) (n2 c2 : Nat) (d : Tr) (h2 : Rd w A2 n2 (bools d.bits)) (hd : d.nodes ≤ 2000) :
    Calls Tryz.prog 25 #[.slice A n c, .slice A1 n1 c1, .slice A2 n2 c2] w (RetSI w 4 (bools (bothP cs (.node t d)).1) (bothP cs (.node t d)).2) := by
  have HIS := Lib.hid (l22IsX_any w A n c cs hr (by omega))
  cases hw : isW cs with
  | false =>
    have HP : Hid (bothP cs (.node t d) = ([], 5)) := Lib.hid (by unfold bothP; rw [hw]; rfl)
    rw [hw] at HIS
    clear hr hok hn hv h1 ht h2 hd hw
    go_enter Tryz.func25, Tryz.ntmps25
    go_wp2_with (go_at_call 56; refine HIS.out.mono ?_; rintro e w2 ⟨rfl, hb2⟩)
    go_ret2
    rw [HP.out]
    exact ⟨none, 0, 0, rfl, own_nil _ _ _, hb2⟩
  | true =>
    rw [hw] at HIS
    have HOV := Lib.hid (fun (wx : World) (hbx : Below w.heap.size w wx) => specOneVariable_any wx A n c cs (hr.below hbx (Nat.le_refl _)) hw hv)
    have HR1 := Lib.hid h1; have HR2 := Lib.hid h2
    have HT : Hid (t.nodes ≤ 2000 ∧ d.nodes ≤ 2000) := Lib.hid ⟨ht, hd⟩
    have hl1 : n1 ≤ 2000 := by have := h1.1; simp [Tr.bits_len] at this; omega
    have hl2 : n2 ≤ 2000 := by have := h2.1; simp [Tr.bits_len] at this; omega
    have HLL : Hid (n1 ≤ 2000 ∧ n2 ≤ 2000) := Lib.hid ⟨hl1, hl2⟩
    cases ho : isW (oneW cs) with
    | false =>
      have HP : Hid (bothP cs (.node t d) = ([], 5)) := Lib.hid (by unfold bothP; rw [hw, ho]; rfl)
      have HO := Lib.hid ho
      clear hr hok hn hv h1 ht h2 hd hw ho hl1 hl2
      go_enter Tryz.func25, Tryz.ntmps25
      go_wp2_with (first
        | (go_at_call 56; refine HIS.out.mono ?_; rintro e w2 ⟨rfl, hb2⟩; have HB2 := Lib.hid hb2; have HOV2 := Lib.hid (HOV.out w2 hb2); clear hb2)
        | (go_at_call 57
           refine HOV2.out.mono ?_
           rintro e w3 ⟨A3, m3, c3, code, rfl, hc3, h3, hb3⟩
           have hc4 : code = 5 := by rw [hc3, HO.out]; rfl
           clear hc3
           subst hc4
           have HB3 : Hid (Below w.heap.size w w3) := Lib.hid (bqcP hb3 HB2.out)
           clear h3 hb3))
      go_ret2
      rw [HP.out]
      exact ⟨none, 0, 0, rfl, own_nil _ _ _, HB3.out⟩
    | true =>
      have HP : Hid (bothP cs (.node t d) = pkP (oneW cs) (.node t d)) := Lib.hid (by unfold bothP; rw [hw, ho]; rfl)
      have HO := Lib.hid ho
      obtain ⟨q, hq⟩ : ∃ q, q = pkP (oneW cs) (.node t d) := ⟨_, rfl⟩
      have HQ := Lib.hid hq
      clear hr hok hn hv h1 ht h2 hd hw ho hl1 hl2 hq
      obtain ⟨qb, qc⟩ := q
      go_enter Tryz.func25, Tryz.ntmps25
      go_wp2_with (first
        | (go_at_call 56; refine HIS.out.mono ?_; rintro e w2 ⟨rfl, hb2⟩; have HB2 := Lib.hid hb2; have HOV2 := Lib.hid (HOV.out w2 hb2); clear hb2)
        | (go_at_call 57
           refine HOV2.out.mono ?_
           rintro e w3 ⟨A3, m3, c3, code, rfl, hc3, h3, hb3⟩
           have hc4 : code = 0 := by rw [hc3, HO.out]; rfl
           clear hc3
           subst hc4
           have HRC3 := Lib.hid (h3 rfl).1
           have HB3 : Hid (Below w.heap.size w w3) := Lib.hid (bqcP hb3 HB2.out)
           have HR13 := Lib.hid (HR1.out.below HB3.out (Nat.le_refl _)); have HR23 := Lib.hid (HR2.out.below HB3.out (Nat.le_refl _))
           clear h3 hb3)
        | (go_at_call 58
           refine (l21Pair_any w3 A1 n1 c1 t.bits HR13.out (by have := HLL.out; omega) A2 n2 c2 d.bits HR23.out (by have := HLL.out; omega)).mono ?_
           rintro e w4 ⟨A4, n4, c4, rfl, ho4, hb4⟩
           have hmk := l24Make_any w4 A3 m3 c3 (oneW cs) (HRC3.out.below hb4 (Nat.le_refl _)) (by have h1 := HRC3.out.len; have h2 := (isW_ok HO.out).1; omega) HO.out A4 n4 c4 (.node t d) (by have h := own_rd ho4; simpa [Tr.bits] using h) (by have := HT.out; simp only [Tr.nodes]; omega)
           rw [← HQ.out] at hmk
           have HMK := Lib.hid hmk
           have HB4 : Hid (Below w.heap.size w w4) := Lib.hid (bqcP hb4 HB3.out)
           clear ho4 hb4 hmk)
        | (go_at_call 45
           refine HMK.out.mono ?_
           rintro e w5 ⟨A5, n5, c5, rfl, ho5, hb5⟩
           have HO5 := Lib.hid ho5
           have HB5 : Hid (Below w.heap.size w w5) := Lib.hid (bqcP hb5 HB4.out)
           clear ho5 hb5))
      go_ret2
      rw [HP.out, ← HQ.out]
      exact ⟨A5, n5, c5, rfl, own_base HO5.out HB4.out.size, HB5.out⟩
set_option maxHeartbeats 8000000 in
set_option maxRecDepth 100000 in
theorem specComposePackages_any (w : World) (A : Option Addr) (n c : Nat) (bs : List Bool) (hr : Rd w A n (bools bs)) (hn : n ≤ 1099511627776) (hnc : n ≤ c) (A' : Option Addr) (n' c' : Nat) (ds : List Bool) (hr' : Rd w A' n' (bools ds)) (hn' : n' ≤ 1099511627776) (hnc' : n' ≤ c') :
    Calls Tryz.prog 7 #[.slice A n c, .slice A' n' c'] w (RetSI w 4 (bools (twoP compT bs ds).1) (twoP compT bs ds).2) := by
  have HI1 := l21Is_any w A n c bs hr hn
  have HI2 := l21Is_any w A' n' c' ds hr' hn'
  cases hv1 : isTr bs with
  | false =>
    have HP : Hid (twoP compT bs ds = ([], 1)) := Lib.hid (two_1 (by rw [hv1]; rfl))
    rw [hv1] at HI1
    replace HI1 := Lib.hid HI1
    clear hv1 hr hr' HI2
    go_enter Tryz.func7, Tryz.ntmps7
    go_wp2_with (go_at_call 22; refine HI1.out.mono ?_; rintro e w2 ⟨rfl, rfl⟩)
    go_ret2
    rw [HP.out]
    exact ⟨none, 0, 0, rfl, own_nil _ _ _, Below.refl _ _⟩
  | true =>
  rw [hv1] at HI1
  replace HI1 := Lib.hid HI1
  cases hv2 : isTr ds with
  | false =>
    have HP : Hid (twoP compT bs ds = ([], 1)) := Lib.hid (two_1 (by rw [hv2, Bool.and_false]))
    rw [hv2] at HI2
    replace HI2 := Lib.hid HI2
    clear hv1 hv2 hr hr'
    go_enter Tryz.func7, Tryz.ntmps7
    go_wp2_with (first
      | (go_at_call 22; refine HI1.out.mono ?_; rintro e w2 ⟨rfl, rfl⟩; clear HI1)
      | (go_at_call 22; refine HI2.out.mono ?_; rintro e w2 ⟨rfl, rfl⟩; clear HI2))
    go_ret2
    rw [HP.out]
    exact ⟨none, 0, 0, rfl, own_nil _ _ _, Below.refl _ _⟩
  | true =>
  rw [hv2] at HI2
  replace HI2 := Lib.hid HI2
  obtain ⟨t, rfl, htn⟩ := isTr_tree hv1
  obtain ⟨d, rfl, hdn⟩ := isTr_tree hv2
  have HSO1 := Lib.hid (l24Open_any w A n c t hr htn hnc)
  have HSO2f := Lib.hid (fun (wx : World) (hb : Below w.heap.size w wx) => l24Open_any wx A' n' c' d (hr'.below hb (Nat.le_refl _)) hdn hnc')
  clear hr hr' hv1 hv2
  cases hop : opOk t with
  | false =>
    have HP : Hid (twoP compT t.bits d.bits = ([], 9)) := Lib.hid (two_9 htn hdn (by rw [hop]; rfl))
    have HP1 := Lib.hid hop
    obtain ⟨b2, hb2⟩ : ∃ b, b = opOk d := ⟨_, rfl⟩
    have HP2 := Lib.hid hb2.symm
    clear hop htn hdn hb2
    go_enter Tryz.func7, Tryz.ntmps7
    go_wp2_with (first
      | (go_at_call 22; refine HI1.out.mono ?_; rintro e w2 ⟨rfl, rfl⟩; clear HI1)
      | (go_at_call 22; refine HI2.out.mono ?_; rintro e w2 ⟨rfl, rfl⟩; clear HI2)
      | (go_at_call 23
         refine HSO1.out.mono ?_
         rintro e w3 ⟨A3, n3, c3, F3, A4, n4, c4, rfl, ho3, hF3, ho4, hd4, hb3⟩
         rw [HP1.out]
         have HB3 := Lib.hid hb3
         have HSO2 := Lib.hid (HSO2f.out w3 hb3)
         clear ho3 hF3 ho4 hd4 hb3 HSO1)
      | (go_at_call 23
         refine HSO2.out.mono ?_
         rintro e w4 ⟨A5, n5, c5, F5, A6, n6, c6, rfl, ho5, hF5, ho6, hd6, hb4⟩
         rw [HP2.out]
         have HB4 : Hid (Below w.heap.size w w4) := Lib.hid (bqcP hb4 HB3.out)
         clear ho5 hF5 ho6 hd6 hb4 HSO2))
    go_ret2
    rw [HP.out]
    exact ⟨none, 0, 0, rfl, own_nil _ _ _, HB4.out⟩
  | true =>
  have HP1 := Lib.hid hop
  cases hop2 : opOk d with
  | false =>
    have HP : Hid (twoP compT t.bits d.bits = ([], 9)) := Lib.hid (two_9 htn hdn (by rw [hop, hop2]; rfl))
    have HP2 := Lib.hid hop2
    clear hop hop2 htn hdn
    go_enter Tryz.func7, Tryz.ntmps7
    go_wp2_with (first
      | (go_at_call 22; refine HI1.out.mono ?_; rintro e w2 ⟨rfl, rfl⟩; clear HI1)
      | (go_at_call 22; refine HI2.out.mono ?_; rintro e w2 ⟨rfl, rfl⟩; clear HI2)
      | (go_at_call 23
         refine HSO1.out.mono ?_
         rintro e w3 ⟨A3, n3, c3, F3, A4, n4, c4, rfl, ho3, hF3, ho4, hd4, hb3⟩
         rw [HP1.out]
         have HB3 := Lib.hid hb3
         have HSO2 := Lib.hid (HSO2f.out w3 hb3)
         clear ho3 hF3 ho4 hd4 hb3 HSO1)
      | (go_at_call 23
         refine HSO2.out.mono ?_
         rintro e w4 ⟨A5, n5, c5, F5, A6, n6, c6, rfl, ho5, hF5, ho6, hd6, hb4⟩
         rw [HP2.out]
         have HB4 : Hid (Below w.heap.size w w4) := Lib.hid (bqcP hb4 HB3.out)
         clear ho5 hF5 ho6 hd6 hb4 HSO2))
    go_ret2
    rw [HP.out]
    exact ⟨none, 0, 0, rfl, own_nil _ _ _, HB4.out⟩
  | true =>
    have HP2 := Lib.hid hop2
    have HP : Hid (twoP compT t.bits d.bits = bothP (compT (opProg t) (opProg d)) (.node t.tl d.tl)) := Lib.hid (two_0 htn hdn (by rw [hop, hop2]; rfl))
    have HW1 := Lib.hid (isW_ok (op_isW hop)); have HW2 := Lib.hid (isW_ok (op_isW hop2))
    have HD1 := Lib.hid (opd_tl hop); have HD2 := Lib.hid (opd_tl hop2)
    have HTL : Hid (t.tl.nodes ≤ 2000 ∧ d.tl.nodes ≤ 2000) := Lib.hid ⟨tl_nodes htn, tl_nodes hdn⟩
    obtain ⟨q, hq⟩ : ∃ q, q = bothP (compT (opProg t) (opProg d)) (.node t.tl d.tl) := ⟨_, rfl⟩
    have HQ := Lib.hid hq
    clear hop hop2 htn hdn hq
    obtain ⟨qb, qc⟩ := q
    go_enter Tryz.func7, Tryz.ntmps7
    go_upto_region 7 with (first
      | (go_at_call 22; refine HI1.out.mono ?_; rintro e w2 ⟨rfl, rfl⟩; clear HI1)
      | (go_at_call 22; refine HI2.out.mono ?_; rintro e w2 ⟨rfl, rfl⟩; clear HI2)
      | (go_at_call 23
         refine HSO1.out.mono ?_
         rintro e w3 ⟨A3, n3, c3, F3, A4, n4, c4, rfl, ho3, hF3, ho4, hd4, hb3⟩
         rw [HP1.out]
         have HB3 := Lib.hid hb3
         have HSO2 := Lib.hid (HSO2f.out w3 hb3)
         have HRP3 := Lib.hid ho3.rdc
         rw [HD1.out] at ho4
         have HRD3 := Lib.hid (own_rd ho4)
         have HN3 : Hid (n3 ≤ 80) := Lib.hid (by have h1 := ho3.len; have h2 := HW1.out.1; omega)
         clear ho3 hF3 ho4 hd4 hb3 HSO1)
      | (go_at_call 23
         refine HSO2.out.mono ?_
         rintro e w4 ⟨A5, n5, c5, F5, A6, n6, c6, rfl, ho5, hF5, ho6, hd6, hb4⟩
         rw [HP2.out]
         have HB4 : Hid (Below w.heap.size w w4) := Lib.hid (bqcP hb4 HB3.out)
         have HRP4 := Lib.hid (HRP3.out.below hb4 (Nat.le_refl _)); have HRD4 := Lib.hid (HRD3.out.below hb4 (Nat.le_refl _))
         have HRQ4 := Lib.hid ho5.rdc
         rw [HD2.out] at ho6
         have HRE4 := Lib.hid (own_rd ho6)
         have HN5 : Hid (n5 ≤ 80) := Lib.hid (by have h1 := ho5.len; have h2 := HW2.out.1; omega)
         clear ho5 hF5 ho6 hd6 hb4 HSO2))
    clear HSO2f HP1 HP2
    go_upto_region 8 with (go_at_call 24
                           refine (l24BeforeY_any pgComp1 _ ok_comp1 (by decide) w4 A3 n3 c3 (opProg t) HRP4.out (by have := HN3.out; omega)).mono ?_
                           rintro e w5 ⟨A7, c7, rfl, ho7, hb5⟩
                           have HO5 := Lib.hid ho7
                           have HB5 : Hid (Below w4.heap.size w4 w5) := Lib.hid hb5
                           clear ho7 hb5)
    obtain ⟨k1, hk1⟩ : ∃ k, k = pgComp1.sz + n3 := ⟨_, rfl⟩
    rw [← hk1] at HO5 ⊢
    have HK1 : Hid (k1 ≤ 100) := Lib.hid (by have h1 := HN3.out; have h2 : pgComp1.sz = 2 := rfl; omega)
    clear hk1
    go_upto_region 9 with (first
      | (go_at_call 24
         refine (l24BeforeY_any pgComp2 _ ok_comp2 (by decide) w5 A5 n5 c5 (opProg d) (HRQ4.out.below HB5.out (Nat.le_refl _)) (by have := HN5.out; omega)).mono ?_
         rintro e w6 ⟨A8, c8, rfl, ho8, hb6⟩
         have HO6 := Lib.hid ho8
         have HP6 := Lib.hid (HO5.out.below hb6)
         have HB6 : Hid (Below w4.heap.size w4 w6) := Lib.hid (bqcP hb6 HB5.out)
         obtain ⟨us, l1, l2⟩ := HO5.out.below hb6
         obtain ⟨vs, l3, l4⟩ := ho8
         have HL1 := Lib.hid l1; have HL2 := Lib.hid l2; have HL3 := Lib.hid (ownN_rd l3); have HL4 := Lib.hid l4
         have HK2 : Hid (pgComp2.sz + n5 ≤ 100) := Lib.hid (by have h1 := HN5.out; have h2 : pgComp2.sz = 1 := rfl; omega)
         clear hb6 l1 l2 l3 l4)
      | (at_builtin; go_must (refine wpList_appSN eltCm rfl _ _ rfl w6 w4.heap.size (.slice A7 k1 c7) k1 _ (by rfl) HL1.out A8 (pgComp2.sz + n5) c8 _ (by rfl) HL3.out (flatC_one _ _ HL4.out.one4) HB6.out.size (by have := HK1.out; have := HK2.out; omega) ?_); rintro A9 c9 w9 ho9 hb9 hg9
         have HO9 : Hid (OutC w9 w4.heap.size A9 (k1 + (pgComp2.sz + n5)) c9 ((pgComp1.cmds ++ opProg t) ++ (pgComp2.cmds ++ opProg d))) := Lib.hid (OutC.appS HL1.out HL2.out HL4.out ho9 hg9)
         have HB9 : Hid (Below w4.heap.size w4 w9) := Lib.hid (HB6.out.trans hb9)
         clear ho9 hb9 hg9))
    obtain ⟨k2, hk2⟩ : ∃ k, k = k1 + (pgComp2.sz + n5) := ⟨_, rfl⟩
    rw [← hk2] at HO9 ⊢
    have HK3 : Hid (k2 ≤ 200) := Lib.hid (by have := HK1.out; have := HK2.out; omega)
    clear hk2
    have hbt := l24Both_any w9 A9 k2 c9 (compT (opProg t) (opProg d)) HO9.out.rdc (comp_ok HW1.out.2 HW2.out.2) (by have := HK3.out; omega) (comp_vars _ _) A4 n4 c4 t.tl ((HRD4.out.below HB9.out (Nat.le_refl _))) HTL.out.1 A6 n6 c6 d.tl (HRE4.out.below HB9.out (Nat.le_refl _)) HTL.out.2
    rw [← HQ.out] at hbt
    have HBT := Lib.hid hbt
    clear hbt
    go_wp2_with (go_at_call 25
                 refine HBT.out.mono ?_
                 rintro e wz ⟨Az, nz, cz, rfl, hoz, hbz⟩
                 have HOZ := Lib.hid hoz
                 have HBY : Hid (Below w.heap.size w w9) := Lib.hid (bqcP HB9.out HB4.out)
                 have HBZ : Hid (Below w.heap.size w wz) := Lib.hid (bqcP hbz HBY.out)
                 clear hoz hbz)
    go_ret2
    rw [HP.out, ← HQ.out]
    exact ⟨Az, nz, cz, rfl, own_base HOZ.out HBY.out.size, HBZ.out⟩
set_option maxHeartbeats 8000000 in
set_option maxRecDepth 100000 in
theorem specPairPackages_any (w : World) (A : Option Addr) (n c : Nat) (bs : List Bool) (hr : Rd w A n (bools bs)) (hn : n ≤ 1099511627776) (hnc : n ≤ c) (A' : Option Addr) (n' c' : Nat) (ds : List Bool) (hr' : Rd w A' n' (bools ds)) (hn' : n' ≤ 1099511627776) (hnc' : n' ≤ c') :
    Calls Tryz.prog 13 #[.slice A n c, .slice A' n' c'] w (RetSI w 4 (bools (twoP pairT bs ds).1) (twoP pairT bs ds).2) := by
  have HI1 := l21Is_any w A n c bs hr hn
  have HI2 := l21Is_any w A' n' c' ds hr' hn'
  cases hv1 : isTr bs with
  | false =>
    have HP : Hid (twoP pairT bs ds = ([], 1)) := Lib.hid (two_1 (by rw [hv1]; rfl))
    rw [hv1] at HI1
    replace HI1 := Lib.hid HI1
    clear hv1 hr hr' HI2
    go_enter Tryz.func13, Tryz.ntmps13
    go_wp2_with (go_at_call 22; refine HI1.out.mono ?_; rintro e w2 ⟨rfl, rfl⟩)
    go_ret2
    rw [HP.out]
    exact ⟨none, 0, 0, rfl, own_nil _ _ _, Below.refl _ _⟩
  | true =>
  rw [hv1] at HI1
  replace HI1 := Lib.hid HI1
  cases hv2 : isTr ds with
  | false =>
    have HP : Hid (twoP pairT bs ds = ([], 1)) := Lib.hid (two_1 (by rw [hv2, Bool.and_false]))
    rw [hv2] at HI2
    replace HI2 := Lib.hid HI2
    clear hv1 hv2 hr hr'
    go_enter Tryz.func13, Tryz.ntmps13
    go_wp2_with (first
      | (go_at_call 22; refine HI1.out.mono ?_; rintro e w2 ⟨rfl, rfl⟩; clear HI1)
      | (go_at_call 22; refine HI2.out.mono ?_; rintro e w2 ⟨rfl, rfl⟩; clear HI2))
    go_ret2
    rw [HP.out]
    exact ⟨none, 0, 0, rfl, own_nil _ _ _, Below.refl _ _⟩
  | true =>
  rw [hv2] at HI2
  replace HI2 := Lib.hid HI2
  obtain ⟨t, rfl, htn⟩ := isTr_tree hv1
  obtain ⟨d, rfl, hdn⟩ := isTr_tree hv2
  have HSO1 := Lib.hid (l24Open_any w A n c t hr htn hnc)
  have HSO2f := Lib.hid (fun (wx : World) (hb : Below w.heap.size w wx) => l24Open_any wx A' n' c' d (hr'.below hb (Nat.le_refl _)) hdn hnc')
  clear hr hr' hv1 hv2
  cases hop : opOk t with
  | false =>
    have HP : Hid (twoP pairT t.bits d.bits = ([], 9)) := Lib.hid (two_9 htn hdn (by rw [hop]; rfl))
    have HP1 := Lib.hid hop
    obtain ⟨b2, hb2⟩ : ∃ b, b = opOk d := ⟨_, rfl⟩
    have HP2 := Lib.hid hb2.symm
    clear hop htn hdn hb2
    go_enter Tryz.func13, Tryz.ntmps13
    go_wp2_with (first
      | (go_at_call 22; refine HI1.out.mono ?_; rintro e w2 ⟨rfl, rfl⟩; clear HI1)
      | (go_at_call 22; refine HI2.out.mono ?_; rintro e w2 ⟨rfl, rfl⟩; clear HI2)
      | (go_at_call 23
         refine HSO1.out.mono ?_
         rintro e w3 ⟨A3, n3, c3, F3, A4, n4, c4, rfl, ho3, hF3, ho4, hd4, hb3⟩
         rw [HP1.out]
         have HB3 := Lib.hid hb3
         have HSO2 := Lib.hid (HSO2f.out w3 hb3)
         clear ho3 hF3 ho4 hd4 hb3 HSO1)
      | (go_at_call 23
         refine HSO2.out.mono ?_
         rintro e w4 ⟨A5, n5, c5, F5, A6, n6, c6, rfl, ho5, hF5, ho6, hd6, hb4⟩
         rw [HP2.out]
         have HB4 : Hid (Below w.heap.size w w4) := Lib.hid (bqcP hb4 HB3.out)
         clear ho5 hF5 ho6 hd6 hb4 HSO2))
    go_ret2
    rw [HP.out]
    exact ⟨none, 0, 0, rfl, own_nil _ _ _, HB4.out⟩
  | true =>
  have HP1 := Lib.hid hop
  cases hop2 : opOk d with
  | false =>
    have HP : Hid (twoP pairT t.bits d.bits = ([], 9)) := Lib.hid (two_9 htn hdn (by rw [hop, hop2]; rfl))
    have HP2 := Lib.hid hop2
    clear hop hop2 htn hdn
    go_enter Tryz.func13, Tryz.ntmps13
    go_wp2_with (first
      | (go_at_call 22; refine HI1.out.mono ?_; rintro e w2 ⟨rfl, rfl⟩; clear HI1)
      | (go_at_call 22; refine HI2.out.mono ?_; rintro e w2 ⟨rfl, rfl⟩; clear HI2)
      | (go_at_call 23
         refine HSO1.out.mono ?_
         rintro e w3 ⟨A3, n3, c3, F3, A4, n4, c4, rfl, ho3, hF3, ho4, hd4, hb3⟩
         rw [HP1.out]
         have HB3 := Lib.hid hb3
         have HSO2 := Lib.hid (HSO2f.out w3 hb3)
         clear ho3 hF3 ho4 hd4 hb3 HSO1)
      | (go_at_call 23
         refine HSO2.out.mono ?_
         rintro e w4 ⟨A5, n5, c5, F5, A6, n6, c6, rfl, ho5, hF5, ho6, hd6, hb4⟩
         rw [HP2.out]
         have HB4 : Hid (Below w.heap.size w w4) := Lib.hid (bqcP hb4 HB3.out)
         clear ho5 hF5 ho6 hd6 hb4 HSO2))
    go_ret2
    rw [HP.out]
    exact ⟨none, 0, 0, rfl, own_nil _ _ _, HB4.out⟩
  | true =>
    have HP2 := Lib.hid hop2
    have HP : Hid (twoP pairT t.bits d.bits = bothP (pairT (opProg t) (opProg d)) (.node t.tl d.tl)) := Lib.hid (two_0 htn hdn (by rw [hop, hop2]; rfl))
    have HW1 := Lib.hid (isW_ok (op_isW hop)); have HW2 := Lib.hid (isW_ok (op_isW hop2))
    have HD1 := Lib.hid (opd_tl hop); have HD2 := Lib.hid (opd_tl hop2)
    have HTL : Hid (t.tl.nodes ≤ 2000 ∧ d.tl.nodes ≤ 2000) := Lib.hid ⟨tl_nodes htn, tl_nodes hdn⟩
    obtain ⟨q, hq⟩ : ∃ q, q = bothP (pairT (opProg t) (opProg d)) (.node t.tl d.tl) := ⟨_, rfl⟩
    have HQ := Lib.hid hq
    clear hop hop2 htn hdn hq
    obtain ⟨qb, qc⟩ := q
    go_enter Tryz.func13, Tryz.ntmps13
    go_upto_region 7 with (first
      | (go_at_call 22; refine HI1.out.mono ?_; rintro e w2 ⟨rfl, rfl⟩; clear HI1)
      | (go_at_call 22; refine HI2.out.mono ?_; rintro e w2 ⟨rfl, rfl⟩; clear HI2)
      | (go_at_call 23
         refine HSO1.out.mono ?_
         rintro e w3 ⟨A3, n3, c3, F3, A4, n4, c4, rfl, ho3, hF3, ho4, hd4, hb3⟩
         rw [HP1.out]
         have HB3 := Lib.hid hb3
         have HSO2 := Lib.hid (HSO2f.out w3 hb3)
         have HRP3 := Lib.hid ho3.rdc
         rw [HD1.out] at ho4
         have HRD3 := Lib.hid (own_rd ho4)
         have HN3 : Hid (n3 ≤ 80) := Lib.hid (by have h1 := ho3.len; have h2 := HW1.out.1; omega)
         clear ho3 hF3 ho4 hd4 hb3 HSO1)
      | (go_at_call 23
         refine HSO2.out.mono ?_
         rintro e w4 ⟨A5, n5, c5, F5, A6, n6, c6, rfl, ho5, hF5, ho6, hd6, hb4⟩
         rw [HP2.out]
         have HB4 : Hid (Below w.heap.size w w4) := Lib.hid (bqcP hb4 HB3.out)
         have HRP4 := Lib.hid (HRP3.out.below hb4 (Nat.le_refl _)); have HRD4 := Lib.hid (HRD3.out.below hb4 (Nat.le_refl _))
         have HRQ4 := Lib.hid ho5.rdc
         rw [HD2.out] at ho6
         have HRE4 := Lib.hid (own_rd ho6)
         have HN5 : Hid (n5 ≤ 80) := Lib.hid (by have h1 := ho5.len; have h2 := HW2.out.1; omega)
         clear ho5 hF5 ho6 hd6 hb4 HSO2))
    clear HSO2f HP1 HP2
    go_upto_region 8 with (go_at_call 24
                           refine (l24BeforeY_any pgPair1 _ ok_pair1 (by decide) w4 A3 n3 c3 (opProg t) HRP4.out (by have := HN3.out; omega)).mono ?_
                           rintro e w5 ⟨A7, c7, rfl, ho7, hb5⟩
                           have HO5 := Lib.hid ho7
                           have HB5 : Hid (Below w4.heap.size w4 w5) := Lib.hid hb5
                           clear ho7 hb5)
    obtain ⟨k1, hk1⟩ : ∃ k, k = pgPair1.sz + n3 := ⟨_, rfl⟩
    rw [← hk1] at HO5 ⊢
    have HK1 : Hid (k1 ≤ 100) := Lib.hid (by have h1 := HN3.out; have h2 : pgPair1.sz = 2 := rfl; omega)
    clear hk1
    go_upto_region 9 with (first
      | (go_at_call 24
         refine (l24BeforeY_any pgPair2 _ ok_pair2 (by decide) w5 A5 n5 c5 (opProg d) (HRQ4.out.below HB5.out (Nat.le_refl _)) (by have := HN5.out; omega)).mono ?_
         rintro e w6 ⟨A8, c8, rfl, ho8, hb6⟩
         have HO6 := Lib.hid ho8
         have HP6 := Lib.hid (HO5.out.below hb6)
         have HB6 : Hid (Below w4.heap.size w4 w6) := Lib.hid (bqcP hb6 HB5.out)
         obtain ⟨us, l1, l2⟩ := HO5.out.below hb6
         obtain ⟨vs, l3, l4⟩ := ho8
         have HL1 := Lib.hid l1; have HL2 := Lib.hid l2; have HL3 := Lib.hid (ownN_rd l3); have HL4 := Lib.hid l4
         have HK2 : Hid (pgPair2.sz + n5 ≤ 100) := Lib.hid (by have h1 := HN5.out; have h2 : pgPair2.sz = 2 := rfl; omega)
         clear hb6 l1 l2 l3 l4)
      | (at_builtin; go_must (refine wpList_appSN eltCm rfl _ _ rfl w6 w4.heap.size (.slice A7 k1 c7) k1 _ (by rfl) HL1.out A8 (pgPair2.sz + n5) c8 _ (by rfl) HL3.out (flatC_one _ _ HL4.out.one4) HB6.out.size (by have := HK1.out; have := HK2.out; omega) ?_); rintro A9 c9 w9 ho9 hb9 hg9
         have HO9 : Hid (OutC w9 w4.heap.size A9 (k1 + (pgPair2.sz + n5)) c9 ((pgPair1.cmds ++ opProg t) ++ (pgPair2.cmds ++ opProg d))) := Lib.hid (OutC.appS HL1.out HL2.out HL4.out ho9 hg9)
         have HB9 : Hid (Below w4.heap.size w4 w9) := Lib.hid (HB6.out.trans hb9)
         clear ho9 hb9 hg9))
    obtain ⟨k2, hk2⟩ : ∃ k, k = k1 + (pgPair2.sz + n5) := ⟨_, rfl⟩
    rw [← hk2] at HO9 ⊢
    have HK3 : Hid (k2 ≤ 200) := Lib.hid (by have := HK1.out; have := HK2.out; omega)
    clear hk2
    go_upto_region 10 with (first
      | (go_at_call 30
         refine (l24TextY_any pgPair3 _ ok_pair3 (by decide) w9).mono ?_
         rintro e wa ⟨Aa, ca, rfl, hoa, hba⟩
         obtain ⟨us3, l1, l2⟩ := HO9.out.below hba
         obtain ⟨vs3, l3, l4⟩ := hoa
         have HM1 := Lib.hid l1; have HM2 := Lib.hid l2; have HM3 := Lib.hid (ownN_rd l3); have HM4 := Lib.hid l4
         have HBa : Hid (Below w4.heap.size w4 wa) := Lib.hid (bqcP hba HB9.out)
         clear hba l1 l2 l3 l4)
      | (at_builtin; go_must (refine wpList_appSN eltCm rfl _ _ rfl wa w4.heap.size (.slice A9 k2 c9) k2 _ (by rfl) HM1.out Aa pgPair3.sz ca _ (by rfl) HM3.out (flatC_one _ _ HM4.out.one4) HBa.out.size (by have := HK3.out; have h2 : pgPair3.sz = 1 := rfl; omega) ?_); rintro Ab cb wb hob hbb hgb
         have HOb : Hid (OutC wb w4.heap.size Ab (k2 + pgPair3.sz) cb (((pgPair1.cmds ++ opProg t) ++ (pgPair2.cmds ++ opProg d)) ++ pgPair3.cmds)) := Lib.hid (OutC.appS HM1.out HM2.out HM4.out hob hgb)
         have HBb : Hid (Below w4.heap.size w4 wb) := Lib.hid (HBa.out.trans hbb)
         clear hob hbb hgb))
    obtain ⟨k3, hk3⟩ : ∃ k, k = k2 + pgPair3.sz := ⟨_, rfl⟩
    rw [← hk3] at HOb ⊢
    have HK4 : Hid (k3 ≤ 300) := Lib.hid (by have := HK3.out; have h2 : pgPair3.sz = 1 := rfl; omega)
    clear hk3
    have hbt := l24Both_any wb Ab k3 cb (pairT (opProg t) (opProg d)) HOb.out.rdc (pair_ok HW1.out.2 HW2.out.2) (by have := HK4.out; omega) (pair_vars _ _) A4 n4 c4 t.tl ((HRD4.out.below HBb.out (Nat.le_refl _))) HTL.out.1 A6 n6 c6 d.tl (HRE4.out.below HBb.out (Nat.le_refl _)) HTL.out.2
    rw [← HQ.out] at hbt
    have HBT := Lib.hid hbt
    clear hbt
    go_wp2_with (go_at_call 25
                 refine HBT.out.mono ?_
                 rintro e wz ⟨Az, nz, cz, rfl, hoz, hbz⟩
                 have HOZ := Lib.hid hoz
                 have HBY : Hid (Below w.heap.size w wb) := Lib.hid (bqcP HBb.out HB4.out)
                 have HBZ : Hid (Below w.heap.size w wz) := Lib.hid (bqcP hbz HBY.out)
                 clear hoz hbz)
    go_ret2
    rw [HP.out, ← HQ.out]
    exact ⟨Az, nz, cz, rfl, own_base HOZ.out HBY.out.size, HBZ.out⟩
end Go.Proofs.YtadmbphefpfbmaaGreatDoor
