/- CodeExpr: the reference's function, with its stack of rows. -/
import Derived.Test.YtilbgbibddjdcaaExF
import Derived.Test.YtilbgbibddjdcaaPairB
namespace Go.Proofs.Ytilbgbibddjdcaa
open Go.RowKit
set_option linter.unusedVariables false
set_option linter.unusedSimpArgs false
set_option maxHeartbeats 800000 in
theorem l23Mark_any (w : World) (k : Int) : Calls Try.prog 116 #[.int .i64 k] w fun e w' => e = .returned (.int .i64 (markN k)) ∧ w = w' := by
  by_cases h2 : k = 2
  · subst h2
    go_enter Try.func116, Try.ntmps116
    go_wp2_with fail
    go_ret
    exact ⟨rfl, rfl⟩
  by_cases h3 : k = 3
  · subst h3
    go_enter Try.func116, Try.ntmps116
    go_wp2_with fail
    go_ret
    exact ⟨rfl, rfl⟩
  by_cases h4 : k = 4
  · subst h4
    go_enter Try.func116, Try.ntmps116
    go_wp2_with fail
    go_ret
    exact ⟨rfl, rfl⟩
  have HF : Hid (markN k = 6) := Lib.hid (by simp [markN, h2, h3, h4])
  have b2 : (k == 2) = false := by simpa using h2
  have b3 : (k == 3) = false := by simpa using h3
  have b4 : (k == 4) = false := by simpa using h4
  go_enter Try.func116, Try.ntmps116
  go_wp2_with fail
  go_ret
  exact ⟨by rw [HF.out]; rfl, rfl⟩
def cstk (es : List El) : List (List Bool) := ((forestE es).map fun x => x.code.bits).reverse
theorem cstk_leaf {x : El} (r : List El) (h : fol x = 0) : cstk (x :: r) = cstk r ++ [(Ex.leaf x).code.bits] := by simp [cstk, forestE_leaf r h]
theorem cstk_un {x : El} {r : List El} {a : Ex} {ts : List Ex} (h : fol x = 1) (e : forestE r = a :: ts) :
    cstk r = (ts.map fun x => x.code.bits).reverse ++ [a.code.bits] ∧ cstk (x :: r) = (ts.map fun x => x.code.bits).reverse ++ [(Ex.un x a).code.bits] := by
  constructor
  · simp [cstk, e]
  · simp [cstk, forestE_un h e]
theorem cstk_bin {x : El} {r : List El} {a b : Ex} {ts : List Ex} (h : fol x = 2) (e : forestE r = a :: b :: ts) :
    cstk r = (ts.map fun x => x.code.bits).reverse ++ [b.code.bits, a.code.bits] ∧ cstk (x :: r) = (ts.map fun x => x.code.bits).reverse ++ [(Ex.bin x a b).code.bits] := by
  constructor
  · simp [cstk, e]
  · simp [cstk, forestE_bin h e]
theorem scanE_suf {es : List El} (h : scanE es 1 = some []) : ∀ k, k ≤ es.length → ∃ o, scanE (es.drop k) o = some []
  | 0, _ => ⟨1, by simpa using h⟩
  | k + 1, hk => by
    obtain ⟨o, ho⟩ := scanE_suf h k (by omega)
    obtain ⟨x, hx⟩ := get_some (xs := es) (k := k) (by omega)
    rw [drop_get hx] at ho
    cases o with
    | zero => simp [scanE] at ho
    | succ o => exact ⟨o + fol x, ho⟩
theorem scanE_at {es : List El} {k : Nat} {x : El} (h : scanE es 1 = some []) (hx : es[k]? = some x) : ∃ o, scanE (es.drop (k + 1)) (o + fol x) = some [] := by
  have hk := (List.getElem?_eq_some_iff.1 hx).1
  obtain ⟨o, ho⟩ := scanE_suf h k (by omega)
  rw [drop_get hx] at ho
  cases o with
  | zero => simp [scanE] at ho
  | succ o => exact ⟨o, ho⟩
theorem one_ex {es : List El} {k : Nat} {x : El} (h : scanE es 1 = some []) (hl : es.length ≤ 40) (hx : es[k]? = some x) (hf : fol x = 1) : ∃ a ts, forestE (es.drop (k + 1)) = a :: ts ∧ a.code.nodes ≤ 1600 := by
  obtain ⟨o, ho⟩ := scanE_at h hx
  obtain ⟨f1, f2, _⟩ := scanE_forest _ _ ho
  match hq : forestE (es.drop (k + 1)), f1, f2 with
  | [], f1, _ => simp at f1; omega
  | a :: ts, _, f2 =>
    have h2 : (es.drop (k + 1)).length ≤ es.length := by simp
    rw [← f2] at h2
    simp only [List.flatMap_cons, List.length_append] at h2
    exact ⟨a, ts, rfl, code_nd a (by omega)⟩
theorem two_ex {es : List El} {k : Nat} {x : El} (h : scanE es 1 = some []) (hl : es.length ≤ 40) (hx : es[k]? = some x) (hf : fol x = 2) : ∃ a b ts, forestE (es.drop (k + 1)) = a :: b :: ts ∧ a.code.nodes ≤ 1600 ∧ b.code.nodes ≤ 1600 := by
  obtain ⟨o, ho⟩ := scanE_at h hx
  obtain ⟨f1, f2, _⟩ := scanE_forest _ _ ho
  match hq : forestE (es.drop (k + 1)), f1, f2 with
  | [], f1, _ => simp at f1; omega
  | [_], f1, _ => simp at f1; omega
  | a :: b :: ts, _, f2 =>
    have h2 : (es.drop (k + 1)).length ≤ es.length := by simp
    rw [← f2] at h2
    simp only [List.flatMap_cons, List.length_append] at h2
    exact ⟨a, b, ts, rfl, code_nd a (by omega), code_nd b (by omega)⟩
theorem forestE_len : ∀ es : List El, (forestE es).length ≤ es.length
  | [] => by simp [forestE]
  | x :: r => by
    have ih := forestE_len r
    rcases fol_cases x with e | e | e
    · rw [forestE_leaf r e]; simp; exact ih
    · match hf : forestE r, ih with
      | [], _ => simp [forestE, e, hf]
      | a :: ts, ih => rw [forestE_un e hf]; simp at ih ⊢; omega
    · match hf : forestE r, ih with
      | [], _ => simp [forestE, e, hf]
      | [a], _ => simp [forestE, e, hf]
      | a :: b :: ts, ih => rw [forestE_bin e hf]; simp at ih ⊢; omega
theorem cstk_len (es : List El) (k : Nat) : (cstk (es.drop k)).length ≤ es.length := by
  have := forestE_len (es.drop k)
  simp [cstk] at this ⊢
  omega
set_option maxHeartbeats 8000000 in
set_option maxRecDepth 100000 in
theorem l23Code_any (w : World) (A : Option Addr) (n c : Nat) (x : Ex) (hg : x.good) (ho : x.els.all okEl = true) (hr : RdE w A n x.els) (hn : n ≤ 40) : Calls Try.prog 78 #[.slice A n c] w (RetS w 4 (bools x.code.bits)) := by
  obtain ⟨es, hes⟩ : ∃ es, es = x.els := ⟨_, rfl⟩
  rw [← hes] at hr ho
  have HL : Hid (es.length = n) := Lib.hid (rdE_len hr)
  have HSC : Hid (scanE es 1 = some []) := Lib.hid (by
    rw [hes]
    have e := scanE_els x [] 0 hg
    simp only [List.append_nil] at e
    rw [e]; rfl)
  have HF : Hid (cstk es = [x.code.bits]) := Lib.hid (by
    rw [hes, cstk]
    have e := forestE_els x [] hg
    simp only [List.append_nil] at e
    rw [e]; rfl)
  have HO := Lib.hid ho
  have hlit := own_lit w #[] 0 22 rfl (by omega)
  clear hes hg ho
  go_enter Try.func78, Try.ntmps78
  go_wp2_with fail
  go_loopw [3, 4] (fun v i wr => ∃ (j m : Nat) (us : List Value), i = .int .i64 ((j : Int) - 1) ∧ j ≤ n ∧ m ≤ 40 ∧ wr.ownsRow w.heap.size 22 1 v m us ∧ Stk wr w.heap.size us (cstk (es.drop j)) ∧ Below w.heap.size w wr) (fun _ i _ => (intOf i + 1).toNat)
  case atStart =>
    refine ⟨n, 0, [], rfl, by omega, by omega, hlit, ⟨?_, by simp⟩, below_new _ _⟩
    rw [List.drop_of_length_le (by rw [HL.out]; omega)]; rfl
  case round =>
    obtain ⟨j, m, us, rfl, hj, hm, hown, hst, hb⟩ := hrel
    clear hlit
    obtain ⟨Ao, co, rfl, hco, hul⟩ := own_form hown
    rcases Nat.eq_zero_or_pos j with h0 | h0
    · subst h0
      rw [List.drop_zero, HF.out] at hst
      have hm1 : m = 1 := by have := hst.1; rw [hul] at this; simpa using this
      subst hm1
      obtain ⟨u, hu⟩ := get_some (xs := us) (k := 0) (by omega)
      obtain ⟨A1, n1, c1, rfl, ho1⟩ := hst.2 0 u _ hu rfl
      obtain ⟨g, rfl, hg1, hg2, hc2, _⟩ := own_get hown hu
      clear hu
      go_wp2_with fail
      go_ret
      exact ⟨A1, n1, c1, rfl, ho1, hb⟩
    · obtain ⟨k, rfl⟩ : ∃ k, j = k + 1 := ⟨j - 1, by omega⟩
      have ek : (((k + 1 : Nat) : Int) - 1) = (k : Int) := by omega
      rw [ek]
      clear ek
      obtain ⟨y, hy⟩ := get_some (xs := es) (k := k) (by rw [HL.out]; omega)
      obtain ⟨blk, off, rfl, hbs, q0, q1⟩ := rdE hr hy
      replace q0 := (hb.cell (p := ⟨blk, off + k * 2, none⟩) hbs).trans q0
      have HML := Lib.hid (cstk_len es k)
      have hkn : k < n := by omega
      have HOK : Hid (okEl y = true) := Lib.hid (List.all_eq_true.1 HO.out y (List.mem_of_getElem? hy))
      have HY := Lib.hid hy
      obtain ⟨kd, v⟩ := y
      simp only at q0
      clear q1
      rcases fol_cases (kd, v) with hf | hf | hf
      · have HD : Hid (cstk (es.drop k) = cstk (es.drop (k + 1)) ++ [(Ex.leaf (kd, v)).code.bits]) := Lib.hid (by rw [drop_get hy, cstk_leaf _ hf])
        have hkd := kind_leaf HOK.out hf
        clear hy hf
        rcases hkd with rfl | rfl
        · go_wp2_with fail
          refine (l21Nil_any _).mono ?_
          rintro e w2 ⟨A2, n2, c2, rfl, ho2, hb2⟩
          have hn2 : n2 ≤ 1 := by have := ho2.1; simp at this; omega
          go_wp2_with fail
          refine (l23Item_any _ 0 (by omega) _ rfl _ _ _ .nil (own_rd ho2) (by omega)).mono ?_
          rintro e w3 ⟨A3, n3, c3, rfl, ho3, hb3⟩
          have hb23 := hb2.trans (hb3.mono hb2.size)
          have hown2 := own_below hown hb23 (Nat.le_refl _)
          have hst2 := hst.below hb23 (Nat.le_refl _)
          have hB2 := hb.trans (hb23.mono hb.size)
          go_wp2_with (at_builtin; go_must (refine wpList_app1g eltSB rfl _ _ rfl w3 w.heap.size _ m _ (by rfl) hown2 _ (by rfl) (by rfl) hB2.size (by omega) ?_; rintro A4 c4 w4 hown4 hb4 hg4))
          have hst4 := (hst2.snoc ho3 (Nat.le_trans hb.size hb2.size)).grown hown2 (by decide) hg4
          have hm4 : m + 1 ≤ 40 := by
            have h1 := hst4.1
            have h2 := HML.out
            rw [HD.out, HL.out] at h2
            simp [hul] at h1 h2
            omega
          go_roundw
          case rel => exact ⟨k, m + 1, _, rfl, by omega, hm4, hown4, by rw [HD.out]; exact hst4, hB2.trans hb4⟩
          case measure => simp only [intOf]; omega
        · go_wp2_with fail
          refine (l21Nil_any _).mono ?_
          rintro e w2 ⟨A2, n2, c2, rfl, ho2, hb2⟩
          have hn2 : n2 ≤ 1 := by have := ho2.1; simp at this; omega
          go_wp2_with fail
          refine (l23Item_any _ 1 (by omega) _ rfl _ _ _ .nil (own_rd ho2) (by omega)).mono ?_
          rintro e w3 ⟨A3, n3, c3, rfl, ho3, hb3⟩
          have hb23 := hb2.trans (hb3.mono hb2.size)
          have hown2 := own_below hown hb23 (Nat.le_refl _)
          have hst2 := hst.below hb23 (Nat.le_refl _)
          have hB2 := hb.trans (hb23.mono hb.size)
          go_wp2_with (at_builtin; go_must (refine wpList_app1g eltSB rfl _ _ rfl w3 w.heap.size _ m _ (by rfl) hown2 _ (by rfl) (by rfl) hB2.size (by omega) ?_; rintro A4 c4 w4 hown4 hb4 hg4))
          have hst4 := (hst2.snoc ho3 (Nat.le_trans hb.size hb2.size)).grown hown2 (by decide) hg4
          have hm4 : m + 1 ≤ 40 := by
            have h1 := hst4.1
            have h2 := HML.out
            rw [HD.out, HL.out] at h2
            simp [hul] at h1 h2
            omega
          go_roundw
          case rel => exact ⟨k, m + 1, _, rfl, by omega, hm4, hown4, by rw [HD.out]; exact hst4, hB2.trans hb4⟩
          case measure => simp only [intOf]; omega
      · obtain ⟨a, ts, hfe, hna⟩ := one_ex HSC.out (by rw [HL.out]; exact hn) hy hf
        obtain ⟨e1, e2⟩ := cstk_un hf hfe
        have HD : Hid (cstk (es.drop k) = (ts.map fun x => x.code.bits).reverse ++ [(Ex.un (kd, v) a).code.bits]) := Lib.hid (by rw [drop_get hy, e2])
        have hk2 := kind_un hf
        have b0 : (kd == 0) = false := by rcases hk2 with rfl | rfl <;> rfl
        have b1 : (kd == 1) = false := by rcases hk2 with rfl | rfl <;> rfl
        have hmm := markN_le kd
        rw [e1] at hst
        have hlen : us.length = ts.length + 1 := by rw [hst.1]; simp
        obtain rfl : m = ts.length + 1 := by omega
        have HT0 : Hid (((ts.map fun x => x.code.bits).reverse ++ [a.code.bits]).take ts.length = (ts.map fun x => x.code.bits).reverse) := Lib.hid (by
          rw [List.take_append_of_le_length (by simp), List.take_of_length_le (by simp)])
        have HQ0 : Hid (((ts.map fun x => x.code.bits).reverse ++ [a.code.bits])[ts.length]? = some a.code.bits) := Lib.hid (by rw [List.getElem?_append_right (by simp)]; simp)
        clear hy hf hfe e1 e2
        generalize (ts.map fun x => x.code.bits).reverse = rs at *
        generalize ts.length = p at *
        have HT := HT0
        obtain ⟨ua, hua⟩ := get_some (xs := us) (k := p) (by omega)
        obtain ⟨Aa, na, ca, rfl, hoa⟩ := hst.2 p ua a.code.bits hua HQ0.out
        obtain ⟨g, rfl, hg1, hg2, hca, _⟩ := own_get hown hua
        have hna' : na ≤ 1600 := by have := hoa.1; simp [Tr.bits_len] at this; omega
        generalize hmk : markN kd = mk at *
        have HMK := Lib.hid hmk
        have HNA := Lib.hid hna
        have hk2' := hk2
        clear hua hmk hlen hk2 HT0 HQ0 hna
        have q2 : ((p : Int) + 1 - 1) = (p : Int) := by omega
        have r3 : (0 : Int) ≤ (p : Int) := by omega
        have r4 : (p : Int) < (p : Int) + 1 := by omega
        have r1 : p < p + 1 := by omega
        have z2 : IntKind.i64.wrap (p : Int) = (p : Int) := IntWalk.i64_in _ (by omega)
        have ra := own_rd hoa
        have hkk : kd = 3 ∨ kd = 4 := hk2'
        rcases hkk with rfl | rfl
        all_goals
          clear hk2'
          go_wp2_with fail
          go_region_held3 (fun w' => w'.cell? ⟨g, p, none⟩ = some (.slice Aa na ca)) (exact hca) (first
            | (go_at_call 115
               refine (l21PairT_any _ _ _ _ a.code (by exact ra2) (by omega) _ _ _ (.node (tagTr 0) .nil) (by exact ri) (by omega)).mono ?_
               rintro e w3 ⟨A3, n3, c3, rfl, ho3, hb3⟩
               (try replace hb3 := und1 hb3)
               have hca := (hb3.cell (p := ⟨g, p, none⟩) hgi).trans hca)
            | (go_at_call 113
               refine (l23Item_any _ 0 (by omega) _ rfl _ _ _ .nil (by exact rn) (by omega)).mono ?_
               rintro e wi ⟨Ai, ni, ci, rfl, hoi, hbi⟩
               (try replace hbi := und1 hbi)
               have hca := (hbi.cell (p := ⟨g, p, none⟩) hgn).trans hca
               have ra2 := ran.below hbi (Nat.le_refl _)
               have ri := own_rd hoi
               have hni : ni ≤ 11 := by have h1 := hoi.1; simp [Tr.bits_len, Tr.nodes, tagTr] at h1; omega
               have hgi := Nat.lt_of_lt_of_le hgn hbi.size)
            | (go_at_call 114
               refine (l21Nil_any _).mono ?_
               rintro e wn ⟨An, nn, cn, rfl, hon, hbn⟩
               (try replace hbn := und1 hbn)
               have hca := (hbn.cell (p := ⟨g, p, none⟩) hg2).trans hca
               have ran := ra.below hbn (Nat.le_refl _)
               have rn := own_rd hon
               have hnn : nn ≤ 1 := by have := hon.1; simp at this; omega
               have hgn := Nat.lt_of_lt_of_le hg2 hbn.size))
          have hbX := (hbn.trans (hbi.mono hbn.size)).trans (hb3.mono (Nat.le_trans hbn.size hbi.size))
          replace ho3 := own_base ho3 (Nat.le_trans hbn.size hbi.size)
          replace hb3 := hbX
          have hn3 : n3 ≤ 1700 := by have h1 := ho3.1; have h2 := HNA.out; simp [Tr.bits_len, Tr.nodes, tagTr] at h1; omega
          clear hca ra ra2 ran rn ri hoi hon hbn hbi hoa hbX
          have hB3 := hb.trans (hb3.mono hb.size)
          have hown3 := own_take (own_below hown hb3 (Nat.le_refl _)) (k := p) (by omega)
          have hst3 := (hst.below hb3 (Nat.le_refl _)).take (k := p)
          rw [HT.out] at hst3
          have r7 : (p : Int) ≤ (co : Int) := by omega
          have r8 : p ≤ co := by omega
          have HUL := Lib.hid hul
          clear hown hst hul hb hb3
          go_wp2_with fail
          refine (l23Mark_any _ _).mono ?_
          rintro e w' ⟨rfl, rfl⟩
          rw [HMK.out]
          go_wp2_with fail
          refine (l21Nil_any _).mono ?_
          rintro e w4 ⟨A4, n4, c4, rfl, ho4, hb4⟩
          have hn4 : n4 ≤ 1 := by have := ho4.1; simp at this; omega
          go_wp2_with fail
          refine (l23Item_any _ mk (by omega) _ rfl _ _ _ .nil (own_rd ho4) (by omega)).mono ?_
          rintro e w5 ⟨A5, n5, c5, rfl, ho5, hb5⟩
          have hn5 : n5 ≤ 11 := by have h1 := ho5.1; have h2 := tag_nodes mk; simp [Tr.bits_len, Tr.nodes] at h1; omega
          have hb45 := hb4.trans (hb5.mono hb4.size)
          go_wp2_with fail
          refine (l21PairT_any _ _ _ _ (.node (tagTr mk) .nil) (own_rd ho5) (by omega) _ _ _ (.node a.code (.node (tagTr 0) .nil)) ((own_rd ho3).below hb45 (Nat.le_refl _)) (by omega)).mono ?_
          rintro e w6 ⟨A6, n6, c6, rfl, ho6, hb6⟩
          have hn6 : n6 ≤ 4000 := by have h1 := ho6.1; have h2 := tag_nodes mk; have h3 := ho3.1; simp only [List.length_map, Tr.bits_len, Tr.nodes] at h1 h3; omega
          have hb46 := hb45.trans (hb6.mono hb45.size)
          go_wp2_with fail
          refine (l23Item_any _ 2 (by omega) _ rfl _ _ _ (.node (.node (tagTr mk) .nil) (.node a.code (.node (tagTr 0) .nil))) (own_rd ho6) (by omega)).mono ?_
          rintro e w7 ⟨A7, n7, c7, rfl, ho7, hb7⟩
          have hb47 := hb46.trans (hb7.mono hb46.size)
          have hB7 := hB3.trans (hb47.mono hB3.size)
          have hown7 := own_below hown3 hb47 (Nat.le_refl _)
          have HE : Hid ((Tr.node (tagTr 2) (.node (.node (tagTr mk) .nil) (.node a.code (.node (tagTr 0) .nil)))).bits = (Ex.un (_, v) a).code.bits) := Lib.hid (by rw [← HMK.out]; rfl)
          rw [HE.out] at ho7
          have hst7 := (hst3.below hb47 (Nat.le_refl _)).snoc ho7 (Nat.le_trans hB3.size hb46.size)
          clear ho3 ho4 ho5 ho6 hb4 hb5 hb6 hb7 hb45 hb46 hown3 hst3
          go_wp2_with (at_builtin; go_must (refine wpList_app1g eltSB rfl _ _ rfl w7 w.heap.size _ p _ (by rfl) hown7 _ (by rfl) (by rfl) hB7.size (by omega) ?_; rintro A8 c8 w8 hown8 hb8 hg8))
          have hst8 := hst7.grown hown7 (by decide) hg8
          go_roundw
          case rel => exact ⟨k, p + 1, _, rfl, by omega, by omega, hown8, by rw [HD.out]; exact hst8, hB7.trans hb8⟩
          case measure => simp only [intOf]; omega
      · obtain ⟨a, b, ts, hfe, hna, hnb⟩ := two_ex HSC.out (by rw [HL.out]; exact hn) hy hf
        obtain ⟨e1, e2⟩ := cstk_bin hf hfe
        have HD : Hid (cstk (es.drop k) = (ts.map fun x => x.code.bits).reverse ++ [(Ex.bin (kd, v) a b).code.bits]) := Lib.hid (by rw [drop_get hy, e2])
        have hk2 := kind_bin hf
        have hmm := markN_le kd
        rw [e1] at hst
        have hlen : us.length = ts.length + 2 := by rw [hst.1]; simp
        obtain rfl : m = ts.length + 2 := by omega
        have HT : Hid (((ts.map fun x => x.code.bits).reverse ++ [b.code.bits, a.code.bits]).take ts.length = (ts.map fun x => x.code.bits).reverse) := Lib.hid (by
          rw [List.take_append_of_le_length (by simp), List.take_of_length_le (by simp)])
        have HQ0 : Hid (((ts.map fun x => x.code.bits).reverse ++ [b.code.bits, a.code.bits])[ts.length]? = some b.code.bits) := Lib.hid (by rw [List.getElem?_append_right (by simp)]; simp)
        have HQ1 : Hid (((ts.map fun x => x.code.bits).reverse ++ [b.code.bits, a.code.bits])[ts.length + 1]? = some a.code.bits) := Lib.hid (by rw [List.getElem?_append_right (by simp)]; simp)
        clear hy hf hfe e1 e2
        generalize (ts.map fun x => x.code.bits).reverse = rs at *
        generalize ts.length = p at *
        obtain ⟨ub, hub⟩ := get_some (xs := us) (k := p) (by omega)
        obtain ⟨ua, hua⟩ := get_some (xs := us) (k := p + 1) (by omega)
        obtain ⟨Ab, nb, cb, rfl, hob⟩ := hst.2 p ub b.code.bits hub HQ0.out
        obtain ⟨Aa, na, ca, rfl, hoa⟩ := hst.2 (p + 1) ua a.code.bits hua HQ1.out
        obtain ⟨g, rfl, hg1, hg2, hcb, _⟩ := own_get hown hub
        obtain ⟨g', hgg, _, _, hca, _⟩ := own_get hown hua
        obtain rfl : g = g' := by simpa using hgg
        have hna' : na ≤ 1600 := by have := hoa.1; simp [Tr.bits_len] at this; omega
        have hnb' : nb ≤ 1600 := by have := hob.1; simp [Tr.bits_len] at this; omega
        generalize hmk : markN kd = mk at *
        have HMK := Lib.hid hmk
        have HNA := Lib.hid hna
        have HNB := Lib.hid hnb
        have hk2' := hk2
        clear hub hua hgg hmk hlen hk2 HQ0 HQ1 hna hnb
        have q1 : ((p + 2 : Nat) : Int) - 1 = ((p + 1 : Nat) : Int) := by omega
        have q2 : ((p : Int) + 2 - 1) = (p : Int) + 1 := by omega
        have q3 : ((p : Int) + 1 - 1) = (p : Int) := by omega
        have r1 : p < p + 2 := by omega
        have r2 : p + 1 < p + 2 := by omega
        have r3 : (0 : Int) ≤ (p : Int) := by omega
        have r4 : (p : Int) < (p : Int) + 2 := by omega
        have r5 : (p : Int) + 1 < (p : Int) + 2 := by omega
        have r6 : (0 : Int) ≤ (p : Int) + 1 := by omega
        have z1 : IntKind.i64.wrap ((p : Int) + 1 - 1) = (p : Int) := by rw [q3]; exact IntWalk.i64_in _ (by omega)
        have z2 : IntKind.i64.wrap (p : Int) = (p : Int) := IntWalk.i64_in _ (by omega)
        have rb := own_rd hob
        have ra := own_rd hoa
        have hkk : kd = 2 ∨ kd = 5 := hk2'
        rcases hkk with rfl | rfl
        all_goals
          clear hk2'
          go_wp2_with fail
          go_region_held3 (fun w' => w'.cell? ⟨g, p, none⟩ = some (.slice Ab nb cb) ∧ w'.cell? ⟨g, p + 1, none⟩ = some (.slice Aa na ca)) (exact ⟨hcb, hca⟩) (first
            | (go_at_call 115
               refine (l21PairT_any _ _ _ _ a.code (by exact ra) (by omega) _ _ _ b.code (by exact rb) (by omega)).mono ?_
               rintro e w3 ⟨A3, n3, c3, rfl, ho3, hb3⟩
               (try replace hb3 := und1 hb3)
               have hcb := (hb3.cell (p := ⟨g, p, none⟩) hg2).trans hcb
               have hca := (hb3.cell (p := ⟨g, p + 1, none⟩) hg2).trans hca))
          have hn3 : n3 ≤ 3300 := by have h1 := ho3.1; have h2 := HNA.out; have h3 := HNB.out; simp [Tr.bits_len, Tr.nodes] at h1; omega
          clear hca hcb ra rb hoa hob
          have hB3 := hb.trans (hb3.mono hb.size)
          have hown3 := own_take (own_below hown hb3 (Nat.le_refl _)) (k := p) (by omega)
          have hst3 := (hst.below hb3 (Nat.le_refl _)).take (k := p)
          rw [HT.out] at hst3
          have r7 : (p : Int) ≤ (co : Int) := by omega
          have r8 : p ≤ co := by omega
          have HUL := Lib.hid hul
          clear hown hst hul hb hb3
          go_wp2_with fail
          refine (l23Mark_any _ _).mono ?_
          rintro e w' ⟨rfl, rfl⟩
          rw [HMK.out]
          go_wp2_with fail
          refine (l21Nil_any _).mono ?_
          rintro e w4 ⟨A4, n4, c4, rfl, ho4, hb4⟩
          have hn4 : n4 ≤ 1 := by have := ho4.1; simp at this; omega
          go_wp2_with fail
          refine (l23Item_any _ mk (by omega) _ rfl _ _ _ .nil (own_rd ho4) (by omega)).mono ?_
          rintro e w5 ⟨A5, n5, c5, rfl, ho5, hb5⟩
          have hn5 : n5 ≤ 11 := by have h1 := ho5.1; have h2 := tag_nodes mk; simp [Tr.bits_len, Tr.nodes] at h1; omega
          have hb45 := hb4.trans (hb5.mono hb4.size)
          go_wp2_with fail
          refine (l21PairT_any _ _ _ _ (.node (tagTr mk) .nil) (own_rd ho5) (by omega) _ _ _ (.node a.code b.code) ((own_rd ho3).below hb45 (Nat.le_refl _)) (by omega)).mono ?_
          rintro e w6 ⟨A6, n6, c6, rfl, ho6, hb6⟩
          have hn6 : n6 ≤ 4000 := by have h1 := ho6.1; have h2 := tag_nodes mk; have h3 := ho3.1; simp only [List.length_map, Tr.bits_len, Tr.nodes] at h1 h3; omega
          have hb46 := hb45.trans (hb6.mono hb45.size)
          go_wp2_with fail
          refine (l23Item_any _ 2 (by omega) _ rfl _ _ _ (.node (.node (tagTr mk) .nil) (.node a.code b.code)) (own_rd ho6) (by omega)).mono ?_
          rintro e w7 ⟨A7, n7, c7, rfl, ho7, hb7⟩
          have hb47 := hb46.trans (hb7.mono hb46.size)
          have hB7 := hB3.trans (hb47.mono hB3.size)
          have hown7 := own_below hown3 hb47 (Nat.le_refl _)
          have HE : Hid ((Tr.node (tagTr 2) (.node (.node (tagTr mk) .nil) (.node a.code b.code))).bits = (Ex.bin (_, v) a b).code.bits) := Lib.hid (by rw [← HMK.out]; rfl)
          rw [HE.out] at ho7
          have hst7 := (hst3.below hb47 (Nat.le_refl _)).snoc ho7 (Nat.le_trans hB3.size hb46.size)
          clear ho3 ho4 ho5 ho6 hb4 hb5 hb6 hb7 hb45 hb46 hown3 hst3
          go_wp2_with (at_builtin; go_must (refine wpList_app1g eltSB rfl _ _ rfl w7 w.heap.size _ p _ (by rfl) hown7 _ (by rfl) (by rfl) hB7.size (by omega) ?_; rintro A8 c8 w8 hown8 hb8 hg8))
          have hst8 := hst7.grown hown7 (by decide) hg8
          go_roundw
          case rel => exact ⟨k, p + 1, _, rfl, by omega, by omega, hown8, by rw [HD.out]; exact hst8, hB7.trans hb8⟩
          case measure => simp only [intOf]; omega
end Go.Proofs.Ytilbgbibddjdcaa
