/- ListOfTree, TreeOfList, TreeOfNumber, NumberOfTree of the program. -/
import Derived.Test.YtilbgbibddjdcaaOrdC
import Derived.Test.YtilbgbibddjdcaaCdS
import Derived.Test.YtilbgbibddjdcaaCdT
namespace Go.Proofs.Ytilbgbibddjdcaa
open Go.RowKit
set_option linter.unusedVariables false
set_option linter.unusedSimpArgs false
theorem isTr_of {t : Tr} (h : t.nodes ≤ 2000) : isTr t.bits = true := isTr_bits h
def LotR (w : World) (t : Tr) (e : Ending) (w' : World) : Prop :=
  ∃ A n c us, e = .returned (.tuple #[.slice A n c, .int .i64 0]) ∧ w'.ownsRow w.heap.size 22 1 (.slice A n c) n us ∧ Stk w' w.heap.size us (t.items.map Tr.bits) ∧ Below w.heap.size w w'
set_option maxHeartbeats 2000000 in
theorem ListOfTree_any (w : World) (A : Option Addr) (n c : Nat) (t : Tr) (hr : Rd w A n (bools t.bits)) (ht : t.nodes ≤ 200) : Calls Try.prog 23 #[.slice A n c] w (LotR w t) := by
  have hn : n ≤ 200 := by have := hr.1; simp [Tr.bits_len] at this; omega
  have HT : Hid (isTr t.bits = true) := Lib.hid (isTr_bits (by omega))
  have hil := items_len t
  go_enter Try.func23, Try.ntmps23
  go_wp2_with (go_at_call 22; go_must (refine (IsTree_any _ _ _ _ _ hr (by omega)).mono ?_; rw [HT.out]; rintro e w' ⟨rfl, rfl⟩))
  refine (treeOf_any _ _ _ _ t hr (by omega)).mono ?_
  rintro e w1 ⟨v1, rfl, h1, hb1⟩
  obtain ⟨o1, rfl⟩ := h1.isPtr
  go_wp2_with fail
  refine (listOfTree_any _ w.heap.size _ t h1 (by omega)).mono ?_
  rintro e w2 ⟨AL, m, cL, us, rfl, hlr, har, hb2⟩
  have HML : Hid (t.items.length = m) := Lib.hid (by rw [← har.1]; simpa using hlr.1)
  have hm : m ≤ 100 := by have := HML.out; omega
  have HB2 := Lib.hid (hb1.trans (hb2.mono hb1.size))
  have hlit := ownN_base (ownN_lit w2 #[] 0 1 22 rfl (by omega)) HB2.out.size
  have hbb := below_new w2 (.cells #[] 22)
  have HLR0 := Lib.hid (own_base (own_below hlr hbb (Nat.le_refl _)) hb1.size)
  have HAR0 := Lib.hid (har.up hbb)
  have HB3 := Lib.hid (HB2.out.trans (hbb.mono HB2.out.size))
  clear hlr har hb1 hb2 h1 hbb
  go_wp2_with fail
  go_loopw [5, 20] (fun p q wr => ∃ (k : Nat) (A : Option Addr) (c : Nat) (vs : List Value), k ≤ m ∧ q = .int .i64 k ∧ p = .slice A k c ∧ wr.ownsRow w.heap.size 22 1 (.slice A k c) k vs ∧ Stk wr w.heap.size vs ((t.items.take k).map Tr.bits) ∧ wr.ownsRow w.heap.size 76 1 (.slice AL m cL) m us ∧ AreT wr w.heap.size wr.heap.size us t.items ∧ Below w.heap.size w wr) (fun _ q _ => m - (intOf q).toNat)
  case atStart => exact ⟨0, _, 0, [], by omega, rfl, rfl, hlit, ⟨by simp, by simp⟩, HLR0.out, HAR0.out, HB3.out⟩
  case round =>
    clear hlit HLR0 HAR0 HB3
    obtain ⟨k, A1, c1, vs, hk, rfl, rfl, hown, hst, hlr, har, hb⟩ := hrel
    by_cases hlt : k < m
    · have hlt' : (k : Int) < (m : Int) := by omega
      obtain ⟨x, hx⟩ := get_some (xs := t.items) (k := k) (by rw [HML.out]; exact hlt)
      obtain ⟨u, hu⟩ := get_some (xs := us) (k := k) (by have := hlr.1; simp at this; omega)
      have hxu := har.2 k u x hu hx
      obtain ⟨px, rfl⟩ := hxu.isPtr
      obtain ⟨gl, hg, _, hgs, e0, _⟩ := own_get hlr hu
      subst hg
      have hxn := item_nodes (List.mem_of_getElem? hx)
      have HTK : Hid (t.items.take (k + 1) = t.items.take k ++ [x]) := Lib.hid (by rw [List.take_add_one, hx]; rfl)
      have HOW := Lib.hid hown; have HST := Lib.hid hst; have HLR := Lib.hid hlr; have HAR := Lib.hid har; have HB := Lib.hid hb
      clear hx hu hown hst hlr har hb
      go_wp2_with fail
      refine (list_any _ _ _ x hxu (by omega)).mono ?_
      rintro e w3 ⟨A3, n3, c3, rfl, ho3, hb3⟩
      have hown3 := own_below HOW.out hb3 (Nat.le_refl _)
      have HST3 := Lib.hid ((HST.out.below hb3 (Nat.le_refl _)).snoc ho3 HB.out.size)
      have HLR3 := Lib.hid (own_below HLR.out hb3 (Nat.le_refl _))
      have HAR3 := Lib.hid (HAR.out.up hb3)
      have HB3 := Lib.hid (HB.out.trans (hb3.mono HB.out.size))
      have HOW3 := Lib.hid hown3
      clear hb3 ho3 hxu
      go_wp2_with (at_builtin; go_must (refine wpList_app1g eltSB rfl _ _ rfl w3 w.heap.size _ k _ (by rfl) hown3 _ (by rfl) (by rfl) HB3.out.size (by omega) ?_; rintro A4 c4 w4 hown4 hb4 hg4))
      have hst4 := HST3.out.grown HOW3.out (by decide) hg4
      have hlr4 := own_ch HLR3.out (ch_row hg4) (own_types HLR3.out HOW3.out (by decide))
      have har4 := HAR3.out.chT (ch_row hg4) (row_noT HOW3.out (by decide))
      go_roundw
      case rel => exact ⟨k + 1, A4, c4, _, by omega, by go_num, rfl, hown4, by rw [HTK.out, List.map_append]; exact hst4, hlr4, har4, HB3.out.trans hb4⟩
      case measure => simp [intOf]; omega
    · obtain rfl : k = m := by omega
      rw [List.take_of_length_le (by rw [HML.out]; omega)] at hst
      go_wp2_with fail
      go_ret2
      exact ⟨A1, k, c1, vs, rfl, hown, hst, hb⟩
theorem allTr_bits {ts : List Tr} (h : ∀ t ∈ ts, t.nodes ≤ 2000) : allTr (ts.map Tr.bits) = true := by
  simp only [allTr, List.all_eq_true, List.mem_map]
  rintro xs ⟨t, ht, rfl⟩
  exact isTr_bits (h t ht)
set_option maxHeartbeats 2000000 in
theorem TreeOfList_any (w : World) (A : Option Addr) (n c : Nat) (ts : List Tr) (hr : RdB w A n (ts.map Tr.bits)) (hn : n ≤ 100) (hT : (lstA ts .nil).nodes ≤ 2000) : Calls Try.prog 24 #[.slice A n c] w (RetSI w 4 (bools (lstA ts .nil).bits) 0) := by
  have hts : ∀ t ∈ ts, t.nodes ≤ 2000 := fun t ht => Nat.le_trans (lstA_mem ht) hT
  have HV := Lib.hid (allTr_bits hts)
  have HL : Hid (ts.length = n) := Lib.hid (by have := hr.len; simpa using this)
  have HTS := Lib.hid hts
  have hlit := own_lit w #[] 0 76 rfl (by omega)
  have hbb := below_new w (.cells #[] 76)
  clear hts
  go_enter Try.func24, Try.ntmps24
  go_wp2_with (go_at_call 69; go_must (refine (areTrees_any _ _ _ _ _ hr (by omega)).mono ?_; rw [HV.out]; rintro e w' ⟨rfl, rfl⟩))
  go_loopw [4, 16] (fun p q wr => ∃ (k : Nat) (A : Option Addr) (c : Nat) (us : List Value), k ≤ n ∧ q = .int .i64 k ∧ p = .slice A k c ∧ wr.ownsRow w.heap.size 76 1 (.slice A k c) k us ∧ AreT wr w.heap.size wr.heap.size us (ts.take k) ∧ Below w.heap.size w wr) (fun _ q _ => n - (intOf q).toNat)
  case atStart => exact ⟨0, _, 0, [], by omega, rfl, rfl, hlit, ⟨by simp, by simp⟩, hbb⟩
  case round =>
    clear hlit hbb
    obtain ⟨k, A1, c1, us, hk, rfl, rfl, hown, har, hb⟩ := hrel
    by_cases hlt : k < n
    · have hlt' : (k : Int) < (n : Int) := by omega
      obtain ⟨x, hx⟩ := get_some (xs := ts) (k := k) (by rw [HL.out]; exact hlt)
      obtain ⟨b, off, A', n', c', hAA, hbs, q0, hn', hrx⟩ := hr.at_ (xs := x.bits) (k := k) (by simp [hx])
      subst hAA
      replace q0 := (hb.cell (p := ⟨b, off + k, none⟩) hbs).trans q0
      replace hrx := hrx.below hb (Nat.le_refl _)
      have hxn := HTS.out x (List.mem_of_getElem? hx)
      have hn2 : n' ≤ 2000 := by have := hrx.1; simp [Tr.bits_len] at this; omega
      have HTK : Hid (ts.take (k + 1) = ts.take k ++ [x]) := Lib.hid (by rw [List.take_add_one, hx]; rfl)
      have HOW := Lib.hid hown; have HAR := Lib.hid har; have HB := Lib.hid hb
      clear hx hown har hb
      go_wp2_with fail
      refine (treeOf_any _ _ _ _ x hrx (by omega)).mono ?_
      rintro e w3 ⟨v3, rfl, h3, hb3⟩
      obtain ⟨p3, rfl⟩ := h3.isPtr
      have hown3 := own_below HOW.out hb3 (Nat.le_refl _)
      have HOW3 := Lib.hid hown3
      have HAR3 := Lib.hid ((HAR.out.up hb3).snoc (h3.wide HB.out.size (Nat.le_refl _)))
      have HB3 := Lib.hid (HB.out.trans (hb3.mono HB.out.size))
      clear hb3 h3 hrx
      go_wp2_with (at_builtin; go_must (refine wpList_app1g eltP rfl _ _ rfl w3 w.heap.size _ k _ (by rfl) hown3 _ (by rfl) (by rfl) HB3.out.size (by omega) ?_; rintro A4 c4 w4 hown4 hb4 hg4))
      have har4 := HAR3.out.chT (ch_row hg4) (row_noT HOW3.out (by decide))
      go_roundw
      case rel => exact ⟨k + 1, A4, c4, _, by omega, by go_num, rfl, hown4, by rw [HTK.out]; exact har4, HB3.out.trans hb4⟩
      case measure => simp [intOf]; omega
    · obtain rfl : k = n := by omega
      rw [List.take_of_length_le (by rw [HL.out]; omega)] at har
      have HQ : Hid (fit2 (lstA ts .nil) = ((lstA ts .nil).bits, 0)) := Lib.hid (by simp only [fit2, if_pos hT])
      go_wp2_with fail
      refine (treeOfListA_any _ w.heap.size _ _ _ us ts (own_rd hown) har hb.size (by omega)).mono ?_
      rintro e w3 ⟨v3, rfl, h3, hb3⟩
      obtain ⟨p3, rfl⟩ := h3.isPtr
      have hck := checked2_any w3 w.heap.size _ _ h3 (by omega)
      rw [HQ.out] at hck
      go_wp2_with fail
      refine hck.mono ?_
      rintro e w4 ⟨A4, n4, c4, rfl, ho4, hb4⟩
      have HB3 := Lib.hid (hb.trans (hb3.mono hb.size))
      go_wp2_with fail
      go_ret2
      exact ⟨A4, n4, c4, rfl, own_base ho4 HB3.out.size, HB3.out.trans (hb4.mono HB3.out.size)⟩
set_option maxHeartbeats 2000000 in
theorem TreeOfNumber_any (w : World) (k : Nat) (hk : k ≤ 100) : Calls Try.prog 25 #[.int .i64 k] w (RetSI w 4 (bools (numTr k).bits) 0) := by
  have HI : Hid (inB (k : Int) 0 100 = true) := Lib.hid (inB_true.2 (by omega))
  have HN := Lib.hid (numTr_nodes k)
  have har : ∀ w' : World, ∀ lo hi : Nat, AreT w' lo hi (List.replicate k (.pointer none)) (List.replicate k .nil) := fun w' lo hi => ⟨by simp, fun i u t hu ht => by
    have hi : i < k := by have := (List.getElem?_eq_some_iff.1 hu).1; simpa using this
    simp [hi] at hu ht
    subst hu ht
    exact rfl⟩
  have HAR := Lib.hid har
  clear har
  go_enter Try.func25, Try.ntmps25
  go_wp2_with (first
    | (go_at_call 62; go_must (refine (within_any _ _ _ _).mono ?_; rw [HI.out]; rintro e w' ⟨rfl, rfl⟩))
    | (at_make; go_must (refine wpList_mk eltP (by rfl) _ _ (by rfl) w _ _ k (by rfl) (by rfl) (by omega) (by omega) (by omega) ?_); rintro w1 hown1 hb1 hs1))
  refine (treeOfListA_any _ w.heap.size _ _ _ _ (List.replicate k .nil) (own_rd hown1) (HAR.out _ _ _) hb1.size (by have h := HN.out; unfold numTr at h; omega)).mono ?_
  rintro e w2 ⟨v2, rfl, h2, hb2⟩
  obtain ⟨p2, rfl⟩ := h2.isPtr
  go_wp2_with fail
  refine (list_any _ _ _ (numTr k) h2 (by have := HN.out; omega)).mono ?_
  rintro e w3 ⟨A3, n3, c3, rfl, ho3, hb3⟩
  have HB2 := Lib.hid (hb1.trans (hb2.mono hb1.size))
  go_wp2_with fail
  go_ret2
  exact ⟨A3, n3, c3, rfl, own_base ho3 HB2.out.size, HB2.out.trans (hb3.mono HB2.out.size)⟩
set_option maxHeartbeats 400000 in
theorem numClo_any (w : World) : Calls Try.prog 73 #[.pointer none] w fun e w' => e = .returned (.bool false) ∧ w = w' := by
  go_enter Try.func73, Try.ntmps73
  go_wp2_with fail
  go_ret
  exact ⟨rfl, rfl⟩
set_option maxHeartbeats 1000000 in
theorem idxNum_any (w : World) (A : Option Addr) (n c : Nat) (us : List Value) (hr : Rd w A n us) (hus : ∀ u ∈ us, u = .pointer none) (hn : n ≤ 1000000) :
    Calls Try.prog 110 #[.slice A n c, .func (.func 73) #[] #[]] w (RetV w (.int .i64 (-1))) := by
  have HL : Hid (us.length = n) := Lib.hid hr.1
  have HU := Lib.hid hus
  clear hus
  go_enter Try.func110, Try.ntmps110
  go_wp2_with fail
  go_loopw [8] (fun q wr => ∃ k : Nat, k ≤ n ∧ q = .int .i64 k ∧ Below w.heap.size w wr) (fun q _ => n - (intOf q).toNat)
  case atStart => exact ⟨0, Nat.zero_le _, rfl, Below.refl _ _⟩
  case round =>
    obtain ⟨k, hk, rfl, hb⟩ := hrel
    by_cases h1 : k < n
    · obtain ⟨u, hu⟩ := get_some (xs := us) (k := k) (by rw [HL.out]; exact h1)
      obtain rfl := HU.out u (List.mem_of_getElem? hu)
      obtain ⟨b, off, hA, hbs, q0⟩ := hr.at_ hu
      subst hA
      replace q0 := (hb.cell (p := ⟨b, off + k, none⟩) hbs).trans q0
      clear hu
      go_wp2_with (go_at_call 73; refine (numClo_any _).mono ?_; rintro e w' ⟨rfl, rfl⟩)
      go_roundw
      case rel => exact ⟨k + 1, by omega, by go_num, hb⟩
      case measure => simp [intOf]; omega
    · go_wp2_with fail
      go_ret
      exact ⟨rfl, hb⟩
set_option maxHeartbeats 400000 in
theorem cntNum_any (w : World) (A : Option Addr) (n c : Nat) (us : List Value) (hr : Rd w A n us) (hus : ∀ u ∈ us, u = .pointer none) (hn : n ≤ 1000000) :
    Calls Try.prog 72 #[.slice A n c, .func (.func 73) #[] #[]] w (RetV w (.bool false)) := by
  go_enter Try.func72, Try.ntmps72
  go_wp2_with fail
  refine (idxNum_any _ _ _ _ _ hr hus hn).mono ?_
  rintro e w' ⟨rfl, hb⟩
  go_wp2_with fail
  go_ret
  exact ⟨rfl, hb⟩
set_option maxHeartbeats 400000 in
theorem sizeP_any (w : World) (A : Option Addr) (n c : Nat) : Calls Try.prog 74 #[.slice A n c] w fun e w' => e = .returned (.int .i64 n) ∧ w = w' := by
  go_enter Try.func74, Try.ntmps74
  go_wp2_with fail
  go_ret
  exact ⟨rfl, rfl⟩
set_option maxHeartbeats 2000000 in
theorem NumberOfTree_any (w : World) (A : Option Addr) (n c : Nat) (k : Nat) (hr : Rd w A n (bools (numTr k).bits)) (hk : k ≤ 100) : Calls Try.prog 26 #[.slice A n c] w fun e w' => e = .returned (.tuple #[.int .i64 k, .int .i64 0]) ∧ Below w.heap.size w w' := by
  have hnn := numTr_nodes k
  have HT : Hid (isTr (numTr k).bits = true) := Lib.hid (isTr_bits (by omega))
  have hn : n ≤ 201 := by have := hr.1; simp [Tr.bits_len] at this; omega
  have HIT := Lib.hid (numTr_items k)
  have hnn2 : (numTr k).nodes ≤ 201 := by omega
  clear hnn
  go_enter Try.func26, Try.ntmps26
  go_wp2_with (go_at_call 22; go_must (refine (IsTree_any _ _ _ _ _ hr (by omega)).mono ?_; rw [HT.out]; rintro e w' ⟨rfl, rfl⟩))
  refine (treeOf_any _ _ _ _ (numTr k) hr (by omega)).mono ?_
  rintro e w1 ⟨v1, rfl, h1, hb1⟩
  obtain ⟨o1, rfl⟩ := h1.isPtr
  go_wp2_with fail
  refine (listOfTree_any _ w.heap.size _ (numTr k) h1 (by omega)).mono ?_
  rintro e w2 ⟨AL, m, cL, us, rfl, hlr, har, hb2⟩
  rw [HIT.out] at har
  have hmk : m = k := by have h3 := har.1; have h4 := hlr.1; simp at h3 h4; omega
  subst hmk
  have HU : Hid (∀ u ∈ us, u = .pointer none) := Lib.hid (fun u hu => by
    obtain ⟨i, hi⟩ := List.getElem?_of_mem hu
    have him : i < m := by have h3 := har.1; have := (List.getElem?_eq_some_iff.1 hi).1; simp at h3; omega
    exact har.2 i u .nil hi (by simp [him]))
  have HR := Lib.hid (own_rd hlr)
  have HB2 := Lib.hid (hb1.trans (hb2.mono hb1.size))
  clear har hlr hb1 hb2 h1
  go_wp2_with fail
  refine (cntNum_any _ _ _ _ us HR.out HU.out (by omega)).mono ?_
  rintro e w3 ⟨rfl, hb3⟩
  have HB3 := Lib.hid (HB2.out.trans (hb3.mono HB2.out.size))
  clear hb3
  go_wp2_with (go_at_call 74; go_must (refine (sizeP_any _ _ _ _).mono ?_; rintro e w' ⟨rfl, rfl⟩))
  go_ret2
  exact ⟨rfl, HB3.out⟩
end Go.Proofs.Ytilbgbibddjdcaa
