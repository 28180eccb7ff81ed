/- UniversalInput: both functions. Written by mk_cdu.py. -/
import Derived.Test.YtilbgbibddjdcaaCdT
namespace Go.Proofs.Ytilbgbibddjdcaa
open Go.RowKit
set_option linter.unusedVariables false
set_option linter.unusedSimpArgs false
def UinT (w : World) (cs : List Cmd) (bs : List Bool) (e : Ending) (w' : World) : Prop :=
  ∃ p, e = .returned (.tuple #[.pointer p, .int .i64 (uinP cs bs).2]) ∧ ((uinP cs bs).2 = 0 → ∃ t, IsT w' w.heap.size w'.heap.size (.pointer p) t ∧ (uinP cs bs).1 = t.bits ∧ t.nodes ≤ 2000) ∧ Below w.heap.size w w'
theorem UinT.none_ {w w' : World} {cs : List Cmd} {bs : List Bool} {k : Int} (h : uinP cs bs = ([], k)) (hk : k ≠ 0) (hb : Below w.heap.size w w') : UinT w cs bs (.returned (.tuple #[.pointer none, .int .i64 k])) w' :=
  ⟨none, by rw [h], fun h0 => by rw [h] at h0; exact absurd h0 hk, hb⟩
theorem uin_zero {cs : List Cmd} {bs : List Bool} (h : (uinP cs bs).2 ≠ 0) : (uinP cs bs).1 = [] := by
  unfold uinP at h ⊢
  split at h
  · rename_i hc
    rw [if_pos hc]
    unfold pkP at h ⊢
    split at h
    · rename_i h1
      rw [if_pos h1]
      split at h
      · rename_i h2
        rw [if_pos h2]
        unfold fit2 at h ⊢
        split at h
        · simp at h
        · rename_i h3
          rw [if_neg h3]
      · rename_i h2
        rw [if_neg h2]
    · rename_i h1
      rw [if_neg h1]
  · rename_i hc
    rw [if_neg hc]
set_option maxHeartbeats 2000000 in
theorem universalInput_any (w : World) (A0 : Option Addr) (n0 c0 : Nat) (cs : List Cmd) (hr0 : RdC w A0 n0 cs) (hn0 : n0 ≤ 1099511627776) (hnc0 : n0 ≤ c0) (A1 : Option Addr) (n1 c1 : Nat) (bs : List Bool) (hr1 : Rd w A1 n1 (bools bs)) (hn1 : n1 ≤ 1099511627776) : Calls Try.prog 97 #[.slice A0 n0 c0, .slice A1 n1 c1] w (UinT w cs bs) := by
  cases hv : isW cs with
  | false =>
    have HQ := Lib.hid (uin_bad1 (bs := bs) hv)
    have HV := Lib.hid hv
    clear hv
    go_enter Try.func97, Try.ntmps97
    go_wp2_with (go_at_call 99; go_must (refine (ValidWhileX_any _ _ _ _ _ hr0 hn0 hnc0).mono ?_; rw [HV.out]; rintro e w2 ⟨rfl, hb2⟩))
    go_ret2
    exact UinT.none_ HQ.out (by decide) hb2
  | true =>
    have HV := Lib.hid hv
    cases ht : isTr bs with
    | false =>
      have HQ := Lib.hid (uin_bad2 (cs := cs) ht)
      have HT := Lib.hid ht
      clear hv ht
      go_enter Try.func97, Try.ntmps97
      go_wp2_with (first | (go_at_call 99; go_must (refine (ValidWhileX_any _ _ _ _ _ hr0 hn0 hnc0).mono ?_; rw [HV.out]; rintro e w2 ⟨rfl, hb2⟩)) | (go_at_call 22; go_must (refine (IsTree_any _ _ _ _ _ (hr1.below hb2 (Nat.le_refl _)) hn1).mono ?_; rw [HT.out]; rintro e w' ⟨rfl, rfl⟩)))
      go_ret2
      exact UinT.none_ HQ.out (by decide) hb2
    | true =>
      have HT := Lib.hid ht
      obtain ⟨t, rfl, htn⟩ := isTr_tree ht
      have hq := uin_ok hv htn
      have h80 := (isW_ok hv).1
      have hnt : n1 ≤ 2000 := by have := hr1.1; simp [Tr.bits_len] at this; omega
      have hcd := Lib.hid (fun (w2 : World) (hb : Below w.heap.size w w2) => codedWhile_any w2 A0 n0 c0 cs (hr0.below hb (Nat.le_refl _)) hn0 hnc0)
      clear hv ht
      by_cases h0 : (cdwP cs).2 = 0
      · have hz := cdw_zero h0
        have H0 := Lib.hid h0
        have HF := Lib.hid hz.2
        rw [pk_ok h80 h0] at hq
        clear hz h0
        by_cases hf : (Tr.node (codeC cs) t).nodes ≤ 2000
        · have HQ : Hid (uinP cs t.bits = ((Tr.node (codeC cs) t).bits, 0)) := Lib.hid (by rw [hq]; simp only [fit2, if_pos hf])
          have hf2 : (((Tr.node (codeC cs) t).nodes : Nat) : Int) ≤ 2000 := by omega
          have HF2 := Lib.hid hf
          have HN : Hid ((((Tr.node (codeC cs) t).nodes : Nat) : Int) ≤ 2000) := Lib.hid hf2
          clear hq hf2 hf
          go_enter Try.func97, Try.ntmps97
          go_wp2_with (first | (go_at_call 99; go_must (refine (ValidWhileX_any _ _ _ _ _ hr0 hn0 hnc0).mono ?_; rw [HV.out]; rintro e w2 ⟨rfl, hb2⟩)) | (go_at_call 22; go_must (refine (IsTree_any _ _ _ _ _ (hr1.below hb2 (Nat.le_refl _)) hn1).mono ?_; rw [HT.out]; rintro e w' ⟨rfl, rfl⟩)))
          refine (hcd.out _ hb2).mono ?_
          rintro e w3 ⟨p3, rfl, h3, hb3⟩
          rw [H0.out]
          replace h3 := h3 H0.out
          have hr13 := (hr1.below hb2 (Nat.le_refl _)).below hb3 (Nat.le_refl _)
          go_wp2_with fail
          refine (treeOf_any _ _ _ _ t hr13 (by omega)).mono ?_
          rintro e w4 ⟨v4, rfl, h4, hb4⟩
          obtain ⟨p4, rfl⟩ := h4.isPtr
          have h34 := (h3.up hb4).wide (lo' := w.heap.size) hb2.size (Nat.le_refl _)
          have h44 := h4.wide (lo' := w.heap.size) (Nat.le_trans hb2.size hb3.size) (Nat.le_refl _)
          have HB4 := Lib.hid ((hb2.trans (hb3.mono hb2.size)).trans (hb4.mono (Nat.le_trans hb2.size hb3.size)))
          go_wp2_with fail
          refine (pair_any _ w.heap.size _ _ _ _ h34 h44 HB4.out.size (by have := HF.out; omega) (by omega)).mono ?_
          rintro e w5 ⟨v5, rfl, h5, hb5⟩
          rcases h5.ptr with ⟨_, hq0⟩ | ⟨b5, _, _, _, _, rfl, hq, _, _, _, _, z2, _, _⟩
          · cases hq0
          have H5 := Lib.hid h5
          have HB5 := Lib.hid (HB4.out.trans (hb5.mono HB4.out.size))
          have hnn := HN.out
          generalize hgn : (((Tr.node (codeC cs) t).nodes : Nat) : Int) = nn at z2 hnn
          clear h3 h4 h34 h44 h5 hq hgn
          go_wp2_with fail
          go_ret2
          exact ⟨_, by rw [HQ.out]; rfl, fun _ => ⟨_, H5.out, by rw [HQ.out], HF2.out⟩, HB5.out⟩
        · have HQ : Hid (uinP cs t.bits = ([], 5)) := Lib.hid (by rw [hq]; simp only [fit2, if_neg hf])
          have HN : Hid (¬ (((Tr.node (codeC cs) t).nodes : Nat) : Int) ≤ 2000) := Lib.hid (by omega)
          clear hq hf
          go_enter Try.func97, Try.ntmps97
          go_wp2_with (first | (go_at_call 99; go_must (refine (ValidWhileX_any _ _ _ _ _ hr0 hn0 hnc0).mono ?_; rw [HV.out]; rintro e w2 ⟨rfl, hb2⟩)) | (go_at_call 22; go_must (refine (IsTree_any _ _ _ _ _ (hr1.below hb2 (Nat.le_refl _)) hn1).mono ?_; rw [HT.out]; rintro e w' ⟨rfl, rfl⟩)))
          refine (hcd.out _ hb2).mono ?_
          rintro e w3 ⟨p3, rfl, h3, hb3⟩
          rw [H0.out]
          replace h3 := h3 H0.out
          have hr13 := (hr1.below hb2 (Nat.le_refl _)).below hb3 (Nat.le_refl _)
          go_wp2_with fail
          refine (treeOf_any _ _ _ _ t hr13 (by omega)).mono ?_
          rintro e w4 ⟨v4, rfl, h4, hb4⟩
          obtain ⟨p4, rfl⟩ := h4.isPtr
          have h34 := (h3.up hb4).wide (lo' := w.heap.size) hb2.size (Nat.le_refl _)
          have h44 := h4.wide (lo' := w.heap.size) (Nat.le_trans hb2.size hb3.size) (Nat.le_refl _)
          have HB4 := Lib.hid ((hb2.trans (hb3.mono hb2.size)).trans (hb4.mono (Nat.le_trans hb2.size hb3.size)))
          go_wp2_with fail
          refine (pair_any _ w.heap.size _ _ _ _ h34 h44 HB4.out.size (by have := HF.out; omega) (by omega)).mono ?_
          rintro e w5 ⟨v5, rfl, h5, hb5⟩
          rcases h5.ptr with ⟨_, hq0⟩ | ⟨b5, _, _, _, _, rfl, hq, _, _, _, _, z2, _, _⟩
          · cases hq0
          have HB5 := Lib.hid (HB4.out.trans (hb5.mono HB4.out.size))
          have hnn := HN.out
          generalize hgn : (((Tr.node (codeC cs) t).nodes : Nat) : Int) = nn at z2 hnn
          have hnn2 : (2000 : Int) < nn := by omega
          clear h3 h4 h34 h44 h5 hq hgn
          go_wp2_with fail
          go_ret2
          exact UinT.none_ HQ.out (by decide) HB5.out
      · rw [pk_err h80 h0] at hq
        have HQ := Lib.hid hq
        have H00 := Lib.hid h0
        have b0 : ((cdwP cs).2 == 0) = false := by simpa using h0
        have b1 : ((cdwP cs).2 != 0) = true := by simpa using h0
        clear hq
        go_enter Try.func97, Try.ntmps97
        go_wp2_with (first | (go_at_call 99; go_must (refine (ValidWhileX_any _ _ _ _ _ hr0 hn0 hnc0).mono ?_; rw [HV.out]; rintro e w2 ⟨rfl, hb2⟩)) | (go_at_call 22; go_must (refine (IsTree_any _ _ _ _ _ (hr1.below hb2 (Nat.le_refl _)) hn1).mono ?_; rw [HT.out]; rintro e w' ⟨rfl, rfl⟩)))
        refine (hcd.out _ hb2).mono ?_
        rintro e w3 ⟨p3, rfl, h3, hb3⟩
        clear h3
        go_wp2_with fail
        go_ret2
        exact UinT.none_ HQ.out H00.out (hb2.trans (hb3.mono hb2.size))
set_option maxHeartbeats 2000000 in
theorem implUniversalInput_any (w : World) (A0 : Option Addr) (n0 c0 : Nat) (cs : List Cmd) (hr0 : RdC w A0 n0 cs) (hn0 : n0 ≤ 1099511627776) (hnc0 : n0 ≤ c0) (A1 : Option Addr) (n1 c1 : Nat) (bs : List Bool) (hr1 : Rd w A1 n1 (bools bs)) (hn1 : n1 ≤ 1099511627776) : Calls Try.prog 53 #[.slice A0 n0 c0, .slice A1 n1 c1] w (RetSI w 4 (bools (uinP cs bs).1) (uinP cs bs).2) := by
  have hu := universalInput_any w A0 n0 c0 cs hr0 hn0 hnc0 A1 n1 c1 bs hr1 hn1
  by_cases h0 : (uinP cs bs).2 = 0
  · have H0 := Lib.hid h0
    clear h0
    rw [H0.out]
    go_enter Try.func53, Try.ntmps53
    go_wp2_with fail
    refine hu.mono ?_
    rintro e w2 ⟨p, rfl, h2, hb2⟩
    rw [H0.out]
    obtain ⟨t, h3, hbt, hnt⟩ := h2 H0.out
    have HBT := Lib.hid hbt
    clear h2 hbt
    go_wp2_with fail
    refine (list_any _ w.heap.size _ _ h3 (by omega)).mono ?_
    rintro e w4 ⟨A4, n4, c4, rfl, ho4, hb4⟩
    go_wp2_with fail
    go_ret2
    exact ⟨A4, n4, c4, rfl, by rw [HBT.out]; exact own_base ho4 hb2.size, hb2.trans (hb4.mono hb2.size)⟩
  · have HE := Lib.hid (uin_zero h0)
    have b0 : ((uinP cs bs).2 == 0) = false := by simpa using h0
    have b1 : ((uinP cs bs).2 != 0) = true := by simpa using h0
    rw [HE.out]
    go_enter Try.func53, Try.ntmps53
    go_wp2_with fail
    refine hu.mono ?_
    rintro e w2 ⟨p, rfl, h2, hb2⟩
    clear h2
    go_wp2_with fail
    go_ret2
    exact ⟨none, 0, 0, rfl, own_nil _ _ _, hb2⟩
set_option maxHeartbeats 2000000 in
theorem l23Input_any (w : World) (A : Option Addr) (n c : Nat) (cs : List Cmd) (hr : RdC w A n cs) (hv : isW cs = true) (A1 : Option Addr) (n1 c1 : Nat) (d : Tr) (hd : Rd w A1 n1 (bools d.bits)) (hdn : d.nodes ≤ 900000) : Calls Try.prog 96 #[.slice A n c, .slice A1 n1 c1] w (RetSI w 4 (bools (pkP cs d).1) (pkP cs d).2) := by
  have h80 := (isW_ok hv).1
  have hn1 : n1 ≤ 900000 := by have := hd.1; simp [Tr.bits_len] at this; omega
  have hco := l23CodeWhile_any w A n c cs hr hv
  by_cases h0 : (cdwP cs).2 = 0
  · obtain ⟨hb1, hb2⟩ := pk_bits h0
    rw [pk_ok h80 h0]
    have HBI := Lib.hid hb1
    have HNO := Lib.hid hb2
    have H0 := Lib.hid h0
    clear hb1 hb2 h0 hv
    by_cases hf : (Tr.node (codeC cs) d).nodes ≤ 2000
    · have HQ : Hid (fit2 (.node (codeC cs) d) = ((Tr.node (codeC cs) d).bits, 0)) := Lib.hid (by simp only [fit2, if_pos hf])
      rw [HQ.out]
      go_enter Try.func96, Try.ntmps96
      go_wp2_with fail
      refine hco.mono ?_
      rw [H0.out, HBI.out]
      rintro e w2 ⟨A2, n2, c2, rfl, ho2, hb2⟩
      have hn2 : n2 ≤ 2000 := by have h1 := ho2.1; have h2 := HNO.out; simp [Tr.bits_len] at h1; omega
      go_wp2_with fail
      refine (l21PairT_any _ _ _ _ (codeC cs) (own_rd ho2) (by omega) _ _ _ d (hd.below hb2 (Nat.le_refl _)) (by omega)).mono ?_
      rintro e w3 ⟨A3, n3, c3, rfl, ho3, hb3⟩
      have hn3 : n3 ≤ 2000 := by have h1 := ho3.1; simp only [bools, List.length_map, Tr.bits_len] at h1; omega
      go_wp2_with fail
      refine (l21Fits_any _ _ _ _ hn3).mono ?_
      rintro e w5 ⟨rfl, rfl⟩
      go_wp2_with fail
      go_ret2
      exact ⟨A3, n3, c3, rfl, own_base ho3 hb2.size, hb2.trans (hb3.mono hb2.size)⟩
    · have HQ : Hid (fit2 (.node (codeC cs) d) = ([], 5)) := Lib.hid (by simp only [fit2, if_neg hf])
      rw [HQ.out]
      go_enter Try.func96, Try.ntmps96
      go_wp2_with fail
      refine hco.mono ?_
      rw [H0.out, HBI.out]
      rintro e w2 ⟨A2, n2, c2, rfl, ho2, hb2⟩
      have hn2 : n2 ≤ 2000 := by have h1 := ho2.1; have h2 := HNO.out; simp [Tr.bits_len] at h1; omega
      go_wp2_with fail
      refine (l21PairT_any _ _ _ _ (codeC cs) (own_rd ho2) (by omega) _ _ _ d (hd.below hb2 (Nat.le_refl _)) (by omega)).mono ?_
      rintro e w3 ⟨A3, n3, c3, rfl, ho3, hb3⟩
      have hn3 : ¬ n3 ≤ 2000 := by have h1 := ho3.1; simp only [bools, List.length_map, Tr.bits_len] at h1; omega
      go_wp2_with fail
      refine (l21FitsN_any _ _ _ _ hn3).mono ?_
      rintro e w5 ⟨rfl, rfl⟩
      go_wp2_with fail
      go_ret2
      exact ⟨none, 0, 0, rfl, own_nil _ _ _, hb2.trans (hb3.mono hb2.size)⟩
  · rw [pk_err h80 h0]
    have b0 : ((cdwP cs).2 == 0) = false := by simpa using h0
    have b1 : ((cdwP cs).2 != 0) = true := by simpa using h0
    clear hv
    go_enter Try.func96, Try.ntmps96
    go_wp2_with fail
    refine hco.mono ?_
    rintro e w2 ⟨A2, n2, c2, rfl, ho2, hb2⟩
    go_wp2_with fail
    go_ret2
    exact ⟨none, 0, 0, rfl, own_nil _ _ _, hb2⟩
set_option maxHeartbeats 2000000 in
theorem specUniversalInput_any (w : World) (A0 : Option Addr) (n0 c0 : Nat) (cs : List Cmd) (hr0 : RdC w A0 n0 cs) (hn0 : n0 ≤ 1099511627776) (A1 : Option Addr) (n1 c1 : Nat) (bs : List Bool) (hr1 : Rd w A1 n1 (bools bs)) (hn1 : n1 ≤ 1099511627776) : Calls Try.prog 52 #[.slice A0 n0 c0, .slice A1 n1 c1] w (RetSI w 4 (bools (uinP cs bs).1) (uinP cs bs).2) := by
  cases hv : isW cs with
  | false =>
    rw [uin_bad1 hv]
    have HV := Lib.hid hv
    clear hv
    go_enter Try.func52, Try.ntmps52
    go_wp2_with (go_at_call 90; go_must (refine (l22IsX_any _ _ _ _ _ hr0 hn0).mono ?_; rw [HV.out]; rintro e w2 ⟨rfl, hb2⟩))
    go_ret2
    exact ⟨none, 0, 0, rfl, own_nil _ _ _, hb2⟩
  | true =>
    have HV := Lib.hid hv
    cases ht : isTr bs with
    | false =>
      rw [uin_bad2 ht]
      have HT := Lib.hid ht
      clear hv ht
      go_enter Try.func52, Try.ntmps52
      go_wp2_with (first | (go_at_call 90; go_must (refine (l22IsX_any _ _ _ _ _ hr0 hn0).mono ?_; rw [HV.out]; rintro e w2 ⟨rfl, hb2⟩)) | (go_at_call 58; go_must (refine (l21Is_any _ _ _ _ _ (hr1.below hb2 (Nat.le_refl _)) hn1).mono ?_; rw [HT.out]; rintro e w' ⟨rfl, rfl⟩)))
      go_ret2
      exact ⟨none, 0, 0, rfl, own_nil _ _ _, hb2⟩
    | true =>
      have HT := Lib.hid ht
      obtain ⟨t, rfl, htn⟩ := isTr_tree ht
      rw [uin_ok hv htn]
      clear hv ht
      go_enter Try.func52, Try.ntmps52
      go_wp2_with (first | (go_at_call 90; go_must (refine (l22IsX_any _ _ _ _ _ hr0 hn0).mono ?_; rw [HV.out]; rintro e w2 ⟨rfl, hb2⟩)) | (go_at_call 58; go_must (refine (l21Is_any _ _ _ _ _ (hr1.below hb2 (Nat.le_refl _)) hn1).mono ?_; rw [HT.out]; rintro e w' ⟨rfl, rfl⟩)))
      refine (l23Input_any _ _ _ _ cs (hr0.below hb2 (Nat.le_refl _)) HV.out _ _ _ t (hr1.below hb2 (Nat.le_refl _)) (by omega)).mono ?_
      rintro e w4 ⟨A4, n4, c4, rfl, ho4, hb4⟩
      generalize pkP cs t = q at *
      obtain ⟨qb, qc⟩ := q
      go_wp2_with fail
      go_ret2
      exact ⟨A4, n4, c4, rfl, own_base ho4 hb2.size, hb2.trans (hb4.mono hb2.size)⟩
end Go.Proofs.Ytilbgbibddjdcaa
