/- CodeWhile of the reference; UniversalInput and MakePackage of both. -/
import Derived.Test.YtaadobggenbbdaaGreatDoorCdS
import Derived.Test.YtaadobggenbbdaaGreatDoorCdK
namespace Go.Proofs.YtaadobggenbbdaaGreatDoor
open Go.RowKit
set_option linter.unusedVariables false
set_option linter.unusedSimpArgs false
set_option maxHeartbeats 400000 in
theorem l21FitsN_any (w : World) (A : Option Addr) (n c : Nat) (hn : ¬ n ≤ 2000) : Calls Tryz.prog 130 #[.slice A n c] w fun e w' => e = .returned (.tuple #[.slice none 0 0, .int .i64 5]) ∧ w = w' := by
  have h : (2000 : Int) < (n : Int) := by omega
  go_enter Tryz.func130, Tryz.ntmps130
  go_wp2_with fail
  go_ret2
  exact ⟨rfl, rfl⟩
theorem l23ListAll_any (w : World) (A : Option Addr) (n c : Nat) (cs : List Cmd) (hr : RdC w A n cs) (hv : isW cs = true) : Calls Tryz.prog 131 #[.slice A n c, .int .i64 0, .int .i64 n] w (RetS w 4 (bools (codeC cs).bits)) := by
  obtain ⟨h80, hok⟩ := isW_ok hv
  have hl := hr.len
  have hs : seg cs 0 n = cs := by rw [← hl]; exact seg_all cs
  have h := l23List_any (n - 0) w A n c cs 0 n hr (by omega) rfl (Nat.zero_le _) (Nat.le_refl _) (by rw [hs]; exact hok)
  rw [hs] at h
  exact h
set_option maxHeartbeats 2000000 in
theorem l23CodeWhile_any (w : World) (A : Option Addr) (n c : Nat) (cs : List Cmd) (hr : RdC w A n cs) (hv : isW cs = true) : Calls Tryz.prog 103 #[.slice A n c] w (RetSI w 4 (bools (cdwP cs).1) (cdwP cs).2) := by
  have HV := Lib.hid hv
  have hn : n ≤ 1000000 := by have h1 := (isW_ok hv).1; have h2 := hr.len; omega
  cases hz : ozW cs with
  | false =>
    have HQ := Lib.hid (cdw_var hv hz)
    have HZ := Lib.hid hz
    rw [HQ.out]
    clear hz hv
    go_enter Tryz.func103, Tryz.ntmps103
    go_wp2_with (go_at_call 129; go_must (refine (l23OnlyAll_any _ _ _ _ _ hr hn).mono ?_; rw [HZ.out]; rintro e w2 ⟨rfl, hb2⟩))
    go_ret2
    exact ⟨none, 0, 0, rfl, own_nil _ _ _, hb2⟩
  | true =>
    have HZ := Lib.hid hz
    by_cases hf : (codeC cs).nodes ≤ 2000
    · have HQ := Lib.hid (cdw_ok hv hz hf)
      rw [HQ.out]
      clear hz hv
      go_enter Tryz.func103, Tryz.ntmps103
      go_wp2_with (go_at_call 129; go_must (refine (l23OnlyAll_any _ _ _ _ _ hr hn).mono ?_; rw [HZ.out]; rintro e w2 ⟨rfl, hb2⟩))
      refine (l23ListAll_any _ _ _ _ _ (hr.below hb2 (Nat.le_refl _)) HV.out).mono ?_
      rintro e w3 ⟨A3, n3, c3, rfl, ho3, hb3⟩
      have hn3 : n3 ≤ 2000 := by have h1 := ho3.1; simp [Tr.bits_len] at h1; omega
      go_wp2_with fail
      refine (l21Fits_any _ _ _ _ hn3).mono ?_
      rintro e w5 ⟨rfl, rfl⟩
      go_wp2_with fail
      go_ret2
      exact ⟨A3, n3, c3, rfl, own_base ho3 hb2.size, hb2.trans (hb3.mono hb2.size)⟩
    · have HQ := Lib.hid (cdw_full hv hz hf)
      rw [HQ.out]
      clear hz hv
      go_enter Tryz.func103, Tryz.ntmps103
      go_wp2_with (go_at_call 129; go_must (refine (l23OnlyAll_any _ _ _ _ _ hr hn).mono ?_; rw [HZ.out]; rintro e w2 ⟨rfl, hb2⟩))
      refine (l23ListAll_any _ _ _ _ _ (hr.below hb2 (Nat.le_refl _)) HV.out).mono ?_
      rintro e w3 ⟨A3, n3, c3, rfl, ho3, hb3⟩
      have hn3 : ¬ n3 ≤ 2000 := by have h1 := ho3.1; simp [Tr.bits_len] at h1; omega
      go_wp2_with fail
      refine (l21FitsN_any _ _ _ _ hn3).mono ?_
      rintro e w5 ⟨rfl, rfl⟩
      go_wp2_with fail
      go_ret2
      exact ⟨none, 0, 0, rfl, own_nil _ _ _, hb2.trans (hb3.mono hb2.size)⟩
set_option maxHeartbeats 2000000 in
theorem specCodeWhile_any (w : World) (A : Option Addr) (n c : Nat) (cs : List Cmd) (hr : RdC w A n cs) (hn : n ≤ 1099511627776) : Calls Tryz.prog 76 #[.slice A n c] w (RetSI w 4 (bools (cdwP cs).1) (cdwP cs).2) := by
  cases hv : isW cs with
  | false =>
    have HV := Lib.hid hv
    rw [cdw_bad hv]
    clear hv
    go_enter Tryz.func76, Tryz.ntmps76
    go_wp2_with (go_at_call 33; go_must (refine (l22IsX_any _ _ _ _ _ hr hn).mono ?_; rw [HV.out]; rintro e w2 ⟨rfl, hb2⟩))
    go_ret2
    exact ⟨none, 0, 0, rfl, own_nil _ _ _, hb2⟩
  | true =>
    have HV := Lib.hid hv
    clear hv
    generalize hq : cdwP cs = q
    have HQ := Lib.hid hq
    clear hq
    obtain ⟨qb, qc⟩ := q
    go_enter Tryz.func76, Tryz.ntmps76
    go_wp2_with (go_at_call 33; go_must (refine (l22IsX_any _ _ _ _ _ hr hn).mono ?_; rw [HV.out]; rintro e w2 ⟨rfl, hb2⟩))
    refine (l23CodeWhile_any _ _ _ _ _ (hr.below hb2 (Nat.le_refl _)) HV.out).mono ?_
    rw [HQ.out]
    rintro e w3 ⟨A3, n3, c3, rfl, ho3, hb3⟩
    go_wp2_with fail
    go_ret2
    exact ⟨A3, n3, c3, rfl, own_base ho3 hb2.size, hb2.trans (hb3.mono hb2.size)⟩
theorem cdw_len (cs : List Cmd) : (cdwP cs).1.length ≤ 1000000 := by
  unfold cdwP
  split
  · split
    · split
      · rw [Tr.bits_len]; omega
      · simp
    · simp
  · simp
def fit2 (t : Tr) : List Bool × Int := if t.nodes ≤ 2000 then (t.bits, 0) else ([], 5)
theorem fit2_len (t : Tr) : (fit2 t).1.length ≤ 1000000 := by
  unfold fit2
  split
  · rw [Tr.bits_len]; omega
  · simp
def pkP (cs : List Cmd) (d : Tr) : List Bool × Int := if cs.length ≤ 80 then (if (cdwP cs).2 = 0 then fit2 (.node (codeC cs) d) else ([], (cdwP cs).2)) else ([], 5)
theorem pk_long {cs : List Cmd} {d : Tr} (h : ¬ cs.length ≤ 80) : pkP cs d = ([], 5) := by simp only [pkP, if_neg h]
theorem pk_err {cs : List Cmd} {d : Tr} (h : cs.length ≤ 80) (h2 : (cdwP cs).2 ≠ 0) : pkP cs d = ([], (cdwP cs).2) := by simp only [pkP, if_pos h, if_neg h2]
theorem pk_ok {cs : List Cmd} {d : Tr} (h : cs.length ≤ 80) (h2 : (cdwP cs).2 = 0) : pkP cs d = fit2 (.node (codeC cs) d) := by simp only [pkP, if_pos h, if_pos h2]
theorem pk_len (cs : List Cmd) (d : Tr) : (pkP cs d).1.length ≤ 1000000 := by
  unfold pkP
  split
  · split
    · exact fit2_len _
    · simp
  · simp
theorem checked2_any (w : World) (lo : Nat) (v : Value) (t : Tr) (h : IsT w lo w.heap.size v t) (hn : t.nodes ≤ 1000000) : Calls Tryz.prog 47 #[v] w (RetSI w 4 (bools (fit2 t).1) (fit2 t).2) := by
  have hc := checked_any w lo v t h hn
  unfold fit2
  split
  · rename_i hf
    simpa [hf] using hc
  · rename_i hf
    simpa [hf] using hc
set_option maxHeartbeats 2000000 in
theorem packaged_any (w : World) (lo : Nat) (A : Option Addr) (n c : Nat) (cs : List Cmd) (v : Value) (d : Tr) (hr : RdC w A n cs) (hn : n ≤ 1099511627776) (hnc : n ≤ c) (hd : IsT w lo w.heap.size v d) (hlo : lo ≤ w.heap.size) (hdn : d.nodes ≤ 900000) : Calls Tryz.prog 41 #[.slice A n c, v] w (RetSI w 4 (bools (pkP cs d).1) (pkP cs d).2) := by
  obtain ⟨pd, rfl⟩ := hd.isPtr
  have hl := hr.len
  by_cases h80 : n ≤ 80
  · have h80' : cs.length ≤ 80 := by omega
    have hcd := codedWhile_any w A n c cs hr hn hnc
    by_cases h0 : (cdwP cs).2 = 0
    · have hz := cdw_zero h0
      rw [pk_ok h80' h0]
      have HF := Lib.hid hz.2
      have H0 := Lib.hid h0
      clear hl h80' h0 hz
      go_enter Tryz.func41, Tryz.ntmps41
      go_wp2_with fail
      refine hcd.mono ?_
      rintro e w2 ⟨p, rfl, h2, hb2⟩
      rw [H0.out]
      have h3 := (h2 H0.out).wide (lo' := lo) hlo (Nat.le_refl _)
      have hd2 := hd.up hb2
      clear h2
      go_wp2_with fail
      refine (pair_any _ lo _ _ _ _ h3 hd2 (Nat.le_trans hlo hb2.size) (by have := HF.out; omega) (by omega)).mono ?_
      rintro e w3 ⟨v3, rfl, h4, hb3⟩
      obtain ⟨p3, rfl⟩ := h4.isPtr
      go_wp2_with fail
      refine (checked2_any _ lo _ _ h4 (by have := HF.out; simp only [Tr.nodes]; omega)).mono ?_
      rintro e w4 ⟨A4, n4, c4, rfl, ho4, hb4⟩
      have HB3 := Lib.hid (hb2.trans (hb3.mono hb2.size))
      generalize fit2 (.node (codeC cs) d) = q at *
      obtain ⟨qb, qc⟩ := q
      go_wp2_with fail
      go_ret2
      exact ⟨A4, n4, c4, rfl, own_base ho4 HB3.out.size, HB3.out.trans (hb4.mono HB3.out.size)⟩
    · rw [pk_err h80' h0]
      have b0 : ((cdwP cs).2 == 0) = false := by simpa using h0
      have b1 : ((cdwP cs).2 != 0) = true := by simpa using h0
      clear hl h80'
      go_enter Tryz.func41, Tryz.ntmps41
      go_wp2_with fail
      refine hcd.mono ?_
      rintro e w2 ⟨p, rfl, h2, hb2⟩
      clear h2
      go_wp2_with fail
      go_ret2
      exact ⟨none, 0, 0, rfl, own_nil _ _ _, hb2⟩
  · rw [pk_long (by omega)]
    clear hl
    go_enter Tryz.func41, Tryz.ntmps41
    go_wp2_with fail
    go_ret2
    exact ⟨none, 0, 0, rfl, own_nil _ _ _, Below.refl _ _⟩
def uinP (cs : List Cmd) (bs : List Bool) : List Bool × Int := if isW cs && isTr bs then pkP cs (treeB bs) else ([], 1)
theorem uin_bad1 {cs : List Cmd} {bs : List Bool} (h : isW cs = false) : uinP cs bs = ([], 1) := by simp [uinP, h]
theorem uin_bad2 {cs : List Cmd} {bs : List Bool} (h : isTr bs = false) : uinP cs bs = ([], 1) := by simp [uinP, h]
theorem uin_ok {cs : List Cmd} {t : Tr} (h : isW cs = true) (ht : t.nodes ≤ 2000) : uinP cs t.bits = pkP cs t := by simp [uinP, h, isTr_bits ht, treeB_bits]
theorem uin_len (cs : List Cmd) (bs : List Bool) : (uinP cs bs).1.length ≤ 1000000 := by
  unfold uinP
  split
  · exact pk_len _ _
  · simp
theorem pk_bits {cs : List Cmd} (h : (cdwP cs).2 = 0) : (cdwP cs).1 = (codeC cs).bits ∧ (codeC cs).nodes ≤ 2000 := by
  obtain ⟨h1, h2⟩ := cdw_zero h
  exact ⟨by rw [h1], h2⟩
set_option maxHeartbeats 2000000 in
theorem l24Make_any (w : World) (A : Option Addr) (n c : Nat) (cs : List Cmd) (hr : RdC w A n cs) (hn : n ≤ 1099511627776) (hv : isW cs = true) (A1 : Option Addr) (n1 c1 : Nat) (d : Tr) (hd : Rd w A1 n1 (bools d.bits)) (hdn : d.nodes ≤ 900000) : Calls Tryz.prog 35 #[.slice A n c, .slice A1 n1 c1] w (RetSI w 4 (bools (pkP cs d).1) (pkP cs d).2) := by
  have HV := Lib.hid hv
  have h80 := (isW_ok hv).1
  have hn1 : n1 ≤ 900000 := by have := hd.1; simp [Tr.bits_len] at this; omega
  have HN1 : Hid (n1 = d.nodes) := Lib.hid (by have := hd.1; simp [Tr.bits_len] at this; exact this.symm)
  have hco : Hid (∀ w', Below w.heap.size w w' → Calls Tryz.prog 48 #[.slice A n c] w' (RetSI w' 4 (bools (cdwP cs).1) (cdwP cs).2)) := Lib.hid (fun w' hb => by
    have hr' := hr.below hb (Nat.le_refl _)
    generalize hq : cdwP cs = q
    have HQ := Lib.hid hq
    clear hq
    obtain ⟨qb, qc⟩ := q
    go_enter Tryz.func48, Tryz.ntmps48
    go_wp2_with (go_at_call 33; go_must (refine (l22IsX_any _ _ _ _ _ hr' hn).mono ?_; rw [HV.out]; rintro e w2 ⟨rfl, hb2⟩))
    refine (specCodeWhile_any _ _ _ _ _ (hr'.below hb2 (Nat.le_refl _)) hn).mono ?_
    rw [HQ.out]
    rintro e w3 ⟨A3, n3, c3, rfl, ho3, hb3⟩
    go_wp2_with fail
    go_ret2
    exact ⟨A3, n3, c3, rfl, own_base ho3 hb2.size, hb2.trans (hb3.mono hb2.size)⟩)
  by_cases h0 : (cdwP cs).2 = 0
  · obtain ⟨hb1, hb2⟩ := pk_bits h0
    rw [pk_ok h80 h0]
    have HBI := Lib.hid hb1
    have HNO := Lib.hid hb2
    have H0 := Lib.hid h0
    clear hb1 hb2 h0 hv
    by_cases hf : (Tr.node (codeC cs) d).nodes ≤ 2000
    · have HQ : Hid (fit2 (.node (codeC cs) d) = ((Tr.node (codeC cs) d).bits, 0)) := Lib.hid (by simp only [fit2, if_pos hf])
      rw [HQ.out]
      go_enter Tryz.func35, Tryz.ntmps35
      go_wp2_with fail
      refine (hco.out _ (Below.refl _ _)).mono ?_
      rw [H0.out, HBI.out]
      rintro e w2 ⟨A2, n2, c2, rfl, ho2, hb2⟩
      have hn2 : n2 ≤ 2000 := by have h1 := ho2.1; have h2 := HNO.out; simp [Tr.bits_len] at h1; omega
      go_wp2_with fail
      refine (l21PairT_any _ _ _ _ (codeC cs) (own_rd ho2) (by omega) _ _ _ d (hd.below hb2 (Nat.le_refl _)) (by omega)).mono ?_
      rintro e w3 ⟨A3, n3, c3, rfl, ho3, hb3⟩
      have hn3 : n3 ≤ 2000 := by have h1 := ho3.1; simp only [bools, List.length_map, Tr.bits_len] at h1; omega
      go_wp2_with fail
      go_ret2
      exact ⟨A3, n3, c3, rfl, own_base ho3 hb2.size, hb2.trans (hb3.mono hb2.size)⟩
    · have HQ : Hid (fit2 (.node (codeC cs) d) = ([], 5)) := Lib.hid (by simp only [fit2, if_neg hf])
      rw [HQ.out]
      go_enter Tryz.func35, Tryz.ntmps35
      go_wp2_with fail
      refine (hco.out _ (Below.refl _ _)).mono ?_
      rw [H0.out, HBI.out]
      rintro e w2 ⟨A2, n2, c2, rfl, ho2, hb2⟩
      have hn2 : n2 ≤ 2000 := by have h1 := ho2.1; have h2 := HNO.out; simp [Tr.bits_len] at h1; omega
      go_wp2_with fail
      refine (l21PairT_any _ _ _ _ (codeC cs) (own_rd ho2) (by omega) _ _ _ d (hd.below hb2 (Nat.le_refl _)) (by omega)).mono ?_
      rintro e w3 ⟨A3, n3, c3, rfl, ho3, hb3⟩
      have hn3 : ¬ n3 ≤ 2000 := by have h1 := ho3.1; simp only [bools, List.length_map, Tr.bits_len] at h1; omega
      go_wp2_with fail
      go_ret2
      exact ⟨none, 0, 0, rfl, own_nil _ _ _, hb2.trans (hb3.mono hb2.size)⟩
  · rw [pk_err h80 h0]
    have b0 : ((cdwP cs).2 == 0) = false := by simpa using h0
    have b1 : ((cdwP cs).2 != 0) = true := by simpa using h0
    clear hv
    go_enter Tryz.func35, Tryz.ntmps35
    go_wp2_with fail
    refine (hco.out _ (Below.refl _ _)).mono ?_
    rintro e w2 ⟨A2, n2, c2, rfl, ho2, hb2⟩
    go_wp2_with fail
    go_ret2
    exact ⟨none, 0, 0, rfl, own_nil _ _ _, hb2⟩
end Go.Proofs.YtaadobggenbbdaaGreatDoor
