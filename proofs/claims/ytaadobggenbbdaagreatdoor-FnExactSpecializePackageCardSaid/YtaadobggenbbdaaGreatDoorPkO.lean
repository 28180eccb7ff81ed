/- MutualPackages: the program and the reference. -/
import Derived.Test.YtaadobggenbbdaaGreatDoorPkN
namespace Go.Proofs.YtaadobggenbbdaaGreatDoor
open Go.RowKit
set_option linter.unusedVariables false
set_option linter.unusedSimpArgs false
attribute [local go_sem ↓] Go.wp_at_zero Go.wp_at_succ
theorem ok_tMut : TxtOk tMut ⟨#[48, 61, 40, 40, 40, 104, 104, 48, 46, 104, 48, 41, 46, 40, 116, 104, 48, 46, 104, 48, 41, 41, 46, 116, 48, 41]⟩ := ⟨by kernel_rfl, by kernel_rfl, by decide, by decide⟩
theorem src_tMut : SrcOk tMut ⟨#[48, 61, 40, 40, 40, 104, 104, 48, 46, 104, 48, 41, 46, 40, 116, 104, 48, 46, 104, 48, 41, 41, 46, 116, 48, 41]⟩ := ⟨by kernel_rfl, by decide, by decide⟩
/-- The packages out of two codes. -/
def mutT (C D : Tr) : List Bool × List Bool × Int :=
  if (Tr.node C (.node C D)).nodes ≤ 2000 ∧ (Tr.node D (.node C D)).nodes ≤ 2000 then ((Tr.node C (.node C D)).bits, (Tr.node D (.node C D)).bits, 0) else ([], [], 5)
def mutP (cs ds : List Cmd) : List Bool × List Bool × Int :=
  if isW cs = true ∧ isW ds = true then (if ozW cs = true ∧ ozW ds = true then (if scP (tMut.cmd :: cs) = 0 ∧ scP (tMut.cmd :: ds) = 0 then mutT (codeC (tMut.cmd :: cs)) (codeC (tMut.cmd :: ds)) else ([], [], 5)) else ([], [], 2)) else ([], [], 1)
theorem mutT_len (C D : Tr) : (mutT C D).1.length ≤ 1000000 ∧ (mutT C D).2.1.length ≤ 1000000 := by
  unfold mutT
  split
  · rename_i h
    simp only [Tr.bits_len]
    omega
  · simp
theorem mut_len (cs ds : List Cmd) : (mutP cs ds).1.length ≤ 1000000 ∧ (mutP cs ds).2.1.length ≤ 1000000 := by
  unfold mutP
  split
  · split
    · split
      · exact mutT_len _ _
      · simp
    · simp
  · simp
theorem mut_len0 (cs ds : List Cmd) : (mutP cs ds).1.length ≤ 1000000 := (mut_len cs ds).1
theorem mut_len1 (cs ds : List Cmd) : (mutP cs ds).2.1.length ≤ 1000000 := (mut_len cs ds).2
def RetSSI (w : World) (a b : List Bool) (code : Int) (e : Ending) (w' : World) : Prop :=
  ∃ (AR0 : Option Addr) (nR0 cR0 : Nat) (AR1 : Option Addr) (nR1 cR1 : Nat), e = .returned (.tuple #[.slice AR0 nR0 cR0, .slice AR1 nR1 cR1, .int .i64 code]) ∧ w'.ownsRow w.heap.size 4 1 (.slice AR0 nR0 cR0) nR0 (bools a) ∧ w'.ownsRow w.heap.size 4 1 (.slice AR1 nR1 cR1) nR1 (bools b) ∧ (∀ k, Fo (.slice AR0 nR0 cR0) k → Fo (.slice AR1 nR1 cR1) k → False) ∧ Below w.heap.size w w'
theorem ssi_no {w w' : World} (k : Int) (hb : Below w.heap.size w w') : RetSSI w [] [] k (.returned (.tuple #[.slice none 0 0, .slice none 0 0, .int .i64 k])) w' :=
  ⟨none, 0, 0, none, 0, 0, rfl, own_nil _ _ _, own_nil _ _ _, fun q h _ => by simp [Fo, Value.ownBlock] at h, hb⟩
set_option maxHeartbeats 8000000 in
set_option maxRecDepth 100000 in
theorem implMutualPackages_any (w : World) (A : Option Addr) (n c : Nat) (cs : List Cmd) (hr : RdC w A n cs) (hn : n ≤ 1099511627776) (hnc : n ≤ c) (A' : Option Addr) (n' c' : Nat) (ds : List Cmd) (hr' : RdC w A' n' ds) (hn' : n' ≤ 1099511627776) (hnc' : n' ≤ c') :
    Calls Tryz.prog 23 #[.slice A n c, .slice A' n' c'] w (RetSSI w (mutP cs ds).1 (mutP cs ds).2.1 (mutP cs ds).2.2) := by
  have hv1 := ValidWhileX_any w A n c cs hr hn hnc
  have HV2f0 := fun (w2 : World) (hb : Below w.heap.size w w2) => ValidWhileX_any w2 A' n' c' ds (hr'.below hb (Nat.le_refl _)) hn' hnc'
  cases hW : isW cs with
  | false =>
    have HM : Hid (mutP cs ds = ([], [], 1)) := Lib.hid (by unfold mutP; rw [if_neg (by rw [hW]; simp)])
    rw [hW] at hv1
    have HV1 := Lib.hid hv1
    clear hr hr' hW hv1 HV2f0
    go_enter Tryz.func23, Tryz.ntmps23
    go_wp2_with (first
    | (go_at_call 39
       have hq := HV1.out
       refine hq.mono ?_
       rintro e w1 ⟨rfl, hb⟩
       have HB1 : Hid (Below w.heap.size w w1) := Lib.hid (hb)
       clear hb
       clear hq HV1))
    rw [HM.out]
    refine bodyPost_ret (v := .tuple #[.slice none 0 0, .slice none 0 0, .int .i64 1]) (by simp [results, Tryz.results23, go_sem]) rfl (ssi_no _ HB1.out)
  | true =>
  rw [hW] at hv1
  have HV1 := Lib.hid hv1
  have hn80 : n ≤ 80 := by have h1 := hr.len; simp [isW] at hW; omega
  cases hW2 : isW ds with
  | false =>
    have HM : Hid (mutP cs ds = ([], [], 1)) := Lib.hid (by unfold mutP; rw [if_neg (by rw [hW2]; simp)])
    rw [hW2] at HV2f0
    have HV2f := Lib.hid HV2f0
    clear hr hr' hW hW2 hv1 HV2f0
    go_enter Tryz.func23, Tryz.ntmps23
    go_wp2_with (first
    | (go_at_call 39
       have hq := HV1.out
       refine hq.mono ?_
       rintro e w1 ⟨rfl, hb⟩
       have HB1 : Hid (Below w.heap.size w w1) := Lib.hid (hb)
       have HV2 := Lib.hid (HV2f.out w1 HB1.out)
       clear hb
       clear hq HV1)
    | (go_at_call 39
       have hq := HV2.out
       refine hq.mono ?_
       rintro e w2 ⟨rfl, hb⟩
       have HB2 : Hid (Below w.heap.size w w2) := Lib.hid (bqcP hb HB1.out)
       clear hb
       clear hq HV2))
    rw [HM.out]
    refine bodyPost_ret (v := .tuple #[.slice none 0 0, .slice none 0 0, .int .i64 1]) (by simp [results, Tryz.results23, go_sem]) rfl (ssi_no _ HB2.out)
  | true =>
  rw [hW2] at HV2f0
  have HV2f := Lib.hid HV2f0
  have hn80' : n' ≤ 80 := by have h1 := hr'.len; simp [isW] at hW2; omega
  have HZ1f := Lib.hid (fun (w2 : World) (hb : Below w.heap.size w w2) => zeroCode_any w2 A n c cs (hr.below hb (Nat.le_refl _)) (by omega))
  have HZ2f := Lib.hid (fun (w2 : World) (hb : Below w.heap.size w w2) => zeroCode_any w2 A' n' c' ds (hr'.below hb (Nat.le_refl _)) (by omega))
  clear hv1 HV2f0
  cases hO : ozW cs with
  | false =>
    have HM : Hid (mutP cs ds = ([], [], 2)) := Lib.hid (by unfold mutP; rw [if_pos ⟨hW, hW2⟩, if_neg (by rw [hO]; simp)])
    have HO1 := Lib.hid hO
    clear hr hr' hW hW2 hO
    go_enter Tryz.func23, Tryz.ntmps23
    go_wp2_with (first
    | (go_at_call 39
       have hq := HV1.out
       refine hq.mono ?_
       rintro e w1 ⟨rfl, hb⟩
       have HB1 : Hid (Below w.heap.size w w1) := Lib.hid (hb)
       have HV2 := Lib.hid (HV2f.out w1 HB1.out)
       clear hb
       clear hq HV1)
    | (go_at_call 39
       have hq := HV2.out
       refine hq.mono ?_
       rintro e w2 ⟨rfl, hb⟩
       have HB2 : Hid (Below w.heap.size w w2) := Lib.hid (bqcP hb HB1.out)
       have HZ1 := Lib.hid (HZ1f.out w2 HB2.out)
       rw [HO1.out] at HZ1
       clear hb
       clear hq HV2)
    | (go_at_call 40
       have hq := HZ1.out
       refine hq.mono ?_
       rintro e w3 ⟨rfl, hb⟩
       have HB3 : Hid (Below w.heap.size w w3) := Lib.hid (bqcP hb HB2.out)
       clear hb
       clear hq HZ1))
    rw [HM.out]
    refine bodyPost_ret (v := .tuple #[.slice none 0 0, .slice none 0 0, .int .i64 2]) (by simp [results, Tryz.results23, go_sem]) rfl (ssi_no _ HB3.out)
  | true =>
  have HO1 := Lib.hid hO
  cases hO2 : ozW ds with
  | false =>
    have HM : Hid (mutP cs ds = ([], [], 2)) := Lib.hid (by unfold mutP; rw [if_pos ⟨hW, hW2⟩, if_neg (by rw [hO2]; simp)])
    have HO2 := Lib.hid hO2
    clear hr hr' hW hW2 hO hO2
    go_enter Tryz.func23, Tryz.ntmps23
    go_wp2_with (first
    | (go_at_call 39
       have hq := HV1.out
       refine hq.mono ?_
       rintro e w1 ⟨rfl, hb⟩
       have HB1 : Hid (Below w.heap.size w w1) := Lib.hid (hb)
       have HV2 := Lib.hid (HV2f.out w1 HB1.out)
       clear hb
       clear hq HV1)
    | (go_at_call 39
       have hq := HV2.out
       refine hq.mono ?_
       rintro e w2 ⟨rfl, hb⟩
       have HB2 : Hid (Below w.heap.size w w2) := Lib.hid (bqcP hb HB1.out)
       have HZ1 := Lib.hid (HZ1f.out w2 HB2.out)
       rw [HO1.out] at HZ1
       clear hb
       clear hq HV2)
    | (go_at_call 40
       have hq := HZ1.out
       refine hq.mono ?_
       rintro e w3 ⟨rfl, hb⟩
       have HB3 : Hid (Below w.heap.size w w3) := Lib.hid (bqcP hb HB2.out)
       have HZ2 := Lib.hid (HZ2f.out w3 HB3.out)
       rw [HO2.out] at HZ2
       clear hb
       clear hq HZ1)
    | (go_at_call 40
       have hq := HZ2.out
       refine hq.mono ?_
       rintro e w4 ⟨rfl, hb⟩
       have HB4 : Hid (Below w.heap.size w w4) := Lib.hid (bqcP hb HB3.out)
       clear hb
       clear hq HZ2))
    rw [HM.out]
    refine bodyPost_ret (v := .tuple #[.slice none 0 0, .slice none 0 0, .int .i64 2]) (by simp [results, Tryz.results23, go_sem]) rfl (ssi_no _ HB4.out)
  | true =>
  have HO2 := Lib.hid hO2
  have HS1f := Lib.hid (fun (w2 : World) (hb : Below w.heap.size w w2) => selfCode_any tMut _ ok_tMut w2 A n c cs (hr.below hb (Nat.le_refl _)) (by omega))
  have HS2f := Lib.hid (fun (w2 : World) (hb : Below w.heap.size w w2) => selfCode_any tMut _ ok_tMut w2 A' n' c' ds (hr'.below hb (Nat.le_refl _)) (by omega))
  obtain ⟨k1, hk1⟩ : ∃ k, k = scP (tMut.cmd :: cs) := ⟨_, rfl⟩
  obtain ⟨k2, hk2⟩ : ∃ k, k = scP (tMut.cmd :: ds) := ⟨_, rfl⟩
  have HK1 := Lib.hid hk1; have HK2 := Lib.hid hk2
  by_cases h12 : k1 = 0 ∧ k2 = 0
  · obtain ⟨h1, h2⟩ := h12
    have HM : Hid (mutP cs ds = mutT (codeC (tMut.cmd :: cs)) (codeC (tMut.cmd :: ds))) := Lib.hid (by unfold mutP; rw [if_pos ⟨hW, hW2⟩, if_pos ⟨hO, hO2⟩, if_pos ⟨by rw [← hk1]; exact h1, by rw [← hk2]; exact h2⟩])
    have HN1 := Lib.hid (sc_nodes (hk1.symm.trans h1)); have HN2 := Lib.hid (sc_nodes (hk2.symm.trans h2))
    subst h1 h2
    clear hr hr' hW hW2 hO hO2 hk1 hk2
    go_enter Tryz.func23, Tryz.ntmps23
    go_upto_region 10 with (first
    | (go_at_call 39
       have hq := HV1.out
       refine hq.mono ?_
       rintro e w1 ⟨rfl, hb⟩
       have HB1 : Hid (Below w.heap.size w w1) := Lib.hid (hb)
       have HV2 := Lib.hid (HV2f.out w1 HB1.out)
       clear hb
       clear hq HV1)
    | (go_at_call 39
       have hq := HV2.out
       refine hq.mono ?_
       rintro e w2 ⟨rfl, hb⟩
       have HB2 : Hid (Below w.heap.size w w2) := Lib.hid (bqcP hb HB1.out)
       have HZ1 := Lib.hid (HZ1f.out w2 HB2.out)
       rw [HO1.out] at HZ1
       clear hb
       clear hq HV2)
    | (go_at_call 40
       have hq := HZ1.out
       refine hq.mono ?_
       rintro e w3 ⟨rfl, hb⟩
       have HB3 : Hid (Below w.heap.size w w3) := Lib.hid (bqcP hb HB2.out)
       have HZ2 := Lib.hid (HZ2f.out w3 HB3.out)
       rw [HO2.out] at HZ2
       clear hb
       clear hq HZ1)
    | (go_at_call 40
       have hq := HZ2.out
       refine hq.mono ?_
       rintro e w4 ⟨rfl, hb⟩
       have HB4 : Hid (Below w.heap.size w w4) := Lib.hid (bqcP hb HB3.out)
       have HS1 := Lib.hid (HS1f.out w4 HB4.out)
       clear hb
       clear hq HZ2)
    | (go_at_call 45
       have hq := HS1.out
       refine hq.mono ?_
       rintro e w5 ⟨p5, rfl, hI, hb⟩
       have HIp5 := Lib.hid hI
       have HB5 : Hid (Below w.heap.size w w5) := Lib.hid (bqcP hb HB4.out)
       have HZ5 : Hid (w4.heap.size ≤ w5.heap.size) := Lib.hid hb.size
       have HBW5 := Lib.hid hb
       have HS2 := Lib.hid (HS2f.out w5 HB5.out)
       rw [← HK1.out]
       clear hI hb hq HS1)
    | (go_at_call 45
       have hq := HS2.out
       refine hq.mono ?_
       rintro e w6 ⟨p6, rfl, hI, hb⟩
       have HIp6 := Lib.hid hI
       have HB6 : Hid (Below w.heap.size w w6) := Lib.hid (bqcP hb HB5.out)
       have HZ6 : Hid (w5.heap.size ≤ w6.heap.size) := Lib.hid hb.size
       have HBW6 := Lib.hid hb
       rw [← HK2.out]
       clear hI hb hq HS2))
    have HC5 := Lib.hid (((HIp5.out HK1.out.symm).up HBW6.out).wide (lo' := w4.heap.size) (Nat.le_refl _) (Nat.le_refl _))
    have HD6 := Lib.hid ((HIp6.out HK2.out.symm).wide (lo' := w4.heap.size) HZ5.out (Nat.le_refl _))
    have HL6 : Hid (w4.heap.size ≤ w6.heap.size) := Lib.hid (Nat.le_trans HZ5.out HZ6.out)
    clear HIp5 HIp6 HK1 HK2 HBW5
    generalize codeC (tMut.cmd :: cs) = C at *
    generalize codeC (tMut.cmd :: ds) = D at *
    go_upto_region 11 with (go_at_call 46
                            have hh := pair_any w6 w4.heap.size _ _ _ _ HC5.out HD6.out HL6.out (by have := HN1.out; omega) (by have := HN2.out; omega)
                            refine hh.mono ?_
                            rintro e w7 ⟨v7, rfl, hI, hb⟩
                            obtain ⟨p7, rfl⟩ := hI.isPtr
                            have H7 := Lib.hid hI
                            have HC7 := Lib.hid (HC5.out.up hb)
                            have HD7 := Lib.hid (HD6.out.up hb)
                            have HB7 := Lib.hid (bqcP hb HB6.out)
                            have HL7 : Hid (w4.heap.size ≤ w7.heap.size) := Lib.hid (Nat.le_trans HL6.out hb.size)
                            clear hh hI hb)
    obtain ⟨f1, hf1⟩ : ∃ f, f = fit2 (.node C (.node C D)) := ⟨_, rfl⟩
    have HF1 := Lib.hid hf1
    obtain ⟨f1b, f1c⟩ := f1
    go_upto_region 12 with (first
      | (go_at_call 46
         have hh := pair_any w7 w4.heap.size _ _ _ _ HC7.out H7.out HL7.out (by have := HN1.out; omega) (by have := HN1.out; have := HN2.out; simp only [Tr.nodes]; omega)
         refine hh.mono ?_
         rintro e w8 ⟨v8, rfl, hI, hb⟩
         obtain ⟨p8, rfl⟩ := hI.isPtr
         have H8 := Lib.hid hI
         have HD8 := Lib.hid (HD7.out.up hb)
         have HT8 := Lib.hid (H7.out.up hb)
         have HB8 := Lib.hid (bqcP hb HB7.out)
         have HL8 : Hid (w4.heap.size ≤ w8.heap.size) := Lib.hid (Nat.le_trans HL7.out hb.size)
         clear hh hI hb)
      | (go_at_call 47
         have hh := checked2_any w8 w4.heap.size _ _ H8.out (by have := HN1.out; have := HN2.out; simp only [Tr.nodes]; omega)
         rw [← HF1.out] at hh
         refine hh.mono ?_
         rintro e w9 ⟨A9, n9, c9, rfl, ho, hb⟩
         have HO9 := Lib.hid ho
         have HD9 := Lib.hid (HD8.out.up hb)
         have HT9 := Lib.hid (HT8.out.up hb)
         have HB9 := Lib.hid (bqcP hb HB8.out)
         have HL9 : Hid (w4.heap.size ≤ w9.heap.size) := Lib.hid (Nat.le_trans HL8.out hb.size)
         have HZ9 : Hid (w8.heap.size ≤ w9.heap.size) := Lib.hid hb.size
         clear hh ho hb))
    obtain ⟨f2, hf2⟩ : ∃ f, f = fit2 (.node D (.node C D)) := ⟨_, rfl⟩
    have HF2 := Lib.hid hf2
    obtain ⟨f2b, f2c⟩ := f2
    go_upto_region 13 with (first
      | (go_at_call 46
         have hh := pair_any w9 w4.heap.size _ _ _ _ HD9.out HT9.out HL9.out (by have := HN2.out; omega) (by have := HN1.out; have := HN2.out; simp only [Tr.nodes]; omega)
         refine hh.mono ?_
         rintro e w10 ⟨v10, rfl, hI, hb⟩
         obtain ⟨p10, rfl⟩ := hI.isPtr
         have H10 := Lib.hid hI
         have HO10 := Lib.hid (own_below HO9.out hb (Nat.le_refl _))
         have HB10 := Lib.hid (bqcP hb HB9.out)
         have HZ10 : Hid (w9.heap.size ≤ w10.heap.size) := Lib.hid hb.size
         clear hh hI hb)
      | (go_at_call 47
         have hh := checked2_any w10 w4.heap.size _ _ H10.out (by have := HN1.out; have := HN2.out; simp only [Tr.nodes]; omega)
         rw [← HF2.out] at hh
         refine hh.mono ?_
         rintro e w11 ⟨A11, n11, c11, rfl, ho, hb⟩
         have HO11 := Lib.hid ho
         have HP11 := Lib.hid (own_below HO10.out hb (Nat.le_refl _))
         have HB11 := Lib.hid (bqcP hb HB10.out)
         clear hh ho hb))
    clear hf1 hf2
    by_cases hn1 : (Tr.node C (.node C D)).nodes ≤ 2000
    · by_cases hn2 : (Tr.node D (.node C D)).nodes ≤ 2000
      · have e1 := HF1.out
        have e2 := HF2.out
        unfold fit2 at e1 e2
        rw [if_pos hn1] at e1
        rw [if_pos hn2] at e2
        injection e1 with e11 e12
        injection e2 with e21 e22
        subst e12 e22
        have HMT : Hid (mutT C D = (f1b, f2b, 0)) := Lib.hid (by unfold mutT; rw [if_pos ⟨hn1, hn2⟩, e11, e21])
        clear e11 e21 hn1 hn2
        go_wp2_with fail
        rw [HM.out, HMT.out]
        refine bodyPost_ret (v := .tuple #[.slice A9 n9 c9, .slice A11 n11 c11, .int .i64 0]) (by simp [results, Tryz.results23, go_sem]) rfl ⟨A9, n9, c9, A11, n11, c11, rfl, own_base HP11.out HB8.out.size, own_base HO11.out HB10.out.size, fun q h1 h2 => ?_, HB11.out⟩
        have h3 := (HO9.out.lt q h1).2
        have h4 := (HO11.out.lt q h2).1
        have h5 := HZ10.out
        omega
      · have e2 := HF2.out
        unfold fit2 at e2
        rw [if_neg hn2] at e2
        injection e2 with e21 e22
        subst e22
        have HMT : Hid (mutT C D = ([], [], 5)) := Lib.hid (by unfold mutT; rw [if_neg (fun h => hn2 h.2)])
        have HE1 : Hid (f1c = 0) := Lib.hid (by have e1 := HF1.out; unfold fit2 at e1; rw [if_pos hn1] at e1; injection e1)
        have hc1 : (f1c == 0) = true := by rw [HE1.out]; rfl
        clear e21 hn1 hn2
        go_wp2_with fail
        rw [HM.out, HMT.out]
        refine bodyPost_ret (v := .tuple #[.slice none 0 0, .slice none 0 0, .int .i64 5]) (by simp [results, Tryz.results23, go_sem]) rfl (ssi_no _ HB11.out)
    · have e1 := HF1.out
      unfold fit2 at e1
      rw [if_neg hn1] at e1
      injection e1 with e11 e12
      subst e12
      have HMT : Hid (mutT C D = ([], [], 5)) := Lib.hid (by unfold mutT; rw [if_neg (fun h => hn1 h.1)])
      clear e11 hn1
      go_wp2_with fail
      rw [HM.out, HMT.out]
      refine bodyPost_ret (v := .tuple #[.slice none 0 0, .slice none 0 0, .int .i64 5]) (by simp [results, Tryz.results23, go_sem]) rfl (ssi_no _ HB11.out)
  · have HM : Hid (mutP cs ds = ([], [], 5)) := Lib.hid (by unfold mutP; rw [if_pos ⟨hW, hW2⟩, if_pos ⟨hO, hO2⟩, if_neg (fun h => h12 ⟨hk1.trans h.1, hk2.trans h.2⟩)])
    by_cases h1 : k1 = 0
    · have h2 : (k2 == 0) = false := by rw [beq_eq_false_iff_ne]; exact fun h => h12 ⟨h1, h⟩
      subst h1
      clear hr hr' hW hW2 hO hO2 hk1 hk2 h12
      go_enter Tryz.func23, Tryz.ntmps23
      go_wp2_with (first
    | (go_at_call 39
       have hq := HV1.out
       refine hq.mono ?_
       rintro e w1 ⟨rfl, hb⟩
       have HB1 : Hid (Below w.heap.size w w1) := Lib.hid (hb)
       have HV2 := Lib.hid (HV2f.out w1 HB1.out)
       clear hb
       clear hq HV1)
    | (go_at_call 39
       have hq := HV2.out
       refine hq.mono ?_
       rintro e w2 ⟨rfl, hb⟩
       have HB2 : Hid (Below w.heap.size w w2) := Lib.hid (bqcP hb HB1.out)
       have HZ1 := Lib.hid (HZ1f.out w2 HB2.out)
       rw [HO1.out] at HZ1
       clear hb
       clear hq HV2)
    | (go_at_call 40
       have hq := HZ1.out
       refine hq.mono ?_
       rintro e w3 ⟨rfl, hb⟩
       have HB3 : Hid (Below w.heap.size w w3) := Lib.hid (bqcP hb HB2.out)
       have HZ2 := Lib.hid (HZ2f.out w3 HB3.out)
       rw [HO2.out] at HZ2
       clear hb
       clear hq HZ1)
    | (go_at_call 40
       have hq := HZ2.out
       refine hq.mono ?_
       rintro e w4 ⟨rfl, hb⟩
       have HB4 : Hid (Below w.heap.size w w4) := Lib.hid (bqcP hb HB3.out)
       have HS1 := Lib.hid (HS1f.out w4 HB4.out)
       clear hb
       clear hq HZ2)
    | (go_at_call 45
       have hq := HS1.out
       refine hq.mono ?_
       rintro e w5 ⟨p5, rfl, hI, hb⟩
       have HIp5 := Lib.hid hI
       have HB5 : Hid (Below w.heap.size w w5) := Lib.hid (bqcP hb HB4.out)
       have HZ5 : Hid (w4.heap.size ≤ w5.heap.size) := Lib.hid hb.size
       have HBW5 := Lib.hid hb
       have HS2 := Lib.hid (HS2f.out w5 HB5.out)
       rw [← HK1.out]
       clear hI hb hq HS1)
    | (go_at_call 45
       have hq := HS2.out
       refine hq.mono ?_
       rintro e w6 ⟨p6, rfl, hI, hb⟩
       have HIp6 := Lib.hid hI
       have HB6 : Hid (Below w.heap.size w w6) := Lib.hid (bqcP hb HB5.out)
       have HZ6 : Hid (w5.heap.size ≤ w6.heap.size) := Lib.hid hb.size
       have HBW6 := Lib.hid hb
       rw [← HK2.out]
       clear hI hb hq HS2))
      rw [HM.out]
      refine bodyPost_ret (v := .tuple #[.slice none 0 0, .slice none 0 0, .int .i64 5]) (by simp [results, Tryz.results23, go_sem]) rfl (ssi_no _ HB6.out)
    · have h1q : (k1 == 0) = false := by rw [beq_eq_false_iff_ne]; exact h1
      clear hr hr' hW hW2 hO hO2 hk1 hk2 h12 h1
      go_enter Tryz.func23, Tryz.ntmps23
      go_wp2_with (first
    | (go_at_call 39
       have hq := HV1.out
       refine hq.mono ?_
       rintro e w1 ⟨rfl, hb⟩
       have HB1 : Hid (Below w.heap.size w w1) := Lib.hid (hb)
       have HV2 := Lib.hid (HV2f.out w1 HB1.out)
       clear hb
       clear hq HV1)
    | (go_at_call 39
       have hq := HV2.out
       refine hq.mono ?_
       rintro e w2 ⟨rfl, hb⟩
       have HB2 : Hid (Below w.heap.size w w2) := Lib.hid (bqcP hb HB1.out)
       have HZ1 := Lib.hid (HZ1f.out w2 HB2.out)
       rw [HO1.out] at HZ1
       clear hb
       clear hq HV2)
    | (go_at_call 40
       have hq := HZ1.out
       refine hq.mono ?_
       rintro e w3 ⟨rfl, hb⟩
       have HB3 : Hid (Below w.heap.size w w3) := Lib.hid (bqcP hb HB2.out)
       have HZ2 := Lib.hid (HZ2f.out w3 HB3.out)
       rw [HO2.out] at HZ2
       clear hb
       clear hq HZ1)
    | (go_at_call 40
       have hq := HZ2.out
       refine hq.mono ?_
       rintro e w4 ⟨rfl, hb⟩
       have HB4 : Hid (Below w.heap.size w w4) := Lib.hid (bqcP hb HB3.out)
       have HS1 := Lib.hid (HS1f.out w4 HB4.out)
       clear hb
       clear hq HZ2)
    | (go_at_call 45
       have hq := HS1.out
       refine hq.mono ?_
       rintro e w5 ⟨p5, rfl, hI, hb⟩
       have HIp5 := Lib.hid hI
       have HB5 : Hid (Below w.heap.size w w5) := Lib.hid (bqcP hb HB4.out)
       have HZ5 : Hid (w4.heap.size ≤ w5.heap.size) := Lib.hid hb.size
       have HBW5 := Lib.hid hb
       have HS2 := Lib.hid (HS2f.out w5 HB5.out)
       rw [← HK1.out]
       clear hI hb hq HS1)
    | (go_at_call 45
       have hq := HS2.out
       refine hq.mono ?_
       rintro e w6 ⟨p6, rfl, hI, hb⟩
       have HIp6 := Lib.hid hI
       have HB6 : Hid (Below w.heap.size w w6) := Lib.hid (bqcP hb HB5.out)
       have HZ6 : Hid (w5.heap.size ≤ w6.heap.size) := Lib.hid hb.size
       have HBW6 := Lib.hid hb
       rw [← HK2.out]
       clear hI hb hq HS2))
      rw [HM.out]
      refine bodyPost_ret (v := .tuple #[.slice none 0 0, .slice none 0 0, .int .i64 5]) (by simp [results, Tryz.results23, go_sem]) rfl (ssi_no _ HB6.out)
theorem l24_sc {x : Tx} (hx : x.els.length ≤ 40) {cs : List Cmd} (h : isW cs = true) : (l24P (x.cmd :: cs)).2 = scP (x.cmd :: cs) := by
  have hok : okC (x.cmd :: cs) = true := by
    simp [isW] at h
    rw [okC_set (Tx.wf hx) rfl, h.2]; rfl
  unfold l24P scP isW
  rw [hok]
  by_cases hl : (x.cmd :: cs).length ≤ 80
  · rw [if_pos (by simp only [decide_eq_true hl, Bool.and_self]), if_pos hl]
  · rw [if_neg (by simp only [decide_eq_false hl, Bool.false_and]; decide), if_neg hl]
set_option maxHeartbeats 8000000 in
set_option maxRecDepth 100000 in
theorem specMutualPackages_any (w : World) (A : Option Addr) (n c : Nat) (cs : List Cmd) (hr : RdC w A n cs) (hn : n ≤ 1099511627776) (A' : Option Addr) (n' c' : Nat) (ds : List Cmd) (hr' : RdC w A' n' ds) (hn' : n' ≤ 1099511627776) :
    Calls Tryz.prog 22 #[.slice A n c, .slice A' n' c'] w (RetSSI w (mutP cs ds).1 (mutP cs ds).2.1 (mutP cs ds).2.2) := by
  have hv1 := l22IsX_any w A n c cs hr hn
  have HV2f0 := fun (w2 : World) (hb : Below w.heap.size w w2) => l22IsX_any w2 A' n' c' ds (hr'.below hb (Nat.le_refl _)) hn'
  cases hW : isW cs with
  | false =>
    have HM : Hid (mutP cs ds = ([], [], 1)) := Lib.hid (by unfold mutP; rw [if_neg (by rw [hW]; simp)])
    rw [hW] at hv1
    have HV1 := Lib.hid hv1
    clear hr hr' hW hv1 HV2f0
    go_enter Tryz.func22, Tryz.ntmps22
    go_wp2_with (first
    | (go_at_call 33
       have hq := HV1.out
       refine hq.mono ?_
       rintro e w1 ⟨rfl, hb⟩
       have HB1 : Hid (Below w.heap.size w w1) := Lib.hid (hb)
       clear hb
       clear hq HV1))
    rw [HM.out]
    refine bodyPost_ret (v := .tuple #[.slice none 0 0, .slice none 0 0, .int .i64 1]) (by simp [results, Tryz.results22, go_sem]) rfl (ssi_no _ HB1.out)
  | true =>
  rw [hW] at hv1
  have HV1 := Lib.hid hv1
  have hn80 : n ≤ 80 := by have h1 := hr.len; simp [isW] at hW; omega
  cases hW2 : isW ds with
  | false =>
    have HM : Hid (mutP cs ds = ([], [], 1)) := Lib.hid (by unfold mutP; rw [if_neg (by rw [hW2]; simp)])
    rw [hW2] at HV2f0
    have HV2f := Lib.hid HV2f0
    clear hr hr' hW hW2 hv1 HV2f0
    go_enter Tryz.func22, Tryz.ntmps22
    go_wp2_with (first
    | (go_at_call 33
       have hq := HV1.out
       refine hq.mono ?_
       rintro e w1 ⟨rfl, hb⟩
       have HB1 : Hid (Below w.heap.size w w1) := Lib.hid (hb)
       have HV2 := Lib.hid (HV2f.out w1 HB1.out)
       clear hb
       clear hq HV1)
    | (go_at_call 33
       have hq := HV2.out
       refine hq.mono ?_
       rintro e w2 ⟨rfl, hb⟩
       have HB2 : Hid (Below w.heap.size w w2) := Lib.hid (bqcP hb HB1.out)
       clear hb
       clear hq HV2))
    rw [HM.out]
    refine bodyPost_ret (v := .tuple #[.slice none 0 0, .slice none 0 0, .int .i64 1]) (by simp [results, Tryz.results22, go_sem]) rfl (ssi_no _ HB2.out)
  | true =>
  rw [hW2] at HV2f0
  have HV2f := Lib.hid HV2f0
  have hn80' : n' ≤ 80 := by have h1 := hr'.len; simp [isW] at hW2; omega
  have HZ1f := Lib.hid (fun (w2 : World) (hb : Below w.heap.size w w2) => l24Variables_any w2 A n c cs (hr.below hb (Nat.le_refl _)) hW)
  have HZ2f := Lib.hid (fun (w2 : World) (hb : Below w.heap.size w w2) => l24Variables_any w2 A' n' c' ds (hr'.below hb (Nat.le_refl _)) hW2)
  clear hv1 HV2f0
  cases hO : ozW cs with
  | false =>
    have HM : Hid (mutP cs ds = ([], [], 2)) := Lib.hid (by unfold mutP; rw [if_pos ⟨hW, hW2⟩, if_neg (by rw [hO]; simp)])
    have HO1 := Lib.hid hO
    clear hr hr' hW hW2 hO
    go_enter Tryz.func22, Tryz.ntmps22
    go_wp2_with (first
    | (go_at_call 33
       have hq := HV1.out
       refine hq.mono ?_
       rintro e w1 ⟨rfl, hb⟩
       have HB1 : Hid (Below w.heap.size w w1) := Lib.hid (hb)
       have HV2 := Lib.hid (HV2f.out w1 HB1.out)
       clear hb
       clear hq HV1)
    | (go_at_call 33
       have hq := HV2.out
       refine hq.mono ?_
       rintro e w2 ⟨rfl, hb⟩
       have HB2 : Hid (Below w.heap.size w w2) := Lib.hid (bqcP hb HB1.out)
       have HZ1 := Lib.hid (HZ1f.out w2 HB2.out)
       rw [HO1.out] at HZ1
       clear hb
       clear hq HV2)
    | (go_at_call 34
       have hq := HZ1.out
       refine hq.mono ?_
       rintro e w3 ⟨rfl, hb⟩
       have HB3 : Hid (Below w.heap.size w w3) := Lib.hid (bqcP hb HB2.out)
       clear hb
       clear hq HZ1))
    rw [HM.out]
    refine bodyPost_ret (v := .tuple #[.slice none 0 0, .slice none 0 0, .int .i64 2]) (by simp [results, Tryz.results22, go_sem]) rfl (ssi_no _ HB3.out)
  | true =>
  have HO1 := Lib.hid hO
  cases hO2 : ozW ds with
  | false =>
    have HM : Hid (mutP cs ds = ([], [], 2)) := Lib.hid (by unfold mutP; rw [if_pos ⟨hW, hW2⟩, if_neg (by rw [hO2]; simp)])
    have HO2 := Lib.hid hO2
    clear hr hr' hW hW2 hO hO2
    go_enter Tryz.func22, Tryz.ntmps22
    go_wp2_with (first
    | (go_at_call 33
       have hq := HV1.out
       refine hq.mono ?_
       rintro e w1 ⟨rfl, hb⟩
       have HB1 : Hid (Below w.heap.size w w1) := Lib.hid (hb)
       have HV2 := Lib.hid (HV2f.out w1 HB1.out)
       clear hb
       clear hq HV1)
    | (go_at_call 33
       have hq := HV2.out
       refine hq.mono ?_
       rintro e w2 ⟨rfl, hb⟩
       have HB2 : Hid (Below w.heap.size w w2) := Lib.hid (bqcP hb HB1.out)
       have HZ1 := Lib.hid (HZ1f.out w2 HB2.out)
       rw [HO1.out] at HZ1
       clear hb
       clear hq HV2)
    | (go_at_call 34
       have hq := HZ1.out
       refine hq.mono ?_
       rintro e w3 ⟨rfl, hb⟩
       have HB3 : Hid (Below w.heap.size w w3) := Lib.hid (bqcP hb HB2.out)
       have HZ2 := Lib.hid (HZ2f.out w3 HB3.out)
       rw [HO2.out] at HZ2
       clear hb
       clear hq HZ1)
    | (go_at_call 34
       have hq := HZ2.out
       refine hq.mono ?_
       rintro e w4 ⟨rfl, hb⟩
       have HB4 : Hid (Below w.heap.size w w4) := Lib.hid (bqcP hb HB3.out)
       clear hb
       clear hq HZ2))
    rw [HM.out]
    refine bodyPost_ret (v := .tuple #[.slice none 0 0, .slice none 0 0, .int .i64 2]) (by simp [results, Tryz.results22, go_sem]) rfl (ssi_no _ HB4.out)
  | true =>
  have HO2 := Lib.hid hO2
  have HF1f := Lib.hid (fun (w2 : World) (hb : Below w.heap.size w w2) => l24Before_any tMut _ src_tMut w2 A n c cs (hr.below hb (Nat.le_refl _)) (by omega))
  have HF2f := Lib.hid (fun (w2 : World) (hb : Below w.heap.size w w2) => l24Before_any tMut _ src_tMut w2 A' n' c' ds (hr'.below hb (Nat.le_refl _)) (by omega))
  have HN1 : Hid (1 + n ≤ 1099511627776) := Lib.hid (by omega)
  have HN2 : Hid (1 + n' ≤ 1099511627776) := Lib.hid (by omega)
  obtain ⟨k1, hk1⟩ : ∃ k, k = scP (tMut.cmd :: cs) := ⟨_, rfl⟩
  obtain ⟨k2, hk2⟩ : ∃ k, k = scP (tMut.cmd :: ds) := ⟨_, rfl⟩
  have HK1 : Hid ((l24P (tMut.cmd :: cs)).2 = k1) := Lib.hid ((l24_sc (by decide) hW).trans hk1.symm)
  have HK2 : Hid ((l24P (tMut.cmd :: ds)).2 = k2) := Lib.hid ((l24_sc (by decide) hW2).trans hk2.symm)
  by_cases h12 : k1 = 0 ∧ k2 = 0
  · obtain ⟨h1, h2⟩ := h12
    have HM : Hid (mutP cs ds = mutT (codeC (tMut.cmd :: cs)) (codeC (tMut.cmd :: ds))) := Lib.hid (by unfold mutP; rw [if_pos ⟨hW, hW2⟩, if_pos ⟨hO, hO2⟩, if_pos ⟨by rw [← hk1]; exact h1, by rw [← hk2]; exact h2⟩])
    have HC1 := Lib.hid (l24_zero (HK1.out.trans h1)); have HC2 := Lib.hid (l24_zero (HK2.out.trans h2))
    subst h1 h2
    generalize codeC (tMut.cmd :: cs) = C at HM HC1
    generalize codeC (tMut.cmd :: ds) = D at HM HC2
    have HCL : Hid (C.bits.length = C.nodes) := Lib.hid (Tr.bits_len C)
    have HDL : Hid (D.bits.length = D.nodes) := Lib.hid (Tr.bits_len D)
    clear hr hr' hW hW2 hO hO2 hk1 hk2
    by_cases hn1 : (Tr.node C (.node C D)).nodes ≤ 2000
    · by_cases hn2 : (Tr.node D (.node C D)).nodes ≤ 2000
      · have HMT : Hid (mutT C D = ((Tr.node C (.node C D)).bits, (Tr.node D (.node C D)).bits, 0)) := Lib.hid (by unfold mutT; rw [if_pos ⟨hn1, hn2⟩])
        have HQ1 := Lib.hid hn1; have HQ2 := Lib.hid hn2
        clear hn1 hn2
        go_enter Tryz.func22, Tryz.ntmps22
        go_wp2_with (first
    | (go_at_call 33
       have hq := HV1.out
       refine hq.mono ?_
       rintro e w1 ⟨rfl, hb⟩
       have HB1 : Hid (Below w.heap.size w w1) := Lib.hid (hb)
       have HV2 := Lib.hid (HV2f.out w1 HB1.out)
       clear hb
       clear hq HV1)
    | (go_at_call 33
       have hq := HV2.out
       refine hq.mono ?_
       rintro e w2 ⟨rfl, hb⟩
       have HB2 : Hid (Below w.heap.size w w2) := Lib.hid (bqcP hb HB1.out)
       have HZ1 := Lib.hid (HZ1f.out w2 HB2.out)
       rw [HO1.out] at HZ1
       clear hb
       clear hq HV2)
    | (go_at_call 34
       have hq := HZ1.out
       refine hq.mono ?_
       rintro e w3 ⟨rfl, hb⟩
       have HB3 : Hid (Below w.heap.size w w3) := Lib.hid (bqcP hb HB2.out)
       have HZ2 := Lib.hid (HZ2f.out w3 HB3.out)
       rw [HO2.out] at HZ2
       clear hb
       clear hq HZ1)
    | (go_at_call 34
       have hq := HZ2.out
       refine hq.mono ?_
       rintro e w4 ⟨rfl, hb⟩
       have HB4 : Hid (Below w.heap.size w w4) := Lib.hid (bqcP hb HB3.out)
       clear hb
       clear hq HZ2)
    | (go_at_call 36
       have hq := HF1f.out w4 HB4.out
       refine hq.mono ?_
       rintro e w5 ⟨A5, c5, rfl, hrc, hc, hb⟩
       have HCO1 := Lib.hid (l24Code_any w5 A5 (1 + n) c5 _ hrc HN1.out)
       have HB5 : Hid (Below w.heap.size w w5) := Lib.hid (bqcP hb HB4.out)
       clear hrc hc hb hq HF1f)
    | (go_at_call 48
       have hq := HCO1.out
       rw [HK1.out, HC1.out.1] at hq
       refine hq.mono ?_
       rintro e w6 ⟨A6, n6, c6, rfl, ho, hb⟩
       have hn6 : n6 = C.nodes := by have h1 := ho.1; simp only [List.length_map, HCL.out, Nat.mul_one] at h1; omega
       subst hn6
       have HO6 := Lib.hid (own_rd ho)
       have HB6 : Hid (Below w.heap.size w w6) := Lib.hid (bqcP hb HB5.out)
       clear ho hb hq HCO1)
    | (go_at_call 36
       have hq := HF2f.out w6 HB6.out
       refine hq.mono ?_
       rintro e w7 ⟨A7, c7, rfl, hrc, hc, hb⟩
       have HCO2 := Lib.hid (l24Code_any w7 A7 (1 + n') c7 _ hrc HN2.out)
       have HO7 := Lib.hid (HO6.out.below hb (Nat.le_refl _))
       have HB7 : Hid (Below w.heap.size w w7) := Lib.hid (bqcP hb HB6.out)
       clear hrc hc hb hq HF2f)
    | (go_at_call 48
       have hq := HCO2.out
       rw [HK2.out, HC2.out.1] at hq
       refine hq.mono ?_
       rintro e w8 ⟨A8, n8, c8, rfl, ho, hb⟩
       have hn8 : n8 = D.nodes := by have h1 := ho.1; simp only [List.length_map, HDL.out, Nat.mul_one] at h1; omega
       subst hn8
       have HO8 := Lib.hid (own_rd ho)
       have HP8 := Lib.hid (HO7.out.below hb (Nat.le_refl _))
       have HB8 : Hid (Below w.heap.size w w8) := Lib.hid (bqcP hb HB7.out)
       clear ho hb hq HCO2)
    | (go_at_call 49
       have hh := l21Pair_any w8 A6 C.nodes c6 C.bits HP8.out (by have h1 := HC1.out.2; have h2 := HC2.out.2; omega) A8 D.nodes c8 D.bits HO8.out (by have h1 := HC1.out.2; have h2 := HC2.out.2; first | omega | (have h3 := HL9.out; omega))
       refine hh.mono ?_
       rintro e w9 ⟨A9, n9, c9, rfl, ho, hb⟩
       have HL9 : Hid (n9 = 1 + C.nodes + D.nodes) := Lib.hid (by have h1 := ho.1; simp [HCL.out, HDL.out] at h1; omega)
       have HP9 := Lib.hid (HP8.out.below hb (Nat.le_refl _))
       have HQ9 := Lib.hid (HO8.out.below hb (Nat.le_refl _))
       have HR9 := Lib.hid (own_rd ho)
       clear hh HP8 HO8
       have HO9 := Lib.hid ho
       have HB9 : Hid (Below w.heap.size w w9) := Lib.hid (bqcP hb HB8.out)
       clear ho hb)
    | (go_at_call 49
       have hh := l21Pair_any w9 A6 C.nodes c6 C.bits HP9.out (by have h1 := HC1.out.2; have h2 := HC2.out.2; omega) A9 n9 c9 (true :: (C.bits ++ D.bits)) HR9.out (by have h1 := HC1.out.2; have h2 := HC2.out.2; first | omega | (have h3 := HL9.out; omega))
       refine hh.mono ?_
       rintro e w10 ⟨A10, n10, c10, rfl, ho, hb⟩
       have hL10 : ¬ (2000 : Int) < (n10 : Int) := by have h1 := ho.1; have h2 := HQ1.out; simp [HCL.out, HDL.out] at h1; simp only [Tr.nodes] at h2; omega
       have HQ10 := Lib.hid (HQ9.out.below hb (Nat.le_refl _))
       have HR10 := Lib.hid (HR9.out.below hb (Nat.le_refl _))
       clear hh HP9
       have HO10 := Lib.hid ho
       have HB10 : Hid (Below w.heap.size w w10) := Lib.hid (bqcP hb HB9.out)
       clear ho hb)
    | (go_at_call 49
       have hh := l21Pair_any w10 A8 D.nodes c8 D.bits HQ10.out (by have h1 := HC1.out.2; have h2 := HC2.out.2; omega) A9 n9 c9 (true :: (C.bits ++ D.bits)) HR10.out (by have h1 := HC1.out.2; have h2 := HC2.out.2; first | omega | (have h3 := HL9.out; omega))
       refine hh.mono ?_
       rintro e w11 ⟨A11, n11, c11, rfl, ho, hb⟩
       have hL11 : ¬ (2000 : Int) < (n11 : Int) := by have h1 := ho.1; have h2 := HQ2.out; simp [HCL.out, HDL.out] at h1; simp only [Tr.nodes] at h2; omega
       have HB1110 := Lib.hid hb
       clear hh HQ10
       have HO11 := Lib.hid ho
       have HB11 : Hid (Below w.heap.size w w11) := Lib.hid (bqcP hb HB10.out)
       clear ho hb))
        rw [HM.out, HMT.out]
        refine bodyPost_ret (v := .tuple #[.slice A10 n10 c10, .slice A11 n11 c11, .int .i64 0]) (by simp [results, Tryz.results22, go_sem]) rfl ⟨A10, n10, c10, A11, n11, c11, rfl, ?_, ?_, fun q h1 h2 => ?_, HB11.out⟩
        · have h := own_base (own_below HO10.out HB1110.out (Nat.le_refl _)) HB9.out.size
          simpa [Tr.bits] using h
        · have h := own_base HO11.out HB10.out.size
          simpa [Tr.bits] using h
        · have h3 := (HO10.out.lt q h1).2
          have h4 := (HO11.out.lt q h2).1
          omega
      · have HMT : Hid (mutT C D = ([], [], 5)) := Lib.hid (by unfold mutT; rw [if_neg (fun h => hn2 h.2)])
        have HQ1 := Lib.hid hn1; have HQ2 : Hid (2000 < (Tr.node D (.node C D)).nodes) := Lib.hid (by omega)
        clear hn1 hn2
        go_enter Tryz.func22, Tryz.ntmps22
        go_wp2_with (first
    | (go_at_call 33
       have hq := HV1.out
       refine hq.mono ?_
       rintro e w1 ⟨rfl, hb⟩
       have HB1 : Hid (Below w.heap.size w w1) := Lib.hid (hb)
       have HV2 := Lib.hid (HV2f.out w1 HB1.out)
       clear hb
       clear hq HV1)
    | (go_at_call 33
       have hq := HV2.out
       refine hq.mono ?_
       rintro e w2 ⟨rfl, hb⟩
       have HB2 : Hid (Below w.heap.size w w2) := Lib.hid (bqcP hb HB1.out)
       have HZ1 := Lib.hid (HZ1f.out w2 HB2.out)
       rw [HO1.out] at HZ1
       clear hb
       clear hq HV2)
    | (go_at_call 34
       have hq := HZ1.out
       refine hq.mono ?_
       rintro e w3 ⟨rfl, hb⟩
       have HB3 : Hid (Below w.heap.size w w3) := Lib.hid (bqcP hb HB2.out)
       have HZ2 := Lib.hid (HZ2f.out w3 HB3.out)
       rw [HO2.out] at HZ2
       clear hb
       clear hq HZ1)
    | (go_at_call 34
       have hq := HZ2.out
       refine hq.mono ?_
       rintro e w4 ⟨rfl, hb⟩
       have HB4 : Hid (Below w.heap.size w w4) := Lib.hid (bqcP hb HB3.out)
       clear hb
       clear hq HZ2)
    | (go_at_call 36
       have hq := HF1f.out w4 HB4.out
       refine hq.mono ?_
       rintro e w5 ⟨A5, c5, rfl, hrc, hc, hb⟩
       have HCO1 := Lib.hid (l24Code_any w5 A5 (1 + n) c5 _ hrc HN1.out)
       have HB5 : Hid (Below w.heap.size w w5) := Lib.hid (bqcP hb HB4.out)
       clear hrc hc hb hq HF1f)
    | (go_at_call 48
       have hq := HCO1.out
       rw [HK1.out, HC1.out.1] at hq
       refine hq.mono ?_
       rintro e w6 ⟨A6, n6, c6, rfl, ho, hb⟩
       have hn6 : n6 = C.nodes := by have h1 := ho.1; simp only [List.length_map, HCL.out, Nat.mul_one] at h1; omega
       subst hn6
       have HO6 := Lib.hid (own_rd ho)
       have HB6 : Hid (Below w.heap.size w w6) := Lib.hid (bqcP hb HB5.out)
       clear ho hb hq HCO1)
    | (go_at_call 36
       have hq := HF2f.out w6 HB6.out
       refine hq.mono ?_
       rintro e w7 ⟨A7, c7, rfl, hrc, hc, hb⟩
       have HCO2 := Lib.hid (l24Code_any w7 A7 (1 + n') c7 _ hrc HN2.out)
       have HO7 := Lib.hid (HO6.out.below hb (Nat.le_refl _))
       have HB7 : Hid (Below w.heap.size w w7) := Lib.hid (bqcP hb HB6.out)
       clear hrc hc hb hq HF2f)
    | (go_at_call 48
       have hq := HCO2.out
       rw [HK2.out, HC2.out.1] at hq
       refine hq.mono ?_
       rintro e w8 ⟨A8, n8, c8, rfl, ho, hb⟩
       have hn8 : n8 = D.nodes := by have h1 := ho.1; simp only [List.length_map, HDL.out, Nat.mul_one] at h1; omega
       subst hn8
       have HO8 := Lib.hid (own_rd ho)
       have HP8 := Lib.hid (HO7.out.below hb (Nat.le_refl _))
       have HB8 : Hid (Below w.heap.size w w8) := Lib.hid (bqcP hb HB7.out)
       clear ho hb hq HCO2)
    | (go_at_call 49
       have hh := l21Pair_any w8 A6 C.nodes c6 C.bits HP8.out (by have h1 := HC1.out.2; have h2 := HC2.out.2; omega) A8 D.nodes c8 D.bits HO8.out (by have h1 := HC1.out.2; have h2 := HC2.out.2; first | omega | (have h3 := HL9.out; omega))
       refine hh.mono ?_
       rintro e w9 ⟨A9, n9, c9, rfl, ho, hb⟩
       have HL9 : Hid (n9 = 1 + C.nodes + D.nodes) := Lib.hid (by have h1 := ho.1; simp [HCL.out, HDL.out] at h1; omega)
       have HP9 := Lib.hid (HP8.out.below hb (Nat.le_refl _))
       have HQ9 := Lib.hid (HO8.out.below hb (Nat.le_refl _))
       have HR9 := Lib.hid (own_rd ho)
       clear hh HP8 HO8
       have HO9 := Lib.hid ho
       have HB9 : Hid (Below w.heap.size w w9) := Lib.hid (bqcP hb HB8.out)
       clear ho hb)
    | (go_at_call 49
       have hh := l21Pair_any w9 A6 C.nodes c6 C.bits HP9.out (by have h1 := HC1.out.2; have h2 := HC2.out.2; omega) A9 n9 c9 (true :: (C.bits ++ D.bits)) HR9.out (by have h1 := HC1.out.2; have h2 := HC2.out.2; first | omega | (have h3 := HL9.out; omega))
       refine hh.mono ?_
       rintro e w10 ⟨A10, n10, c10, rfl, ho, hb⟩
       have hL10 : ¬ (2000 : Int) < (n10 : Int) := by have h1 := ho.1; have h2 := HQ1.out; simp [HCL.out, HDL.out] at h1; simp only [Tr.nodes] at h2; omega
       have HQ10 := Lib.hid (HQ9.out.below hb (Nat.le_refl _))
       have HR10 := Lib.hid (HR9.out.below hb (Nat.le_refl _))
       clear hh HP9
       have HO10 := Lib.hid ho
       have HB10 : Hid (Below w.heap.size w w10) := Lib.hid (bqcP hb HB9.out)
       clear ho hb)
    | (go_at_call 49
       have hh := l21Pair_any w10 A8 D.nodes c8 D.bits HQ10.out (by have h1 := HC1.out.2; have h2 := HC2.out.2; omega) A9 n9 c9 (true :: (C.bits ++ D.bits)) HR10.out (by have h1 := HC1.out.2; have h2 := HC2.out.2; first | omega | (have h3 := HL9.out; omega))
       refine hh.mono ?_
       rintro e w11 ⟨A11, n11, c11, rfl, ho, hb⟩
       have hL11 : (2000 : Int) < (n11 : Int) := by have h1 := ho.1; have h2 := HQ2.out; simp [HCL.out, HDL.out] at h1; simp only [Tr.nodes] at h2; omega
       have HB1110 := Lib.hid hb
       clear hh HQ10
       have HO11 := Lib.hid ho
       have HB11 : Hid (Below w.heap.size w w11) := Lib.hid (bqcP hb HB10.out)
       clear ho hb))
        rw [HM.out, HMT.out]
        refine bodyPost_ret (v := .tuple #[.slice none 0 0, .slice none 0 0, .int .i64 5]) (by simp [results, Tryz.results22, go_sem]) rfl (ssi_no _ HB11.out)
    · have HMT : Hid (mutT C D = ([], [], 5)) := Lib.hid (by unfold mutT; rw [if_neg (fun h => hn1 h.1)])
      have HQ1 : Hid (2000 < (Tr.node C (.node C D)).nodes) := Lib.hid (by omega)
      clear hn1
      go_enter Tryz.func22, Tryz.ntmps22
      go_wp2_with (first
    | (go_at_call 33
       have hq := HV1.out
       refine hq.mono ?_
       rintro e w1 ⟨rfl, hb⟩
       have HB1 : Hid (Below w.heap.size w w1) := Lib.hid (hb)
       have HV2 := Lib.hid (HV2f.out w1 HB1.out)
       clear hb
       clear hq HV1)
    | (go_at_call 33
       have hq := HV2.out
       refine hq.mono ?_
       rintro e w2 ⟨rfl, hb⟩
       have HB2 : Hid (Below w.heap.size w w2) := Lib.hid (bqcP hb HB1.out)
       have HZ1 := Lib.hid (HZ1f.out w2 HB2.out)
       rw [HO1.out] at HZ1
       clear hb
       clear hq HV2)
    | (go_at_call 34
       have hq := HZ1.out
       refine hq.mono ?_
       rintro e w3 ⟨rfl, hb⟩
       have HB3 : Hid (Below w.heap.size w w3) := Lib.hid (bqcP hb HB2.out)
       have HZ2 := Lib.hid (HZ2f.out w3 HB3.out)
       rw [HO2.out] at HZ2
       clear hb
       clear hq HZ1)
    | (go_at_call 34
       have hq := HZ2.out
       refine hq.mono ?_
       rintro e w4 ⟨rfl, hb⟩
       have HB4 : Hid (Below w.heap.size w w4) := Lib.hid (bqcP hb HB3.out)
       clear hb
       clear hq HZ2)
    | (go_at_call 36
       have hq := HF1f.out w4 HB4.out
       refine hq.mono ?_
       rintro e w5 ⟨A5, c5, rfl, hrc, hc, hb⟩
       have HCO1 := Lib.hid (l24Code_any w5 A5 (1 + n) c5 _ hrc HN1.out)
       have HB5 : Hid (Below w.heap.size w w5) := Lib.hid (bqcP hb HB4.out)
       clear hrc hc hb hq HF1f)
    | (go_at_call 48
       have hq := HCO1.out
       rw [HK1.out, HC1.out.1] at hq
       refine hq.mono ?_
       rintro e w6 ⟨A6, n6, c6, rfl, ho, hb⟩
       have hn6 : n6 = C.nodes := by have h1 := ho.1; simp only [List.length_map, HCL.out, Nat.mul_one] at h1; omega
       subst hn6
       have HO6 := Lib.hid (own_rd ho)
       have HB6 : Hid (Below w.heap.size w w6) := Lib.hid (bqcP hb HB5.out)
       clear ho hb hq HCO1)
    | (go_at_call 36
       have hq := HF2f.out w6 HB6.out
       refine hq.mono ?_
       rintro e w7 ⟨A7, c7, rfl, hrc, hc, hb⟩
       have HCO2 := Lib.hid (l24Code_any w7 A7 (1 + n') c7 _ hrc HN2.out)
       have HO7 := Lib.hid (HO6.out.below hb (Nat.le_refl _))
       have HB7 : Hid (Below w.heap.size w w7) := Lib.hid (bqcP hb HB6.out)
       clear hrc hc hb hq HF2f)
    | (go_at_call 48
       have hq := HCO2.out
       rw [HK2.out, HC2.out.1] at hq
       refine hq.mono ?_
       rintro e w8 ⟨A8, n8, c8, rfl, ho, hb⟩
       have hn8 : n8 = D.nodes := by have h1 := ho.1; simp only [List.length_map, HDL.out, Nat.mul_one] at h1; omega
       subst hn8
       have HO8 := Lib.hid (own_rd ho)
       have HP8 := Lib.hid (HO7.out.below hb (Nat.le_refl _))
       have HB8 : Hid (Below w.heap.size w w8) := Lib.hid (bqcP hb HB7.out)
       clear ho hb hq HCO2)
    | (go_at_call 49
       have hh := l21Pair_any w8 A6 C.nodes c6 C.bits HP8.out (by have h1 := HC1.out.2; have h2 := HC2.out.2; omega) A8 D.nodes c8 D.bits HO8.out (by have h1 := HC1.out.2; have h2 := HC2.out.2; first | omega | (have h3 := HL9.out; omega))
       refine hh.mono ?_
       rintro e w9 ⟨A9, n9, c9, rfl, ho, hb⟩
       have HL9 : Hid (n9 = 1 + C.nodes + D.nodes) := Lib.hid (by have h1 := ho.1; simp [HCL.out, HDL.out] at h1; omega)
       have HP9 := Lib.hid (HP8.out.below hb (Nat.le_refl _))
       have HQ9 := Lib.hid (HO8.out.below hb (Nat.le_refl _))
       have HR9 := Lib.hid (own_rd ho)
       clear hh HP8 HO8
       have HO9 := Lib.hid ho
       have HB9 : Hid (Below w.heap.size w w9) := Lib.hid (bqcP hb HB8.out)
       clear ho hb)
    | (go_at_call 49
       have hh := l21Pair_any w9 A6 C.nodes c6 C.bits HP9.out (by have h1 := HC1.out.2; have h2 := HC2.out.2; omega) A9 n9 c9 (true :: (C.bits ++ D.bits)) HR9.out (by have h1 := HC1.out.2; have h2 := HC2.out.2; first | omega | (have h3 := HL9.out; omega))
       refine hh.mono ?_
       rintro e w10 ⟨A10, n10, c10, rfl, ho, hb⟩
       have hL10 : (2000 : Int) < (n10 : Int) := by have h1 := ho.1; have h2 := HQ1.out; simp [HCL.out, HDL.out] at h1; simp only [Tr.nodes] at h2; omega
       have HQ10 := Lib.hid (HQ9.out.below hb (Nat.le_refl _))
       have HR10 := Lib.hid (HR9.out.below hb (Nat.le_refl _))
       clear hh HP9
       have HO10 := Lib.hid ho
       have HB10 : Hid (Below w.heap.size w w10) := Lib.hid (bqcP hb HB9.out)
       clear ho hb)
    | (go_at_call 49
       have hh := l21Pair_any w10 A8 D.nodes c8 D.bits HQ10.out (by have h1 := HC1.out.2; have h2 := HC2.out.2; omega) A9 n9 c9 (true :: (C.bits ++ D.bits)) HR10.out (by have h1 := HC1.out.2; have h2 := HC2.out.2; first | omega | (have h3 := HL9.out; omega))
       refine hh.mono ?_
       rintro e w11 ⟨A11, n11, c11, rfl, ho, hb⟩
       have HB1110 := Lib.hid hb
       clear hh HQ10
       have HO11 := Lib.hid ho
       have HB11 : Hid (Below w.heap.size w w11) := Lib.hid (bqcP hb HB10.out)
       clear ho hb))
      rw [HM.out, HMT.out]
      refine bodyPost_ret (v := .tuple #[.slice none 0 0, .slice none 0 0, .int .i64 5]) (by simp [results, Tryz.results22, go_sem]) rfl (ssi_no _ HB11.out)
  · have HM : Hid (mutP cs ds = ([], [], 5)) := Lib.hid (by unfold mutP; rw [if_pos ⟨hW, hW2⟩, if_pos ⟨hO, hO2⟩, if_neg (fun h => h12 ⟨hk1.trans h.1, hk2.trans h.2⟩)])
    by_cases h1 : k1 = 0
    · have h2 : (k2 == 0) = false := by rw [beq_eq_false_iff_ne]; exact fun h => h12 ⟨h1, h⟩
      subst h1
      clear hr hr' hW hW2 hO hO2 hk1 hk2 h12
      go_enter Tryz.func22, Tryz.ntmps22
      go_wp2_with (first
    | (go_at_call 33
       have hq := HV1.out
       refine hq.mono ?_
       rintro e w1 ⟨rfl, hb⟩
       have HB1 : Hid (Below w.heap.size w w1) := Lib.hid (hb)
       have HV2 := Lib.hid (HV2f.out w1 HB1.out)
       clear hb
       clear hq HV1)
    | (go_at_call 33
       have hq := HV2.out
       refine hq.mono ?_
       rintro e w2 ⟨rfl, hb⟩
       have HB2 : Hid (Below w.heap.size w w2) := Lib.hid (bqcP hb HB1.out)
       have HZ1 := Lib.hid (HZ1f.out w2 HB2.out)
       rw [HO1.out] at HZ1
       clear hb
       clear hq HV2)
    | (go_at_call 34
       have hq := HZ1.out
       refine hq.mono ?_
       rintro e w3 ⟨rfl, hb⟩
       have HB3 : Hid (Below w.heap.size w w3) := Lib.hid (bqcP hb HB2.out)
       have HZ2 := Lib.hid (HZ2f.out w3 HB3.out)
       rw [HO2.out] at HZ2
       clear hb
       clear hq HZ1)
    | (go_at_call 34
       have hq := HZ2.out
       refine hq.mono ?_
       rintro e w4 ⟨rfl, hb⟩
       have HB4 : Hid (Below w.heap.size w w4) := Lib.hid (bqcP hb HB3.out)
       clear hb
       clear hq HZ2)
    | (go_at_call 36
       have hq := HF1f.out w4 HB4.out
       refine hq.mono ?_
       rintro e w5 ⟨A5, c5, rfl, hrc, hc, hb⟩
       have HCO1 := Lib.hid (l24Code_any w5 A5 (1 + n) c5 _ hrc HN1.out)
       have HB5 : Hid (Below w.heap.size w w5) := Lib.hid (bqcP hb HB4.out)
       clear hrc hc hb hq HF1f)
    | (go_at_call 48
       have hq := HCO1.out
       rw [HK1.out] at hq
       refine hq.mono ?_
       rintro e w6 ⟨A6, n6, c6, rfl, ho, hb⟩
       have HB6 : Hid (Below w.heap.size w w6) := Lib.hid (bqcP hb HB5.out)
       clear ho hb hq HCO1)
    | (go_at_call 36
       have hq := HF2f.out w6 HB6.out
       refine hq.mono ?_
       rintro e w7 ⟨A7, c7, rfl, hrc, hc, hb⟩
       have HCO2 := Lib.hid (l24Code_any w7 A7 (1 + n') c7 _ hrc HN2.out)
       have HB7 : Hid (Below w.heap.size w w7) := Lib.hid (bqcP hb HB6.out)
       clear hrc hc hb hq HF2f)
    | (go_at_call 48
       have hq := HCO2.out
       rw [HK2.out] at hq
       refine hq.mono ?_
       rintro e w8 ⟨A8, n8, c8, rfl, ho, hb⟩
       have HB8 : Hid (Below w.heap.size w w8) := Lib.hid (bqcP hb HB7.out)
       clear ho hb hq HCO2))
      rw [HM.out]
      refine bodyPost_ret (v := .tuple #[.slice none 0 0, .slice none 0 0, .int .i64 5]) (by simp [results, Tryz.results22, go_sem]) rfl (ssi_no _ HB8.out)
    · have h1q : (k1 == 0) = false := by rw [beq_eq_false_iff_ne]; exact h1
      clear hr hr' hW hW2 hO hO2 hk1 hk2 h12 h1
      go_enter Tryz.func22, Tryz.ntmps22
      go_wp2_with (first
    | (go_at_call 33
       have hq := HV1.out
       refine hq.mono ?_
       rintro e w1 ⟨rfl, hb⟩
       have HB1 : Hid (Below w.heap.size w w1) := Lib.hid (hb)
       have HV2 := Lib.hid (HV2f.out w1 HB1.out)
       clear hb
       clear hq HV1)
    | (go_at_call 33
       have hq := HV2.out
       refine hq.mono ?_
       rintro e w2 ⟨rfl, hb⟩
       have HB2 : Hid (Below w.heap.size w w2) := Lib.hid (bqcP hb HB1.out)
       have HZ1 := Lib.hid (HZ1f.out w2 HB2.out)
       rw [HO1.out] at HZ1
       clear hb
       clear hq HV2)
    | (go_at_call 34
       have hq := HZ1.out
       refine hq.mono ?_
       rintro e w3 ⟨rfl, hb⟩
       have HB3 : Hid (Below w.heap.size w w3) := Lib.hid (bqcP hb HB2.out)
       have HZ2 := Lib.hid (HZ2f.out w3 HB3.out)
       rw [HO2.out] at HZ2
       clear hb
       clear hq HZ1)
    | (go_at_call 34
       have hq := HZ2.out
       refine hq.mono ?_
       rintro e w4 ⟨rfl, hb⟩
       have HB4 : Hid (Below w.heap.size w w4) := Lib.hid (bqcP hb HB3.out)
       clear hb
       clear hq HZ2)
    | (go_at_call 36
       have hq := HF1f.out w4 HB4.out
       refine hq.mono ?_
       rintro e w5 ⟨A5, c5, rfl, hrc, hc, hb⟩
       have HCO1 := Lib.hid (l24Code_any w5 A5 (1 + n) c5 _ hrc HN1.out)
       have HB5 : Hid (Below w.heap.size w w5) := Lib.hid (bqcP hb HB4.out)
       clear hrc hc hb hq HF1f)
    | (go_at_call 48
       have hq := HCO1.out
       rw [HK1.out] at hq
       refine hq.mono ?_
       rintro e w6 ⟨A6, n6, c6, rfl, ho, hb⟩
       have HB6 : Hid (Below w.heap.size w w6) := Lib.hid (bqcP hb HB5.out)
       clear ho hb hq HCO1)
    | (go_at_call 36
       have hq := HF2f.out w6 HB6.out
       refine hq.mono ?_
       rintro e w7 ⟨A7, c7, rfl, hrc, hc, hb⟩
       have HCO2 := Lib.hid (l24Code_any w7 A7 (1 + n') c7 _ hrc HN2.out)
       have HB7 : Hid (Below w.heap.size w w7) := Lib.hid (bqcP hb HB6.out)
       clear hrc hc hb hq HF2f)
    | (go_at_call 48
       have hq := HCO2.out
       rw [HK2.out] at hq
       refine hq.mono ?_
       rintro e w8 ⟨A8, n8, c8, rfl, ho, hb⟩
       have HB8 : Hid (Below w.heap.size w w8) := Lib.hid (bqcP hb HB7.out)
       clear ho hb hq HCO2))
      rw [HM.out]
      refine bodyPost_ret (v := .tuple #[.slice none 0 0, .slice none 0 0, .int .i64 5]) (by simp [results, Tryz.results22, go_sem]) rfl (ssi_no _ HB8.out)
end Go.Proofs.YtaadobggenbbdaaGreatDoor
