/- FnFractions: a step multiplies by the first fraction with a natural product, lowest terms do the same, a run makes one step after the other. -/
import Derived.Test.YtfjlbfnjnkaooaaFq7
import Derived.Test.YtfjlbfnjnkaooaaFq4
namespace Go.Proofs.Ytfjlbfnjnkaooaa
open Go.RowKit Limb
set_option linter.unusedVariables false
set_option linter.unusedSimpArgs false
theorem b10LongF_any (w : World) (A : Option Addr) (n c : Nat) : Calls Try.prog 6 #[.slice A n c] w fun e w' => e = .returned (.bool (decide (1048576 < n))) ∧ w = w' := by
  by_cases h : 1048576 < n
  · have h' : (1048576 : Int) < (n : Int) := by omega
    rw [decide_eq_true h]
    go_enter Try.func6, Try.ntmps6
    go_wp2_with fail
    go_ret
    exact ⟨rfl, rfl⟩
  · have h' : ¬ (1048576 : Int) < (n : Int) := by omega
    rw [decide_eq_false h]
    go_enter Try.func6, Try.ntmps6
    go_wp2_with fail
    go_ret
    exact ⟨rfl, rfl⟩
theorem numsF_any (w : World) (A : Option Addr) (n c X : Nat) (hr : Rd w A n (ints (limbs X))) (A' : Option Addr) (n' c' : Nat) (hr' : Rd w A' n' (ints (limbs X))) (hn : n ≤ 1000) :
    Calls Try.prog 11 #[.slice A n c, .slice A' n' c'] w (fun e w' => e = .returned (.bool true) ∧ Below w.heap.size w w') := b10Nums_same w A n c _ hr A' n' c' hr' (by omega)
/-- What the law reads: the list, the natural, and the last natural of its run. -/
structure FrL (w wr : World) (A : Option Addr) (n : Nat) (fs : List Fr) (B : Option Addr) (m : Nat) (a : Nat) : Prop where
  fr : Rd wr A (n * 2) (ints (flatF fs))
  las : Rd wr B m (ints (limbs a))
  bel : Below w.heap.size w wr
theorem FrL.below {w wr w2 : World} {A B : Option Addr} {n m a : Nat} {fs : List Fr} (h : FrL w wr A n fs B m a) (hb : Below wr.heap.size wr w2) : FrL w w2 A n fs B m a :=
  ⟨h.fr.below hb (Nat.le_refl _), h.las.below hb (Nat.le_refl _), h.bel.trans (hb.mono h.bel.size)⟩
theorem run_end_big {fs : List Fr} (hf : ∀ x ∈ fs, okF x) : ∀ (r N : Nat), r ≤ 40 → bigOk (r + 1) N → bigOk 0 (runQ fs r N).1
  | 0, N, _, h => by rw [runQ]; exact h.mono (by omega)
  | r + 1, N, hr, h => by
    cases hs : stepQ fs N 0 with
    | none => rw [runQ_none _ hs]; exact h.mono (by omega)
    | some p => rw [runQ_step r hs]; exact run_end_big hf r p.1 (by omega) (h.step hf hs)
set_option maxHeartbeats 16000000 in
set_option maxRecDepth 100000 in
theorem lawFractions (w : World) (A0 : Option Addr) (n0 c0 : Nat) (b0 : List Int) (hr0 : Rd w A0 n0 (bytesV b0)) (hb0 : ∀ b ∈ b0, 0 ≤ b ∧ b ≤ 255) (hnn0 : n0 ≤ 9223372036854775807) (A1 : Option Addr) (n1 c1 : Nat) (b1 : List Int) (hr1 : Rd w A1 n1 (bytesV b1)) (hb1 : ∀ b ∈ b1, 0 ≤ b ∧ b ≤ 255) (hnn1 : n1 ≤ 9223372036854775807) :
    Calls Try.prog 3 #[.slice A0 n0 c0, .slice A1 n1 c1] w fun e w' => e = .returned (.bool true) ∧ Below w.heap.size w w' := by
  have HB0 := Lib.hid hb0; have HB1 := Lib.hid hb1
  clear hb0 hb1
  by_cases hlong : 1048576 < n0
  · have HLo := Lib.hid (decide_eq_true hlong)
    clear hlong
    go_enter Try.func3, Try.ntmps3
    go_wp2_with (go_at_call 6; refine (b10LongF_any _ _ _ _).mono ?_; rw [HLo.out]; rintro e w' ⟨rfl, rfl⟩)
    go_ret
    exact ⟨rfl, Below.refl _ _⟩
  by_cases hlong1 : 1048576 < n1
  · have HLo := Lib.hid (decide_eq_false hlong); have HLo1 := Lib.hid (decide_eq_true hlong1)
    clear hlong hlong1
    go_enter Try.func3, Try.ntmps3
    go_wp2_with fail
    refine (b10LongF_any _ _ _ _).mono ?_; rw [HLo.out]; rintro e w' ⟨rfl, rfl⟩
    go_wp2_with fail
    refine (b10LongF_any _ _ _ _).mono ?_; rw [HLo1.out]; rintro e w' ⟨rfl, rfl⟩
    go_wp2_with fail
    go_ret
    exact ⟨rfl, Below.refl _ _⟩
  have HLo := Lib.hid (decide_eq_false hlong); have HLo1 := Lib.hid (decide_eq_false hlong1)
  have hn0 : n0 ≤ 1048576 := by omega
  clear hlong hlong1 hnn0 hnn1
  go_enter Try.func3, Try.ntmps3
  go_wp2_with fail
  refine (b10LongF_any _ _ _ _).mono ?_; rw [HLo.out]; rintro e w' ⟨rfl, rfl⟩
  go_wp2_with fail
  refine (b10LongF_any _ _ _ _).mono ?_; rw [HLo1.out]; rintro e w' ⟨rfl, rfl⟩
  go_wp2_with fail
  refine (B10Fractions_any w A0 n0 c0 b0 hr0 HB0.out (by omega)).mono ?_
  rintro e w2 ⟨fs, A, n, c, A', n', c', N, rfl, hok, hN0, hN1, hrf, hrn, hb2⟩
  have HOK := Lib.hid hok
  have HBIG := Lib.hid (bigOk.start hN0 hN1)
  have HF := Lib.hid hrf; have HN := Lib.hid hrn; have HB2 := Lib.hid hb2
  have HFL : Hid (fs.length = n) := Lib.hid (by have := hrf.1; simp [flatF_len] at this; omega)
  have HR1 := Lib.hid (hr1.below hb2 (Nat.le_refl _))
  clear hok hN0 hN1 hrf hrn hb2 HLo HLo1 HB0 hr0 hr1
  as_aux_lemma =>
  go_wp2_with fail
  refine (b10At_any w2 A1 n1 c1 b1 HR1.out HB1.out 40 (by omega) (by omega)).mono ?_
  rintro e w3 ⟨k, rfl, hk, rfl⟩
  obtain ⟨r, hrk⟩ : ∃ r, r = 1 + k := ⟨_, rfl⟩
  have hrI : (1 : Int) + (k : Int) = (r : Int) := by omega
  have hr1 : 1 ≤ r := by omega
  have hr40 : r ≤ 40 := by omega
  have HRI := Lib.hid hrI
  clear HR1 HB1 hrk hrI
  go_wp2_with fail
  rw [HRI.out]
  refine (ReduceFractions_any w2 A n c fs HF.out HOK.out).mono ?_
  rintro e w4 ⟨A8, n8, c8, rfl, ho8, hb4⟩
  have hn8 : n8 = n := by have h := ho8.1; simp [flatF_len] at h; have := HFL.out; omega
  subst hn8
  have HF4 := Lib.hid (HF.out.below hb4 (Nat.le_refl _)); have HN4 := Lib.hid (HN.out.below hb4 (Nat.le_refl _)); have HB4 := Lib.hid (HB2.out.trans (hb4.mono HB2.out.size)); have HL4 := Lib.hid (ownN_rd ho8)
  clear HF HN HB2 ho8 hb4 HRI
  as_aux_lemma =>
  go_wp2_with fail
  refine (RunFractions_ok w4 A n8 c fs HF4.out HOK.out A' n' c' N HN4.out r hr1 hr40 HBIG.out).mono ?_
  rintro e w5 ⟨B, m, d, rfl, hrb, hb5⟩
  have HF5 := Lib.hid (HF4.out.below hb5 (Nat.le_refl _)); have HN5 := Lib.hid (HN4.out.below hb5 (Nat.le_refl _)); have HB5 := Lib.hid (HB4.out.trans (hb5.mono HB4.out.size)); have HL5 := Lib.hid (HL4.out.below hb5 (Nat.le_refl _)); have HR5 := Lib.hid hrb
  clear HF4 HN4 HB4 HL4 hrb hb5
  as_aux_lemma =>
  go_wp2_with fail
  refine (RunFractions_ok w5 A8 n8 c8 (fs.map low) HL5.out HOK.out.low A' n' c' N HN5.out r hr1 hr40 HBIG.out).mono ?_
  rintro e w6 ⟨B2, m2, d2, rfl, hrb, hb6⟩
  rw [runQ_low HOK.out.all] at hrb ⊢
  have HRE := Lib.hid (run_end_big HOK.out.all r N hr40 (HBIG.out.mono (by omega)))
  obtain ⟨a, ha⟩ : ∃ a, a = (runQ fs r N).1 := ⟨_, rfl⟩
  obtain ⟨s, hs⟩ : ∃ s, s = (runQ fs r N).2.1 := ⟨_, rfl⟩
  obtain ⟨q, hq⟩ : ∃ q, q = (runQ fs r N).2.2 := ⟨_, rfl⟩
  have HA := Lib.hid ha; have HS := Lib.hid hs
  have hsr : s ≤ r := by rw [hs]; exact runQ_le fs r N
  rw [← ha] at hrb
  rw [← hs, ← hq]
  have HRA := HR5.out
  rw [← ha] at HRA
  have HP6 := Lib.hid (FrL.mk (HF5.out.below hb6 (Nat.le_refl _)) (HRA.below hb6 (Nat.le_refl _)) (HB5.out.trans (hb6.mono HB5.out.size)))
  have HN6 := Lib.hid (HN5.out.below hb6 (Nat.le_refl _)); have HRB := Lib.hid hrb
  have hm : m ≤ 40 := rd_len40 HP6.out.las (by rw [ha]; exact HRE.out.len)
  clear hrb HRA hb6 HF5 HN5 HB5 HL5 HR5 ha hs hq
  as_aux_lemma =>
  go_wp2_with fail
  refine (numsF_any w6 B m d a HP6.out.las B2 m2 d2 HRB.out (by omega)).mono ?_
  rintro e w7 ⟨rfl, hb7⟩
  have HP7 := Lib.hid (HP6.out.below hb7); have HN7 := Lib.hid (HN6.out.below hb7 (Nat.le_refl _))
  clear HP6 HN6 HRB hb7
  as_aux_lemma =>
  go_wp2_with fail
  go_loopw [18, 19] (fun p0 q0 wr => ∃ (i M : Nat) (A6 : Option Addr) (n6 c6 : Nat), p0 = .slice A6 n6 c6 ∧ q0 = .int .i64 i ∧ i ≤ s ∧ Rd wr A6 n6 (ints (limbs M)) ∧ Hid (bigOk (41 - i) M) ∧ Hid ((runQ fs (r - i) M).1 = a ∧ (runQ fs (r - i) M).2.1 = s - i) ∧ FrL w wr A n8 fs B m a) (fun _ q0 _ => s - (intOf q0).toNat)
  case atStart => exact ⟨0, N, A', n', c', rfl, rfl, Nat.zero_le _, HN7.out, HBIG, Lib.hid (by rw [Nat.sub_zero, HA.out, HS.out]; exact ⟨rfl, by omega⟩), HP7.out⟩
  case round =>
    as_aux_lemma =>
    obtain ⟨i, M, A6, n6, c6, rfl, rfl, hi, hr6, HBG, HQ, hp⟩ := hrel
    have HP := Lib.hid hp; have HR6 := Lib.hid hr6
    have hn6 : n6 ≤ 40 := rd_len40 hr6 HBG.out.len
    clear HP7 HN7 hp hr6
    by_cases hlt : i < s
    · obtain ⟨r', M2, j, e1, e2, e3, e4⟩ := runQ_more (s := s - i - 1) (by rw [HQ.out.2]; omega)
      obtain ⟨x, _, hx, hmod, hM2⟩ := stepQ_get e2
      rw [Nat.sub_zero] at hx
      have hjn : j < n8 := by have h1 := (List.getElem?_eq_some_iff.1 hx).1; have h2 := HFL.out; omega
      have hokx := HOK.out.all x (List.mem_of_getElem? hx)
      have HBG2 : Hid (bigOk (41 - (i + 1)) M2) := Lib.hid (by
        have h := HBG.out
        rw [show 41 - i = (41 - (i + 1)) + 1 by omega] at h
        exact h.step HOK.out.all e2)
      have HUP := Lib.hid (HBG.out.up hokx.2.1)
      have HEQ : Hid (M2 * x.dn = M * x.up) := Lib.hid (by rw [hM2]; exact Nat.div_mul_cancel (Nat.dvd_of_mod_eq_zero hmod))
      have HX := Lib.hid hx; have HOX := Lib.hid hokx; have HE2 := Lib.hid e2
      have HQ2 : Hid ((runQ fs (r - (i + 1)) M2).1 = a ∧ (runQ fs (r - (i + 1)) M2).2.1 = s - (i + 1)) := Lib.hid (by
        rw [show r - (i + 1) = r' by omega, e3, e4]
        exact ⟨HQ.out.1, by omega⟩)
      have hl1 : (i : Int) < (s : Int) := by omega
      have hl2 : (i : Int) < (r : Int) := by omega
      have hd1 : decide ((j : Int) < 0) = false := decide_eq_false (by omega)
      have hd2 : decide ((n8 : Int) ≤ (j : Int)) = false := decide_eq_false (by omega)
      clear e1 e2 e3 e4 hx hmod hM2 hokx HQ
      as_aux_lemma =>
      go_wp2_with fail
      refine (StepFractions_ok wr A n8 c fs HP.out.fr HOK.out A6 n6 c6 M HR6.out HBG.out.1 HBG.out.len M2 j HE2.out HBG2.out.len).mono ?_
      rintro e w8 ⟨A9, n9, c9, rfl, hr9, hb8⟩
      have HP8 := Lib.hid (HP.out.below hb8); have HR8 := Lib.hid (HR6.out.below hb8 (Nat.le_refl _)); have HR9 := Lib.hid hr9
      clear hr9 hb8 HP HR6
      obtain ⟨b, off, rfl, hbs, q0, q1⟩ := rdF HP8.out.fr HX.out
      have HRU := Lib.hid (rd_u w8 HOX.out.1 HOX.out.2.1 2)
      have HLU : Hid ((limbs x.up).length ≤ 40) := Lib.hid (by rw [len_u HOX.out.1 HOX.out.2.1]; omega)
      have HLD : Hid ((limbs x.dn).length ≤ 40) := Lib.hid (by rw [len_u HOX.out.2.2.1 HOX.out.2.2.2]; omega)
      obtain ⟨u, dd⟩ := x
      simp only at q0 q1
      as_aux_lemma =>
      go_wp2_with fail
      refine (MultiplyNaturals_any _ A6 n6 c6 M (HR8.out.alloc _) HBG.out.len _ 1 1 u HRU.out HLU.out).mono ?_
      rw [(fit_yes HUP.out).1, (fit_yes HUP.out).2.2]
      rintro e w9 ⟨A10, n10, c10, rfl, ho10, hb9⟩
      have hb9' := below_al hb9
      have HP9 := Lib.hid (HP8.out.below hb9'); have HR9' := Lib.hid (HR9.out.below hb9' (Nat.le_refl _)); have HO10 := Lib.hid ho10
      have hn10 : n10 ≤ 40 := own_len_le ho10 HUP.out
      have hbs9 := Nat.lt_of_lt_of_le hbs hb9'.size
      replace q1 := (hb9'.cell (p := ⟨b, off + j * 2 + 1, none⟩) hbs).trans q1
      have HRD := Lib.hid (rd_u w9 HOX.out.2.2.1 HOX.out.2.2.2 2)
      clear q0 hb9 hb9' HP8 HR8 HR9 HRU ho10
      as_aux_lemma =>
      go_wp2_with fail
      refine (MultiplyNaturals_any _ A9 n9 c9 M2 (HR9'.out.alloc _) HBG2.out.len _ 1 1 dd HRD.out HLD.out).mono ?_
      rw [HEQ.out, (fit_yes HUP.out).1, (fit_yes HUP.out).2.2]
      rintro e w10 ⟨A11, n11, c11, rfl, ho11, hb10⟩
      have hb10' := below_al hb10
      have HP10 := Lib.hid (HP9.out.below hb10'); have HR10 := Lib.hid (HR9'.out.below hb10' (Nat.le_refl _)); have HO10' := Lib.hid (own_below HO10.out hb10' (Nat.le_refl _)); have HO11 := Lib.hid ho11
      clear q1 hb10 hb10' HP9 HR9' HRD ho11 HO10 hbs9
      as_aux_lemma =>
      go_wp2_with fail
      refine (numsF_any w10 A10 n10 c10 (M * u) (own_rd HO10'.out) A11 n11 c11 (own_rd HO11.out) (by omega)).mono ?_
      rintro e w11 ⟨rfl, hb11⟩
      have HP11 := Lib.hid (HP10.out.below hb11); have HR11 := Lib.hid (HR10.out.below hb11 (Nat.le_refl _))
      clear hb11 HP10 HR10 HO10' HO11
      go_wp2_with fail
      go_roundw
      case rel => exact ⟨i + 1, M2, A9, n9, c9, rfl, by go_num, by omega, HR11.out, HBG2, HQ2, HP11.out⟩
      case measure => simp only [intOf]; omega
    · obtain rfl : i = s := by omega
      have hM : M = a := by rw [← HQ.out.1]; exact (runQ_stay (by rw [HQ.out.2]; omega)).symm
      subst hM
      have hm0 : 0 < m := pos_nat HP.out.las HBG.out.1
      as_aux_lemma =>
      go_wp2_with fail
      refine (numsF_any wr A6 n6 c6 M HR6.out B m d HP.out.las (by omega)).mono ?_
      rintro e w8 ⟨rfl, hb8⟩
      have HP8 := Lib.hid (HP.out.below hb8)
      go_wp2_with fail
      go_ret
      have hgd : ∀ b : Bool, (b = true) → Ending.returned (.bool b) = Ending.returned (.bool true) := fun b h => by rw [h]
      exact ⟨hgd _ (by simp [hm0]), HP8.out.bel⟩
end Go.Proofs.Ytfjlbfnjnkaooaa
