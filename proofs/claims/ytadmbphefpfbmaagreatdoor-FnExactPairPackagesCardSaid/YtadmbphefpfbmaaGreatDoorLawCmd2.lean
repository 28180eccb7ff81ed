/- The contracts of the laws' own helpers on commands: comparing, marking, holding, reckoning. Written by mk_lawcmd2.py. -/
import Derived.Test.YtadmbphefpfbmaaGreatDoorLawCmd
namespace Go.Proofs.YtadmbphefpfbmaaGreatDoor
open Go.RowKit
set_option linter.unusedVariables false
set_option linter.unusedSimpArgs false
theorem rdE_small {w : World} {A : Option Addr} {n : Nat} {es : List El} (h : RdE w A n es) : (ints (eNums es)).length = n * 2 := h.1
set_option maxHeartbeats 2000000 in
theorem eqCommand_same (w : World) (x : Cmd) (A : Option Addr) (n c : Nat) (hr : RdE w A n x.e) (hn : n ≤ 1000000000) (A' : Option Addr) (n' c' : Nat) (hr' : RdE w A' n' x.e) :
    Calls Tryz.prog 39 #[.agg #[.int .i64 x.k, .int .i64 x.v, .int .i64 x.l, .slice A n c], .agg #[.int .i64 x.k, .int .i64 x.v, .int .i64 x.l, .slice A' n' c']] w (RetV w (.bool true)) := by
  obtain ⟨xk, xv, xl, xe⟩ := x
  simp only at hr hr'
  go_enter Tryz.func39, Tryz.ntmps39
  go_wp2_with fail
  refine (eqExprS_same _ _ _ _ (eNums xe) ((hr.below (below_new _ _) (Nat.le_refl _)).below (below_new _ _) (Nat.le_refl _)) (by omega) _ _ _ ((hr'.below (below_new _ _) (Nat.le_refl _)).below (below_new _ _) (Nat.le_refl _))).mono ?_
  rintro e w2 ⟨rfl, hb2⟩
  go_wp2_with fail
  go_ret
  exact ⟨rfl, (box_step (box_step hb2).1).1⟩
set_option maxHeartbeats 4000000 in
theorem eqCommandS_same (w : World) (A : Option Addr) (n c : Nat) (cs : List Cmd) (hr : RdC w A n cs) (hn : n ≤ 1000000000) (A' : Option Addr) (n' c' : Nat) (hr' : RdC w A' n' cs) :
    Calls Tryz.prog 17 #[.slice A n c, .slice A' n' c'] w (RetV w (.bool true)) := by
  have HL : Hid (cs.length = n) := Lib.hid hr.len
  obtain rfl : n = n' := by rw [← hr.len, ← hr'.len]
  go_enter Tryz.func17, Tryz.ntmps17
  go_wp2_with fail
  go_loopw [5] (fun i wr => ∃ k : Nat, k ≤ n ∧ i = .int .i64 k ∧ Below w.heap.size w wr) (fun i _ => n - (intOf i).toNat)
  case atStart => exact ⟨0, Nat.zero_le _, rfl, Below.refl _ _⟩
  case round =>
    obtain ⟨k, hk, rfl, hb⟩ := hrel
    by_cases hlt : k < n
    · obtain ⟨x, hx⟩ := get_some (xs := cs) (k := k) (by rw [HL.out]; exact hlt)
      obtain ⟨b, off, B, m, d, hA, hbs, q0, q1, q2, q3, hm, hmd, hrr⟩ := hr.at_ hx
      subst hA
      obtain ⟨b', off', B', m', d', hA, hbs', p0, p1, p2, p3, hm', hmd', hrr'⟩ := hr'.at_ hx
      subst hA
      replace q0 := (hb.cell (p := ⟨b, off + k * 4, none⟩) hbs).trans q0
      replace p0 := (hb.cell (p := ⟨b', off' + k * 4, none⟩) hbs').trans p0
      replace q1 := (hb.cell (p := ⟨b, off + k * 4 + 1, none⟩) hbs).trans q1
      replace p1 := (hb.cell (p := ⟨b', off' + k * 4 + 1, none⟩) hbs').trans p1
      replace q2 := (hb.cell (p := ⟨b, off + k * 4 + 2, none⟩) hbs).trans q2
      replace p2 := (hb.cell (p := ⟨b', off' + k * 4 + 2, none⟩) hbs').trans p2
      replace q3 := (hb.cell (p := ⟨b, off + k * 4 + 3, none⟩) hbs).trans q3
      replace p3 := (hb.cell (p := ⟨b', off' + k * 4 + 3, none⟩) hbs').trans p3
      have hq1 := hrr.below hb (Nat.le_refl _)
      have hq2 := hrr'.below hb (Nat.le_refl _)
      have hb1 : b < wr.heap.size := Nat.lt_of_lt_of_le hbs hb.size
      have hb2 : b' < wr.heap.size := Nat.lt_of_lt_of_le hbs' hb.size
      have HB := Lib.hid hb
      clear hx hb hrr hrr'
      go_wp2_with fail
      go_region_held3 (fun w' => w'.cell? ⟨b, off + k * 4, none⟩ = some (.int .i64 x.k) ∧ w'.cell? ⟨b, off + k * 4 + 1, none⟩ = some (.int .i64 x.v) ∧ w'.cell? ⟨b, off + k * 4 + 2, none⟩ = some (.int .i64 x.l) ∧ w'.cell? ⟨b, off + k * 4 + 3, none⟩ = some (.slice B m d) ∧ w'.cell? ⟨b', off' + k * 4, none⟩ = some (.int .i64 x.k) ∧ w'.cell? ⟨b', off' + k * 4 + 1, none⟩ = some (.int .i64 x.v) ∧ w'.cell? ⟨b', off' + k * 4 + 2, none⟩ = some (.int .i64 x.l) ∧ w'.cell? ⟨b', off' + k * 4 + 3, none⟩ = some (.slice B' m' d')) (exact ⟨q0, q1, q2, q3, p0, p1, p2, p3⟩)
        (first
          | (go_at_call 39
             refine (eqCommand_same _ x _ _ _ (by exact hq1) hm _ _ _ (by exact hq2)).mono ?_
             rintro e w3 ⟨rfl, hb3⟩
             (try replace hb3 := below_undrew hb3)
             (try replace hb3 := below_undrewN hb3)
             have q0 := (hb3.cell (p := ⟨b, off + k * 4, none⟩) hb1).trans q0
             have p0 := (hb3.cell (p := ⟨b', off' + k * 4, none⟩) hb2).trans p0
             have q1 := (hb3.cell (p := ⟨b, off + k * 4 + 1, none⟩) hb1).trans q1
             have p1 := (hb3.cell (p := ⟨b', off' + k * 4 + 1, none⟩) hb2).trans p1
             have q2 := (hb3.cell (p := ⟨b, off + k * 4 + 2, none⟩) hb1).trans q2
             have p2 := (hb3.cell (p := ⟨b', off' + k * 4 + 2, none⟩) hb2).trans p2
             have q3 := (hb3.cell (p := ⟨b, off + k * 4 + 3, none⟩) hb1).trans q3
             have p3 := (hb3.cell (p := ⟨b', off' + k * 4 + 3, none⟩) hb2).trans p3))
      go_wp2_with fail
      go_roundw
      case rel => exact ⟨k + 1, by omega, by go_num, HB.out.trans (hb3.mono HB.out.size)⟩
      case measure => simp [intOf]; omega
    · go_wp2_with fail
      go_ret
      exact ⟨rfl, hb⟩
theorem InnerC.mark {w w' : World} {F : Nat → Prop} {i n c : Nat} {us : List Value} {cs : List Cmd} {A : Option Addr} {x : Cmd} (h : InnerC w F us cs) (hu : us[i]? = some (.slice A n c)) (hn : n ≤ 1000000000) (hk : ∀ k, Fo (.slice A n c) k → F k) (ho : w'.ownsRow 0 110 2 (.slice A n c) n (ints (eNums x.e))) (hg : Ch (Fo (.slice A n c)) w w') : InnerC w' F us (cs.set i x) := by
  obtain ⟨h1, h2, h3⟩ := h
  refine ⟨by simp [h1], fun j u y hj hx => ?_, h3⟩
  by_cases hij : i = j
  · subst hij
    rw [hu] at hj
    injection hj with hj
    subst hj
    rw [List.getElem?_set_self (by have := (List.getElem?_eq_some_iff.1 hu).1; omega)] at hx
    injection hx with hx
    subst hx
    exact ⟨A, n, c, rfl, hn, ho, hk⟩
  · rw [List.getElem?_set_ne hij] at hx
    obtain ⟨A', n', c', rfl, hn', ho', hb'⟩ := h2 j u y hj hx
    exact ⟨A', n', c', rfl, hn', own_ch ho' hg (fun k a b => hij (h3 i j _ _ hu hj k b a)), hb'⟩
set_option maxHeartbeats 4000000 in
theorem markCommandS_any (w : World) (F : Nat → Prop) (A : Option Addr) (n c : Nat) (cs : List Cmd) (ho : OwnC w F A n c cs) (hn : n ≤ 1000000000) (ht : mkC cs ≤ 1000000000) (k : Int) (hk0 : 0 ≤ k) (hk1 : k ≤ 1000000000) :
    Calls Tryz.prog 18 #[.slice A n c, .int .i64 k] w fun e w' => e = .returned (.int .i64 (k + mkC cs)) ∧ OwnC w' F A n c (upC k cs) ∧ Ch F w w' := by
  have HL : Hid (cs.length = n) := Lib.hid ho.len
  go_enter Tryz.func18, Tryz.ntmps18
  go_wp2_with fail
  go_loopw [1, 5] (fun q i wr => ∃ j : Nat, j ≤ n ∧ i = .int .i64 j ∧ q = .int .i64 (k + mkC (cs.take j)) ∧ OwnC wr F A n c (upC k (cs.take j) ++ cs.drop j) ∧ Ch F w wr) (fun _ i _ => n - (intOf i).toNat)
  case atStart => exact ⟨0, Nat.zero_le _, rfl, by simp [mkC], by simpa [upC] using ho, Ch.refl _ _⟩
  case round =>
    obtain ⟨j, hj, rfl, rfl, hown, hO⟩ := hrel
    clear ho
    have htj : mkC (cs.take j) ≤ 1000000000 := Nat.le_trans (mkC_take_le cs j) ht
    by_cases hlt : j < n
    · obtain ⟨x, hx⟩ := get_some (xs := cs) (k := j) (by rw [HL.out]; exact hlt)
      obtain ⟨us, h1, h2, h3, h4⟩ := hown
      obtain ⟨u, hu⟩ := get_some (xs := us) (k := j) (by have h5 := h3.1; have h6 := h1.1; rw [flatC_len _ _ h5] at h6; omega)
      obtain ⟨A', n', c', rfl, hn', ho', hb'⟩ := h3.2.1 j u x hu (mkC_get hx)
      obtain ⟨e0, e1, e2, e3⟩ := flatC_get (mkC_get (k := k) hx) hu
      obtain ⟨g, hA, _, hgs, r0, f0⟩ := ownN_get h1 e0
      subst hA
      obtain ⟨r1, f1⟩ := ownN_at h1 e1
      obtain ⟨r2, f2⟩ := ownN_at h1 e2
      obtain ⟨r3, f3⟩ := ownN_at h1 e3
      have hn'x : x.e.length = n' := by have := ho'.1; simp [eNums_len] at this; omega
      generalize hM : mkC (cs.take j) = M at *
      have HS := Lib.hid (ownN_put (ownN_put (ownN_put h1 (j * 4) (.int .i64 (k + (M : Int)))) (j * 4 + 1) (.int .i64 (k + (M : Int) + 1))) (j * 4 + 2) (.int .i64 (k + (M : Int) + 1 + 1)))
      have HFS := Lib.hid (flatC_set (mkC_get (k := k) hx) h3.1 (k + (M : Int)) (k + (M : Int) + 1) (k + (M : Int) + 1 + 1) (upE (k + (M : Int) + 3) x.e.length))
      have HC := Lib.hid (ch_setF (g := g) (i := j * 4 + 2) (u := .int .i64 (k + (M : Int) + 1 + 1)) (ch_setF (g := g) (i := j * 4 + 1) (u := .int .i64 (k + (M : Int) + 1)) (ch_setF (g := g) (i := j * 4) (u := .int .i64 (k + (M : Int))) (Ch.refl (· = g) wr) rfl) rfl) rfl)
      have HI := Lib.hid (h3.apart HC.out (fun i v hv q hq hqg => by
        obtain ⟨y, hy⟩ := get_some (xs := upC k (cs.take j) ++ cs.drop j) (k := i) (by rw [← h3.1]; exact (List.getElem?_eq_some_iff.1 hv).1)
        obtain ⟨_, _, _, rfl, _, he, _⟩ := h3.2.1 i v y hv hy
        exact own_types he h1 (by decide) q hq (by subst hqg; rfl)))
      have HE := Lib.hid (own_ch ho' HC.out (fun q hq hqg => own_types ho' h1 (by decide) q hq (by subst hqg; rfl)))
      have HX := Lib.hid hx; have HU := Lib.hid hu; have H2 := Lib.hid h2; have H4 := Lib.hid h4; have HB' := Lib.hid hb'; have HNX := Lib.hid hn'x
      have HTS := Lib.hid (mkC_take_succ hx)
      have HM := Lib.hid hM
      have hmb : M + 3 + n' * 2 ≤ 1000000000 := by have h5 := HTS.out; have h6 := mkC_take_le cs (j + 1); have h7 := HNX.out; have h8 := HM.out; omega
      have HL3 : Hid (((((flatC (upC k (cs.take j) ++ cs.drop j) us).set (j * 4) (Value.int .i64 (k + (M : Int)))).set (j * 4 + 1) (.int .i64 (k + (M : Int) + 1))).set (j * 4 + 2) (.int .i64 (k + (M : Int) + 1 + 1)))[j * 4 + 3]? = some (.slice A' n' c')) := Lib.hid (by
        rw [List.getElem?_set_ne (by omega), List.getElem?_set_ne (by omega), List.getElem?_set_ne (by omega)]; exact e3)
      obtain ⟨t3, _⟩ := ownN_at HS.out HL3.out
      have HF : Hid (F g) := Lib.hid (h2 g rfl)
      clear hx hu h1 h2 h3 h4 ho' hb' hn'x e0 e1 e2 e3 hM
      go_wp2_with fail
      refine (markExprS_any _ 0 _ _ _ (eNums x.e) HE.out (by omega) _ (by omega) (by omega)).mono ?_
      rintro e w2 ⟨rfl, hm2, hg2⟩
      have HO2 := Lib.hid (own_ch HS.out (ch_row hg2) (own_types HS.out HE.out (by decide)))
      have HI2 := Lib.hid (HI.out.mark (x := ⟨k + (M : Int), k + (M : Int) + 1, k + (M : Int) + 1 + 1, upE (k + (M : Int) + 3) x.e.length⟩) HU.out hn' HB'.out (by
        show w2.ownsRow 0 110 2 _ _ (ints (eNums (upE (k + (M : Int) + 3) x.e.length)))
        rw [eNums_upE, HNX.out]
        have e5 : k + (M : Int) + 1 + 1 + 1 = k + (M : Int) + 3 := by omega
        rw [e5] at hm2
        exact hm2) (ch_row hg2))
      have HT2 := Lib.hid ((hO.trans (HC.out.mono (fun q hq => by subst hq; exact HF.out))).trans ((ch_row hg2).mono HB'.out))
      have HEQ : Hid (k + (M : Int) + 1 + 1 + 1 + (n' : Int) * 2 = k + (mkC (cs.take (j + 1)) : Int)) := Lib.hid (by have h1 := HTS.out; have h2 := HNX.out; have h3 := HM.out; omega)
      have HG2 := Lib.hid (Nat.le_trans HC.out.size hg2.size)
      clear hm2 hg2
      go_wp2_with fail
      go_roundw
      case rel =>
        refine ⟨j + 1, by omega, by go_num, by rw [HEQ.out], ⟨us, ?_, H2.out, ?_, fun q hq => Nat.lt_of_lt_of_le (H4.out q hq) HG2.out⟩, HT2.out⟩
        · have h := HO2.out
          rw [HFS.out] at h
          have h5 := mkC_set (k := k) HX.out
          rw [HM.out, show k + (M : Int) + 2 = k + (M : Int) + 1 + 1 by omega] at h5
          rw [h5] at h
          exact h
        · have h := HI2.out
          have h5 := mkC_set (k := k) HX.out
          rw [HM.out, show k + (M : Int) + 2 = k + (M : Int) + 1 + 1 by omega] at h5
          rw [h5] at h
          exact h
      case measure => simp [intOf]; omega
    · go_wp2_with fail
      go_ret
      have e1 : cs.take j = cs := List.take_of_length_le (by rw [HL.out]; omega)
      have e2 : cs.drop j = [] := List.drop_of_length_le (by rw [HL.out]; omega)
      rw [e1, e2, List.append_nil] at hown
      exact ⟨by rw [e1]; rfl, hown, hO⟩
set_option maxHeartbeats 4000000 in
theorem heldCommandS_any (w : World) (A : Option Addr) (n c : Nat) (cs : List Cmd) (k : Int) (hr : RdC w A n (upC k cs)) (hn : n ≤ 1000000000) (ht : mkC cs ≤ 1000000000) (hk0 : 0 ≤ k) (hk1 : k ≤ 1000000000) :
    Calls Tryz.prog 19 #[.slice A n c, .int .i64 k] w (RetV w (.int .i64 (k + mkC cs))) := by
  have HL : Hid (cs.length = n) := Lib.hid (by rw [← upC_len k cs]; exact hr.len)
  go_enter Tryz.func19, Tryz.ntmps19
  go_wp2_with fail
  go_loopw [1, 5] (fun q i wr => ∃ j : Nat, j ≤ n ∧ i = .int .i64 j ∧ q = .int .i64 (k + mkC (cs.take j)) ∧ Below w.heap.size w wr) (fun _ i _ => n - (intOf i).toNat)
  case atStart => exact ⟨0, Nat.zero_le _, rfl, by simp [mkC], Below.refl _ _⟩
  case round =>
    obtain ⟨j, hj, rfl, rfl, hb⟩ := hrel
    have htj : mkC (cs.take j) ≤ 1000000000 := Nat.le_trans (mkC_take_le cs j) ht
    by_cases hlt : j < n
    · obtain ⟨x, hx⟩ := get_some (xs := cs) (k := j) (by rw [HL.out]; exact hlt)
      obtain ⟨b, off, A', n', c', hA, hbs, q0, q1, q2, q3, hn', _, hr'⟩ := hr.at_ (upC_get (k := k) hx)
      subst hA
      replace q0 := (hb.cell (p := ⟨b, off + j * 4, none⟩) hbs).trans q0
      replace q1 := (hb.cell (p := ⟨b, off + j * 4 + 1, none⟩) hbs).trans q1
      replace q2 := (hb.cell (p := ⟨b, off + j * 4 + 2, none⟩) hbs).trans q2
      replace q3 := (hb.cell (p := ⟨b, off + j * 4 + 3, none⟩) hbs).trans q3
      have hnx : x.e.length = n' := by have h := rdE_len hr'; simp [upE_len] at h; exact h
      replace hr' := hr'.below hb (Nat.le_refl _)
      simp only [eNums_upE] at hr'
      rw [hnx] at hr'
      have HTS := Lib.hid (mkC_take_succ hx)
      have HNX := Lib.hid hnx
      clear hx hnx
      generalize hM : mkC (cs.take j) = M at *
      have HM := Lib.hid hM
      clear hM
      rw [show k + (M : Int) + 3 = k + (M : Int) + 1 + 1 + 1 by omega] at hr'
      rw [show k + (M : Int) + 2 = k + (M : Int) + 1 + 1 by omega] at q2
      have hmb : M + 3 + n' * 2 ≤ 1000000000 := by have h5 := HTS.out; have h6 := mkC_take_le cs (j + 1); have h7 := HNX.out; have h8 := HM.out; omega
      go_wp2_with fail
      refine (heldExprS_any _ _ _ _ _ hr' (by omega) (by omega) (by omega)).mono ?_
      rintro e w2 ⟨rfl, hb2⟩
      have HEQ : Hid (k + (M : Int) + 1 + 1 + 1 + (n' : Int) * 2 = k + (mkC (cs.take (j + 1)) : Int)) := Lib.hid (by have h1 := HTS.out; have h2 := HNX.out; have h3 := HM.out; omega)
      go_wp2_with fail
      go_roundw
      case rel => exact ⟨j + 1, by omega, by go_num, by rw [HEQ.out], hb.trans (hb2.mono hb.size)⟩
      case measure => simp [intOf]; omega
    · go_wp2_with fail
      go_ret
      have e1 : cs.take j = cs := List.take_of_length_le (by rw [HL.out]; omega)
      exact ⟨by rw [e1]; rfl, hb⟩
end Go.Proofs.YtadmbphefpfbmaaGreatDoor
