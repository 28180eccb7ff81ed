/- Programs of registers (reference): shifted, joined, repeated, chosen, moved. -/
import Derived.Test.YtgnboemmlohahaaRrB
namespace Go.Proofs.Ytgnboemmlohahaa
open Go.RowKit
set_option linter.unusedVariables false
set_option linter.unusedSimpArgs false
attribute [local go_sem ↓] Go.wp_at_zero Go.wp_at_succ
theorem rd_lenF {w : World} {A : Option Addr} {n : Nat} {p : List Ins} (h : Rd w A (n * 4) (ints (flatI p))) : p.length = n := by
  have h3 := h.1; simp only [List.length_map, flatI_len] at h3; omega
theorem ok_lenF {p : List Ins} (h : okProg p = true) : p.length ≤ 400 := by
  simp only [okProg, Bool.and_eq_true, decide_eq_true_eq] at h; exact h.2
theorem okIns_mk {n : Int} {x : Ins} (h1 : 0 ≤ x.reg ∧ x.reg ≤ 23) (h2 : 0 ≤ x.thn ∧ x.thn ≤ n) (h3 : (x.kind = 0 ∧ x.els = 0) ∨ (x.kind = 1 ∧ 0 ≤ x.els ∧ x.els ≤ n)) : okIns n x = true := by
  simp only [okIns, inB, Bool.and_eq_true, Bool.or_eq_true, decide_eq_true_eq]
  exact ⟨⟨h1, h2⟩, h3.imp id (fun h => h)⟩
theorem okIns_un {n : Int} {x : Ins} (h : okIns n x = true) : (0 ≤ x.reg ∧ x.reg ≤ 23) ∧ (0 ≤ x.thn ∧ x.thn ≤ n) ∧ ((x.kind = 0 ∧ x.els = 0) ∨ (x.kind = 1 ∧ 0 ≤ x.els ∧ x.els ≤ n)) := by
  simp only [okIns, inB, Bool.and_eq_true, Bool.or_eq_true, decide_eq_true_eq] at h
  exact ⟨h.1.1, h.1.2, h.2⟩
theorem redI_ok {n h a L : Int} {x : Ins} (hx : okIns n x = true) (h1 : 0 ≤ h ∧ h ≤ L) (h2 : 0 ≤ a ∧ n + a ≤ L) : okIns L (redI n h a x) = true := by
  obtain ⟨k1, k2, k3⟩ := okIns_un hx
  have ht : ∀ y, 0 ≤ y → y ≤ n → 0 ≤ redT n h a y ∧ redT n h a y ≤ L := by
    intro y y1 y2
    unfold redT
    split <;> omega
  refine okIns_mk k1 (ht _ k2.1 k2.2) ?_
  simp only [redI]
  rcases k3 with ⟨e1, e2⟩ | ⟨e1, e2, e3⟩
  · left; exact ⟨e1, by rw [if_neg (by omega)]; exact e2⟩
  · right; rw [if_pos e1]; exact ⟨e1, ht _ e2 e3⟩
theorem map_ok {n h a L : Int} {p : List Ins} (hp : p.all (okIns n) = true) (h1 : 0 ≤ h ∧ h ≤ L) (h2 : 0 ≤ a ∧ n + a ≤ L) : (p.map (redI n h a)).all (okIns L) = true := by
  rw [List.all_eq_true] at hp ⊢
  intro y hy
  obtain ⟨x, hx, rfl⟩ := List.mem_map.1 hy
  exact redI_ok (hp x hx) h1 h2
theorem okProg_all {p : List Ins} (h : okProg p = true) : p.all (okIns p.length) = true := by
  simp only [okProg, Bool.and_eq_true] at h; exact h.1
theorem okProg_mk {p : List Ins} {n : Nat} (hn : p.length = n) (h4 : n ≤ 400) (h : p.all (okIns n) = true) : okProg p = true := by
  subst hn
  simp only [okProg, Bool.and_eq_true, decide_eq_true_eq]; exact ⟨h, h4⟩
/-- A new program of the call's own. -/
def ProgE (w : World) (m : Nat) (p : List Ins) (e : Ending) (w' : World) : Prop :=
  ∃ A c, e = .returned (.slice A m c) ∧ w'.ownsRow w.heap.size 49 4 (.slice A m c) m (ints (flatI p)) ∧ Below w.heap.size w w'
set_option maxHeartbeats 4000000 in
set_option maxRecDepth 100000 in
theorem l07Shift_any (w : World) (A : Option Addr) (n c : Nat) (p : List Ins) (hr : Rd w A (n * 4) (ints (flatI p))) (hok : okProg p = true) (a h : Int) (ha : 0 ≤ a ∧ a ≤ 100000) :
    Calls Try.prog 41 #[.slice A n c, .int .i64 a, .int .i64 h] w (ProgE w n (p.map (redI n h a))) := by
  have hpl := rd_lenF hr
  have hn : n ≤ 400 := by have := ok_lenF hok; omega
  have HPL := Lib.hid hpl; have HOK := Lib.hid (okProg_all hok); have HA := Lib.hid ha; have HR := Lib.hid hr
  have hown := ownN_lit w #[] 0 4 49 rfl (by omega)
  go_enter Try.func41, Try.ntmps41
  go_upto_region 3 with (at_builtin; go_must (refine wpList_appSN eltIn rfl _ _ rfl (w.alloc (.cells #[] 49)) w.heap.size _ 0 _ (by rfl) hown _ n c (ints (flatI p)) (by rfl) (hr.alloc _) (ints_one1 _) (by simp) (by omega) ?_); rintro A1 c1 w1 ho1 hb1 _
                         have HO1 : Hid (w1.ownsRow w.heap.size 49 4 (.slice A1 n c1) n (ints (flatI p))) := Lib.hid (by simpa using ho1)
                         have HB1 : Hid (Below w.heap.size w w1) := Lib.hid ((below_new _ _).trans hb1)
                         rw [Nat.zero_add]
                         clear ho1 hb1)
  clear hpl hok ha hr hown
  go_wp2_with fail
  go_loopw [9] (fun q wr => ∃ k : Nat, k ≤ n ∧ q = .int .i64 k ∧ Hid (wr.ownsRow w.heap.size 49 4 (.slice A1 n c1) n (ints (flatI ((p.take k).map (redI n h a) ++ p.drop k)))) ∧ Hid (Below w.heap.size w wr)) (fun q _ => n - (intOf q).toNat)
  case atStart => exact ⟨0, Nat.zero_le _, by go_num, Lib.hid (by simpa using HO1.out), HB1⟩
  case round =>
    as_aux_lemma =>
    obtain ⟨k, hk, rfl, HO, HB⟩ := hrel
    by_cases hlt : k < n
    · as_aux_lemma =>
      obtain ⟨x, hx⟩ := get_some (xs := p) (k := k) (by rw [HPL.out]; exact hlt)
      have hi := okIns_un (List.all_eq_true.1 HOK.out x (List.mem_of_getElem? hx))
      rw [HPL.out] at hi
      have HI := Lib.hid hi
      have hl : ((p.take k).map (redI n h a)).length = k := by rw [List.length_map, List.length_take, HPL.out]; omega
      have ho := HO.out
      rw [map_headI _ hx] at ho
      obtain ⟨a0, a1, a2, a3⟩ := flatI_at (L := (p.take k).map (redI n h a)) (R := p.drop (k + 1)) (x := x) hl
      have HST := Lib.hid (map_stepI (redI n h a) hx)
      obtain ⟨g, rfl, hgl, hgs, r0, f0⟩ := ownN_get ho (ints_get a0)
      obtain ⟨r2, f2⟩ := ownN_at ho (ints_get a2)
      have HO2 := Lib.hid ho; have HL := Lib.hid hl
      have HGL := Lib.hid hgl
      obtain ⟨b, off, hA, hbl, p0, p1, p2, p3⟩ := rdI (HR.out.below HB.out (Nat.le_refl _)) hx
      have HPB : Hid (¬ b = g) := Lib.hid (fun e => by
        obtain ⟨b', off', hA', hb', _⟩ := rdI HR.out hx
        rw [hA] at hA'
        injection hA' with hA'
        injection hA' with hA'
        omega)
      have HC2 : Hid (∀ v, Ch (· = g) wr (wr.setCell ⟨g, k * 4 + 2, none⟩ v)) := Lib.hid (fun v => ch_set _ _ _ _)
      clear ho hl a0 a1 a2 a3 hi HO HO1 HB1 r0 f0 hgl hgs
      subst hA
      obtain ⟨kd, rg, th, el⟩ := x
      simp only at p0 p1 p2 p3 r2
      have HT : Hid (0 ≤ th ∧ th ≤ (n : Int)) := Lib.hid HI.out.2.1
      have HE : Hid ((kd = 0 ∧ el = 0) ∨ (kd = 1 ∧ 0 ≤ el ∧ el ≤ (n : Int))) := Lib.hid HI.out.2.2
      clear HI hx
      -- the first target
      obtain ⟨w2, hw2⟩ : ∃ w2, w2 = wr.setCell ⟨g, k * 4 + 2, none⟩ (.int .i64 (redT n h a th)) := ⟨_, rfl⟩
      have ho4 := ownN_put HO2.out (k * 4 + 2) (.int .i64 (redT n h a th))
      rw [← hw2, flatI_set2 HL.out] at ho4
      have HO4 := Lib.hid ho4
      have HCW : Hid (Ch (· = g) wr w2) := Lib.hid (by rw [hw2]; exact ch_set _ _ _ _)
      have HB2 : Hid (Below w.heap.size w w2) := Lib.hid (below_ch HB.out HCW.out (fun q e => by rw [e]; exact HGL.out) HB.out.size)
      have q0 : w2.cell? ⟨b, off + k * 4, none⟩ = some (.int .i64 kd) := by rw [hw2]; exact cell_far p0 HPB.out
      have q3 : w2.cell? ⟨b, off + k * 4 + 3, none⟩ = some (.int .i64 el) := by rw [hw2]; exact cell_far p3 HPB.out
      obtain ⟨r3, f3⟩ := ownN_at ho4 (ints_get (flatI_at HL.out).2.2.2)
      have Q0 := Lib.hid q0; have Q3 := Lib.hid q3
      clear ho4 q0 q3 r3 f3
      by_cases ht : th = (n : Int)
      · as_aux_lemma =>
        have hq : (th == (n : Int)) = true := by rw [ht]; simp
        have HF : Hid (redT n h a th = h) := Lib.hid (by unfold redT; rw [if_pos ht])
        clear ht
        rw [HF.out] at hw2
        go_upto_region 9 with fail
        rw [← hw2]
        clear hw2 p0 p1 p2 p3 r2 f2
        have q0 := Q0.out
        have q3 := Q3.out
        obtain ⟨r3, f3⟩ := ownN_at HO4.out (ints_get (flatI_at HL.out).2.2.2)
        rcases HE.out with he | he
        · as_aux_lemma =>
          have HG : Hid (redI n h a ⟨kd, rg, th, el⟩ = ⟨kd, rg, redT n h a th, el⟩) := Lib.hid (by simp only [redI]; rw [if_neg (by omega)])
          have hk0 := he.1
          have hkq : (kd == 0) = true := by rw [hk0]; rfl
          clear hk0 he
          go_wp2_with fail
          go_roundw
          case rel => exact ⟨k + 1, by omega, by go_num, Lib.hid (by have h5 := HO4.out; rw [HST.out, HG.out]; exact h5), HB2⟩
          case measure => simp [intOf]; omega
        · as_aux_lemma =>
          have HG : Hid (redI n h a ⟨kd, rg, th, el⟩ = ⟨kd, rg, redT n h a th, redT n h a el⟩) := Lib.hid (by simp only [redI]; rw [if_pos he.1])
          have hkq : (kd == 0) = false := by rw [beq_eq_false_iff_ne]; omega
          have HEE := Lib.hid he.2
          clear he
          obtain ⟨w4, hw4⟩ : ∃ w4, w4 = w2.setCell ⟨g, k * 4 + 3, none⟩ (.int .i64 (redT n h a el)) := ⟨_, rfl⟩
          have ho5 := ownN_put HO4.out (k * 4 + 3) (.int .i64 (redT n h a el))
          rw [← hw4, flatI_set3 HL.out] at ho5
          have HO5 := Lib.hid ho5
          have HB4 : Hid (Below w.heap.size w w4) := Lib.hid (by rw [hw4]; exact below_ch HB2.out (ch_set _ _ _ _) (fun q e => by rw [e]; exact HGL.out) HB2.out.size)
          clear ho5
          by_cases hel : el = (n : Int)
          · as_aux_lemma =>
            have hq2 : (el == (n : Int)) = true := by rw [hel]; simp
            have HF2 : Hid (redT n h a el = h) := Lib.hid (by unfold redT; rw [if_pos hel])
            clear hel
            rw [HF2.out] at hw4
            go_upto_region 5 with fail
            rw [← hw4]
            clear hw4 q0 q3 r3 f3
            go_wp2_with fail
            go_roundw
            case rel => exact ⟨k + 1, by omega, by go_num, Lib.hid (by have h5 := HO5.out; rw [HST.out, HG.out]; exact h5), HB4⟩
            case measure => simp [intOf]; omega
          · as_aux_lemma =>
            have hq2 : (el == (n : Int)) = false := by rw [beq_eq_false_iff_ne]; exact hel
            have HF2 : Hid (redT n h a el = el + a) := Lib.hid (by unfold redT; rw [if_neg hel])
            have hwr := wr_of (x := el + a) (by have := HEE.out; have := HA.out; omega) (by have := HEE.out; have := HA.out; omega)
            clear hel
            rw [HF2.out] at hw4
            go_upto_region 5 with fail
            rw [← hw4]
            clear hw4 q0 q3 r3 f3 hwr
            go_wp2_with fail
            go_roundw
            case rel => exact ⟨k + 1, by omega, by go_num, Lib.hid (by have h5 := HO5.out; rw [HST.out, HG.out]; exact h5), HB4⟩
            case measure => simp [intOf]; omega
      · as_aux_lemma =>
        have hq : (th == (n : Int)) = false := by rw [beq_eq_false_iff_ne]; exact ht
        have HF : Hid (redT n h a th = th + a) := Lib.hid (by unfold redT; rw [if_neg ht])
        have hwr := wr_of (x := th + a) (by have := HT.out; have := HA.out; omega) (by have := HT.out; have := HA.out; omega)
        clear ht
        rw [HF.out] at hw2
        go_upto_region 9 with fail
        rw [← hw2]
        clear hw2 p0 p1 p2 p3 r2 f2 hwr
        have q0 := Q0.out
        have q3 := Q3.out
        obtain ⟨r3, f3⟩ := ownN_at HO4.out (ints_get (flatI_at HL.out).2.2.2)
        rcases HE.out with he | he
        · as_aux_lemma =>
          have HG : Hid (redI n h a ⟨kd, rg, th, el⟩ = ⟨kd, rg, redT n h a th, el⟩) := Lib.hid (by simp only [redI]; rw [if_neg (by omega)])
          have hk0 := he.1
          have hkq : (kd == 0) = true := by rw [hk0]; rfl
          clear hk0 he
          go_wp2_with fail
          go_roundw
          case rel => exact ⟨k + 1, by omega, by go_num, Lib.hid (by have h5 := HO4.out; rw [HST.out, HG.out]; exact h5), HB2⟩
          case measure => simp [intOf]; omega
        · as_aux_lemma =>
          have HG : Hid (redI n h a ⟨kd, rg, th, el⟩ = ⟨kd, rg, redT n h a th, redT n h a el⟩) := Lib.hid (by simp only [redI]; rw [if_pos he.1])
          have hkq : (kd == 0) = false := by rw [beq_eq_false_iff_ne]; omega
          have HEE := Lib.hid he.2
          clear he
          obtain ⟨w4, hw4⟩ : ∃ w4, w4 = w2.setCell ⟨g, k * 4 + 3, none⟩ (.int .i64 (redT n h a el)) := ⟨_, rfl⟩
          have ho5 := ownN_put HO4.out (k * 4 + 3) (.int .i64 (redT n h a el))
          rw [← hw4, flatI_set3 HL.out] at ho5
          have HO5 := Lib.hid ho5
          have HB4 : Hid (Below w.heap.size w w4) := Lib.hid (by rw [hw4]; exact below_ch HB2.out (ch_set _ _ _ _) (fun q e => by rw [e]; exact HGL.out) HB2.out.size)
          clear ho5
          by_cases hel : el = (n : Int)
          · as_aux_lemma =>
            have hq2 : (el == (n : Int)) = true := by rw [hel]; simp
            have HF2 : Hid (redT n h a el = h) := Lib.hid (by unfold redT; rw [if_pos hel])
            clear hel
            rw [HF2.out] at hw4
            go_upto_region 5 with fail
            rw [← hw4]
            clear hw4 q0 q3 r3 f3
            go_wp2_with fail
            go_roundw
            case rel => exact ⟨k + 1, by omega, by go_num, Lib.hid (by have h5 := HO5.out; rw [HST.out, HG.out]; exact h5), HB4⟩
            case measure => simp [intOf]; omega
          · as_aux_lemma =>
            have hq2 : (el == (n : Int)) = false := by rw [beq_eq_false_iff_ne]; exact hel
            have HF2 : Hid (redT n h a el = el + a) := Lib.hid (by unfold redT; rw [if_neg hel])
            have hwr := wr_of (x := el + a) (by have := HEE.out; have := HA.out; omega) (by have := HEE.out; have := HA.out; omega)
            clear hel
            rw [HF2.out] at hw4
            go_upto_region 5 with fail
            rw [← hw4]
            clear hw4 q0 q3 r3 f3 hwr
            go_wp2_with fail
            go_roundw
            case rel => exact ⟨k + 1, by omega, by go_num, Lib.hid (by have h5 := HO5.out; rw [HST.out, HG.out]; exact h5), HB4⟩
            case measure => simp [intOf]; omega
    · as_aux_lemma =>
      have hkn : k = n := by omega
      have HK := Lib.hid hkn
      clear hkn
      go_wp2_with fail
      go_ret
      refine ⟨_, _, rfl, ?_, HB.out⟩
      have h5 := HO.out
      rw [HK.out, ← HPL.out, List.take_length, List.drop_length, List.append_nil, HPL.out] at h5
      exact h5
end Go.Proofs.Ytgnboemmlohahaa
