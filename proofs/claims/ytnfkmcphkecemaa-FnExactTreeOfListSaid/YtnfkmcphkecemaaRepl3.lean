/- ReplacePart: the program's function and the reference's give the same bits and code. -/
import Derived.Test.YtnfkmcphkecemaaRepl2
namespace Go.Proofs.Ytnfkmcphkecemaa
open Go.RowKit

def trOf (bs : List Bool) : Tr := (forest bs).headD .nil
theorem trOf_bits (t : Tr) : trOf t.bits = t := by simp [trOf, forest_bits]
def fitT (t : Tr) : List Bool × Int := if t.nodes ≤ 2000 then (t.bits, 0) else ([], 5)
def repNum (t : List Bool) (p : List Int) (y : List Bool) : List Bool × Int :=
  if (isTr t && isTr y) = true then (if pathOk p = true then (if (pos (trOf t) p).isSome = true then fitT (repl (trOf y) (trOf t) p).1 else ([], 3)) else ([], 2)) else ([], 1)
theorem rep_bad {t y : List Bool} {p : List Int} (h : (isTr t && isTr y) = false) : repNum t p y = ([], 1) := by simp [repNum, h]
theorem rep_path {t y : List Bool} {p : List Int} (h : (isTr t && isTr y) = true) (hp : pathOk p = false) : repNum t p y = ([], 2) := by simp [repNum, h, hp]
theorem rep_lost {t y : Tr} {p : List Int} (h : (isTr t.bits && isTr y.bits) = true) (hp : pathOk p = true) (hl : pos t p = none) : repNum t.bits p y.bits = ([], 3) := by simp [repNum, h, hp, trOf_bits, hl]
theorem rep_found {t y : Tr} {p : List Int} {k : Nat} (h : (isTr t.bits && isTr y.bits) = true) (hp : pathOk p = true) (hl : pos t p = some k) : repNum t.bits p y.bits = fitT (repl y t p).1 := by simp [repNum, h, hp, trOf_bits, hl]
theorem fitT_len (t : Tr) : (fitT t).1.length ≤ 1000000 := by
  unfold fitT
  split
  · simp [Tr.bits_len]; omega
  · simp
theorem repNum_len (t : List Bool) (p : List Int) (y : List Bool) : (repNum t p y).1.length ≤ 1000000 := by
  unfold repNum
  split
  · split
    · split
      · exact fitT_len _
      · simp
    · simp
  · simp

theorem checkedF_any (w : World) (lo : Nat) (v : Value) (t : Tr) (h : IsT w lo w.heap.size v t) (hn : t.nodes ≤ 1000000) : Calls Try.prog 50 #[v] w (RetSI w 4 (bools (fitT t).1) (fitT t).2) := by
  have hc := checked_any w lo v t h hn
  by_cases hq : t.nodes ≤ 2000
  · rw [if_pos hq, if_pos hq] at hc
    simpa [fitT, hq] using hc
  · rw [if_neg hq, if_neg hq] at hc
    simpa [fitT, hq] using hc
def pcode (xss : List (List Bool)) (p : List Int) : Int := if allTr xss = true then (if pathOk p = true then 0 else 2) else 1
set_option maxHeartbeats 800000 in
theorem pathCode_any (w : World) (A : Option Addr) (n c : Nat) (p : List Int) (hr : Rd w A n (ints p)) (hn : n ≤ 1000000000) (A' : Option Addr) (n' c' : Nat) (xss : List (List Bool)) (hr' : RdB w A' n' xss) (hn' : n' ≤ 1000000000) :
    Calls Try.prog 63 #[.slice A n c, .slice A' n' c'] w fun e w' => e = .returned (.int .i64 (pcode xss p)) ∧ w = w' := by
  have HL : Hid (p.length = n) := Lib.hid (by simpa using hr.1)
  by_cases ha : allTr xss = true
  · by_cases h1 : n ≤ 100
    · have HP : Hid (pathOk p = allIn p 0 1) := Lib.hid (by simp [pathOk, HL.out, h1])
      by_cases h2 : allIn p 0 1 = true
      · have HC : Hid (pcode xss p = 0) := Lib.hid (by rw [pcode, if_pos ha, if_pos (by rw [HP.out, h2])])
        go_enter Try.func63, Try.ntmps63
        go_wp2_with (first
          | (go_at_call 47; go_must (refine (areTrees_any _ _ _ _ _ hr' hn').mono ?_; rw [ha]; rintro e w' ⟨rfl, rfl⟩))
          | (go_at_call 77; go_must (refine (allWithin_any _ _ _ _ _ hr (by omega) _ _).mono ?_; rw [h2]; rintro e w' ⟨rfl, rfl⟩)))
        go_ret
        exact ⟨by rw [HC.out]; rfl, rfl⟩
      · have h2' : allIn p 0 1 = false := by simpa using h2
        have HC : Hid (pcode xss p = 2) := Lib.hid (by rw [pcode, if_pos ha, if_neg (by rw [HP.out, h2']; simp)])
        clear h2
        go_enter Try.func63, Try.ntmps63
        go_wp2_with (first
          | (go_at_call 47; go_must (refine (areTrees_any _ _ _ _ _ hr' hn').mono ?_; rw [ha]; rintro e w' ⟨rfl, rfl⟩))
          | (go_at_call 77; go_must (refine (allWithin_any _ _ _ _ _ hr (by omega) _ _).mono ?_; rw [h2']; rintro e w' ⟨rfl, rfl⟩)))
        go_ret
        exact ⟨by rw [HC.out]; rfl, rfl⟩
    · have HC : Hid (pcode xss p = 2) := Lib.hid (by rw [pcode, if_pos ha, if_neg (by simp [pathOk, HL.out, h1])])
      go_enter Try.func63, Try.ntmps63
      go_wp2_with (go_at_call 47; go_must (refine (areTrees_any _ _ _ _ _ hr' hn').mono ?_; rw [ha]; rintro e w' ⟨rfl, rfl⟩))
      go_ret
      exact ⟨by rw [HC.out]; rfl, rfl⟩
  · have ha' : allTr xss = false := by simpa using ha
    have HC : Hid (pcode xss p = 1) := Lib.hid (by rw [pcode, if_neg ha])
    clear ha
    go_enter Try.func63, Try.ntmps63
    go_wp2_with (go_at_call 47; go_must (refine (areTrees_any _ _ _ _ _ hr' hn').mono ?_; rw [ha']; rintro e w' ⟨rfl, rfl⟩))
    go_ret
    exact ⟨by rw [HC.out]; rfl, rfl⟩

theorem RdB.two {w : World} {A0 A2 : Option Addr} {n0 c0 n2 c2 T b : Nat} {xs ys : List Bool} (hb : b = w.heap.size) (h0 : Rd w A0 n0 (bools xs)) (h2 : Rd w A2 n2 (bools ys)) (hn0 : n0 ≤ 1000000000) (hn2 : n2 ≤ 1000000000) :
    RdB (w.alloc (.cells #[.slice A0 n0 c0, .slice A2 n2 c2] T)) (some ⟨b, 0, none⟩) 2 [xs, ys] := by
  subst hb
  have hh := heap_alloc_new w (.cells #[.slice A0 n0 c0, .slice A2 n2 c2] T)
  refine ⟨[.slice A0 n0 c0, .slice A2 n2 c2], ⟨rfl, fun _ => ⟨w.heap.size, 0, rfl, by simp, fun j u hj => ?_⟩⟩, rfl, ?_⟩
  · rw [cell_of_row _ _ _ _ _ _ hh, ← Array.getElem?_toList]
    simpa using hj
  · intro i v zs hv hx
    match i, hv, hx with
    | 0, hv, hx => simp at hv hx; subst hv hx; exact ⟨A0, n0, c0, rfl, hn0, h0.alloc _⟩
    | 1, hv, hx => simp at hv hx; subst hv hx; exact ⟨A2, n2, c2, rfl, hn2, h2.alloc _⟩
    | i + 2, hv, _ => simp at hv

set_option maxHeartbeats 800000 in
theorem implReplacePart_any (w : World) (A0 : Option Addr) (n0 c0 : Nat) (t : List Bool) (h0 : Rd w A0 n0 (bools t)) (hn0 : n0 ≤ 1000000000) (A1 : Option Addr) (n1 c1 : Nat) (p : List Int) (h1 : Rd w A1 n1 (ints p)) (hn1 : n1 ≤ 1000000000) (hc1 : n1 ≤ c1) (A2 : Option Addr) (n2 c2 : Nat) (y : List Bool) (h2 : Rd w A2 n2 (bools y)) (hn2 : n2 ≤ 1000000000) :
    Calls Try.prog 33 #[.slice A0 n0 c0, .slice A1 n1 c1, .slice A2 n2 c2] w (RetSI w 4 (bools (repNum t p y).1) (repNum t p y).2) := by
  have HB1 := Lib.hid (below_new w (.cells #[.slice A2 n2 c2] 22))
  have HB2 := Lib.hid (HB1.out.trans ((below_new (w.alloc (.cells #[.slice A2 n2 c2] 22)) (.cells #[.slice A0 n0 c0, .slice A2 n2 c2] 22)).mono (by simp)))
  have HT := Lib.hid (RdB.two (w := w.alloc (.cells #[.slice A2 n2 c2] 22)) (c0 := c0) (c2 := c2) (T := 22) (b := w.heap.size + 1) (by simp) (h0.alloc _) (h2.alloc _) hn0 hn2)
  have HBB : Hid (((w.alloc (.cells #[.slice A2 n2 c2] 22)).alloc (.cells #[.slice A0 n0 c0, .slice A2 n2 c2] 22)).heap[w.heap.size]? = some (.cells #[.slice A2 n2 c2] 22 (0, 0))) := Lib.hid two_old
  have HR1 := Lib.hid (h1.below HB2.out (Nat.le_refl _)); have HR0 := Lib.hid (h0.below HB2.out (Nat.le_refl _)); have HR2 := Lib.hid (h2.below HB2.out (Nat.le_refl _))
  have HPC : Hid (pcode [t, y] p = if (isTr t && isTr y) = true then (if pathOk p = true then 0 else 2) else 1) := Lib.hid (by simp [pcode, allTr])
  by_cases ha : (isTr t && isTr y) = true
  · by_cases hp : pathOk p = true
    · have HC : Hid (pcode [t, y] p = 0) := Lib.hid (by rw [HPC.out, if_pos ha, if_pos hp])
      simp only [Bool.and_eq_true] at ha
      obtain ⟨tt, rfl, htt⟩ := isTr_tree ha.1
      obtain ⟨yy, rfl, hyy⟩ := isTr_tree ha.2
      have hsz0 : n0 ≤ 2000 := by have := h0.1; simp [Tr.bits_len] at this; omega
      have hsz2 : n2 ≤ 2000 := by have := h2.1; simp [Tr.bits_len] at this; omega
      have hp100 : n1 ≤ 100 := by
        simp only [pathOk, Bool.and_eq_true, decide_eq_true_eq] at hp
        have := h1.1; simp at this; omega
      have HNR := Lib.hid (repl_nodes yy p tt)
      have HTT := Lib.hid htt; have HYY := Lib.hid hyy
      have haa : (isTr tt.bits && isTr yy.bits) = true := by simp [ha.1, ha.2]
      rcases hpos : pos tt p with _ | k
      · have HF := Lib.hid (rep_lost haa hp hpos)
        have HR := Lib.hid (repl_none yy p tt hpos)
        clear haa hpos ha htt hyy
        go_enter Try.func33, Try.ntmps33
        go_wp2_with (go_at_call 63; go_must (refine (pathCode_any _ _ _ _ p HR1.out hn1 _ _ _ [tt.bits, yy.bits] HT.out (by omega)).mono ?_; rw [HC.out]; rintro e w' ⟨rfl, rfl⟩))
        generalize ((w.alloc (.cells #[.slice A2 n2 c2] 22)).alloc (.cells #[.slice A0 n0 c0, .slice A2 n2 c2] 22)) = W at *
        refine (treeOf_any _ _ _ _ tt HR0.out (by omega)).mono ?_
        rintro e w2 ⟨v2, rfl, i2, hb2⟩
        obtain ⟨o2, rfl⟩ := i2.isPtr
        have HQB := Lib.hid ((hb2.block _ (lt_of_block HBB.out)).trans HBB.out)
        have HQ1 := Lib.hid (HR1.out.below hb2 (Nat.le_refl _)); have HQ2 := Lib.hid (HR2.out.below hb2 (Nat.le_refl _))
        go_wp2_with fail
        refine (replaced_any w.heap.size A2 n2 c2 yy (by omega) (by have := HYY.out; omega) p tt _ W.heap.size _ _ _ _ i2 hb2.size (by have := HTT.out; omega) HQ1.out hc1 (by omega) HQB.out HQ2.out).mono ?_
        rintro e w3 ⟨v3, rfl, i3, hb3⟩
        obtain ⟨o3, rfl⟩ := i3.isPtr
        have HB3 := Lib.hid ((HB2.out.trans (hb2.mono HB2.out.size)).trans (hb3.mono (Nat.le_trans HB2.out.size hb2.size)))
        rw [HR.out]
        go_wp2_with fail
        go_ret2
        rw [HF.out]
        exact ⟨none, 0, 0, rfl, own_nil _ _ _, HB3.out⟩
      · have HF := Lib.hid (rep_found haa hp hpos)
        have HR := Lib.hid (repl_some yy p tt k hpos).1
        clear haa hpos ha htt hyy
        go_enter Try.func33, Try.ntmps33
        go_wp2_with (go_at_call 63; go_must (refine (pathCode_any _ _ _ _ p HR1.out hn1 _ _ _ [tt.bits, yy.bits] HT.out (by omega)).mono ?_; rw [HC.out]; rintro e w' ⟨rfl, rfl⟩))
        generalize ((w.alloc (.cells #[.slice A2 n2 c2] 22)).alloc (.cells #[.slice A0 n0 c0, .slice A2 n2 c2] 22)) = W at *
        refine (treeOf_any _ _ _ _ tt HR0.out (by omega)).mono ?_
        rintro e w2 ⟨v2, rfl, i2, hb2⟩
        obtain ⟨o2, rfl⟩ := i2.isPtr
        have HQB := Lib.hid ((hb2.block _ (lt_of_block HBB.out)).trans HBB.out)
        have HQ1 := Lib.hid (HR1.out.below hb2 (Nat.le_refl _)); have HQ2 := Lib.hid (HR2.out.below hb2 (Nat.le_refl _))
        go_wp2_with fail
        refine (replaced_any w.heap.size A2 n2 c2 yy (by omega) (by have := HYY.out; omega) p tt _ W.heap.size _ _ _ _ i2 hb2.size (by have := HTT.out; omega) HQ1.out hc1 (by omega) HQB.out HQ2.out).mono ?_
        rintro e w3 ⟨v3, rfl, i3, hb3⟩
        obtain ⟨o3, rfl⟩ := i3.isPtr
        have HB3 := Lib.hid ((HB2.out.trans (hb2.mono HB2.out.size)).trans (hb3.mono (Nat.le_trans HB2.out.size hb2.size)))
        rw [HR.out]
        go_wp2_with fail
        generalize hfr : fitT (repl yy tt p).1 = fr at HF
        have HFR := Lib.hid hfr
        clear hfr
        refine (checkedF_any _ _ _ _ i3 (by have h1 := HNR.out; have h2 := HTT.out; have h3 := HYY.out; omega)).mono ?_
        rw [HFR.out]
        rintro e w4 ⟨A4, n4, c4, rfl, ho4, hb4⟩
        go_wp2_with fail
        go_ret2
        rw [HF.out]
        exact ⟨A4, n4, c4, rfl, own_base ho4 HB3.out.size, HB3.out.trans (hb4.mono HB3.out.size)⟩
    · have hp' : pathOk p = false := by simpa using hp
      have HC : Hid (pcode [t, y] p = 2) := Lib.hid (by rw [HPC.out, if_pos ha, if_neg hp])
      have HF := Lib.hid (rep_path ha hp')
      clear hp
      go_enter Try.func33, Try.ntmps33
      go_wp2_with (go_at_call 63; go_must (refine (pathCode_any _ _ _ _ p HR1.out hn1 _ _ _ [t, y] HT.out (by omega)).mono ?_; rw [HC.out]; rintro e w' ⟨rfl, rfl⟩))
      go_ret2
      rw [HF.out]
      exact ⟨none, 0, 0, rfl, own_nil _ _ _, HB2.out⟩
  · have ha' : (isTr t && isTr y) = false := by simpa using ha
    have HC : Hid (pcode [t, y] p = 1) := Lib.hid (by rw [HPC.out, if_neg ha])
    have HF := Lib.hid (rep_bad (p := p) ha')
    clear ha ha'
    go_enter Try.func33, Try.ntmps33
    go_wp2_with (go_at_call 63; go_must (refine (pathCode_any _ _ _ _ p HR1.out hn1 _ _ _ [t, y] HT.out (by omega)).mono ?_; rw [HC.out]; rintro e w' ⟨rfl, rfl⟩))
    go_ret2
    rw [HF.out]
    exact ⟨none, 0, 0, rfl, own_nil _ _ _, HB2.out⟩
end Go.Proofs.Ytnfkmcphkecemaa
