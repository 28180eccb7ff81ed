/- The code of an expression: the program's operands and codeOfExpr. -/
import Derived.Test.YtilbgbibddjdcaaExI
import Derived.Test.YtilbgbibddjdcaaTagI
namespace Go.Proofs.Ytilbgbibddjdcaa
open Go.RowKit
set_option linter.unusedVariables false
set_option linter.unusedSimpArgs false
theorem IsT.up {w w' : World} {lo : Nat} {v : Value} {t : Tr} (h : IsT w lo w.heap.size v t) (hb : Below w.heap.size w w') : IsT w' lo w'.heap.size v t := (h.below hb (Nat.le_refl _)).wide (Nat.le_refl _) hb.size
def Ex.ops : Ex → List Ex
  | .leaf _ => []
  | .un _ a => [a]
  | .bin _ a b => [a, b]
theorem Ex.els_ops : ∀ x : Ex, x.els = x.top :: x.ops.flatMap Ex.els
  | .leaf _ => rfl
  | .un _ a => by simp [Ex.els, Ex.top, Ex.ops]
  | .bin _ a b => by simp [Ex.els, Ex.top, Ex.ops]
theorem Ex.ops_len : ∀ x : Ex, x.good → x.ops.length = fol x.top
  | .leaf _, h => (show fol _ = 0 from h).symm
  | .un _ a, h => h.1.symm
  | .bin _ a b, h => h.1.symm
theorem Ex.ops_good : ∀ x : Ex, x.good → ∀ y ∈ x.ops, y.good
  | .leaf _, h, y, hy => by simp [Ex.ops] at hy
  | .un _ a, h, y, hy => by simp [Ex.ops] at hy; subst hy; exact h.2
  | .bin _ a b, h, y, hy => by
    simp [Ex.ops] at hy
    rcases hy with rfl | rfl
    · exact h.2.1
    · exact h.2.2
def opPos (x : Ex) (i : Nat) : Nat := 1 + ((x.ops.take i).flatMap Ex.els).length
theorem opPos_drop (x : Ex) (i : Nat) : x.els.drop (opPos x i) = (x.ops.drop i).flatMap Ex.els := by
  rw [x.els_ops, opPos, Nat.add_comm, List.drop_succ_cons]
  conv => lhs; arg 2; rw [← List.take_append_drop i x.ops]
  rw [List.flatMap_append, List.drop_left]
theorem opPos_next {x y : Ex} {i : Nat} (h : x.ops[i]? = some y) : opPos x (i + 1) = opPos x i + y.els.length := by
  simp only [opPos, List.take_add_one, h, Option.toList_some, List.flatMap_append, List.length_append, List.flatMap_cons, List.flatMap_nil, List.append_nil]
  omega
theorem opPos_le (x : Ex) (i : Nat) : opPos x i ≤ x.els.length := by
  have h := congrArg List.length x.els_ops
  simp only [List.length_cons] at h
  have h2 : ((x.ops.take i).flatMap Ex.els).length ≤ (x.ops.flatMap Ex.els).length := by
    conv => rhs; rw [← List.take_append_drop i x.ops, List.flatMap_append, List.length_append]
    omega
  unfold opPos
  omega
theorem opPos_end {x y : Ex} {i : Nat} (hg : x.good) (h : x.ops[i]? = some y) : endE x.els (opPos x i) = ((opPos x (i + 1) : Nat) : Int) := by
  refine endE_some ?_ (opPos_le _ _)
  rw [opPos_drop, opPos_drop, drop_get h, List.flatMap_cons, scanE_els y _ 0 (x.ops_good hg y (List.mem_of_getElem? h))]
  cases (x.ops.drop (i + 1)).flatMap Ex.els <;> rfl
theorem opPos_cut {x y : Ex} {i : Nat} (h : x.ops[i]? = some y) : (x.els.drop (opPos x i)).take (opPos x (i + 1) - opPos x i) = y.els := by
  rw [opPos_drop, drop_get h, List.flatMap_cons, opPos_next h, Nat.add_sub_cancel_left, List.take_left]
/-- Slice values that read as expressions. -/
def PartsOk (w : World) (vs : List Value) (xs : List Ex) : Prop := vs.length = xs.length ∧ ∀ (j : Nat) (v : Value) (y : Ex), vs[j]? = some v → xs[j]? = some y → ∃ A m c, v = .slice A m c ∧ m ≤ c ∧ RdE w A m y.els
theorem PartsOk.below {w w' : World} {vs : List Value} {xs : List Ex} (h : PartsOk w vs xs) (hb : Below w.heap.size w w') : PartsOk w' vs xs :=
  ⟨h.1, fun j v y hv hy => by obtain ⟨A, m, c, e, hm, hr⟩ := h.2 j v y hv hy; exact ⟨A, m, c, e, hm, hr.below hb (Nat.le_refl _)⟩⟩
theorem PartsOk.snoc {w : World} {vs : List Value} {xs : List Ex} {A : Option Addr} {m c : Nat} {y : Ex} (h : PartsOk w vs xs) (hm : m ≤ c) (hr : RdE w A m y.els) : PartsOk w (vs ++ [.slice A m c]) (xs ++ [y]) := by
  refine ⟨by simp [h.1], fun j v z hv hz => ?_⟩
  by_cases hj : j < vs.length
  · rw [List.getElem?_append_left hj] at hv
    rw [List.getElem?_append_left (by rw [← h.1]; exact hj)] at hz
    exact h.2 j v z hv hz
  · have hl := h.1
    rw [List.getElem?_append_right (by omega)] at hv hz
    have hj0 : j - vs.length = 0 := by
      rcases Nat.eq_zero_or_pos (j - vs.length) with h | h
      · exact h
      · rw [List.getElem?_eq_none (by simp; omega)] at hv; cases hv
    rw [hj0] at hv
    rw [show j - xs.length = 0 by omega] at hz
    simp at hv hz
    subst hv hz
    exact ⟨A, m, c, rfl, hm, hr⟩
theorem infoXS : (Try.prog.info? 41).map (fun i => (i.zero, i.size, i.bytes)) = some (some (.slice none 0 0), 1, 24) := by kernel_rfl
theorem eltXS : Elt Try.prog 140 41 (.slice none 0 0) := Elt.mk_ Try.underlying140 infoXS rfl (by decide)
def OpPost (w : World) (x : Ex) (e : Ending) (w' : World) : Prop := ∃ (A : Option Addr) (c : Nat) (vs : List Value), e = .returned (.slice A x.ops.length c) ∧ w'.ownsRow w.heap.size 41 1 (.slice A x.ops.length c) x.ops.length vs ∧ PartsOk w' vs x.ops ∧ Below w.heap.size w w'
set_option maxHeartbeats 2000000 in
theorem operands_any (w : World) (A : Option Addr) (n c : Nat) (x : Ex) (hg : x.good) (hr : RdE w A n x.els) (hn : n ≤ 1000000000) (hnc : n ≤ c) : Calls Try.prog 124 #[.slice A n c] w (OpPost w x) := by
  have HL : Hid (x.els.length = n) := Lib.hid (rdE_len hr)
  have hpos := x.els_pos
  rw [HL.out] at hpos
  obtain ⟨b, off, rfl, hbs, q0, q1⟩ := rdE hr x.els_top
  have HN := Lib.hid (x.ops_len hg)
  have HG := Lib.hid hg
  have hf := fol_le x.top
  generalize hop : x.top = tp at *
  have HT := Lib.hid hop
  clear hop hg
  obtain ⟨k, v⟩ := tp
  simp only [Nat.zero_mul, Nat.add_zero] at q0 q1
  have hlit := own_lit w #[] 0 41 rfl (by omega)
  have hbb := below_new w (.cells #[] 41)
  have HR := Lib.hid hr
  clear hr
  generalize hfx : fol (k, v) = m at *
  have HM := Lib.hid hfx
  clear hfx
  go_enter Try.func124, Try.ntmps124
  go_wp2_with (go_at_call 120; go_must (refine (exprFollow_any _ _ _).mono ?_; rintro e w2 ⟨rfl, hb2⟩; rw [HM.out]))
  have hown2 := own_below hlit hb2 (Nat.le_refl _)
  have hB2 := hbb.trans (hb2.mono hbb.size)
  clear hlit hbb q0 q1 hb2
  go_loopw [3, 4, 11] (fun p f q wr => ∃ (i : Nat) (A : Option Addr) (c' : Nat) (vs : List Value), i ≤ m ∧ q = .int .i64 i ∧ f = .int .i64 (opPos x i) ∧ p = .slice A i c' ∧ wr.ownsRow w.heap.size 41 1 (.slice A i c') i vs ∧ PartsOk w vs (x.ops.take i) ∧ Below w.heap.size w wr) (fun _ _ q _ => m - (intOf q).toNat)
  case atStart => exact ⟨0, _, _, [], by omega, rfl, rfl, rfl, hown2, ⟨by simp, by simp⟩, hB2⟩
  case round =>
    clear hown2 hB2
    obtain ⟨i, A, c', vs, hi, rfl, rfl, rfl, hown, hp, hb⟩ := hrel
    by_cases hlt : i < m
    · have hlt' : (i : Int) < (m : Int) := by omega
      obtain ⟨y, hy⟩ := get_some (xs := x.ops) (k := i) (by rw [HN.out]; exact hlt)
      have HE := Lib.hid (opPos_end HG.out hy)
      have HNX := Lib.hid (opPos_next hy)
      have hpn : opPos x i < opPos x (i + 1) := by have := HNX.out; have := y.els_pos; omega
      have hpl : opPos x (i + 1) ≤ n := by have := opPos_le x (i + 1); rw [HL.out] at this; exact this
      have HC := Lib.hid (by have h := rdE_cut HR.out (i := opPos x i) (j := opPos x (i + 1)) (by omega) hpl; rw [opPos_cut hy] at h; exact h)
      have HY : Hid (x.ops.take (i + 1) = x.ops.take i ++ [y]) := Lib.hid (by rw [List.take_add_one, hy]; rfl)
      have hr' := HR.out.below hb (Nat.le_refl _)
      clear hy
      generalize hp1 : opPos x i = p1 at *
      generalize hp2 : opPos x (i + 1) = p2 at *
      have HP2 := Lib.hid hp2
      have HP1 := Lib.hid hp1
      clear hp1 hp2
      go_wp2_with fail
      refine (termEndE_any _ _ _ _ _ hr' hn p1 (by omega)).mono ?_
      rw [HE.out]
      rintro e w3 ⟨rfl, hb3⟩
      have hown3 := own_below hown hb3 (Nat.le_refl _)
      have hB3 := hb.trans (hb3.mono hb.size)
      clear hown hb hb3 hr'
      have g1 : (p1 : Int) ≤ (p2 : Int) := by omega
      have g2 : (p2 : Int) ≤ (c : Int) := by omega
      have g3 : ¬ (c = p1) := by omega
      go_wp2_with (at_builtin; go_must (refine wpList_app1g eltXS rfl _ _ rfl w3 w.heap.size _ i _ (by rfl) hown3 _ (by rfl) (by rfl) hB3.size (by omega) ?_; rintro A4 c4 w4 hown4 hb4 hg4))
      go_roundw
      case rel => exact ⟨i + 1, A4, c4, _, by omega, by go_num, by rw [HP2.out], rfl, hown4, by rw [HY.out]; exact hp.snoc (by omega) HC.out, hB3.trans hb4⟩
      case measure => simp [intOf]; omega
    · obtain rfl : i = m := by omega
      go_wp2_with fail
      go_ret
      have hb' : Below w.heap.size w wr := hb
      refine ⟨A, c', vs, ?_, ?_, ?_, hb⟩
      · rw [HN.out]; rfl
      · rw [HN.out]; exact hown
      · rw [List.take_of_length_le (by rw [HN.out]; omega)] at hp; exact hp.below hb'
end Go.Proofs.Ytilbgbibddjdcaa
