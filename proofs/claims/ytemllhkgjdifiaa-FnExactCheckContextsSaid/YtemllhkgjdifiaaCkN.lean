/- CheckContexts: what the program says is what the reference says (plain). -/
import Derived.Test.YtemllhkgjdifiaaCkJ
import Derived.Test.YtemllhkgjdifiaaCkV
namespace Go.Proofs.Ytemllhkgjdifiaa
open Go.RowKit
set_option linter.unusedVariables false
set_option linter.unusedSimpArgs false
theorem statedN_at {sts : List Int} {cs : List (List Int)} (hl : sts.length = cs.length) {i : Nat} (hi : i < cs.length) : (stated sts cs)[i]? = some (sts.getD i 0 :: cs.getD i []) := by
  unfold stated
  have h1 : i < sts.length := by omega
  simp [List.getElem?_zipWith, List.getD_eq_getElem?_getD, List.getElem?_eq_getElem h1, List.getElem?_eq_getElem hi]
theorem statedN_len {sts : List Int} {cs : List (List Int)} (hl : sts.length = cs.length) : (stated sts cs).length = cs.length := by
  unfold stated; simp; omega
theorem statedN_mem {sts : List Int} {cs : List (List Int)} (hl : sts.length = cs.length) {x : List Int} : x ∈ stated sts cs ↔ ∃ i, i < cs.length ∧ x = sts.getD i 0 :: cs.getD i [] := by
  rw [List.mem_iff_getElem?]
  constructor
  · rintro ⟨i, h⟩
    have hi : i < cs.length := by
      have := (List.getElem?_eq_some_iff.1 h).1
      rw [statedN_len hl] at this; exact this
    rw [statedN_at hl hi] at h
    exact ⟨i, hi, (Option.some.inj h).symm⟩
  · rintro ⟨i, hi, rfl⟩
    exact ⟨i, statedN_at hl hi⟩
/-- What the program asks of one list of a set of contexts. -/
def closW (s t : Int) (rs : List Rul) (ls ws cx : List (List Int)) (x : List Int) : Bool :=
  isR (ruleOf s rs (x.getD 0 0) x.tail) && decide (lostOf (ruleOf s rs (x.getD 0 0) x.tail) x.tail ∈ (if (ruleOf s rs (x.getD 0 0) x.tail).mv = 1 then ls else ws)) &&
  (nextsOf s.toNat (ruleOf s rs (x.getD 0 0) x.tail) x.tail ls ws).all (fun y => decide (((ruleOf s rs (x.getD 0 0) x.tail).nx :: y) ∈ cx))
theorem clos_stated {s t : Int} {rs : List Rul} {ls ws cs : List (List Int)} {sts : List Int} (hl : sts.length = cs.length) :
    (stated sts cs).all (closW s t rs ls ws (stated sts cs)) = allTo (closAt s t rs ls ws sts cs) cs.length := by
  rw [Bool.eq_iff_iff, List.all_eq_true, allTo_true]
  constructor
  · intro h i hi
    have := h _ ((statedN_mem hl).2 ⟨i, hi, rfl⟩)
    simpa [closW, closAt] using this
  · intro h x hx
    obtain ⟨i, hi, rfl⟩ := (statedN_mem hl).1 hx
    have := h i hi
    simpa [closW, closAt] using this
theorem fits_stated {s t : Int} {n : Nat} {ls ws cs : List (List Int)} {sts : List Int} (hp : PartsP n ls ws sts cs) :
    fitsB n s t ls ws (stated sts cs) = fitB s t ls ws sts cs := by
  have hl := hp.len
  rw [Bool.eq_iff_iff]
  simp only [fitsB, fitB, Bool.and_eq_true, List.all_eq_true, overB, lenB, decide_eq_true_eq]
  constructor
  · rintro ⟨⟨h1, h2⟩, h3⟩
    refine ⟨⟨⟨fun x hx => (h1 x hx).2, fun x hx => (h2 x hx).2⟩, fun x hx => ?_⟩, fun x hx => ?_⟩
    · obtain ⟨i, hi, rfl⟩ := List.mem_iff_getElem.1 hx
      have := h3 _ ((statedN_mem hl).2 ⟨i, hi, rfl⟩)
      simp only [fitW, Bool.and_eq_true, List.tail_cons, List.getD_eq_getElem?_getD, List.getElem?_eq_getElem hi, Option.getD_some] at this
      exact this.2
    · obtain ⟨i, hi, rfl⟩ := List.mem_iff_getElem.1 hx
      have := h3 _ ((statedN_mem hl).2 ⟨i, by omega, rfl⟩)
      simp only [fitW, Bool.and_eq_true, decide_eq_true_eq, List.getD_cons_zero, List.getD_eq_getElem?_getD, List.getElem?_eq_getElem hi, Option.getD_some] at this
      simpa using this.1
  · rintro ⟨⟨⟨h1, h2⟩, h3⟩, h4⟩
    refine ⟨⟨fun x hx => ⟨by rw [hp.ll x hx], h1 x hx⟩, fun x hx => ⟨by rw [hp.lw x hx], h2 x hx⟩⟩, fun x hx => ?_⟩
    obtain ⟨i, hi, rfl⟩ := (statedN_mem hl).1 hx
    have hj : i < sts.length := by omega
    simp only [fitW, Bool.and_eq_true, decide_eq_true_eq, List.tail_cons, List.getD_cons_zero]
    refine ⟨?_, ?_⟩
    · rw [List.getD_eq_getElem?_getD, List.getElem?_eq_getElem hj]; exact h4 _ (List.getElem_mem hj)
    · rw [List.getD_eq_getElem?_getD, List.getElem?_eq_getElem hi]; exact h3 _ (List.getElem_mem hi)
/-- What the program answers. -/
def chkI (s t : Int) (rs : List Rul) (k : Int) (ns : List Int) (ws : List (List Int)) : Bool :=
  decide (csC k ns ws = 0) && okM s t rs && fitsB (pN ns) s t (lefts ns ws) (rights ns ws) (stated (ns.drop 3) (ctxs ns ws)) && blankB (pN ns).toNat (lefts ns ws) (rights ns ws) (ns.drop 3) (ctxs ns ws) && (stated (ns.drop 3) (ctxs ns ws)).all (closW s t rs (lefts ns ws) (rights ns ws) (stated (ns.drop 3) (ctxs ns ws)))
theorem csCN_zero {k : Int} {ns : List Int} {ws : List (List Int)} : decide (csC k ns ws = 0) = (okP k ns ws && csOk k ns ws) := by
  cases h : okP k ns ws <;> cases h2 : csOk k ns ws <;> simp [csC, h, h2]
theorem chk_same (s t : Int) (rs : List Rul) (k : Int) (ns : List Int) (ws : List (List Int)) : chkI s t rs k ns ws = chkA s t rs k ns ws := by
  unfold chkI chkA chkR
  rw [csCN_zero]
  cases hc : csOk k ns ws with
  | false => simp
  | true =>
    have hp := parts_of hc
    have hn : ((pN ns).toNat : Int) = pN ns := by
      have := hp.n1; omega
    have hf := fits_stated (s := s) (t := t) hp
    rw [hn] at hf
    rw [hf, clos_stated hp.len]
    cases okM s t rs <;> cases okP k ns ws <;> simp
end Go.Proofs.Ytemllhkgjdifiaa
