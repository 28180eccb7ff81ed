/- ContextProof: the reference's answer. Written by mk_pr.py. -/
import Derived.Test.YtcpkhhammafchaaPo
import Derived.Test.YtcpkhhammafchaaPq
namespace Go.Proofs.Ytcpkhhammafchaa
open Go.RowKit
set_option linter.unusedVariables false
set_option linter.unusedSimpArgs false
theorem lenB_small {m : Int} (hm : m ≤ 400) : lenB m 9 = lenW m := by
  funext w
  rw [Bool.eq_iff_iff]
  simp only [lenB, lenW, wordB, Bool.and_eq_true, decide_eq_true_eq]
  constructor
  · rintro ⟨h1, h2⟩; exact ⟨h1, h2, by omega⟩
  · rintro ⟨h1, h2, _⟩; exact ⟨h1, h2⟩
theorem cpR_spec (n : Int) (ls rs cs : List (List Int)) (sts : List Int) : cpR n ls rs cs sts = cpF (inB n 1 4) (decide (sts.length = cs.length)) (allIn sts 0 1000000000000) (ls.all (lenW n)) (rs.all (lenW n)) (cs.all (lenW (2 * n + 1))) (sortS n ls rs cs sts) (chR ([n, (ls.length : Int), (rs.length : Int)] ++ sts) (ls ++ rs ++ cs)) := by
  rw [cpR]
  cases h1 : inB n 1 4 with
  | false => simp [cpF]
  | true =>
    have hn : 1 ≤ n ∧ n ≤ 4 := inB_true.1 h1
    rw [lenB_small (m := n) (by omega), lenB_small (m := 2 * n + 1) (by omega)]
    cases hl : decide (sts.length = cs.length) with
    | false => simp [cpF]
    | true =>
      have hl' : sts.length = cs.length := of_decide_eq_true hl
      cases h5 : ls.all (lenW n) with
      | false => simp [cpF]
      | true =>
        cases h6 : rs.all (lenW n) with
        | false => simp [cpF]
        | true => rw [sortS, lenUp_all, lenUp_all, stated_ord hl', h5, h6, Bool.true_and, Bool.true_and]
def inAt (sts : List Int) (i : Nat) : Bool := inB (sts.getD i 0) 0 1000000000000
theorem inAt_all (sts : List Int) : allIn sts 0 1000000000000 = allTo (inAt sts) sts.length := by
  rw [Bool.eq_iff_iff, allIn_true, allTo_true]
  constructor
  · intro h i hi
    obtain ⟨x, hx⟩ := get_some (xs := sts) (k := i) hi
    simp only [inAt, getI_of hx]
    exact inB_true.2 (h x (List.mem_of_getElem? hx))
  · intro h x hx
    obtain ⟨i, hi⟩ := List.getElem?_of_mem hx
    have h2 := h i (List.getElem?_eq_some_iff.1 hi).1
    simp only [inAt, getI_of hi] at h2
    exact inB_true.1 h2
theorem drp_e {w w' : World} {v : Value} {e : Ending} (h : DrP w v e w') : e = .returned v ∧ Below w.heap.size w w' := by
  obtain ⟨h1, m, h2⟩ := h
  exact ⟨h1, by rw [h2]; exact below_drewN (Below.refl _ _)⟩
theorem chR_bd (ns : List Int) (ws : List (List Int)) : (chR ns ws).2.1.length ≤ 1000000 ∧ tot (chR ns ws).2.2.1 ≤ 1000000 ∧ (chR ns ws).2.2.1.length ≤ 1000000 := by
  cases h : okP 8 ns ws with
  | false => rw [chR_no h]; simp [tot]
  | true =>
    rw [chR_ok h]
    obtain ⟨_, hl, hl2, _, hw⟩ := okP_bd h
    obtain ⟨h1, h2⟩ := words_bd hw hl2 (fun x hx => hx) (Nat.le_refl _)
    exact ⟨by show ns.length ≤ 1000000; omega, h1, h2⟩
theorem cpR_bd (n : Int) (ls rs cs : List (List Int)) (sts : List Int) : (cpR n ls rs cs sts).2.1.length ≤ 1000000 ∧ tot (cpR n ls rs cs sts).2.2.1 ≤ 1000000 ∧ (cpR n ls rs cs sts).2.2.1.length ≤ 1000000 := by
  unfold cpR cpF
  split
  · split
    · exact chR_bd _ _
    · simp [tot]
  · simp [tot]
end Go.Proofs.Ytcpkhhammafchaa
