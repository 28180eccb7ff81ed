/- CheckContexts: what one round of the program's loop asks (plain). -/
import Derived.Test.YtemllhkgjdifiaaCkN
import Derived.Test.YtemllhkgjdifiaaGL
namespace Go.Proofs.Ytemllhkgjdifiaa
open Go.RowKit
set_option linter.unusedVariables false
set_option linter.unusedSimpArgs false
theorem rule_bd {s t st : Int} {rs : List Rul} {xs : List Int} (h : ctxC s t rs st xs = 0) : (0 ≤ (ruleOf s rs st xs).wr ∧ (ruleOf s rs st xs).wr ≤ 5) ∧ (-1 ≤ (ruleOf s rs st xs).nx ∧ (ruleOf s rs st xs).nx ≤ 999) := by
  obtain ⟨h1, _⟩ := ctx_zero h
  obtain ⟨hs, ht, _, hall⟩ := okM_all h1
  obtain ⟨k, _, hk, _⟩ := rule_get h
  exact okR_bd hs ht (List.all_eq_true.1 hall _ (List.mem_of_getElem? hk))
theorem nexts_gw {s h : Nat} {t st : Int} {rs : List Rul} {xs : List Int} {ls ws : List (List Int)} (hs : s ≤ 6) (hz : ctxC (s : Int) t rs st xs = 0) (hl : xs.length = 2 * h + 1) (hh : 1 ≤ h ∧ h ≤ 4) (hr : isR (ruleOf (s : Int) rs st xs) = true) :
    ∀ y ∈ nextsOf s (ruleOf (s : Int) rs st xs) xs ls ws, y.length = 2 * h + 1 ∧ ∀ x ∈ y, SmI x := by
  have hmv := isR_mv hz hr
  have hbd := rule_bd hz
  have hsm := ctx_sm hz
  generalize ruleOf (s : Int) rs st xs = r at *
  obtain ⟨ra, mv, rc⟩ := r
  simp only at hmv hbd
  have hra : SmI ra := by unfold SmI; omega
  intro y hy
  rcases hmv with rfl | rfl
  · obtain ⟨f0, F, bh, P, Q, hF, hf0, hbh, hP, hQ, hg, hE⟩ := nexts_r (s := s) (ls := ls) (ws := ws) (ra := ra) (rc := rc) hl hh.1 hsm
    rw [hE] at hy
    obtain ⟨i, hi, rfl⟩ := nx_mem hy
    have hf0m := hsm _ (List.mem_of_getElem? hf0)
    subst hP hQ hbh hF
    refine ⟨by simp only [List.length_append, List.length_cons, List.length_nil, List.length_take, List.length_drop]; omega, fun x hx => ?_⟩
    simp only [List.append_nil, List.mem_append, List.mem_cons, List.not_mem_nil, or_false] at hx
    rcases hx with (((h1 | h1) | h1) | h1) | h1
    · rw [h1]; exact hra
    · exact hsm x (List.mem_of_mem_take h1)
    · rw [h1]; exact hf0m
    · exact hsm x (List.mem_of_mem_drop h1)
    · rw [h1]; unfold SmI; omega
  · obtain ⟨f0, F, bh, P, Q, hF, hf0, hbh, hP, hQ, hg, hE⟩ := nexts_l (s := s) (ls := ls) (ws := ws) (ra := ra) (rc := rc) hl hh.1 hsm
    rw [hE] at hy
    obtain ⟨i, hi, rfl⟩ := nx_mem hy
    have hf0m := hsm _ (List.mem_of_getElem? hf0)
    subst hP hQ hbh hF
    refine ⟨by simp only [List.length_append, List.length_cons, List.length_nil, List.length_take, List.length_drop]; omega, fun x hx => ?_⟩
    simp only [List.nil_append, List.mem_append, List.mem_cons, List.not_mem_nil, or_false] at hx
    rcases hx with (h1 | h1) | (h1 | (h1 | h1))
    · exact hsm x (List.mem_of_mem_take (List.mem_of_mem_drop h1))
    · rw [h1]; unfold SmI; omega
    · rw [h1]; exact hf0m
    · rw [h1]; exact hra
    · exact hsm x (List.mem_of_mem_drop (List.mem_of_mem_take h1))
theorem stated_rep (a : Int) : ∀ (n : Nat) (xss : List (List Int)), xss.length = n → stated (List.replicate n a) xss = xss.map (fun x => a :: x)
  | 0, [], _ => rfl
  | n + 1, x :: r, h => by
    have ih := stated_rep a n r (by simpa using h)
    unfold stated at ih ⊢
    rw [List.replicate_succ, List.zipWith_cons_cons, ih]
    rfl
theorem stated_ctx {s t : Int} {rs : List Rul} {n : Nat} {ls ws cs : List (List Int)} {sts : List Int} (hp : PartsP n ls ws sts cs) (hm : okM s t rs = true) (hf : fitB s t ls ws sts cs = true) {k : Nat} {x : List Int} (hx : (stated sts cs)[k]? = some x) : ∃ st y, x = st :: y ∧ ctxC s t rs st y = 0 ∧ y.length = 2 * n + 1 := by
  have hk : k < cs.length := by have := (List.getElem?_eq_some_iff.1 hx).1; rwa [statedN_len hp.len] at this
  rw [statedN_at hp.len hk] at hx
  have hk2 : k < sts.length := by rw [hp.len]; exact hk
  refine ⟨sts.getD k 0, cs.getD k [], (Option.some.inj hx).symm, ?_, ?_⟩
  · refine parts_ctx hp hm hf (i := k) ?_ ?_
    · simp [List.getD_eq_getElem?_getD, List.getElem?_eq_getElem hk2]
    · simp [List.getD_eq_getElem?_getD, List.getElem?_eq_getElem hk]
  · refine hp.lc _ ?_
    simp [List.getD_eq_getElem?_getD, List.getElem?_eq_getElem hk]
section
variable {s t st : Int} {rs : List Rul} {ls ws cx : List (List Int)} {y : List Int} {r : Rul}
theorem closW_no (hr : r = ruleOf s rs st y) (h : isR r = false) : closW s t rs ls ws cx (st :: y) = false := by
  unfold closW; simp only [List.getD_cons_zero, List.tail_cons]; rw [← hr, h]; rfl
theorem closW_out (hr : r = ruleOf s rs st y) (h : ¬ lostOf r y ∈ (if r.mv = 1 then ls else ws)) : closW s t rs ls ws cx (st :: y) = false := by
  unfold closW; simp only [List.getD_cons_zero, List.tail_cons]; rw [← hr, decide_eq_false h]; simp
theorem closW_eq (hr : r = ruleOf s rs st y) (h1 : isR r = true) (h2 : lostOf r y ∈ (if r.mv = 1 then ls else ws)) : closW s t rs ls ws cx (st :: y) = (nextsOf s.toNat r y ls ws).all (fun z => decide ((r.nx :: z) ∈ cx)) := by
  unfold closW; simp only [List.getD_cons_zero, List.tail_cons]; rw [← hr, h1, decide_eq_true h2]; simp
end
end Go.Proofs.Ytemllhkgjdifiaa
