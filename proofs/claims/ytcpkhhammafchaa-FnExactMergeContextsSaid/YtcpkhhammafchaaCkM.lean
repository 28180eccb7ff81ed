/- CheckContexts in plain Lean: whether the parts of a proof are closed under a machine's steps. -/
import Derived.Test.YtcpkhhammafchaaGF
namespace Go.Proofs.Ytcpkhhammafchaa
open Go.RowKit
set_option linter.unusedVariables false
set_option linter.unusedSimpArgs false
theorem mem_stated {st : Int} {x : List Int} : ∀ {sts : List Int} {cs : List (List Int)}, (st :: x) ∈ stated sts cs ↔ ∃ i : Nat, sts[i]? = some st ∧ cs[i]? = some x
  | [], cs => by simp [stated]
  | a :: r, [] => by simp [stated]
  | a :: r, c :: q => by
    have ih := mem_stated (st := st) (x := x) (sts := r) (cs := q)
    unfold stated at ih ⊢
    rw [List.zipWith_cons_cons, List.mem_cons, ih]
    constructor
    · rintro (h | ⟨i, h1, h2⟩)
      · injection h with h1 h2
        exact ⟨0, by simp [h1], by simp [h2]⟩
      · exact ⟨i + 1, by simpa using h1, by simpa using h2⟩
    · rintro ⟨i, h1, h2⟩
      cases i with
      | zero => left; simp at h1 h2; rw [h1, h2]
      | succ i => right; exact ⟨i, by simpa using h1, by simpa using h2⟩
/-- Whether the parts answer for the context i. -/
def closAt (s t : Int) (rs : List Rul) (ls ws : List (List Int)) (sts : List Int) (cs : List (List Int)) (i : Nat) : Bool :=
  isR (ruleOf s rs (sts.getD i 0) (cs.getD i [])) && decide (lostOf (ruleOf s rs (sts.getD i 0) (cs.getD i [])) (cs.getD i []) ∈ (if (ruleOf s rs (sts.getD i 0) (cs.getD i [])).mv = 1 then ls else ws)) &&
    (nextsOf s.toNat (ruleOf s rs (sts.getD i 0) (cs.getD i [])) (cs.getD i []) ls ws).all (fun y => decide (((ruleOf s rs (sts.getD i 0) (cs.getD i [])).nx :: y) ∈ stated sts cs))
/-- The letters and states are a machine's. -/
def fitB (s t : Int) (ls ws : List (List Int)) (sts : List Int) (cs : List (List Int)) : Bool := overB s ls && overB s ws && overB s cs && sts.all (fun x => decide (x < t))
def blankB (n : Nat) (ls ws : List (List Int)) (sts : List Int) (cs : List (List Int)) : Bool := decide (List.replicate n (0 : Int) ∈ ls) && decide (List.replicate n (0 : Int) ∈ ws) && decide ((0 :: List.replicate (2 * n + 1) (0 : Int)) ∈ stated sts cs)
/-- What CheckContexts answers. -/
def chkB (s t : Int) (rs : List Rul) (k : Int) (ns : List Int) (ws : List (List Int)) : Bool :=
  okM s t rs && okP k ns ws && csOk k ns ws && fitB s t (lefts ns ws) (rights ns ws) (ns.drop 3) (ctxs ns ws) && blankB (pN ns).toNat (lefts ns ws) (rights ns ws) (ns.drop 3) (ctxs ns ws) &&
    allTo (closAt s t rs (lefts ns ws) (rights ns ws) (ns.drop 3) (ctxs ns ws)) (ctxs ns ws).length
/-- What is known of the parts of a proof with parts. -/
structure PartsP (n : Nat) (ls ws : List (List Int)) (sts : List Int) (cs : List (List Int)) : Prop where
  n1 : 1 ≤ n ∧ n ≤ 4
  ll : ∀ x ∈ ls, x.length = n
  lw : ∀ x ∈ ws, x.length = n
  lc : ∀ x ∈ cs, x.length = 2 * n + 1
  pos : ∀ x ∈ sts, 0 ≤ x
  len : sts.length = cs.length
theorem parts_of {k : Int} {ns : List Int} {ws : List (List Int)} (h : csOk k ns ws = true) : PartsP (pN ns).toNat (lefts ns ws) (rights ns ws) (ns.drop 3) (ctxs ns ws) := by
  simp only [csOk, g1, g2, g3, g4, Bool.and_eq_true, decide_eq_true_eq, inB_true, List.all_eq_true, lenB] at h
  obtain ⟨⟨⟨⟨⟨_, h3⟩, hn⟩, ⟨⟨⟨ha, hb⟩, hab⟩, hpos⟩⟩, ⟨hl, hr⟩, hc⟩, _⟩ := h
  refine ⟨by omega, fun x hx => ?_, fun x hx => ?_, fun x hx => ?_, fun x hx => (allIn_true.1 hpos x hx).1, ?_⟩
  · have := (hl x hx).1; omega
  · have := (hr x hx).1; omega
  · have := (hc x hx).1; omega
  · simp only [ctxs, List.length_drop]; omega
/-- A context that fits is one of the machine's. -/
theorem parts_ctx {s t : Int} {rs : List Rul} {n : Nat} {ls ws cs : List (List Int)} {sts : List Int} (hp : PartsP n ls ws sts cs) (hm : okM s t rs = true) (hf : fitB s t ls ws sts cs = true) {i : Nat} {st : Int} {x : List Int} (h1 : sts[i]? = some st) (h2 : cs[i]? = some x) : ctxC s t rs st x = 0 := by
  simp only [fitB, Bool.and_eq_true, List.all_eq_true, decide_eq_true_eq, overB] at hf
  have hx := List.mem_of_getElem? h2
  have hs := List.mem_of_getElem? h1
  have hl := hp.lc x hx
  have hn := hp.n1
  refine ctx_ok hm (by omega) (inB_true.2 (by omega)) (hf.1.2 x hx) (inB_true.2 ⟨hp.pos st hs, ?_⟩)
  have := hf.2 st hs
  omega
theorem parts_gw {s t : Int} {n : Nat} {ls ws cs : List (List Int)} {sts : List Int} (hp : PartsP n ls ws sts cs) (hs : s ≤ 6) (hf : fitB s t ls ws sts cs = true) : (∀ x ∈ ls, Gw x ∧ x.length = n) ∧ (∀ x ∈ ws, Gw x ∧ x.length = n) := by
  simp only [fitB, Bool.and_eq_true, List.all_eq_true, decide_eq_true_eq, overB] at hf
  have hn := hp.n1
  constructor
  · intro x hx
    have hl := hp.ll x hx
    refine ⟨⟨by omega, fun y hy => ?_⟩, hl⟩
    have := allIn_true.1 (hf.1.1.1 x hx) y hy
    unfold SmI; omega
  · intro x hx
    have hl := hp.lw x hx
    refine ⟨⟨by omega, fun y hy => ?_⟩, hl⟩
    have := allIn_true.1 (hf.1.1.2 x hx) y hy
    unfold SmI; omega
end Go.Proofs.Ytcpkhhammafchaa
