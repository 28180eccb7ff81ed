/- For every input the law laws.FnExactMergeContexts returns true, and the arguments read afterwards as before; no condition. -/
import Derived.Test.YtcpkhhammafchaaRows
import Derived.Test.YtcpkhhammafchaaLawMc
import Derived.Test.YtcpkhhammafchaaGA
import Derived.WalkKit
import Derived.ProofKit
import Derived.OpenShut
import Derived.ShutString
import Derived.ChangeOld
import Derived.Below
import Derived.Test.YtcpkhhammafchaaGC
namespace Go.Proofs.Ytcpkhhammafchaa.fnExactMergeContexts
open Go.ChangeShapes Go.WideShapes Go.ChangeAt Go.RowKit
open Go.ChangeMaps (open_string shut_string)
set_option linter.unusedVariables false

theorem own : ownKnob Try.prog.godebug = none := by kernel_rfl
theorem laidOut : laidOutB Try.prog = true := by kernel_rfl

set_option maxRecDepth 100000 in
theorem lifted (os : Os) (started : os.Started) (H : Type) (enc : TypeId × Value → H) :
    ReturnsInHanded {} Try.checked os 6 .any (Rows.fnExactMergeContextsSpec.pre6 enc Try.prog Try.f6 Rows.fnExactMergeContextsRow.domain false) (Rows.fnExactMergeContextsSpec.post enc Try.prog Try.f6 false true false false) := by
  refine returnsInHanded_of_change (C := Try.checked) own started (by kernel_rfl) Try.func6
    (ChangeSpec.witness6 (enc := enc) (C := Try.checked) false ⟨#[], #[.agg #[.int .i64 0, .slice none 0 0, .slice none 0 0], .agg #[.int .i64 0, .slice none 0 0, .slice none 0 0]], []⟩ 8 (by kernel_rfl) (by kernel_rfl) (by kernel_rfl) (by kernel_rfl)) ?_
  intro W base args ds gs before hval0 hW hcnd _
  have hval : ∀ (j : Nat) t v, Try.f6.params[j]? = some t → args[j]? = some v → Value.okWide Try.prog W .any base t v := hval0
  have hW' := hW
  obtain ⟨p, q, hA0, hV, rfl, hfz, hnd⟩ := hW
  have hA : DataW.TrodAll enc Try.prog W 0 (fun _ => true) true Try.f6.params.toList args.toList ds p := hA0
  rw [Try.params6] at hA hval
  obtain ⟨v0, vs0, d0, ds0, p0, q0, hargs, rfl, rfl, h0, r0⟩ := trodAll_cons hA
  obtain ⟨v1, vs1, d1, ds1, p1, q1, rfl, rfl, rfl, h1, r1⟩ := trodAll_cons r0
  obtain ⟨rfl, rfl, rfl⟩ := trodAll_nil r1
  obtain rfl : args = #[v0, v1] := by cases args; simp_all
  obtain ⟨rfl, rfl⟩ := trodVars_none hV
  have k0 := h0
  have lt0 : ∀ x ∈ p0, x.block < W.heap.size := by obtain ⟨m, hm⟩ := k0; exact DataW.trod_lt m _ _ _ hm
  obtain ⟨u0_0, u0_1, u0_2, y0_0, y0_1, y0_2, nn0, rfl, _, _, t0_0, t0_1, t0_2⟩ := Go.Joins.open_agg3 Try.underlying66 (by kernel_rfl) (by kernel_rfl) (hval 0 66 v0 rfl rfl) h0
  obtain ⟨a0_0, rfl⟩ := opI Try.underlying2 t0_0
  obtain ⟨a0_1, len0_1, cap0_1, rfl, _⟩ := op_slice Try.underlying25 t0_1
  obtain ⟨z0_1, w0_1, g0_1⟩ := opS Try.underlying25 Try.underlying2 (by kernel_rfl) t0_1
  obtain ⟨a0_2, len0_2, cap0_2, rfl, _⟩ := op_slice Try.underlying46 t0_2
  obtain ⟨z0_2, w0_2, g0_2⟩ := opL Try.underlying46 Try.underlying25 Try.underlying2 (by kernel_rfl) (by kernel_rfl) t0_2
  have k1 := h1
  have lt1 : ∀ x ∈ p1, x.block < W.heap.size := by obtain ⟨m, hm⟩ := k1; exact DataW.trod_lt m _ _ _ hm
  obtain ⟨u1_0, u1_1, u1_2, y1_0, y1_1, y1_2, nn1, rfl, _, _, t1_0, t1_1, t1_2⟩ := Go.Joins.open_agg3 Try.underlying66 (by kernel_rfl) (by kernel_rfl) (hval 1 66 v1 rfl rfl) h1
  obtain ⟨a1_0, rfl⟩ := opI Try.underlying2 t1_0
  obtain ⟨a1_1, len1_1, cap1_1, rfl, _⟩ := op_slice Try.underlying25 t1_1
  obtain ⟨z1_1, w1_1, g1_1⟩ := opS Try.underlying25 Try.underlying2 (by kernel_rfl) t1_1
  obtain ⟨a1_2, len1_2, cap1_2, rfl, _⟩ := op_slice Try.underlying46 t1_2
  obtain ⟨z1_2, w1_2, g1_2⟩ := opL Try.underlying46 Try.underlying25 Try.underlying2 (by kernel_rfl) (by kernel_rfl) t1_2
  clear hA0 hval0
  refine (lawMergeContexts W a0_0 a0_1 len0_1 cap0_1 z0_1 w0_1 (by unfold maxLen at g0_1; omega) a0_2 len0_2 cap0_2 z0_2 w0_2 (by unfold maxLen at g0_2; omega) a1_0 a1_1 len1_1 cap1_1 z1_1 w1_1 (by unfold maxLen at g1_1; omega) a1_2 len1_2 cap1_2 z1_2 w1_2 (by unfold maxLen at g1_2; omega)).mono fun e W' ⟨he, bel⟩ => ?_
  subst he
  exact ⟨_, rfl, _, _, _, [], _, [], hW', trodAll_mk1 (shut_bool Try.underlying4 _), (trodAll_cons_mk (Below.trod laidOut (by kernel_rfl) (of_decide_eq_true (by kernel_rfl)) k0 bel lt0) (trodAll_cons_mk (Below.trod laidOut (by kernel_rfl) (of_decide_eq_true (by kernel_rfl)) k1 bel lt1) trodAll_mk0)), rfl, bel.frame _, fun h => by cases h⟩

theorem over : Rows.fnExactMergeContextsRow.holds Try.pinned (OpenSpec.ofChange Rows.fnExactMergeContextsSpec) :=
  OpenClaim.holds_of_wide 6 Try.f6 rfl rfl rfl rfl rfl rfl rfl ⟨rfl, rfl, rfl, rfl, rfl⟩ rfl rfl rfl rfl rfl (by kernel_rfl) Try.func6 (by kernel_rfl)
    (of_decide_eq_true (by kernel_rfl)) (by unfold Func.isWrapper; first | (rw [if_pos (by decide +kernel)]; kernel_rfl) | (rw [if_neg (by decide +kernel)]; exact ⟨rfl, rfl⟩))
    (fun os started H enc _ => lifted os started H enc)

theorem proved : Rows.FnExactMergeContextsSaid := over
#print axioms proved
end Go.Proofs.Ytcpkhhammafchaa.fnExactMergeContexts
