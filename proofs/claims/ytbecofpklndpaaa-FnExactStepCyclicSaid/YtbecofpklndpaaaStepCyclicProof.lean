/- For every input the law laws.FnExactStepCyclic returns true, and the arguments read afterwards as before; no condition. -/
import Derived.Test.YtbecofpklndpaaaRows
import Derived.Test.YtbecofpklndpaaaLawCyc
import Derived.Test.YtbecofpklndpaaaOpenF
import Derived.WalkKit
import Derived.ProofKit
import Derived.OpenShut
import Derived.ShutString
import Derived.ChangeOld
import Derived.Below
import Derived.Test.YtbecofpklndpaaaOpenL
namespace Go.Proofs.Ytbecofpklndpaaa.fnExactStepCyclic
open Go.ChangeShapes Go.WideShapes Go.ChangeAt Go.RowKit
open Go.ChangeMaps (open_string shut_string)
set_option linter.unusedVariables false

theorem own : ownKnob Try.prog.godebug = none := by kernel_rfl
theorem laidOut : laidOutB Try.prog = true := by kernel_rfl

set_option maxRecDepth 100000 in
theorem lifted (os : Os) (started : os.Started) (H : Type) (enc : TypeId × Value → H) :
    ReturnsInHanded {} Try.checked os 9 .any (Rows.fnExactStepCyclicSpec.pre6 enc Try.prog Try.f9 Rows.fnExactStepCyclicRow.domain false) (Rows.fnExactStepCyclicSpec.post enc Try.prog Try.f9 false true false false) := by
  refine returnsInHanded_of_change (C := Try.checked) own started (by kernel_rfl) Try.func9
    (ChangeSpec.witness6 (enc := enc) (C := Try.checked) false ⟨#[], #[.agg #[.slice none 0 0], .agg #[.int .i64 0, .slice none 0 0]], []⟩ 8 (by kernel_rfl) (by kernel_rfl) (by kernel_rfl) (by kernel_rfl)) ?_
  intro W base args ds gs before hval0 hW hcnd _
  have hval : ∀ (j : Nat) t v, Try.f9.params[j]? = some t → args[j]? = some v → Value.okWide Try.prog W .any base t v := hval0
  have hW' := hW
  obtain ⟨p, q, hA0, hV, rfl, hfz, hnd⟩ := hW
  have hA : DataW.TrodAll enc Try.prog W 0 (fun _ => true) true Try.f9.params.toList args.toList ds p := hA0
  rw [Try.params9] at hA hval
  obtain ⟨v0, vs0, d0, ds0, p0, q0, hargs, rfl, rfl, h0, r0⟩ := trodAll_cons hA
  obtain ⟨v1, vs1, d1, ds1, p1, q1, rfl, rfl, rfl, h1, r1⟩ := trodAll_cons r0
  obtain ⟨rfl, rfl, rfl⟩ := trodAll_nil r1
  obtain rfl : args = #[v0, v1] := by cases args; simp_all
  obtain ⟨rfl, rfl⟩ := trodVars_none hV
  have k0 := h0
  have lt0 : ∀ x ∈ p0, x.block < W.heap.size := by obtain ⟨m, hm⟩ := k0; exact DataW.trod_lt m _ _ _ hm
  obtain ⟨u0_0, y0_0, nn0, rfl, _, _, t0_0⟩ := opAgg1 Try.underlying70 (by kernel_rfl) (by kernel_rfl) (hval 0 70 v0 rfl rfl) h0
  obtain ⟨a0_0, len0_0, cap0_0, rfl, _⟩ := op_slice Try.underlying24 t0_0
  obtain ⟨z0_0, w0_0, g0_0⟩ := opL Try.underlying24 Try.underlying25 Try.underlying2 (by kernel_rfl) (by kernel_rfl) t0_0
  have k1 := h1
  have lt1 : ∀ x ∈ p1, x.block < W.heap.size := by obtain ⟨m, hm⟩ := k1; exact DataW.trod_lt m _ _ _ hm
  obtain ⟨u1_0, u1_1, y1_0, y1_1, nn1, rfl, _, _, t1_0, t1_1⟩ := Go.Joins.open_agg2 Try.underlying72 (by kernel_rfl) (by kernel_rfl) (hval 1 72 v1 rfl rfl) h1
  obtain ⟨a1_0, rfl⟩ := opI Try.underlying2 t1_0
  obtain ⟨a1_1, len1_1, cap1_1, rfl, _⟩ := op_slice Try.underlying25 t1_1
  obtain ⟨z1_1, w1_1, g1_1⟩ := opS Try.underlying25 Try.underlying2 (by kernel_rfl) t1_1
  clear hA0 hval0
  refine (lawStepCyclic W a0_0 len0_0 cap0_0 z0_0 w0_0 (by unfold maxLen at g0_0; omega) a1_0 a1_1 len1_1 cap1_1 z1_1 w1_1 (by unfold maxLen at g1_1; omega)).mono fun e W' ⟨he, bel⟩ => ?_
  subst he
  exact ⟨_, rfl, _, _, _, [], _, [], hW', trodAll_mk1 (shut_bool Try.underlying4 _), (trodAll_cons_mk (Below.trod laidOut (by kernel_rfl) (of_decide_eq_true (by kernel_rfl)) k0 bel lt0) (trodAll_cons_mk (Below.trod laidOut (by kernel_rfl) (of_decide_eq_true (by kernel_rfl)) k1 bel lt1) trodAll_mk0)), rfl, bel.frame _, fun h => by cases h⟩

theorem over : Rows.fnExactStepCyclicRow.holds Try.pinned (OpenSpec.ofChange Rows.fnExactStepCyclicSpec) :=
  OpenClaim.holds_of_wide 9 Try.f9 rfl rfl rfl rfl rfl rfl rfl ⟨rfl, rfl, rfl, rfl, rfl⟩ rfl rfl rfl rfl rfl (by kernel_rfl) Try.func9 (by kernel_rfl)
    (of_decide_eq_true (by kernel_rfl)) (by unfold Func.isWrapper; first | (rw [if_pos (by decide +kernel)]; kernel_rfl) | (rw [if_neg (by decide +kernel)]; exact ⟨rfl, rfl⟩))
    (fun os started H enc _ => lifted os started H enc)

theorem proved : Rows.FnExactStepCyclicSaid := over
#print axioms proved
end Go.Proofs.Ytbecofpklndpaaa.fnExactStepCyclic
