/- For every input the law laws.FnExactIsCovered returns true, and the arguments read afterwards as before; no condition. -/
import Derived.Test.YtanicbbgneobpaaGreatRows
import Derived.Test.YtanicbbgneobpaaGreatLawIc
import Derived.Test.YtanicbbgneobpaaGreatGA
import Derived.WalkKit
import Derived.ProofKit
import Derived.OpenShut
import Derived.ShutString
import Derived.ChangeOld
import Derived.Below
import Derived.Test.YtanicbbgneobpaaGreatGC
namespace Go.Proofs.YtanicbbgneobpaaGreat.fnExactIsCovered
open Go.ChangeShapes Go.WideShapes Go.ChangeAt Go.RowKit
open Go.ChangeMaps (open_string shut_string)
set_option linter.unusedVariables false

theorem own : ownKnob Tryz.prog.godebug = none := by kernel_rfl
theorem laidOut : laidOutB Tryz.prog = true := by kernel_rfl

set_option maxRecDepth 100000 in
theorem lifted (os : Os) (started : os.Started) (H : Type) (enc : TypeId × Value → H) :
    ReturnsInHanded {} Tryz.checked os 3 .any (Rows.fnExactIsCoveredSpec.pre6 enc Tryz.prog Tryz.f3 Rows.fnExactIsCoveredRow.domain false) (Rows.fnExactIsCoveredSpec.post enc Tryz.prog Tryz.f3 false true false false) := by
  refine returnsInHanded_of_change (C := Tryz.checked) own started (by kernel_rfl) Tryz.func3
    (ChangeSpec.witness6 (enc := enc) (C := Tryz.checked) false ⟨#[], #[.agg #[.int .i64 0, .int .i64 0, .slice none 0 0], .agg #[.int .i64 0, .slice none 0 0, .slice none 0 0], .agg #[.int .i64 0, .slice none 0 0, .slice none 0 0]], []⟩ 8 (by kernel_rfl) (by kernel_rfl) (by kernel_rfl) (by kernel_rfl)) ?_
  intro W base args ds gs before hval0 hW hcnd _
  have hval : ∀ (j : Nat) t v, Tryz.f3.params[j]? = some t → args[j]? = some v → Value.okWide Tryz.prog W .any base t v := hval0
  have hW' := hW
  obtain ⟨p, q, hA0, hV, rfl, hfz, hnd⟩ := hW
  have hA : DataW.TrodAll enc Tryz.prog W 0 (fun _ => true) true Tryz.f3.params.toList args.toList ds p := hA0
  rw [Tryz.params3] at hA hval
  obtain ⟨v0, vs0, d0, ds0, p0, q0, hargs, rfl, rfl, h0, r0⟩ := trodAll_cons hA
  obtain ⟨v1, vs1, d1, ds1, p1, q1, rfl, rfl, rfl, h1, r1⟩ := trodAll_cons r0
  obtain ⟨v2, vs2, d2, ds2, p2, q2, rfl, rfl, rfl, h2, r2⟩ := trodAll_cons r1
  obtain ⟨rfl, rfl, rfl⟩ := trodAll_nil r2
  obtain rfl : args = #[v0, v1, v2] := by cases args; simp_all
  obtain ⟨rfl, rfl⟩ := trodVars_none hV
  have k0 := h0
  have lt0 : ∀ x ∈ p0, x.block < W.heap.size := by obtain ⟨m, hm⟩ := k0; exact DataW.trod_lt m _ _ _ hm
  obtain ⟨u0_0, u0_1, u0_2, y0_0, y0_1, y0_2, nn0, rfl, _, _, t0_0, t0_1, t0_2⟩ := Go.Joins.open_agg3 Tryz.underlying24 (by kernel_rfl) (by kernel_rfl) (hval 0 24 v0 rfl rfl) h0
  obtain ⟨a0_0, rfl⟩ := opI Tryz.underlying2 t0_0
  obtain ⟨a0_1, rfl⟩ := opI Tryz.underlying2 t0_1
  obtain ⟨a0_2, len0_2, cap0_2, rfl, _⟩ := op_slice Tryz.underlying22 t0_2
  obtain ⟨z0_2, w0_2, g0_2⟩ := opF Tryz.underlying22 Tryz.underlying104 (by kernel_rfl) (by kernel_rfl) (by intro f hf; simp at hf; rcases hf with rfl | rfl | rfl <;> exact Tryz.underlying2) (by decide) t0_2
  have k1 := h1
  have lt1 : ∀ x ∈ p1, x.block < W.heap.size := by obtain ⟨m, hm⟩ := k1; exact DataW.trod_lt m _ _ _ hm
  obtain ⟨u1_0, u1_1, u1_2, y1_0, y1_1, y1_2, nn1, rfl, _, _, t1_0, t1_1, t1_2⟩ := Go.Joins.open_agg3 Tryz.underlying28 (by kernel_rfl) (by kernel_rfl) (hval 1 28 v1 rfl rfl) h1
  obtain ⟨a1_0, rfl⟩ := opI Tryz.underlying2 t1_0
  obtain ⟨a1_1, len1_1, cap1_1, rfl, _⟩ := op_slice Tryz.underlying25 t1_1
  obtain ⟨z1_1, w1_1, g1_1⟩ := opS Tryz.underlying25 Tryz.underlying2 (by kernel_rfl) t1_1
  obtain ⟨a1_2, len1_2, cap1_2, rfl, _⟩ := op_slice Tryz.underlying26 t1_2
  obtain ⟨z1_2, w1_2, g1_2⟩ := opL Tryz.underlying26 Tryz.underlying25 Tryz.underlying2 (by kernel_rfl) (by kernel_rfl) t1_2
  have k2 := h2
  have lt2 : ∀ x ∈ p2, x.block < W.heap.size := by obtain ⟨m, hm⟩ := k2; exact DataW.trod_lt m _ _ _ hm
  obtain ⟨u2_0, u2_1, u2_2, y2_0, y2_1, y2_2, nn2, rfl, _, _, t2_0, t2_1, t2_2⟩ := Go.Joins.open_agg3 Tryz.underlying30 (by kernel_rfl) (by kernel_rfl) (hval 2 30 v2 rfl rfl) h2
  obtain ⟨a2_0, rfl⟩ := opI Tryz.underlying2 t2_0
  obtain ⟨a2_1, len2_1, cap2_1, rfl, _⟩ := op_slice Tryz.underlying25 t2_1
  obtain ⟨z2_1, w2_1, g2_1⟩ := opS Tryz.underlying25 Tryz.underlying2 (by kernel_rfl) t2_1
  obtain ⟨a2_2, len2_2, cap2_2, rfl, _⟩ := op_slice Tryz.underlying25 t2_2
  obtain ⟨z2_2, w2_2, g2_2⟩ := opS Tryz.underlying25 Tryz.underlying2 (by kernel_rfl) t2_2
  clear hA0 hval0
  refine (lawIsCovered W a0_0 a0_1 a0_2 len0_2 cap0_2 z0_2 w0_2 (by unfold maxLen at g0_2; omega) a1_0 a1_1 len1_1 cap1_1 z1_1 w1_1 (by unfold maxLen at g1_1; omega) a1_2 len1_2 cap1_2 z1_2 w1_2 (by unfold maxLen at g1_2; omega) a2_0 a2_1 len2_1 cap2_1 z2_1 w2_1 (by unfold maxLen at g2_1; omega) a2_2 len2_2 cap2_2 z2_2 w2_2 (by unfold maxLen at g2_2; omega)).mono fun e W' ⟨he, bel⟩ => ?_
  subst he
  exact ⟨_, rfl, _, _, _, [], _, [], hW', trodAll_mk1 (shut_bool Tryz.underlying4 _), (trodAll_cons_mk (Below.trod laidOut (by kernel_rfl) (of_decide_eq_true (by kernel_rfl)) k0 bel lt0) (trodAll_cons_mk (Below.trod laidOut (by kernel_rfl) (of_decide_eq_true (by kernel_rfl)) k1 bel lt1) (trodAll_cons_mk (Below.trod laidOut (by kernel_rfl) (of_decide_eq_true (by kernel_rfl)) k2 bel lt2) trodAll_mk0))), rfl, bel.frame _, fun h => by cases h⟩

theorem over : Rows.fnExactIsCoveredRow.holds Tryz.pinned (OpenSpec.ofChange Rows.fnExactIsCoveredSpec) :=
  OpenClaim.holds_of_wide 3 Tryz.f3 rfl rfl rfl rfl rfl rfl rfl ⟨rfl, rfl, rfl, rfl, rfl⟩ rfl rfl rfl rfl rfl (by kernel_rfl) Tryz.func3 (by kernel_rfl)
    (of_decide_eq_true (by kernel_rfl)) (by unfold Func.isWrapper; first | (rw [if_pos (by decide +kernel)]; kernel_rfl) | (rw [if_neg (by decide +kernel)]; exact ⟨rfl, rfl⟩))
    (fun os started H enc _ => lifted os started H enc)

theorem proved : Rows.FnExactIsCoveredSaid := over
#print axioms proved
end Go.Proofs.YtanicbbgneobpaaGreat.fnExactIsCovered
