/- FindContexts (reference): what a context asks for. Written by mk_frg.py. -/
import Derived.Test.YtcpkhhammafchaaFrM
import Derived.Test.YtcpkhhammafchaaGK
import Derived.Test.YtcpkhhammafchaaPp
import Derived.Deep.DrawnRows
namespace Go.Proofs.Ytcpkhhammafchaa
open Go.RowKit
set_option linter.unusedVariables false
set_option linter.unusedSimpArgs false
attribute [local go_sem ↓] Go.wp_at_zero Go.wp_at_succ
theorem rd_chF {F : Nat → Prop} {w w' : World} {A : Option Addr} {n : Nat} {vs : List Value} (h : Rd w A n vs) (hc : Ch F w w') (hd : ∀ b off, A = some ⟨b, off, none⟩ → ¬ F b) : Rd w' A n vs := by
  refine ⟨h.1, fun hn => ?_⟩
  obtain ⟨b, off, e, hlt, hcl⟩ := h.2 hn
  exact ⟨b, off, e, Nat.lt_of_lt_of_le hlt hc.size, fun j u hu => (World.cell?_of_block (a := ⟨b, off + j, none⟩) (hc.block b hlt (hd b off e))).trans (hcl j u hu)⟩
theorem ch_ext {F G : Nat → Prop} {w0 w w' : World} (h : Ch G w0 w) (k : Ch F w w') (hF : ∀ q, F q → G q ∨ w0.heap.size ≤ q) : Ch G w0 w' :=
  ⟨k.os.trans h.os, k.tape.trans h.tape, k.output.trans h.output, Nat.le_trans h.size k.size, fun i hi ho => (k.block i (Nat.lt_of_lt_of_le hi h.size) (fun hf => by rcases hF i hf with a | a; exact ho a; omega)).trans (h.block i hi ho)⟩
/-- The set for some places. -/
def RefE (w : World) (F : Nat → Prop) (g N : Nat) (S : St3) : Prop := ∃ (A1 : Option Addr) (n1 c1 : Nat) (us1 : List Value) (A2 : Option Addr) (n2 c2 : Nat) (us2 : List Value) (A3 : Option Addr) (n3 c3 : Nat) (us3 : List Value) (A4 : Option Addr) (c4 : Nat) (sts : List Int) (cs : List (List Int)), sts.length = cs.length ∧ RefX w F g N A1 n1 c1 us1 A2 n2 c2 us2 A3 n3 c3 us3 A4 c4 sts cs S
theorem RefE.below {w w' : World} {F : Nat → Prop} {g N : Nat} {S : St3} (h : RefE w F g N S) (hb : Below w.heap.size w w') : RefE w' F g N S := by
  obtain ⟨A1, n1, c1, us1, A2, n2, c2, us2, A3, n3, c3, us3, A4, c4, sts, cs, hl, hx⟩ := h
  exact ⟨A1, n1, c1, us1, A2, n2, c2, us2, A3, n3, c3, us3, A4, c4, sts, cs, hl, hx.below hb⟩
/-- What l29Grow leaves. -/
def GrP (w : World) (F : Nat → Prop) (g N s : Nat) (rs : List Rul) (S : St3) (st : Int) (y : List Int) (e : Ending) (w' : World) : Prop :=
  (growF s rs S st y = none ∧ e = .returned (.tuple #[.bool false, .bool false]) ∧ Ch F w w') ∨
  (∃ S' F', growF s rs S st y = some S' ∧ e = .returned (.tuple #[.bool (decide (¬ S'.size = S.size)), .bool true]) ∧ RefE w' F' g N S' ∧ (∀ q, F' q → F q ∨ w.heap.size ≤ q) ∧ Ch F w w')
theorem wrap_g {k m : Nat} (h : k < m) (h2 : m ≤ 6) : wrap64 ((k : Int) + 1) = ((k + 1 : Nat) : Int) := by unfold wrap64; omega
theorem meas_g {k m : Nat} (h : k < m) (h2 : m ≤ 6) : m - (intOf (.int .i64 (wrap64 ((k : Int) + 1)))).toNat < m - (intOf (.int .i64 (k : Int))).toNat := by
  rw [wrap_g h h2]; simp only [intOf]; omega
theorem gctx_sm {s : Nat} {t st : Int} {rs : List Rul} {y : List Int} (h : ctxC s t rs st y = 0) : ∀ z ∈ y, SmI z := fun z hz => by
  have h1 := ctx_let h z hz
  have h2 := (okM_all (ctx_zero h).1).1
  unfold SmI; omega
/-- What has been written since the contexts that follow were made. -/
def GJ (F : Nat → Prop) (us : List Value) (k : Nat) (q : Nat) : Prop := F q ∨ ∃ j u, j < k ∧ us[j]? = some u ∧ Fo u q
theorem addF_snoc {ys : List (List Int)} {W : St3} {x : List Int} : addF (ys ++ [x]) W = ⟨(addF ys W).l, (addF ys W).r, putL (addF ys W).c x⟩ := by simp [addF]
theorem size_put {W : St3} {x : List Int} (h : Rises W.c) : (⟨W.l, W.r, putL W.c x⟩ : St3).size = W.size + (if x ∈ W.c then 0 else 1) := by
  simp only [St3.size, putL_len h]; omega
theorem fresh_yes {a b c : Nat} (h1 : a ≤ b) (h2 : c = b + 1) : decide (¬ c = a) = true := decide_eq_true (by omega)
theorem cell_chF {G : Nat → Prop} {w w' : World} (hc : Ch G w w') {b off : Nat} {v : Value} (hl : b < w.heap.size) (hn : ¬ G b) (h : w.cell? ⟨b, off, none⟩ = some v) : w'.cell? ⟨b, off, none⟩ = some v :=
  (World.cell?_of_block (a := ⟨b, off, none⟩) (hc.block b hl hn)).trans h
end Go.Proofs.Ytcpkhhammafchaa
