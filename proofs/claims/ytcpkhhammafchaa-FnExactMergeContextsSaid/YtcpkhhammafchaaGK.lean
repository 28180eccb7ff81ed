/- Texts in one file: CtxL, CtxP, CtxR. -/
import Derived.Test.YtcpkhhammafchaaGE
/- The rule and the window that is lost. -/
namespace Go.Proofs.Ytcpkhhammafchaa
open Go.RowKit
set_option linter.unusedVariables false
set_option linter.unusedSimpArgs false
def LosP (w : World) (r : Rul) (xs : List Int) (e : Ending) (w' : World) : Prop :=
  ∃ A n c, e = .returned (.tuple #[rulV r, .slice A n c, .bool (isR r)]) ∧ w'.ownsRow w.heap.size 2 1 (.slice A n c) n (ints (if isR r then lostOf r xs else [])) ∧ Below w.heap.size w w'
/-- 's[:i]'. -/
theorem run_cutTo {P : Program} {t e : TypeId} {sz : Nat} (ht : P.underlying t = some (.slice e)) (hi : (P.info? e).map (·.size) = some sz) (w : World) (A : Option Addr) (len cap k : Nat) (i : Int) (q : IntKind) (hik : i = k) (h1 : k ≤ cap) :
    (Instr.slice t (.slice A len cap) none (some (.int q i)) none).run P w = .ok (.slice A k cap) w := by
  have ee : P.elem t = e := by simp [Program.elem, ht]
  subst hik
  rw [run_slice_h w t _ len cap (by rw [ee]; exact ht) q k (by omega) (by omega), ee, run_size hi w]
  have ha : ∀ a : Addr, a.add 0 = a := fun a => by simp [Addr.add]
  simp only [Result.andThen, sliced, Int.toNat_natCast, Nat.zero_mul, Nat.sub_zero, ha]
  cases A <;> simp
theorem own_set3 {w : World} {base e n g : Nat} {v a b c : Value} {vs : List Value} (h : w.ownsRow base e 1 v n vs) (hg : ¬ Fo v g) : (((w.setCell ⟨g, 0, none⟩ a).setCell ⟨g, 1, none⟩ b).setCell ⟨g, 2, none⟩ c).ownsRow base e 1 v n vs :=
  own_ch h (((ch_set w g 0 a).trans (ch_set _ g 1 b)).trans (ch_set _ g 2 c)) (fun k h1 h2 => by subst h2; exact hg h1)
theorem below_set3 {B : Nat} {w0 w : World} {g : Nat} {a b c : Value} (h : Below B w0 w) (hg : B ≤ g) (hs : B ≤ w.heap.size) : Below B w0 (((w.setCell ⟨g, 0, none⟩ a).setCell ⟨g, 1, none⟩ b).setCell ⟨g, 2, none⟩ c) :=
  below_ch h (((ch_set w g 0 a).trans (ch_set _ g 1 b)).trans (ch_set _ g 2 c)) (fun k hk => by subst hk; exact hg) hs
end Go.Proofs.Ytcpkhhammafchaa
/- LostWindow: the program's answer. -/
namespace Go.Proofs.Ytcpkhhammafchaa
open Go.RowKit
set_option linter.unusedVariables false
set_option linter.unusedSimpArgs false
def LwPost (w : World) (r : Int × List Int × Int) (e : Ending) (w' : World) : Prop :=
  ∃ A n c, e = .returned (.tuple #[.int .i64 r.1, .slice A n c, .int .i64 r.2.2]) ∧ w'.ownsRow w.heap.size 2 1 (.slice A n c) n (ints r.2.1) ∧ Below w.heap.size w w'
end Go.Proofs.Ytcpkhhammafchaa
/- LostWindow: the reference's answer. Written by mk_ctxr.py. -/
namespace Go.Proofs.Ytcpkhhammafchaa
open Go.RowKit
set_option linter.unusedVariables false
set_option linter.unusedSimpArgs false
def RaP (w : World) (r : Rul) (e : Ending) (w' : World) : Prop := e = .returned (.tuple #[rulV r, .bool (isR r)]) ∧ Below w.heap.size w w'
end Go.Proofs.Ytcpkhhammafchaa
