/- Cuts of slices at any place: one address for both ways. -/
import Derived.Test.YtjgajjcgapifoaaCpy
import Derived.Test.YtjgajjcgapifoaaLawP
namespace Go.Proofs.Ytjgajjcgapifoaa
open Go.RowKit
set_option linter.unusedVariables false
set_option linter.unusedSimpArgs false
def cutA (A : Option Addr) (k c sz : Nat) : Option Addr := if c = k then A else A.map fun a => a.add (k * sz)
theorem cut_eq (A : Option Addr) (k h c sz : Nat) : sliced A k h c sz = .slice (cutA A k c sz) (h - k) (c - k) := by
  unfold sliced cutA
  split <;> rfl
/-- 's[i:]'. -/
theorem run_cutF {P : Program} {t e : TypeId} {sz : Nat} (ht : P.underlying t = some (.slice e)) (hi : (P.info? e).map (·.size) = some sz) (w : World) (A : Option Addr) (len cap k : Nat) (i : Int) (q : IntKind) (hik : i = k) (h1 : k ≤ len) :
    (Instr.slice t (.slice A len cap) (some (.int q i)) none none).run P w = .ok (.slice (cutA A k cap sz) (len - k) (cap - k)) w := by
  have ee : P.elem t = e := by simp [Program.elem, ht]
  subst hik
  rw [run_slice_l w t _ len cap (by rw [ee]; exact ht) q k (by omega) (by omega), ee, run_size hi w]
  simp only [Result.andThen, Int.toNat_natCast, cut_eq]
/-- 's[i:j]'. -/
theorem run_cutFH {P : Program} {t e : TypeId} {sz : Nat} (ht : P.underlying t = some (.slice e)) (hi : (P.info? e).map (·.size) = some sz) (w : World) (A : Option Addr) (len cap k m : Nat) (i j : Int) (q q' : IntKind) (hik : i = k) (hjm : j = m) (h1 : k ≤ m) (h2 : m ≤ cap) :
    (Instr.slice t (.slice A len cap) (some (.int q i)) (some (.int q' j)) none).run P w = .ok (.slice (cutA A k cap sz) (m - k) (cap - k)) w := by
  have ee : P.elem t = e := by simp [Program.elem, ht]
  subst hik hjm
  rw [run_slice_lh w t _ len cap (by rw [ee]; exact ht) q q' k m (by omega) (by omega) (by omega), ee, run_size hi w]
  simp only [Result.andThen, Int.toNat_natCast, cut_eq]
/-- 's[:i]'. -/
theorem run_cutH {P : Program} {t e : TypeId} {sz : Nat} (ht : P.underlying t = some (.slice e)) (hi : (P.info? e).map (·.size) = some sz) (w : World) (A : Option Addr) (len cap k : Nat) (i : Int) (q : IntKind) (hik : i = k) (h1 : k ≤ cap) :
    (Instr.slice t (.slice A len cap) none (some (.int q i)) none).run P w = .ok (.slice A k cap) w := by
  have ee : P.elem t = e := by simp [Program.elem, ht]
  subst hik
  rw [run_slice_h w t _ len cap (by rw [ee]; exact ht) q k (by omega) (by omega), ee, run_size hi w]
  have ha : ∀ a : Addr, a.add 0 = a := fun a => by simp [Addr.add]
  simp only [Result.andThen, sliced, Int.toNat_natCast, Nat.zero_mul, Nat.sub_zero, ha]
  cases A <;> simp
theorem Rd.cut {w : World} {A : Option Addr} {n : Nat} {vs : List Value} (h : Rd w A n vs) (k c : Nat) (hk : k ≤ n) (hc : n ≤ c) : Rd w (cutA A k c 1) (n - k) (vs.drop k) := by
  by_cases h0 : n = k
  · subst h0
    have e : vs.drop n = [] := List.drop_of_length_le (by rw [h.1]; exact Nat.le_refl _)
    rw [e, Nat.sub_self]
    exact Rd.nil _ _
  · obtain ⟨b, off, e, _, _⟩ := h.2 (by omega)
    subst e
    have e : cutA (some ⟨b, off, none⟩) k c 1 = some ⟨b, off + k, none⟩ := by simp only [cutA, if_neg (show ¬ c = k by omega), Option.map_some, Nat.mul_one, add_plain']
    rw [e]
    exact h.tail k hk
theorem RdL.take {w : World} {A : Option Addr} {n : Nat} {xss : List (List Int)} (h : RdL w A n xss) (k : Nat) (hk : k ≤ n) : RdL w A k (xss.take k) := by
  obtain ⟨vs, h1, h2, h3⟩ := h
  refine ⟨vs.take k, h1.take k hk, by simp [h2], fun i v xs hv hx => ?_⟩
  rw [List.getElem?_take] at hv hx
  split at hv
  · rename_i hik
    rw [if_pos hik] at hx
    exact h3 i v xs hv hx
  · cases hv
theorem RdL.cut {w : World} {A : Option Addr} {n : Nat} {xss : List (List Int)} (h : RdL w A n xss) (k c : Nat) (hk : k ≤ n) (hc : n ≤ c) : RdL w (cutA A k c 1) (n - k) (xss.drop k) := by
  obtain ⟨vs, h1, h2, h3⟩ := h
  refine ⟨vs.drop k, h1.cut k c hk hc, by simp [h2], fun i v xs hv hx => ?_⟩
  rw [List.getElem?_drop] at hv hx
  exact h3 (k + i) v xs hv hx
theorem Try.szL : (Try.prog.info? 25).map (·.size) = some 1 := by kernel_rfl
end Go.Proofs.Ytjgajjcgapifoaa
