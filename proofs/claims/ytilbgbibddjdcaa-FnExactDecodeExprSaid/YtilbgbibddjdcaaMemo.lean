/- The memo of the ranks: a map keyed by two numbers; every entry holds the count. -/
import Derived.Test.YtilbgbibddjdcaaRankM
import Derived.Test.YtilbgbibddjdcaaMem
import Derived.Maps.OwnSet
import Derived.DeepKeys4
namespace Go.Proofs.Ytilbgbibddjdcaa
open Go.RowKit
open Go.Maps (Keyed Tidy IsMap)
set_option linter.unusedVariables false
set_option linter.unusedSimpArgs false

theorem laidO : laidOutB Try.prog = true := by kernel_rfl
theorem rowEnd : (120 : TypeId) < Try.prog.types.size := of_decide_eq_true (by kernel_rfl)
theorem lawEnd : Keyed Try.prog 120 := Keyed.of_law (deep_law_laid laidO (m := 2) (by omega) rowEnd (by kernel_rfl) (by rw [Try.underlying120]))
theorem zeroI (w : World) : (zeroValue 2).run Try.prog w = .ok (.int .i64 0) w := by kernel_rfl
theorem endSize : Try.prog.cellsOf 120 = 2 := by kernel_rfl
theorem i64Size : Try.prog.cellsOf 2 = 1 := by kernel_rfl
theorem endKT : Try.prog.keyType 120 = true := by kernel_rfl
theorem szOne : ∃ m, Try.prog.types.size = m + 1 + 1 := ⟨Try.prog.types.size - 2, by have := rowEnd; have h2 : (1 : Nat) < Try.prog.types.size := of_decide_eq_true (by kernel_rfl); omega⟩
abbrev keyV (a o : Nat) : Value := .agg #[.int .i64 a, .int .i64 o]
def kOf (a o : Nat) : Lit := .string (keyBytes [.int .i64 a, .int .i64 o])
theorem wf_nat (a : Nat) (h : a ≤ 1000) : (Lit.int .i64 (a : Int)).wf = true := by
  simp [Lit.wf, IntKind.min, IntKind.max, IntKind.bits, IntKind.signed]; omega
theorem keyEnd (a o : Nat) (ha : a ≤ 1000) (ho : o ≤ 1000) : keyOf Try.prog 120 (keyV a o) = some (kOf a o) := by
  have wa := wf_nat a ha
  have wo := wf_nat o ho
  obtain ⟨m, hm⟩ := szOne
  unfold keyOf
  simp only [Try.underlying120]
  rw [if_pos (by simp [endKT, Value.formed, Try.underlying120, endSize]), hm]
  unfold Program.keyLits
  simp only [Try.underlying120, Value.cells]
  rw [if_pos (by simp [endSize])]
  simp [Program.keyLits, i64Size, Try.underlying2, wa, wo, kOf]
theorem kOf_inj {a o a' o' : Nat} (ha : a ≤ 1000) (ho : o ≤ 1000) (ha' : a' ≤ 1000) (ho' : o' ≤ 1000) (h : kOf a o = kOf a' o') : a = a' ∧ o = o' := by
  have h1 := lawEnd.inj (keyEnd a o ha ho) (h ▸ keyEnd a' o' ha' ho')
  simp at h1
  omega
theorem kOf_key (a o : Nat) (ha : a ≤ 1000) (ho : o ≤ 1000) : WideAt.IsKeyLit (kOf a o) := lawEnd.key (keyEnd a o ha ho)

def MemoE (es : List (Lit × DataW Unit)) : Prop := ∀ p ∈ es, ∃ a o : Nat, a ≤ 62 ∧ o ≤ 62 ∧ p = (kOf a o, .lit (.int .i64 (cnt a o)))
def MemoOk (w : World) (B : Nat) : Prop := ∃ es : List (Lit × DataW Unit), w.ownsMap Try.prog 120 (plainElem Try.prog 2) B es.length (.map es) ∧ MemoE es ∧ es.length ≤ 3969

theorem nodup_le {α : Type} : ∀ (l L : List α), l.Pairwise (· ≠ ·) → (∀ x ∈ l, x ∈ L) → l.length ≤ L.length := by
  classical
  intro l
  induction l with
  | nil => intro L _ _; simp
  | cons x r ih =>
    intro L hp hs
    obtain ⟨h1, h2⟩ := List.pairwise_cons.1 hp
    have hx : x ∈ L := hs x (by simp)
    have h3 : ∀ y ∈ r, y ∈ L.erase x := fun y hy => (List.mem_erase_of_ne (h1 y hy).symm).2 (hs y (by simp [hy]))
    have h4 := ih (L.erase x) h2 h3
    rw [List.length_erase_of_mem hx] at h4
    have : 0 < L.length := List.length_pos_of_mem hx
    simp only [List.length_cons]
    omega
theorem memo_len {es : List (Lit × DataW Unit)} (h : MemoE es) (ht : Tidy (.map es)) : es.length ≤ 3969 := by
  obtain ⟨es', e, hp⟩ := ht
  injection e with e
  subst e
  have hp' : (es.map (·.1)).Pairwise (· ≠ ·) := List.pairwise_map.2 hp
  have h1 := nodup_le (es.map (·.1)) ((List.range 63).flatMap fun a => (List.range 63).map fun o => kOf a o) hp' (by
    intro x hx
    obtain ⟨p, hp, rfl⟩ := List.mem_map.1 hx
    obtain ⟨a, o, ha, ho, rfl⟩ := h p hp
    exact List.mem_flatMap.2 ⟨a, List.mem_range.2 (by omega), List.mem_map.2 ⟨o, List.mem_range.2 (by omega), rfl⟩⟩)
  have h2 : ((List.range 63).flatMap fun a => (List.range 63).map fun o => kOf a o).length = 3969 := by
    rw [List.length_flatMap]
    simp only [List.length_map, List.length_range]
    decide +kernel
  rw [h2] at h1
  simpa using h1
theorem own_tight {H : Type} {w : World} {P : Program} {k : TypeId} {R : Value → Option (DataW H × List MemPlace)} {b n : Nat} {es : List (Lit × DataW H)} (h : w.ownsMap P k R b n (.map es)) : w.ownsMap P k R b es.length (.map es) := by
  obtain ⟨es0, clock, h1, F, h2, h3⟩ := h
  refine ⟨es0, clock, h1, F, ?_, h3⟩
  injection h3 with h3
  rw [h3, length_sorted]
  simp
theorem memo_first (w : World) : MemoOk (w.alloc (.map #[] 0)) w.heap.size := ⟨[], World.ownsMap_made _ _ _ _, fun p hp => by simp at hp, by simp⟩
theorem MemoOk.kept {w w' : World} {B : Nat} (h : MemoOk w B) {row : Option Nat} (hg : w.grownBy w' row) (hne : some B ≠ row) : MemoOk w' B := by
  obtain ⟨es, h1, h2, h3⟩ := h
  exact ⟨es, h1.kept hg hne, h2, h3⟩
/-- What a look-up finds. -/
theorem memo_get {es : List (Lit × DataW Unit)} (h : MemoE es) {a o : Nat} (ha : a ≤ 62) (ho : o ≤ 62) (hh : Maps.has (.map es) (kOf a o) = true) {c : Int} (hc : (DataW.map es).atKey (kOf a o) (.lit (.int .i64 0)) = .lit (.int .i64 c)) : c = cnt a o := by
  have hh' : es.any (fun p => p.1.sameKey (kOf a o)) = true := hh
  cases hf : es.find? (fun p => p.1.sameKey (kOf a o)) with
  | none =>
    rw [List.find?_eq_none] at hf
    obtain ⟨p, hp, hq⟩ := List.any_eq_true.1 hh'
    exact absurd hq (hf p hp)
  | some p =>
    simp only [DataW.atKey, hf] at hc
    have hp := List.mem_of_find?_eq_some hf
    have hs := List.find?_some hf
    obtain ⟨a', o', ha', ho', rfl⟩ := h p hp
    have e := WideAt.sameKey_eq hs
    obtain ⟨rfl, rfl⟩ := kOf_inj (by omega) (by omega) (by omega) (by omega) e
    simp at hc
    omega
theorem memo_put {es : List (Lit × DataW Unit)} (h : MemoE es) {a o : Nat} (ha : a ≤ 62) (ho : o ≤ 62) : MemoE (DataW.insert (kOf a o, .lit (.int .i64 (cnt a o))) (es.filter fun p => !p.1.sameKey (kOf a o))) := by
  intro p hp
  rcases ChangeMaps.mem_insert_iff.1 hp with rfl | hp
  · exact ⟨a, o, ha, ho, rfl⟩
  · exact h p (List.mem_filter.1 hp).1
theorem MemoOk.put {w : World} {B n a o : Nat} {es : List (Lit × DataW Unit)} (h : w.ownsMap Try.prog 120 (plainElem Try.prog 2) B n ((DataW.map es).put (kOf a o) (.lit (.int .i64 (cnt a o))))) (hm : MemoE es) (ha : a ≤ 62) (ho : o ≤ 62) : MemoOk w B := by
  have hE := memo_put hm ha ho
  have h' : w.ownsMap Try.prog 120 (plainElem Try.prog 2) B n (.map (DataW.insert (kOf a o, .lit (.int .i64 (cnt a o))) (es.filter fun p => !p.1.sameKey (kOf a o)))) := h
  exact ⟨_, own_tight h', hE, memo_len hE (h'.tidy lawEnd)⟩
end Go.Proofs.Ytilbgbibddjdcaa
