/- The contracts of the laws' own helpers on slices of int64: a copy, a comparison, marking and looking at the marks. -/
import Derived.Test.YtfjlbfnjnkaooaaRows
import Derived.Test.YtfjlbfnjnkaooaaMem
import Derived.Deep.QuietTactic
import Derived.BigQuiet
import Derived.OpenShut
namespace Go.Proofs.Ytfjlbfnjnkaooaa
open Go.RowKit
theorem Try.infoI : (Try.prog.info? 2).map (fun i => (i.zero, i.size, i.bytes)) = some (some (.int .i64 0), 1, 8) := by kernel_rfl

def zs (n : Nat) : List Int := List.replicate n 0
theorem ints_zs (n : Nat) : (madeCells (Value.int .i64 0).cells (n * 1)).toList = ints (zs n) := by
  simp [zs, ints, Value.cells, toList_madeCells_one]
theorem zs_succ (n : Nat) : zs (n + 1) = 0 :: zs n := rfl
theorem fill_step (xs : List Int) (n k : Nat) (h : xs.length = n) (hk : k < n) (u : Int) (hu : xs[k]? = some u) :
    (ints (xs.take k ++ zs (n - k))).set k (.int .i64 u) = ints (xs.take (k + 1) ++ zs (n - (k + 1))) := by
  have hl : min k xs.length = k := by omega
  obtain ⟨m, hm⟩ : ∃ m, n - k = m + 1 := ⟨n - k - 1, by omega⟩
  rw [hm, show n - (k + 1) = m by omega, zs_succ, List.take_add_one, hu]
  simp [hl]
theorem fill_get (xs : List Int) (n k : Nat) (h : xs.length = n) (hk : k < n) : (ints (xs.take k ++ zs (n - k)))[k]? = some (.int .i64 0) := by
  have hl : min k xs.length = k := by omega
  obtain ⟨m, hm⟩ : ∃ m, n - k = m + 1 := ⟨n - k - 1, by omega⟩
  rw [hm, zs_succ]
  simp [hl]

/-- k, k + 1, .., n numbers. -/
def up : Int → Nat → List Int
  | _, 0 => []
  | k, n + 1 => k :: up (k + 1) n
theorem up_length (k : Int) (n : Nat) : (up k n).length = n := by
  induction n generalizing k with
  | zero => rfl
  | succ n ih => simp [up, ih]
theorem up_get (k : Int) (n i : Nat) (h : i < n) : (up k n)[i]? = some (k + i) := by
  induction n generalizing k i with
  | zero => omega
  | succ n ih =>
    cases i with
    | zero => simp [up]
    | succ i => simp only [up, List.getElem?_cons_succ]; rw [ih _ _ (by omega)]; congr 1; omega
theorem mark_step (k : Int) (xs : List Int) (n i : Nat) (h : xs.length = n) (hi : i < n) :
    (ints (up k i ++ xs.drop i)).set i (.int .i64 (k + i)) = ints (up k (i + 1) ++ xs.drop (i + 1)) := by
  apply List.ext_getElem?
  intro j
  rw [List.getElem?_set]
  simp only [ints, List.getElem?_map, List.getElem?_append, up_length, List.length_map, List.length_append, List.length_drop]
  by_cases h1 : i = j
  · subst h1
    rw [if_pos rfl, if_pos (by omega), if_pos (by omega), up_get _ _ _ (by omega)]; rfl
  · rw [if_neg h1]
    by_cases h2 : j < i
    · rw [if_pos h2, if_pos (by omega), up_get _ _ _ h2, up_get _ _ _ (by omega)]
    · rw [if_neg h2, if_neg (by omega), List.getElem?_drop, List.getElem?_drop]; congr 2; omega
theorem mark_get (k : Int) (xs : List Int) (n i : Nat) (h : xs.length = n) (hi : i < n) : ∃ u, (ints (up k i ++ xs.drop i))[i]? = some (.int .i64 u) := by
  refine ⟨xs[i]'(by omega), ?_⟩
  simp only [ints, List.getElem?_map, List.getElem?_append, up_length]
  rw [if_neg (by omega), List.getElem?_drop]; simp

/-- A slice of integers that came in reads as its elements. -/
theorem rd_of_row {w : World} {a : Option Addr} {len cap : Nat} {zs : List Int}
    (h : (a = none ∧ len = 0 ∧ cap = 0 ∧ zs = []) ∨ ∃ x, a = some x ∧ len ≤ cap ∧ cap ≤ maxLen ∧ zs.length = cap ∧ (∀ i, i < zs.length → w.cell? (x.add i) = some (.int .i64 (zs.getD i 0))) ∧ ∀ n ∈ zs, (Lit.int .i64 n).wf = true) :
    Rd w a len (ints (zs.take len)) := by
  rcases h with ⟨rfl, rfl, rfl, rfl⟩ | ⟨x, rfl, hlc, _, hz, hc, _⟩
  · exact Rd.nil _ _
  · refine ⟨by simp; omega, fun hn => ?_⟩
    obtain ⟨b, off, rfl, hc'⟩ := ints_at hc (by omega)
    refine ⟨b, off, rfl, ?_, fun j u hj => ?_⟩
    · have := hc' 0 (by omega)
      exact World.block_lt_of_cell? w _ this
    · simp only [ints, List.getElem?_map, List.getElem?_take] at hj
      split at hj
      · rename_i hjl
        have := hc' j (by omega)
        rw [this]
        have hjz : j < zs.length := by omega
        simp [hjz] at hj ⊢
        exact hj
      · cases hj

theorem mark_keep {w w' : World} {lo e n : Nat} {v v2 : Value} {vs : List Value} (h : w.ownsRow lo e 1 v n vs) (hg : w.grownBy w' v2.ownBlock) (hne : ∀ k, v.ownBlock = some k → v2.ownBlock = some k → False) : w'.ownsRow lo e 1 v n vs := by
  refine h.kept hg ?_
  cases hv : v.ownBlock with
  | none => exact .inl rfl
  | some k => exact .inr fun he => hne k hv he.symm
end Go.Proofs.Ytfjlbfnjnkaooaa
