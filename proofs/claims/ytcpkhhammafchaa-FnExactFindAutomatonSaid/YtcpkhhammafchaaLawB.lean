/- The contracts of the laws' own helpers on slices of bool: a copy, a comparison, marking and looking at the marks. -/
import Derived.Test.YtcpkhhammafchaaRows
import Derived.Test.YtcpkhhammafchaaGA
import Derived.Deep.QuietTactic
import Derived.BigQuiet
namespace Go.Proofs.Ytcpkhhammafchaa
open Go.RowKit
theorem Try.infoB : (Try.prog.info? 4).map (fun i => (i.zero, i.size, i.bytes)) = some (some (.bool false), 1, 1) := by kernel_rfl
theorem eltB : Elt Try.prog 196 4 (.bool false) := Elt.mk_ Try.underlying196 Try.infoB rfl (by omega)
abbrev bools (bs : List Bool) : List Value := bs.map Value.bool
theorem bools_one (bs : List Bool) : ∀ u ∈ bools bs, u.oneCell' = true := by
  intro u hu; obtain ⟨b, _, rfl⟩ := List.mem_map.1 hu; rfl

def fs (n : Nat) : List Bool := List.replicate n false
theorem fs_succ (n : Nat) : fs (n + 1) = false :: fs n := rfl
theorem fillB_step (xs : List Bool) (n k : Nat) (h : xs.length = n) (hk : k < n) (u : Bool) (hu : xs[k]? = some u) :
    (bools (xs.take k ++ fs (n - k))).set k (.bool u) = bools (xs.take (k + 1) ++ fs (n - (k + 1))) := by
  have hl : min k xs.length = k := by omega
  obtain ⟨m, hm⟩ : ∃ m, n - k = m + 1 := ⟨n - k - 1, by omega⟩
  rw [hm, show n - (k + 1) = m by omega, fs_succ, List.take_add_one, hu]
  simp [hl]
theorem fillB_get (xs : List Bool) (n k : Nat) (h : xs.length = n) (hk : k < n) : (bools (xs.take k ++ fs (n - k)))[k]? = some (.bool false) := by
  have hl : min k xs.length = k := by omega
  obtain ⟨m, hm⟩ : ∃ m, n - k = m + 1 := ⟨n - k - 1, by omega⟩
  rw [hm, fs_succ]
  simp [hl]

/-- Whether k, k + 1, .. is a multiple of three, n times. -/
def third (k : Int) : Bool := (k % 3 == 0)
def upB : Int → Nat → List Bool
  | _, 0 => []
  | k, n + 1 => third k :: upB (k + 1) n
theorem upB_length (k : Int) (n : Nat) : (upB k n).length = n := by
  induction n generalizing k with
  | zero => rfl
  | succ n ih => simp [upB, ih]
theorem upB_get (k : Int) (n i : Nat) (h : i < n) : (upB k n)[i]? = some (third (k + i)) := by
  induction n generalizing k i with
  | zero => omega
  | succ n ih =>
    cases i with
    | zero => simp [upB]
    | succ i => simp only [upB, List.getElem?_cons_succ]; rw [ih _ _ (by omega)]; congr 2; omega
theorem markB_step (k : Int) (xs : List Bool) (n i : Nat) (h : xs.length = n) (hi : i < n) :
    (bools (upB k i ++ xs.drop i)).set i (.bool (third (k + i))) = bools (upB k (i + 1) ++ xs.drop (i + 1)) := by
  apply List.ext_getElem?
  intro j
  rw [List.getElem?_set]
  simp only [bools, List.getElem?_map, List.getElem?_append, upB_length, List.length_map, List.length_append, List.length_drop]
  by_cases h1 : i = j
  · subst h1
    rw [if_pos rfl, if_pos (by omega), if_pos (by omega), upB_get _ _ _ (by omega)]; rfl
  · rw [if_neg h1]
    by_cases h2 : j < i
    · rw [if_pos h2, if_pos (by omega), upB_get _ _ _ h2, upB_get _ _ _ (by omega)]
    · rw [if_neg h2, if_neg (by omega), List.getElem?_drop, List.getElem?_drop]; congr 2; omega
theorem markB_get (k : Int) (xs : List Bool) (n i : Nat) (h : xs.length = n) (hi : i < n) : ∃ u, (bools (upB k i ++ xs.drop i))[i]? = some (.bool u) := by
  refine ⟨xs[i]'(by omega), ?_⟩
  simp only [bools, List.getElem?_map, List.getElem?_append, upB_length]
  rw [if_neg (by omega), List.getElem?_drop]; simp

end Go.Proofs.Ytcpkhhammafchaa
