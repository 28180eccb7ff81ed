/- The universal program: strings.Replacer's tables: makeGenericReplacer at the three keys: the bytes' numbers. -/
import Derived.Test.YtadmbphefpfbmaaGreatDoorUvU
import Derived.Test.YtadmbphefpfbmaaGreatDoorPqK
import Derived.Deep.MidRow
namespace Go.Proofs.YtadmbphefpfbmaaGreatDoor
open Go.RowKit
set_option linter.unusedVariables false
set_option linter.unusedSimpArgs false
attribute [local go_sem ↓] Go.wp_at_zero Go.wp_at_succ
/-- The cells of a generic replacer: the root, the size of the tables, the bytes' numbers. -/
def grC (tb : Value) (sz : Int) (ms : List Value) : Array Value := #[.string noB, .int .i64 0, .string noB, noP, tb, .int .i64 sz] ++ ms.toArray
theorem grC_map {tb : Value} {sz : Int} {ms : List Value} {b : Nat} {v : Value} (h : ms[b]? = some v) : (grC tb sz ms)[6 + b]? = some v := by
  unfold grC
  rw [Array.getElem?_append_right (by simp)]
  simpa using h
theorem grC_set {tb : Value} {sz : Int} {ms : List Value} {b : Nat} {u : Value} : (grC tb sz ms).setIfInBounds (6 + b) u = grC tb sz (ms.set b u) := by
  unfold grC
  rw [Array.setIfInBounds_append_right (by simp)]
  simp
theorem grC_sz {tb : Value} {sz s2 : Int} {ms : List Value} : (grC tb sz ms).setIfInBounds 5 (.int .i64 s2) = grC tb s2 ms := by
  unfold grC
  rw [Array.setIfInBounds_append_left (by simp)]
  rfl
theorem grC_tb {tb t2 : Value} {sz : Int} {ms : List Value} : (grC tb sz ms).setIfInBounds 4 t2 = grC t2 sz ms := by
  unfold grC
  rw [Array.setIfInBounds_append_left (by simp)]
  rfl
theorem grC_lo {tb : Value} {sz : Int} {ms : List Value} {i : Nat} {v : Value} (h : (#[.string noB, .int .i64 0, .string noB, noP, tb, .int .i64 sz] : Array Value)[i]? = some v) : (grC tb sz ms)[i]? = some v := by
  unfold grC
  rw [Array.getElem?_append_left (Array.getElem?_eq_some_iff.1 h).1]
  exact h
/-- Which bytes occur. -/
def bit (s : List Nat) (b : Nat) : Nat := if b ∈ s then 1 else 0
def mkL (s : List Nat) : List Value := (List.range 256).map (fun b => Value.int .u8 (bit s b : Int))
theorem mkL_len (s : List Nat) : (mkL s).length = 256 := by simp [mkL]
theorem mkL_at (s : List Nat) {b : Nat} (h : b < 256) : (mkL s)[b]? = some (.int .u8 (bit s b : Int)) := by
  simp [mkL, List.getElem?_range h]
theorem mkL_step (s : List Nat) (x : Nat) : (mkL s).set x (.int .u8 1) = mkL (s ++ [x]) := by
  apply List.ext_getElem?
  intro i
  rw [List.getElem?_set]
  by_cases hi : i < 256
  · rw [mkL_at _ hi, mkL_at _ hi, mkL_len]
    by_cases e : x = i
    · subst e; simp [bit, hi]
    · have e2 : ¬ i = x := fun h => e h.symm
      simp [bit, e, e2]
  · have h1 : ∀ t, (mkL t)[i]? = none := fun t => List.getElem?_eq_none (by rw [mkL_len]; omega)
    rw [h1, h1, mkL_len]
    simp; omega
theorem bit_le (s : List Nat) (b : Nat) : bit s b ≤ 1 := by unfold bit; split <;> omega
def keyB : Nat → ByteArray
  | 0 => ⟨#[84, 56]⟩
  | 1 => ⟨#[84, 49, 48]⟩
  | _ => ⟨#[84, 49, 49]⟩
def usV (v8 v10 v11 : ByteArray) : List Value := [.string (keyB 0), .string v8, .string (keyB 1), .string v10, .string (keyB 2), .string v11]
def sB : Nat → List Nat
  | 0 => []
  | j + 1 => sB j ++ nm (keyB j)
theorem usV_key {v8 v10 v11 : ByteArray} {j : Nat} (h : j < 3) : (usV v8 v10 v11)[2 * j]? = some (.string (keyB j)) := by
  match j, h with
  | 0, _ => rfl
  | 1, _ => rfl
  | 2, _ => rfl
theorem keyB_size (j : Nat) : (keyB j).size ≤ 3 := by
  match j with
  | 0 => decide
  | 1 => decide
  | n + 2 => simp [keyB, ByteArray.size]
theorem nm_take {s : ByteArray} {i x : Nat} (h : (nm s)[i]? = some x) : (nm s).take (i + 1) = (nm s).take i ++ [x] := by
  rw [List.take_add_one, h]; rfl
theorem nm_at {s : ByteArray} {i : Nat} (h : i < s.size) : ∃ x, (nm s)[i]? = some x ∧ s[i].toNat = x ∧ x < 256 := by
  refine ⟨s[i].toNat, ?_, rfl, UInt8.toNat_lt _⟩
  simp only [nm, List.getElem?_map]
  have : s.data.toList[i]? = some s[i] := by
    rw [Array.getElem?_toList]
    exact Array.getElem?_eq_getElem h
  rw [this]; rfl
def kcn : Nat → Nat
  | 0 => 0
  | i + 1 => kcn i + bit (sB 3) i
theorem kcn_le : ∀ i, kcn i ≤ i
  | 0 => Nat.le_refl _
  | i + 1 => by have := kcn_le i; have := bit_le (sB 3) i; simp only [kcn]; omega
theorem kcn_mono (i : Nat) : ∀ k, kcn i ≤ kcn (i + k)
  | 0 => Nat.le_refl _
  | k + 1 => by have := kcn_mono i k; rw [← Nat.add_assoc]; simp only [kcn]; omega
theorem kcn_end : kcn 256 = 4 := by kernel_rfl
theorem kcn_small {i : Nat} (h : i ≤ 256) : kcn i ≤ 4 := by
  have h1 := kcn_mono i (256 - i)
  rw [show i + (256 - i) = 256 by omega, kcn_end] at h1
  exact h1
def finV (b : Nat) : Int := if bit (sB 3) b = 0 then 4 else (kcn b : Int)
def finL (i : Nat) : List Value := (List.range 256).map (fun b => Value.int .u8 (if b < i then finV b else (bit (sB 3) b : Int)))
theorem finL_0 : finL 0 = mkL (sB 3) := by simp [finL, mkL]
theorem finL_len (i : Nat) : (finL i).length = 256 := by simp [finL]
theorem finL_step (i : Nat) : (finL i).set i (.int .u8 (finV i)) = finL (i + 1) := by
  apply List.ext_getElem?
  intro k
  rw [List.getElem?_set]
  by_cases hk : k < 256
  · have h1 : ∀ t, (finL t)[k]? = some (.int .u8 (if k < t then finV k else (bit (sB 3) k : Int))) := fun t => by simp [finL, List.getElem?_range hk]
    rw [h1, h1, finL_len]
    by_cases e : i = k
    · subst e; simp [hk]
    · by_cases h2 : k < i
      · simp [e, h2]; omega
      · have h3 : ¬ k < i + 1 := by omega
        simp [e, h2, h3]
  · have h1 : ∀ t, (finL t)[k]? = none := fun t => List.getElem?_eq_none (by rw [finL_len]; omega)
    rw [h1, h1, finL_len]
    simp; omega
/-- The numbers of the bytes. -/
def mp (b : Nat) : Int := if b = 48 then 0 else if b = 49 then 1 else if b = 56 then 2 else if b = 84 then 3 else 4
def mpL : List Value := (List.range 256).map (fun b => Value.int .u8 (mp b))
theorem finL_end : finL 256 = mpL := by kernel_rfl
theorem zero_gr : Tryz.zeroCells239 = grC noS 0 (mkL []) := by kernel_rfl
end Go.Proofs.YtadmbphefpfbmaaGreatDoor
