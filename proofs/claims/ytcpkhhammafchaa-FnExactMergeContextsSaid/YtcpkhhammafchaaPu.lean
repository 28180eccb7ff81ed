/- Words put to their places among rising ones: sorted sets, in plain Lean. -/
import Derived.Test.YtcpkhhammafchaaGD
namespace Go.Proofs.Ytcpkhhammafchaa
open Go.RowKit
set_option linter.unusedVariables false
set_option linter.unusedSimpArgs false
theorem cmpL_zero : ∀ {xs ys : List Int}, cmpL xs ys = 0 ↔ xs = ys
  | [], [] => by simp [cmpL]
  | [], _ :: _ => by simp [cmpL]
  | _ :: _, [] => by simp [cmpL]
  | x :: r, y :: s => by
    simp only [cmpL]
    split
    · constructor
      · intro h; simp at h
      · intro h; injection h; omega
    · split
      · constructor
        · intro h; simp at h
        · intro h; injection h; omega
      · rw [cmpL_zero (xs := r) (ys := s)]
        constructor
        · intro h; rw [h, show x = y by omega]
        · intro h; injection h
theorem cmpL_swap : ∀ (xs ys : List Int), cmpL ys xs = - cmpL xs ys
  | [], [] => by simp [cmpL]
  | [], _ :: _ => by simp [cmpL]
  | _ :: _, [] => by simp [cmpL]
  | x :: r, y :: s => by
    simp only [cmpL]
    rw [cmpL_swap r s]
    split <;> split <;> (try split) <;> (try omega) <;> simp
theorem cmpL_tri : ∀ {xs ys zs : List Int}, cmpL xs ys < 0 → cmpL ys zs < 0 → cmpL xs zs < 0
  | [], [], _, h, _ => by simp [cmpL] at h
  | [], _ :: _, [], _, h => by simp [cmpL] at h
  | [], _ :: _, _ :: _, _, _ => by simp [cmpL]
  | _ :: _, [], _, h, _ => by simp [cmpL] at h
  | _ :: _, _ :: _, [], _, h => by simp [cmpL] at h
  | x :: r, y :: s, z :: t, h1, h2 => by
    simp only [cmpL] at h1 h2 ⊢
    have ih := cmpL_tri (xs := r) (ys := s) (zs := t)
    split at h1
    · split at h2
      · rw [if_pos (by omega)]; omega
      · split at h2
        · omega
        · rw [if_pos (by omega)]; omega
    · split at h1
      · omega
      · split at h2
        · rw [if_pos (by omega)]; omega
        · split at h2
          · omega
          · rw [if_neg (by omega), if_neg (by omega)]; exact ih h1 h2
theorem cmpL_self0 (xs : List Int) : cmpL xs xs = 0 := cmpL_zero.2 rfl
/-- Words in strictly rising order. -/
def Rises : List (List Int) → Prop := List.Pairwise (fun a b => cmpL a b < 0)
/-- A word put to its place among rising ones, once. -/
def putL : List (List Int) → List Int → List (List Int)
  | [], x => [x]
  | y :: r, x => if cmpL x y < 0 then x :: y :: r else if cmpL x y = 0 then y :: r else y :: putL r x
theorem putL_mem : ∀ {l : List (List Int)} {x z : List Int}, z ∈ putL l x ↔ z ∈ l ∨ z = x
  | [], x, z => by simp [putL]
  | y :: r, x, z => by
    simp only [putL]
    split
    · simp only [List.mem_cons]
      constructor
      · rintro (h | h | h)
        · exact .inr h
        · exact .inl (.inl h)
        · exact .inl (.inr h)
      · rintro ((h | h) | h)
        · exact .inr (.inl h)
        · exact .inr (.inr h)
        · exact .inl h
    · split
      · rename_i h
        rw [cmpL_zero] at h
        subst h
        simp only [List.mem_cons]
        constructor
        · exact .inl
        · rintro (h | h)
          · exact h
          · exact .inl h
      · rw [List.mem_cons, List.mem_cons, putL_mem (l := r), or_assoc]
theorem putL_rises : ∀ {l : List (List Int)} {x : List Int}, Rises l → Rises (putL l x)
  | [], x, _ => by simp [putL, Rises]
  | y :: r, x, h => by
    obtain ⟨h1, h2⟩ := List.pairwise_cons.1 h
    simp only [putL]
    split
    · rename_i h3
      refine List.pairwise_cons.2 ⟨fun z hz => ?_, h⟩
      rcases List.mem_cons.1 hz with rfl | hz
      · exact h3
      · exact cmpL_tri h3 (h1 z hz)
    · split
      · exact h
      · rename_i h3 h4
        refine List.pairwise_cons.2 ⟨fun z hz => ?_, putL_rises h2⟩
        rcases putL_mem.1 hz with hz | rfl
        · exact h1 z hz
        · have := cmpL_swap z y; omega
/-- Rising words with the same members are the same. -/
theorem rises_ext : ∀ {l m : List (List Int)}, Rises l → Rises m → (∀ z, z ∈ l ↔ z ∈ m) → l = m
  | [], [], _, _, _ => rfl
  | [], y :: r, _, _, h => by have := (h y).2 (by simp); simp at this
  | y :: r, [], _, _, h => by have := (h y).1 (by simp); simp at this
  | x :: l, y :: m, hl, hm, h => by
    obtain ⟨h1, h2⟩ := List.pairwise_cons.1 hl
    obtain ⟨h3, h4⟩ := List.pairwise_cons.1 hm
    have hxy : x = y := by
      rcases List.mem_cons.1 ((h x).1 (by simp)) with e | hx
      · exact e
      · rcases List.mem_cons.1 ((h y).2 (by simp)) with e | hy
        · exact e.symm
        · have a := h1 y hy
          have b := h3 x hx
          have := cmpL_swap x y
          omega
    subst hxy
    have hn1 : x ∉ l := fun hx => by have := h1 x hx; rw [cmpL_self0] at this; omega
    have hn2 : x ∉ m := fun hx => by have := h3 x hx; rw [cmpL_self0] at this; omega
    rw [rises_ext h2 h4 (fun z => ?_)]
    have hz := h z
    simp only [List.mem_cons] at hz
    constructor
    · intro hm'
      rcases hz.1 (.inr hm') with e | e
      · subst e; exact absurd hm' hn1
      · exact e
    · intro hm'
      rcases hz.2 (.inr hm') with e | e
      · subst e; exact absurd hm' hn2
      · exact e
/-- The members, each once, in rising order. -/
def sortU (l : List (List Int)) : List (List Int) := l.foldl putL []
theorem foldl_putL : ∀ {l acc : List (List Int)}, Rises acc → Rises (l.foldl putL acc) ∧ ∀ z, z ∈ l.foldl putL acc ↔ z ∈ acc ∨ z ∈ l
  | [], acc, h => ⟨h, by simp⟩
  | x :: l, acc, h => by
    obtain ⟨h1, h2⟩ := foldl_putL (l := l) (putL_rises (x := x) h)
    refine ⟨h1, fun z => ?_⟩
    rw [List.foldl_cons, h2, putL_mem, List.mem_cons, or_assoc]
theorem sortU_rises (l : List (List Int)) : Rises (sortU l) := (foldl_putL List.Pairwise.nil).1
theorem sortU_mem {l : List (List Int)} {z : List Int} : z ∈ sortU l ↔ z ∈ l := by
  rw [sortU, (foldl_putL List.Pairwise.nil).2]; simp
theorem sortU_of {l m : List (List Int)} (h : Rises m) (hm : ∀ z, z ∈ m ↔ z ∈ l) : sortU l = m :=
  rises_ext (sortU_rises l) h (fun z => by rw [sortU_mem, hm])
theorem sortU_snoc (l : List (List Int)) (x : List Int) : sortU (l ++ [x]) = putL (sortU l) x := by
  rw [sortU, List.foldl_append]; rfl
theorem sortU_ext {l m : List (List Int)} (h : ∀ z, z ∈ l ↔ z ∈ m) : sortU l = sortU m :=
  sortU_of (sortU_rises m) (fun z => by rw [sortU_mem, h])
theorem nodup_rises {l : List (List Int)} (h : Rises l) : l.Nodup := h.imp (fun {a b} hab e => by subst e; rw [cmpL_self0] at hab; omega)
end Go.Proofs.Ytcpkhhammafchaa
