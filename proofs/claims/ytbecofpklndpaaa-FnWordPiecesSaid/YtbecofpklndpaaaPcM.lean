/- Prefix codes in plain Lean. -/
import Derived.Test.YtbecofpklndpaaaWrM
namespace Go.Proofs.Ytbecofpklndpaaa
def bgn (w p : List Int) : Bool := decide (p.length ≤ w.length) && decide (w.take p.length = p)
theorem bgn_true {w p : List Int} : bgn w p = true ↔ ∃ r, w = p ++ r := by
  unfold bgn
  simp only [Bool.and_eq_true, decide_eq_true_eq]
  constructor
  · rintro ⟨_, h⟩
    exact ⟨w.drop p.length, by conv => lhs; rw [← List.take_append_drop p.length w, h]⟩
  · rintro ⟨r, rfl⟩
    exact ⟨by simp, by simp⟩
/-- No word is empty, and none begins another one. -/
def pcB (xss : List (List Int)) : Bool := (List.range xss.length).all fun i => !(xss.getD i []).isEmpty && (List.range xss.length).all fun k => i == k || !bgn (xss.getD k []) (xss.getD i [])
theorem pcB_at {xss : List (List Int)} (h : pcB xss = true) {i k : Nat} {a b : List Int} (ha : xss[i]? = some a) (hb : xss[k]? = some b) : a ≠ [] ∧ (i ≠ k → bgn b a = false) := by
  have hi := (List.getElem?_eq_some_iff.1 ha).1
  have hk := (List.getElem?_eq_some_iff.1 hb).1
  simp only [pcB, List.all_eq_true, List.mem_range, Bool.and_eq_true] at h
  obtain ⟨h1, h2⟩ := h i hi
  have h3 := h2 k hk
  have ea : xss.getD i [] = a := by simp [ha]
  have eb : xss.getD k [] = b := by simp [hb]
  rw [ea] at h1 h3
  rw [eb] at h3
  refine ⟨by rintro rfl; simp at h1, fun hne => ?_⟩
  simpa [hne] using h3
def encW (xss : List (List Int)) (ns : List Nat) : List Int := ns.flatMap fun n => xss.getD n []
theorem enc_snoc (xss : List (List Int)) (ns : List Nat) (n : Nat) : encW xss (ns ++ [n]) = encW xss ns ++ xss.getD n [] := by simp [encW]
/-- The first word that begins the code is the one that was written. -/
theorem pc_first {xss : List (List Int)} (h : pcB xss = true) {n i : Nat} {a b r : List Int} (ha : xss[n]? = some a) (hb : xss[i]? = some b) (hne : i ≠ n) : bgn (a ++ r) b = false := by
  rw [Bool.eq_false_iff]
  intro hb'
  obtain ⟨s, hs⟩ := bgn_true.1 hb'
  rcases List.append_eq_append_iff.1 hs with ⟨u, h1, h2⟩ | ⟨u, h1, h2⟩
  · -- b = a ++ u
    have := (pcB_at h ha hb).2 hne.symm
    rw [h1, bgn_true.2 ⟨u, rfl⟩] at this
    cases this
  · have := (pcB_at h hb ha).2 hne
    rw [h1, bgn_true.2 ⟨u, rfl⟩] at this
    cases this
theorem enc_len {xss : List (List Int)} {m : Nat} (h : ∀ a ∈ xss, a.length ≤ m) : ∀ ns : List Nat, (encW xss ns).length ≤ ns.length * m
  | [] => by simp [encW]
  | n :: r => by
    have ih := enc_len h r
    have : (xss.getD n []).length ≤ m := by
      by_cases hn : n < xss.length
      · have := h xss[n] (List.getElem_mem hn)
        simpa [hn] using this
      · simp [hn]
    simp only [encW, List.flatMap_cons, List.length_append, List.length_cons] at ih ⊢
    rw [Nat.add_mul]
    omega
/-- What is asked of a list of code words. -/
structure Code (xss : List (List Int)) : Prop where
  pc : pcB xss = true
  pos : 1 ≤ xss.length
  few : xss.length ≤ 4
  short : ∀ a ∈ xss, a.length ≤ 5
  letters : ∀ a ∈ xss, allIn a 0 9 = true
theorem enc_cons (xss : List (List Int)) (n : Nat) (ns : List Nat) : encW xss (n :: ns) = xss.getD n [] ++ encW xss ns := rfl
theorem enc_nil (xss : List (List Int)) : encW xss [] = [] := rfl
theorem Code.enc_letters {xss : List (List Int)} (h : Code xss) : ∀ ns : List Nat, allIn (encW xss ns) 0 9 = true
  | [] => by simp [encW, allIn]
  | n :: r => by
    rw [enc_cons]
    have ih := h.enc_letters r
    simp only [allIn, List.all_append, Bool.and_eq_true] at ih ⊢
    refine ⟨?_, ih⟩
    by_cases hn : n < xss.length
    · have := h.letters xss[n] (List.getElem_mem hn)
      simpa [hn, allIn] using this
    · simp [hn]
def nats (ns : List Nat) : List Int := ns.map Int.ofNat
end Go.Proofs.Ytbecofpklndpaaa
