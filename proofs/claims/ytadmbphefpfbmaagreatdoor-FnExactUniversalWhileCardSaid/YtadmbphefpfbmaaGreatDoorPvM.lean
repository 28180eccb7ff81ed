/- A program with one variable, in plain Lean. -/
import Derived.Test.YtadmbphefpfbmaaGreatDoorPqA
import Derived.Test.YtadmbphefpfbmaaGreatDoorGI
namespace Go.Proofs.YtadmbphefpfbmaaGreatDoor
open Go.RowKit
set_option linter.unusedVariables false
set_option linter.unusedSimpArgs false
/-- All variables that occur. -/
def varsE (es : List El) : List Int := es.flatMap (fun e => if e.1 = 1 then [e.2] else [])
def varsC (x : Cmd) : List Int := (if x.k = 0 then [x.v] else []) ++ varsE x.e
def varsL (cs : List Cmd) : List Int := cs.flatMap varsC
/-- One more than the greatest, at least m. -/
def topV (m : Int) (vs : List Int) : Int := vs.foldl (fun n v => max n (v + 1)) m
theorem topV_cons (m v : Int) (vs : List Int) : topV m (v :: vs) = topV (max m (v + 1)) vs := rfl
theorem topV_nil (m : Int) : topV m [] = m := rfl
theorem topV_app (m : Int) (a b : List Int) : topV m (a ++ b) = topV (topV m a) b := by simp [topV, List.foldl_append]
theorem topV_le : ∀ (m : Int) (vs : List Int) (b : Int), m ≤ b → (∀ v ∈ vs, v + 1 ≤ b) → topV m vs ≤ b
  | m, [], b, h, _ => h
  | m, v :: vs, b, h, h2 => by
    rw [topV_cons]
    exact topV_le _ vs b (by have := h2 v (by simp); omega) (fun u hu => h2 u (by simp [hu]))
theorem topV_ge : ∀ (m : Int) (vs : List Int), m ≤ topV m vs ∧ ∀ v ∈ vs, v + 1 ≤ topV m vs
  | m, [] => ⟨Int.le_refl _, by simp⟩
  | m, v :: vs => by
    rw [topV_cons]
    obtain ⟨h1, h2⟩ := topV_ge (max m (v + 1)) vs
    refine ⟨by omega, fun u hu => ?_⟩
    rcases List.mem_cons.1 hu with rfl | hu
    · omega
    · exact h2 u hu
theorem topV_same {m : Int} {a b : List Int} (h : ∀ v, v ∈ a ↔ v ∈ b) : topV m a = topV m b := by
  obtain ⟨h1, h2⟩ := topV_ge m a
  obtain ⟨h3, h4⟩ := topV_ge m b
  have h5 := topV_le m a _ h3 (fun v hv => h4 v ((h v).1 hv))
  have h6 := topV_le m b _ h1 (fun v hv => h2 v ((h v).2 hv))
  omega
theorem topV_one {m : Int} {vs : List Int} (h0 : m ≤ 1) (h : 1 ≤ topV m vs) : topV 1 vs = topV m vs := by
  obtain ⟨h1, h2⟩ := topV_ge m vs
  obtain ⟨h3, h4⟩ := topV_ge 1 vs
  have h5 := topV_le 1 vs _ h h2
  have h6 := topV_le m vs _ (by omega : m ≤ topV 1 vs) h4
  omega
def placeE (k n : Nat) : List El := (if k + 1 < n then [(3, 0)] else []) ++ (List.replicate k (4, 0) ++ [(1, 0)])
def packE : List (List El) → List El
  | [] => []
  | [e] => e
  | e :: f :: r => (2, 0) :: (e ++ packE (f :: r))
def moveE (n : Nat) (es : List El) : List El := es.flatMap (fun e => if e.1 = 1 then placeE e.2.toNat n else [e])
def rowE (n : Nat) (x : Cmd) : List (List El) := (List.range n).map (fun (k : Nat) => if (k : Int) = x.v then moveE n x.e else placeE k n)
def oneC (n : Nat) (x : Cmd) : Cmd := if x.k = 0 then ⟨0, 0, 0, packE (rowE n x)⟩ else ⟨x.k, 0, x.l, moveE n x.e⟩
def startE (n : Nat) : List (List El) := (List.range n).map (fun k => if k = 0 then [(1, 0)] else [(0, 0)])
/-- The program with one variable, n variables. -/
def oneN (n : Nat) (cs : List Cmd) : List Cmd := ⟨0, 0, 0, packE (startE n)⟩ :: (cs.map (oneC n) ++ [⟨0, 0, 0, [(3, 0), (1, 0)]⟩])
def oneW (cs : List Cmd) : List Cmd := oneN (topV 0 (varsL cs)).toNat cs
theorem oneN_len (n : Nat) (cs : List Cmd) : (oneN n cs).length = cs.length + 2 := by simp [oneN]
theorem placeE_len (k n : Nat) : (placeE k n).length ≤ k + 2 := by
  unfold placeE; split <;> simp
theorem moveE_len (n : Nat) : ∀ es : List El, (∀ e ∈ es, e.2 ≤ 5) → (moveE n es).length ≤ 7 * es.length
  | [], _ => by simp [moveE]
  | e :: r, h => by
    have h1 := moveE_len n r (fun x hx => h x (by simp [hx]))
    have h2 := h e (by simp)
    have h3 := placeE_len e.2.toNat n
    simp only [moveE, List.flatMap_cons, List.length_append, List.length_cons] at h1 ⊢
    split
    · omega
    · simp only [List.length_cons, List.length_nil]; omega
def sumL (es : List (List El)) : Nat := (es.map List.length).sum
theorem packE_len : ∀ es : List (List El), (packE es).length ≤ sumL es + es.length
  | [] => by simp [packE]
  | [e] => by simp [packE, sumL]
  | e :: f :: r => by
    have h := packE_len (f :: r)
    simp only [packE, sumL, List.map_cons, List.sum_cons, List.length_cons, List.length_append] at h ⊢
    omega
/-- The variables of a valid program. -/
theorem okC_mem : ∀ (n : Nat) {cs : List Cmd}, cs.length ≤ n → okC cs = true → ∀ x ∈ cs, wfE x.e = true ∧ ((x.k = 0 ∧ 0 ≤ x.v ∧ x.v ≤ 5 ∧ x.l = 0) ∨ (x.k = 1 ∧ x.v = 0))
  | 0, [], _, _, x, hx => by simp at hx
  | 0, _ :: _, h, _, _, _ => by simp at h
  | n + 1, [], _, _, x, hx => by simp at hx
  | n + 1, y :: r, hl, h, x, hx => by
    simp only [List.length_cons] at hl
    rw [okC_cons] at h
    simp only [Bool.and_eq_true] at h
    obtain ⟨h1, h2⟩ := h
    split at h2
    · rename_i hk
      simp only [Bool.and_eq_true, beq_iff_eq] at h2
      obtain ⟨⟨h3, h4⟩, h5⟩ := h2
      have h6 := inB_true.1 h3
      rcases List.mem_cons.1 hx with rfl | hx
      · exact ⟨h1, .inl ⟨hk, by omega, by omega, h4⟩⟩
      · exact okC_mem n (by omega) h5 x hx
    · split at h2
      · rename_i hk0 hk
        simp only [Bool.and_eq_true, beq_iff_eq] at h2
        obtain ⟨⟨⟨h3, h4⟩, h5⟩, h6⟩ := h2
        rcases List.mem_cons.1 hx with rfl | hx
        · exact ⟨h1, .inr ⟨hk, h3⟩⟩
        · rw [← List.take_append_drop y.l.toNat r] at hx
          rcases List.mem_append.1 hx with hx | hx
          · exact okC_mem n (by rw [List.length_take]; omega) h5 x hx
          · exact okC_mem n (by rw [List.length_drop]; omega) h6 x hx
      · simp at h2
theorem wfE_mem {es : List El} (h : wfE es = true) : es.length ≤ 40 ∧ ∀ e ∈ es, 0 ≤ e.1 ∧ e.1 ≤ 5 ∧ 0 ≤ e.2 ∧ e.2 ≤ 5 := by
  simp only [wfE, Bool.and_eq_true, decide_eq_true_eq] at h
  refine ⟨h.1.1.2, fun e he => ?_⟩
  have h1 := List.all_eq_true.1 h.1.2 e he
  simp only [okEl, Bool.and_eq_true] at h1
  have h2 := inB_true.1 h1.1.1
  have h3 := inB_true.1 h1.1.2
  omega
theorem vars_bound {cs : List Cmd} (h : okC cs = true) : ∀ v ∈ varsL cs, 0 ≤ v ∧ v ≤ 5 := by
  intro v hv
  simp only [varsL, List.mem_flatMap] at hv
  obtain ⟨x, hx, hv⟩ := hv
  obtain ⟨h1, h2⟩ := okC_mem _ (Nat.le_refl _) h x hx
  simp only [varsC, List.mem_append] at hv
  rcases hv with hv | hv
  · split at hv
    · simp only [List.mem_singleton] at hv; subst hv
      rcases h2 with h2 | h2
      · omega
      · omega
    · simp at hv
  · simp only [varsE, List.mem_flatMap] at hv
    obtain ⟨e, he, hv⟩ := hv
    split at hv
    · simp only [List.mem_singleton] at hv; subst hv
      have := (wfE_mem h1).2 e he; omega
    · simp at hv
theorem topV_bound {cs : List Cmd} (h : okC cs = true) {m : Int} (hm : m ≤ 6) : topV m (varsL cs) ≤ 6 := topV_le _ _ _ hm (fun v hv => by have := vars_bound h v hv; omega)
theorem okC_append : ∀ (n : Nat) {a b : List Cmd}, a.length ≤ n → okC a = true → okC b = true → okC (a ++ b) = true
  | _, [], b, _, _, hb => hb
  | 0, _ :: _, _, h, _, _ => by simp at h
  | n + 1, y :: r, b, hl, ha, hb => by
    simp only [List.length_cons] at hl
    rw [okC_cons] at ha
    rw [List.cons_append, okC_cons]
    simp only [Bool.and_eq_true] at ha ⊢
    obtain ⟨h1, h2⟩ := ha
    refine ⟨h1, ?_⟩
    split at h2
    · rename_i hk
      rw [if_pos hk]
      simp only [Bool.and_eq_true] at h2 ⊢
      exact ⟨h2.1, okC_append n (by omega) h2.2 hb⟩
    · split at h2
      · rename_i hk0 hk
        rw [if_neg hk0, if_pos hk]
        simp only [Bool.and_eq_true] at h2 ⊢
        obtain ⟨⟨⟨h3, h4⟩, h5⟩, h6⟩ := h2
        have h7 := inB_true.1 h4
        refine ⟨⟨⟨h3, inB_true.2 (by simp; omega)⟩, ?_⟩, ?_⟩
        · rw [List.take_append_of_le_length (by omega)]; exact h5
        · rw [List.drop_append_of_le_length (by omega)]
          exact okC_append n (by rw [List.length_drop]; omega) h6 hb
      · simp at h2
end Go.Proofs.YtadmbphefpfbmaaGreatDoor
