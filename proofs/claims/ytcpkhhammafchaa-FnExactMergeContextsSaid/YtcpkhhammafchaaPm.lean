/- Rows of rows in another order; a row put into the middle. -/
import Derived.Test.YtcpkhhammafchaaGF
import Derived.Test.YtcpkhhammafchaaPu
namespace Go.Proofs.Ytcpkhhammafchaa
open Go.RowKit
set_option linter.unusedVariables false
set_option linter.unusedSimpArgs false
/-- Two rows of values have no block in common. -/
def ApV (u v : Value) : Prop := ∀ k, Fo u k → Fo v k → False
theorem ApV.symm {u v : Value} (h : ApV u v) : ApV v u := fun k a b => h k b a
def GoodP (w : World) (F : Nat → Prop) (p : Value × List Int) : Prop := ∃ A n c, p.1 = .slice A n c ∧ n ≤ 1000000000 ∧ w.ownsRow 0 2 1 (.slice A n c) n (ints p.2) ∧ ∀ k, Fo p.1 k → F k
theorem innerP_pairs {w : World} {F : Nat → Prop} {ps : List (Value × List Int)} : InnerP w F (ps.map Prod.fst) (ps.map Prod.snd) ↔ (∀ p ∈ ps, GoodP w F p) ∧ (ps.map Prod.fst).Pairwise ApV := by
  constructor
  · rintro ⟨_, h2, h3⟩
    refine ⟨fun p hp => ?_, ?_⟩
    · obtain ⟨i, hi, rfl⟩ := List.mem_iff_getElem.1 hp
      obtain ⟨A, n, c, h4, h5, h6, h7⟩ := h2 i ps[i].1 ps[i].2 (by simp [hi]) (by simp [hi])
      exact ⟨A, n, c, h4, h5, h6, h7⟩
    · rw [List.pairwise_iff_getElem]
      intro i j hi hj hij k ha hb
      have := h3 i j _ _ (List.getElem?_eq_getElem hi) (List.getElem?_eq_getElem hj) k ha hb
      omega
  · rintro ⟨h1, h2⟩
    refine ⟨by simp, fun i u xs hu hx => ?_, fun i j u v hu hv k ha hb => ?_⟩
    · obtain ⟨p, hp, rfl⟩ : ∃ p, ps[i]? = some p ∧ p.1 = u := by simpa using hu
      rw [List.getElem?_map, hp] at hx
      simp at hx
      subst hx
      exact h1 p (List.mem_of_getElem? hp)
    · rw [List.pairwise_iff_getElem] at h2
      obtain ⟨hi, rfl⟩ := List.getElem?_eq_some_iff.1 hu
      obtain ⟨hj, rfl⟩ := List.getElem?_eq_some_iff.1 hv
      rcases Nat.lt_trichotomy i j with h | h | h
      · exact (h2 i j hi hj h k ha hb).elim
      · exact h
      · exact (h2 j i hj hi h k hb ha).elim
theorem zip_fst_snd {us : List Value} {xss : List (List Int)} (h : us.length = xss.length) : (us.zip xss).map Prod.fst = us ∧ (us.zip xss).map Prod.snd = xss := ⟨List.map_fst_zip (by omega), List.map_snd_zip (by omega)⟩
/-- The order of the rows does not matter. -/
theorem InnerP.perm {w : World} {F : Nat → Prop} {ps qs : List (Value × List Int)} (h : InnerP w F (ps.map Prod.fst) (ps.map Prod.snd)) (hp : ps.Perm qs) : InnerP w F (qs.map Prod.fst) (qs.map Prod.snd) := by
  rw [innerP_pairs] at h ⊢
  exact ⟨fun p hq => h.1 p (hp.mem_iff.2 hq), ((hp.map Prod.fst).pairwise_iff (fun {_ _} h => ApV.symm h)).1 h.2⟩
theorem fu_perm {us vs : List Value} (h : us.Perm vs) (k : Nat) : FU us k ↔ FU vs k := by
  constructor
  · rintro ⟨u, hu, hf⟩; exact ⟨u, h.mem_iff.1 hu, hf⟩
  · rintro ⟨u, hu, hf⟩; exact ⟨u, h.mem_iff.2 hu, hf⟩
/-- Put into the middle. -/
def insAt {α : Type} (us : List α) (p : Nat) (u : α) : List α := us.take p ++ u :: us.drop p
theorem ins_len {α : Type} {us : List α} {p : Nat} {u : α} (hp : p ≤ us.length) : (insAt us p u).length = us.length + 1 := by simp [insAt]; omega
theorem ins_end {α : Type} {us : List α} {n : Nat} (h : us.length = n) (u : α) : us ++ [u] = insAt us n u := by
  unfold insAt; rw [List.take_of_length_le (by omega), List.drop_of_length_le (by omega)]
theorem ins_get {α : Type} {us : List α} {p j : Nat} {u : α} (hj : j < p) (hp : p ≤ us.length) : (insAt us p u)[j]? = us[j]? := by
  unfold insAt
  rw [List.getElem?_append_left (by simp; omega), List.getElem?_take_of_lt hj]
theorem ins_set {α : Type} {us : List α} {k : Nat} {u x : α} (hk : 1 ≤ k) (hp : k ≤ us.length) (hx : us[k - 1]? = some x) : (insAt us k u).set k x = insAt us (k - 1) x := by
  unfold insAt
  have hl : (us.take k).length = k := by simp; omega
  rw [List.set_append_right _ _ (by omega), hl, Nat.sub_self, List.set_cons_zero]
  obtain ⟨j, rfl⟩ : ∃ j, k = j + 1 := ⟨k - 1, by omega⟩
  simp only [Nat.add_sub_cancel] at hx ⊢
  rw [List.take_add_one, hx, drop_get hx]
  simp
theorem ins_put {α : Type} {us : List α} {p : Nat} {u v : α} (hp : p ≤ us.length) : (insAt us p v).set p u = insAt us p u := by
  unfold insAt
  have hl : (us.take p).length = p := by simp; omega
  rw [List.set_append_right _ _ (by omega), hl, Nat.sub_self, List.set_cons_zero]
theorem ins_perm {α : Type} {us : List α} {p : Nat} {u : α} : (us ++ [u]).Perm (insAt us p u) := by
  unfold insAt
  have h1 : (u :: us).Perm (us.take p ++ u :: us.drop p) := by
    have h2 := (List.perm_middle (a := u) (l₁ := us.take p) (l₂ := us.drop p)).symm
    rw [List.take_append_drop] at h2
    exact h2
  exact (List.perm_append_singleton u us).trans h1
theorem zip_take {α β : Type} : ∀ {us : List α} {xss : List β} {p : Nat}, us.length = xss.length → (us.take p).zip (xss.take p) = (us.zip xss).take p
  | [], [], p, _ => by simp
  | _ :: _, _ :: _, 0, _ => rfl
  | u :: us, x :: xss, p + 1, h => by simp only [List.take_succ_cons, List.zip_cons_cons]; rw [zip_take (by simpa using h)]
theorem zip_drop {α β : Type} : ∀ {us : List α} {xss : List β} {p : Nat}, us.length = xss.length → (us.drop p).zip (xss.drop p) = (us.zip xss).drop p
  | [], [], p, _ => by simp
  | _ :: _, _ :: _, 0, _ => rfl
  | u :: us, x :: xss, p + 1, h => by simp only [List.drop_succ_cons, List.zip_cons_cons]; exact zip_drop (by simpa using h)
theorem ins_zip {us : List Value} {xss : List (List Int)} {p : Nat} {u : Value} {x : List Int} (h : us.length = xss.length) (hp : p ≤ us.length) : (insAt us p u).zip (insAt xss p x) = insAt (us.zip xss) p (u, x) := by
  unfold insAt
  rw [List.zip_append (by simp; omega), List.zip_cons_cons, zip_take h, zip_drop h]
/-- A word behind all the lesser ones, ahead of all the greater ones, is at its place. -/
theorem putL_ins : ∀ {xss : List (List Int)} {p : Nat} {y : List Int}, p ≤ xss.length → (∀ j x, xss[j]? = some x → j < p → cmpL x y < 0) → (∀ j x, xss[j]? = some x → p ≤ j → 0 < cmpL x y) → putL xss y = insAt xss p y
  | [], p, y, hp, _, _ => by simp at hp; subst hp; rfl
  | x :: r, 0, y, _, _, h2 => by
    have h := h2 0 x rfl (Nat.le_refl _)
    have := cmpL_swap x y
    unfold putL insAt
    rw [if_pos (by omega)]; rfl
  | x :: r, p + 1, y, hp, h1, h2 => by
    have h := h1 0 x rfl (by omega)
    have := cmpL_swap x y
    unfold putL
    rw [if_neg (by omega), if_neg (by omega), putL_ins (p := p) (by simpa using hp) (fun j z hz hj => h1 (j + 1) z (by simpa using hz) (by omega)) (fun j z hz hj => h2 (j + 1) z (by simpa using hz) (by omega))]
    rfl
theorem putL_in {xss : List (List Int)} {y : List Int} (hr : Rises xss) (h : y ∈ xss) : putL xss y = xss :=
  rises_ext (putL_rises hr) hr (fun z => by rw [putL_mem]; exact ⟨fun h2 => h2.elim id (fun e => e ▸ h), .inl⟩)
theorem rises_lt {xss : List (List Int)} (hr : Rises xss) {i j : Nat} {x y : List Int} (hi : xss[i]? = some x) (hj : xss[j]? = some y) (h : i < j) : cmpL x y < 0 := by
  obtain ⟨h1, rfl⟩ := List.getElem?_eq_some_iff.1 hi
  obtain ⟨h2, rfl⟩ := List.getElem?_eq_some_iff.1 hj
  exact List.pairwise_iff_getElem.1 hr i j h1 h2 h
end Go.Proofs.Ytcpkhhammafchaa
