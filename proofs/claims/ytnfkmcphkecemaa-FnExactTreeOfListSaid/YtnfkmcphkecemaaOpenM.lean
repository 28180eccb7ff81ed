/- Arguments that came in: a slice of slices of bool. -/
import Derived.Test.YtnfkmcphkecemaaOpen
import Derived.Test.YtnfkmcphkecemaaLawM
namespace Go.Proofs.Ytnfkmcphkecemaa
open Go.RowKit
section
variable {H : Type} {enc : TypeId × Value → H} {P : Program} {w : World} {base : Nat} {held : Bool}
theorem slice_of_trod {t e : TypeId} {fuel : Nat} {v : Value} {x : DataW H × List MemPlace} (ht : P.underlying t = some (.slice e)) (h : DataW.trod enc P w base (fun _ => true) held fuel t [v] = some x) : ∃ a n c, v = .slice a n c := by
  rcases Go.Deep.open_slice ht h with ⟨h0, _⟩ | ⟨a', l, c, m, n, D, Pl, hcs, _⟩
  · simp at h0; exact ⟨_, _, _, h0⟩
  · simp at hcs; exact ⟨_, _, _, hcs⟩
theorem open_bss {t s e : TypeId} {fuel : Nat} {a : Option Addr} {len cap : Nat} {x : DataW H × List MemPlace} (ht : P.underlying t = some (.slice s)) (hs : P.underlying s = some (.slice e)) (he : P.underlying e = some .bool) (hcs : P.cellsOf s = 1) (hce : P.cellsOf e = 1)
    (h : DataW.trod enc P w base (fun _ => true) held fuel t [.slice a len cap] = some x) : ∃ xss, RdWB w a len xss ∧ len ≤ 9223372036854775807 := by
  obtain ⟨vs, h1, h2, h3, h4⟩ := open_rd ht hcs h
  have key : ∀ vs : List Value, (∀ v ∈ vs, ∃ n y, DataW.trod enc P w base (fun _ => true) held n s [v] = some y) → ∃ xss : List (List Bool), vs.length = xss.length ∧ ∀ (i : Nat) (v : Value) (xs : List Bool), vs[i]? = some v → xss[i]? = some xs → ∃ A' n' c', v = .slice A' n' c' ∧ n' ≤ 9223372036854775807 ∧ Rd w A' n' (bools xs) := by
    intro vs
    induction vs with
    | nil => intro _; exact ⟨[], rfl, by simp⟩
    | cons v r ih =>
      intro hv
      obtain ⟨n, y, hy⟩ := hv v (by simp)
      obtain ⟨a', n', c', rfl⟩ := slice_of_trod hs hy
      obtain ⟨bs, hb1, hb2⟩ := open_bs hs he hce hy
      obtain ⟨xss, hx1, hx2⟩ := ih fun u hu => hv u (by simp [hu])
      refine ⟨bs :: xss, by simp [hx1], fun i v xs hv hx => ?_⟩
      cases i with
      | zero => simp at hv hx; subst hv hx; exact ⟨a', n', c', rfl, by unfold maxLen at hb2; omega, hb1⟩
      | succ i => exact hx2 i v xs (by simpa using hv) (by simpa using hx)
  obtain ⟨xss, hx1, hx2⟩ := key vs h4
  exact ⟨xss, ⟨vs, h1, hx1, hx2⟩, by unfold maxLen at h3; omega⟩
end
end Go.Proofs.Ytnfkmcphkecemaa
