/- Arguments that came in, opened to cells: a slice of elements of one cell each. -/
import Derived.Test.YtfjlbfnjnkaooaaRet
import Derived.Deep.Slices
import Derived.ChangeArms
import Derived.OpenShut
import Derived.WideShapes
namespace Go.Proofs.Ytfjlbfnjnkaooaa
open Go.RowKit

theorem rd_of_cells {w : World} {a : Addr} {len : Nat} {f : Nat → Value} (h : ∀ i, i < len → w.cell? (a.add i) = some (f i)) : Rd w (some a) len ((List.range len).map f) := by
  refine ⟨by simp, fun hn => ?_⟩
  obtain ⟨b, off, spot⟩ := a
  have hspot : spot = none := by simpa [Addr.add] using World.cell?_spot (h 0 hn)
  subst hspot
  refine ⟨b, off, rfl, ?_, fun j u hj => ?_⟩
  · exact World.block_lt_of_cell? w ⟨b, off, none⟩ (by simpa [Addr.add] using h 0 hn)
  · have hjl : j < len := by
      rcases Nat.lt_or_ge j len with h1 | h1
      · exact h1
      · rw [List.getElem?_eq_none (by simpa using h1)] at hj; cases hj
    have hj' : u = f j := by simpa [hjl] using hj.symm
    subst hj'
    rw [← Go.WideShapes.add_plain]
    exact h j hjl
section
variable {H : Type} {enc : TypeId × Value → H} {P : Program} {w : World} {base : Nat} {held : Bool}
theorem open_rd {t e : TypeId} {fuel : Nat} {a : Option Addr} {len cap : Nat} {x : DataW H × List MemPlace} (ht : P.underlying t = some (.slice e)) (hc : P.cellsOf e = 1) (h : DataW.trod enc P w base (fun _ => true) held fuel t [.slice a len cap] = some x) :
    ∃ vs, Rd w a len vs ∧ len ≤ cap ∧ cap ≤ maxLen ∧ ∀ v ∈ vs, ∃ n y, DataW.trod enc P w base (fun _ => true) held n e [v] = some y := by
  rcases Go.Deep.open_slice1 ht hc h with ⟨h0, _⟩ | ⟨a', l, c, m, n, V, D, Pl, hcs, _, hl, hm, hmm, _, hi⟩
  · simp at h0
    obtain ⟨rfl, rfl, rfl⟩ := h0
    exact ⟨[], Rd.nil _ _, Nat.le_refl _, by unfold maxLen; omega, by simp⟩
  · simp at hcs hmm
    obtain ⟨rfl, rfl, rfl⟩ := hcs
    subst hmm
    refine ⟨(List.range len).map V, rd_of_cells fun i hi' => (hi i (by omega)).1, hl, hm, fun v hv => ?_⟩
    obtain ⟨i, hi', rfl⟩ := List.mem_map.1 hv
    exact ⟨_, _, (hi i (by have := List.mem_range.1 hi'; omega)).2⟩
theorem open_bs {t e : TypeId} {fuel : Nat} {a : Option Addr} {len cap : Nat} {x : DataW H × List MemPlace} (ht : P.underlying t = some (.slice e)) (he : P.underlying e = some .bool) (hc : P.cellsOf e = 1) (h : DataW.trod enc P w base (fun _ => true) held fuel t [.slice a len cap] = some x) :
    ∃ bs : List Bool, Rd w a len (bs.map Value.bool) ∧ len ≤ maxLen := by
  obtain ⟨vs, h1, h2, h3, h4⟩ := open_rd ht hc h
  have key : ∀ vs : List Value, (∀ v ∈ vs, ∃ n y, DataW.trod enc P w base (fun _ => true) held n e [v] = some y) → ∃ bs : List Bool, vs = bs.map Value.bool := by
    intro vs
    induction vs with
    | nil => intro _; exact ⟨[], rfl⟩
    | cons v r ih =>
      intro hv
      obtain ⟨n, y, hy⟩ := hv v (by simp)
      obtain ⟨b, hb, _⟩ := DataW.trod_bool he hy
      obtain ⟨bs, rfl⟩ := ih fun u hu => hv u (by simp [hu])
      simp at hb
      exact ⟨b :: bs, by rw [hb]; rfl⟩
  obtain ⟨bs, rfl⟩ := key vs h4
  exact ⟨bs, h1, by omega⟩
end
end Go.Proofs.Ytfjlbfnjnkaooaa
