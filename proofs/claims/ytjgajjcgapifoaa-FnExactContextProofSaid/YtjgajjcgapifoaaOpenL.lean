/- Arguments that came in: rows of rows of numbers; a struct of one field. -/
import Derived.Test.YtjgajjcgapifoaaOpenF
import Derived.Test.YtjgajjcgapifoaaLawP
namespace Go.Proofs.Ytjgajjcgapifoaa
open Go.RowKit Go.ChangeShapes Go.WideShapes Go.ChangeAt
section
variable {H : Type} {enc : TypeId × Value → H} {P : Program} {w : World} {base : Nat} {held : Bool}
theorem opL {t s e : TypeId} {fuel : Nat} {a : Option Addr} {len cap : Nat} {x : DataW H × List MemPlace} (ht : P.underlying t = some (.slice s)) (hs : P.underlying s = some (.slice e)) (he : P.underlying e = some (.int .i64)) (hcs : P.cellsOf s = 1) (hce : P.cellsOf e = 1)
    (h : DataW.trod enc P w base (fun _ => true) held fuel t [.slice a len cap] = some x) : ∃ xss, RdW w a len xss ∧ len ≤ maxLen := by
  obtain ⟨vs, h1, h2, h3, h4⟩ := open_rd ht hcs h
  have key : ∀ vs : List Value, (∀ v ∈ vs, ∃ n y, DataW.trod enc P w base (fun _ => true) held n s [v] = some y) → ∃ xss : List (List Int), vs.length = xss.length ∧ ∀ (i : Nat) (v : Value) (xs : List Int), vs[i]? = some v → xss[i]? = some xs → ∃ A' n' c', v = .slice A' n' c' ∧ n' ≤ 9223372036854775807 ∧ Rd w A' n' (ints xs) := by
    intro vs
    induction vs with
    | nil => intro _; exact ⟨[], rfl, by simp⟩
    | cons v r ih =>
      intro hv
      obtain ⟨n, y, hy⟩ := hv v (by simp)
      obtain ⟨a', n', c', rfl, _⟩ := op_slice hs hy
      obtain ⟨bs, hb1, hb2⟩ := opS hs he hce hy
      obtain ⟨xss, hx1, hx2⟩ := ih fun u hu => hv u (by simp [hu])
      refine ⟨bs :: xss, by simp [hx1], fun i v xs hv hx => ?_⟩
      cases i with
      | zero => simp at hv hx; subst hv hx; exact ⟨a', n', c', rfl, by unfold maxLen at hb2; omega, hb1⟩
      | succ i => exact hx2 i v xs (by simpa using hv) (by simpa using hx)
  obtain ⟨xss, hx1, hx2⟩ := key vs h4
  exact ⟨xss, ⟨vs, h1, hx1, hx2⟩, by omega⟩
theorem opAgg1 {r : Reach} {b0 : Nat} {t : TypeId} {f0 : Field} {v : Value} {d : DataW H} {p : List MemPlace} {spare : Nat → Bool} (hs : P.underlying t = some (.struct #[f0])) (hone : Go.Deep.oneCellFields P #[f0] = true) (hC : P.cellsOf t = 1)
    (hv : Value.okWide P w r b0 t v) (h : DataW.Trod enc P w base spare held t v d p) :
    ∃ (v0 : Value) (y0 : DataW H × List MemPlace) (n : Nat), v = .agg #[v0] ∧ d = .agg [y0.1] ∧ p = y0.2 ∧ DataW.trod enc P w base spare held n f0.type [v0] = some y0 := by
  obtain ⟨cs, rfl, hsz⟩ := okWide_struct hs hv
  obtain ⟨c0, rfl⟩ : ∃ c0, cs = #[c0] := by
    rw [hC] at hsz
    obtain ⟨l⟩ := cs
    match l, hsz with
    | [c0], _ => exact ⟨c0, rfl⟩
  obtain ⟨fuel, hf⟩ := h
  obtain ⟨ys, n', _, hx, hlen, hyl, hf'⟩ := DataW.trod_struct hs hf
  obtain ⟨o0, k0⟩ := Go.Deep.hone_of hone 0 f0 rfl
  have h1 := hf' 0 f0 rfl
  match ys, hyl, hx, h1 with
  | [y0], _, hx, h1 =>
    simp at hx
    exact ⟨c0, y0, n', rfl, hx.1, hx.2, by simpa [Value.cells, o0, k0] using h1⟩
end
end Go.Proofs.Ytjgajjcgapifoaa
