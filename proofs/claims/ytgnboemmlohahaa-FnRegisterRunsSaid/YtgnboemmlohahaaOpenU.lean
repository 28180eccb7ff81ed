/- Arguments that came in: rows of bytes. -/
import Derived.Test.YtgnboemmlohahaaGA
import Derived.Test.YtgnboemmlohahaaSrc
namespace Go.Proofs.Ytgnboemmlohahaa
open Go.RowKit
section
variable {H : Type} {enc : TypeId × Value → H} {P : Program} {w : World} {base : Nat} {held : Bool}
theorem opB8 {t : TypeId} {fuel : Nat} {v : Value} {x : DataW H × List MemPlace} (ht : P.underlying t = some (.int .u8)) (h : DataW.trod enc P w base (fun _ => true) held fuel t [v] = some x) : ∃ n : Int, v = .int .u8 n ∧ 0 ≤ n ∧ n ≤ 255 := by
  obtain ⟨n, hn, hw⟩ := DataW.trod_int ht h
  refine ⟨n, by simpa using hn, ?_⟩
  have hwf : (Lit.int .u8 n).wf = true := hw.2
  have e1 : IntKind.u8.min = 0 := by decide
  have e2 : IntKind.u8.max = 255 := by decide
  simp [Lit.wf, e1, e2] at hwf
  omega
theorem opU {t e : TypeId} {fuel : Nat} {a : Option Addr} {len cap : Nat} {x : DataW H × List MemPlace} (ht : P.underlying t = some (.slice e)) (he : P.underlying e = some (.int .u8)) (hc : P.cellsOf e = 1) (h : DataW.trod enc P w base (fun _ => true) held fuel t [.slice a len cap] = some x) :
    ∃ bs : List Int, Rd w a len (bytesV bs) ∧ (∀ b ∈ bs, 0 ≤ b ∧ b ≤ 255) ∧ len ≤ maxLen := by
  obtain ⟨vs, h1, h2, h3, h4⟩ := open_rd ht hc h
  have key : ∀ vs : List Value, (∀ v ∈ vs, ∃ n y, DataW.trod enc P w base (fun _ => true) held n e [v] = some y) → ∃ bs : List Int, vs = bytesV bs ∧ ∀ b ∈ bs, 0 ≤ b ∧ b ≤ 255 := by
    intro vs
    induction vs with
    | nil => intro _; exact ⟨[], rfl, by simp⟩
    | cons v r ih =>
      intro hv
      obtain ⟨n, y, hy⟩ := hv v (by simp)
      obtain ⟨b, rfl, h0, h1⟩ := opB8 he hy
      obtain ⟨bs, rfl, hbs⟩ := ih fun u hu => hv u (by simp [hu])
      refine ⟨b :: bs, rfl, fun c hc => ?_⟩
      rcases List.mem_cons.1 hc with rfl | hc
      · exact ⟨h0, h1⟩
      · exact hbs c hc
  obtain ⟨bs, rfl, hbs⟩ := key vs h4
  exact ⟨bs, h1, hbs, by omega⟩
end
end Go.Proofs.Ytgnboemmlohahaa
