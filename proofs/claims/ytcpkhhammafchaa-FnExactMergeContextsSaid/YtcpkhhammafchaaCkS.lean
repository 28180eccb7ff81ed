/- CheckContexts (reference): a context among others, the contexts that follow. -/
import Derived.Test.YtcpkhhammafchaaCkM
import Derived.Test.YtcpkhhammafchaaGL
import Derived.Test.YtcpkhhammafchaaGI
namespace Go.Proofs.Ytcpkhhammafchaa
open Go.RowKit
set_option linter.unusedVariables false
set_option linter.unusedSimpArgs false
/-- The parts of a proof in memory. -/
structure SPt (w : World) (g : Nat) (m : Int) (A1 : Option Addr) (n1 c1 : Nat) (A2 : Option Addr) (n2 c2 : Nat) (A3 : Option Addr) (n3 c3 : Nat) (A4 : Option Addr) (n4 c4 : Nat) (ls ws cs : List (List Int)) (sts : List Int) : Prop where
  bs : BS w g m A1 n1 c1 A2 n2 c2 A3 n3 c3 A4 n4 c4
  r1 : RdL w A1 n1 ls
  r2 : RdL w A2 n2 ws
  r3 : RdL w A3 n3 cs
  r4 : Rd w A4 n4 (ints sts)
  b1 : n1 ≤ 1000000
  b2 : n2 ≤ 1000000
  b3 : n3 ≤ 1000000
  eq : sts.length = cs.length
  cp : ∀ (k b off : Nat) (A' : Option Addr) (n' c' : Nat), A3 = some ⟨b, off, none⟩ → k < n3 → w.cell? ⟨b, off + k, none⟩ = some (.slice A' n' c') → n' ≤ c'
section
variable {w w' : World} {g : Nat} {m : Int} {A1 A2 A3 A4 : Option Addr} {n1 c1 n2 c2 n3 c3 n4 c4 : Nat} {ls ws cs : List (List Int)} {sts : List Int}
theorem SPt.below (h : SPt w g m A1 n1 c1 A2 n2 c2 A3 n3 c3 A4 n4 c4 ls ws cs sts) (hb : Below w.heap.size w w') : SPt w' g m A1 n1 c1 A2 n2 c2 A3 n3 c3 A4 n4 c4 ls ws cs sts :=
  ⟨h.bs.bel hb, h.r1.below hb (Nat.le_refl _), h.r2.below hb (Nat.le_refl _), h.r3.below hb (Nat.le_refl _), h.r4.below hb (Nat.le_refl _), h.b1, h.b2, h.b3, h.eq, fun k b off A' n' c' he hk hc => by
    obtain ⟨y, hy⟩ := get_some (xs := cs) (k := k) (by rw [h.r3.len]; exact hk)
    obtain ⟨b', off', A5, n5, c5, e5, hl, hc5, _, _⟩ := h.r3.at_ hy
    have e6 : b = b' := by rw [e5] at he; injection he with he; injection he with h1 h2; exact h1.symm
    exact h.cp k b off A' n' c' he hk ((hb.cell (p := ⟨b, off + k, none⟩) (by rw [e6]; exact hl)).symm.trans hc)⟩
theorem SPt.n34 (h : SPt w g m A1 n1 c1 A2 n2 c2 A3 n3 c3 A4 n4 c4 ls ws cs sts) : n4 = n3 := by
  have h1 := h.r3.len
  have h2 := h.r4.1
  have h3 := h.eq
  simp at h2
  omega
end
end Go.Proofs.Ytcpkhhammafchaa
