/- Proofs by contexts: the parts of one (reference). -/
import Derived.Test.YtjgajjcgapifoaaPrfU
import Derived.Test.YtjgajjcgapifoaaPrfK
namespace Go.Proofs.Ytjgajjcgapifoaa
open Go.RowKit
set_option linter.unusedVariables false
set_option linter.unusedSimpArgs false
/-- The reference's parts and whether there are some. -/
def InPost (w : World) (m : Int) (ls rs cs : List (List Int)) (sts : List Int) (ok : Bool) (e : Ending) (w' : World) : Prop :=
  ∃ v : Value, e = .returned (.tuple #[v, .bool ok]) ∧ Below w.heap.size w w' ∧ (ok = true → ∃ (g : Nat) (A1 : Option Addr) (n1 c1 : Nat) (u1 : List Value) (A2 : Option Addr) (n2 c2 : Nat) (u2 : List Value) (A3 : Option Addr) (n3 c3 : Nat) (u3 : List Value) (A4 : Option Addr) (n4 c4 : Nat), v = .pointer (some ⟨g, 0, none⟩) ∧ BS w' g m A1 n1 c1 A2 n2 c2 A3 n3 c3 A4 n4 c4 ∧
    OwnX w' A1 n1 c1 u1 ls ∧ OwnX w' A2 n2 c2 u2 rs ∧ OwnX w' A3 n3 c3 u3 cs ∧ w'.ownsRow w.heap.size 2 1 (.slice A4 n4 c4) n4 (ints sts) ∧ (∀ q, FX A1 n1 c1 u1 q ∨ FX A2 n2 c2 u2 q ∨ FX A3 n3 c3 u3 q → w.heap.size ≤ q) ∧
    (∀ q, FX A1 n1 c1 u1 q → FX A2 n2 c2 u2 q → False) ∧ (∀ q, FX A1 n1 c1 u1 q → FX A3 n3 c3 u3 q → False) ∧ (∀ q, FX A2 n2 c2 u2 q → FX A3 n3 c3 u3 q → False) ∧ (∀ q, FX A1 n1 c1 u1 q → Fo (.slice A4 n4 c4) q → False) ∧ (∀ q, FX A2 n2 c2 u2 q → Fo (.slice A4 n4 c4) q → False) ∧ (∀ q, FX A3 n3 c3 u3 q → Fo (.slice A4 n4 c4) q → False))
set_option maxHeartbeats 48000000 in
set_option maxRecDepth 100000 in
theorem l29In_g1 (w : World) (g : Nat) (k : Int) (A1 : Option Addr) (n1 c1 : Nat) (A2 : Option Addr) (n2 c2 : Nat) (hp : BP w g k A1 n1 c1 A2 n2 c2) (ns : List Int) (hr1 : Rd w A1 n1 (ints ns)) (hn1 : n1 ≤ 1000000000) (m : Int) (ls rs cs : List (List Int)) (sts : List Int) (hg : g1 k ns = false) :
    Calls Try.prog 70 #[.pointer (some ⟨g, 0, none⟩)] w (InPost w m ls rs cs sts false) := by
  obtain ⟨q0, q1, q2⟩ := hp.cells
  have hl : ns.length = n1 := by simpa using hr1.1
  rcases g1_cases k ns n1 hl with ⟨h1, h2⟩ | ⟨h1, h2, h3⟩ | ⟨h1, h2, h3⟩
  · have hne : (k != 8) = true := by simpa using h1
    clear hg h2 hl
    go_enter Try.func70, Try.ntmps70
    go_wp2_with fail
    go_ret2
    exact ⟨.pointer none, rfl, Below.refl _ _, by simp⟩
  · subst h1
    have hlt : (n1 : Int) < 3 := by omega
    clear hg h3 hl
    go_enter Try.func70, Try.ntmps70
    go_wp2_with fail
    go_ret2
    exact ⟨.pointer none, rfl, Below.refl _ _, by simp⟩
  · subst h1
    rw [h3] at hg
    have HG := Lib.hid hg
    have hlt : ¬ (n1 : Int) < 3 := by omega
    obtain ⟨b, off, rfl, hbs, r0⟩ := hr1.at_ (ints_get (num_at (ns := ns) (i := 0) (by omega)))
    have hp : ns.getD 0 0 = pN ns := rfl
    rw [hp] at r0
    simp only [Nat.add_zero] at r0
    generalize pN ns = z at *
    have i1 : (0 : Int) < (n1 : Int) := by omega
    clear hg h3 hl h2 hp
    go_enter Try.func70, Try.ntmps70
    go_wp2_with fail
    refine (l29Size_any _ _).mono ?_
    rw [HG.out]
    rintro e w3 ⟨rfl, rfl⟩
    go_wp2_with fail
    go_ret2
    exact ⟨.pointer none, rfl, Below.refl _ _, by simp⟩
theorem num_bd' {ns : List Int} {i : Nat} (h : allIn ns (-1000000000000) 1000000000000 = true) (hi : i < ns.length) : -1000000000000 ≤ ns.getD i 0 ∧ ns.getD i 0 ≤ 1000000000000 := allIn_true.1 h _ (List.mem_of_getElem? (num_at hi))
theorem s2_cases (ns : List Int) (n1 n2 : Nat) (hl : ns.length = n1) : (inB (pA ns) 0 n2 = false ∧ s2 ns n2 = false) ∨ (inB (pA ns) 0 n2 = true ∧ inB (pB ns) 0 ((n2 : Int) - pA ns) = false ∧ s2 ns n2 = false) ∨ (inB (pA ns) 0 n2 = true ∧ inB (pB ns) 0 ((n2 : Int) - pA ns) = true ∧ ((n1 : Int) != 3 + (n2 : Int) - pA ns - pB ns) = true ∧ s2 ns n2 = false) ∨ (inB (pA ns) 0 n2 = true ∧ inB (pB ns) 0 ((n2 : Int) - pA ns) = true ∧ ((n1 : Int) != 3 + (n2 : Int) - pA ns - pB ns) = false ∧ s2 ns n2 = true) := by
  subst hl
  unfold s2
  cases inB (pA ns) 0 n2 <;> cases inB (pB ns) 0 ((n2 : Int) - pA ns) <;> simp
  by_cases h : (ns.length : Int) = 3 + (n2 : Int) - pA ns - pB ns <;> simp [h]
set_option maxHeartbeats 88000000 in
set_option maxRecDepth 100000 in
theorem l29In_s2 (w : World) (g : Nat) (k : Int) (A1 : Option Addr) (n1 c1 : Nat) (A2 : Option Addr) (n2 c2 : Nat) (hp : BP w g k A1 n1 c1 A2 n2 c2) (ns : List Int) (hr1 : Rd w A1 n1 (ints ns)) (ws : List (List Int)) (hl2 : ws.length = n2) (m : Int) (ls rs cs : List (List Int)) (sts : List Int) (hok : okP k ns ws = true) (hg1 : g1 k ns = true) (hs2 : s2 ns n2 = false) :
    Calls Try.prog 70 #[.pointer (some ⟨g, 0, none⟩)] w (InPost w m ls rs cs sts false) := by
  obtain ⟨rfl, h3, _, _⟩ := g1_bd hg1
  obtain ⟨_, hn1, hn2, hbd, _⟩ := okP_bd hok
  have hi : inB (pN ns) 1 4 = true := by simp only [g1, Bool.and_eq_true] at hg1; exact hg1.2
  have hl : ns.length = n1 := by simpa using hr1.1
  rw [hl] at h3 hn1
  rw [hl2] at hn2
  obtain ⟨q0, q1, q2⟩ := hp.cells
  have HI := Lib.hid hi
  obtain ⟨b, off, hA, hbs, r0⟩ := hr1.at_ (ints_get (num_at (ns := ns) (i := 0) (by omega)))
  obtain ⟨b', off', hA', _, r1⟩ := hr1.at_ (ints_get (num_at (ns := ns) (i := 1) (by omega)))
  obtain ⟨b'', off'', hA'', _, r2⟩ := hr1.at_ (ints_get (num_at (ns := ns) (i := 2) (by omega)))
  subst hA
  injection hA' with hA'
  injection hA' with e1 e2
  subst e1 e2
  injection hA'' with hA''
  injection hA'' with e1 e2
  subst e1 e2
  have hba := num_bd' (i := 1) hbd (by omega)
  have hbb := num_bd' (i := 2) hbd (by omega)
  have ep : ns.getD 0 0 = pN ns := rfl
  have ea : ns.getD 1 0 = pA ns := rfl
  have eb : ns.getD 2 0 = pB ns := rfl
  rw [ep] at r0
  rw [ea] at r1 hba
  rw [eb] at r2 hbb
  simp only [Nat.add_zero] at r0
  have hcs := s2_cases ns n1 n2 hl
  rw [hs2] at hcs
  have i0 : (0 : Int) < (n1 : Int) := by omega
  have i1 : (1 : Int) < (n1 : Int) := by omega
  have i2 : (2 : Int) < (n1 : Int) := by omega
  have j1 : 1 < n1 := by omega
  have j2 : 2 < n1 := by omega
  have i3 : ¬ (n1 : Int) < 3 := by omega
  clear hr1 hl hok hg1 hbd hl2 hi ep ea eb h3 hp hs2
  generalize pN ns = z at *
  generalize pA ns = a at *
  generalize pB ns = b2 at *
  have hw1 : IntKind.i64.wrap ((n2 : Int) - a) = (n2 : Int) - a := IntWalk.i64_in _ (by omega)
  have hw2 : IntKind.i64.wrap (3 + (n2 : Int)) = 3 + (n2 : Int) := IntWalk.i64_in _ (by omega)
  have hw3 : IntKind.i64.wrap (3 + (n2 : Int) - a) = 3 + (n2 : Int) - a := IntWalk.i64_in _ (by omega)
  have hw4 : IntKind.i64.wrap (3 + (n2 : Int) - a - b2) = 3 + (n2 : Int) - a - b2 := IntWalk.i64_in _ (by omega)
  rcases hcs with ⟨h1, _⟩ | ⟨h1, h2, _⟩ | ⟨h1, h2, h4, _⟩ | ⟨_, _, _, h5⟩
  · have H1 := Lib.hid h1
    clear h1
    go_enter Try.func70, Try.ntmps70
    go_wp2_with fail
    refine (l29Size_any _ _).mono ?_
    rw [HI.out]
    rintro e w3 ⟨rfl, rfl⟩
    go_wp2_with fail
    refine (l00In_any _ _ _ _).mono ?_
    rw [H1.out]
    rintro e w3 ⟨rfl, rfl⟩
    go_wp2_with fail
    go_ret2
    exact ⟨.pointer none, rfl, Below.refl _ _, by simp⟩
  · have H1 := Lib.hid h1; have H2 := Lib.hid h2
    clear h1 h2
    go_enter Try.func70, Try.ntmps70
    go_wp2_with fail
    refine (l29Size_any _ _).mono ?_
    rw [HI.out]
    rintro e w3 ⟨rfl, rfl⟩
    go_wp2_with fail
    refine (l00In_any _ _ _ _).mono ?_
    rw [H1.out]
    rintro e w3 ⟨rfl, rfl⟩
    go_wp2_with fail
    refine (l00In_any _ _ _ _).mono ?_
    rw [H2.out]
    rintro e w3 ⟨rfl, rfl⟩
    go_wp2_with fail
    go_ret2
    exact ⟨.pointer none, rfl, Below.refl _ _, by simp⟩
  · have H1 := Lib.hid h1; have H2 := Lib.hid h2
    clear h1 h2
    go_enter Try.func70, Try.ntmps70
    go_wp2_with fail
    refine (l29Size_any _ _).mono ?_
    rw [HI.out]
    rintro e w3 ⟨rfl, rfl⟩
    go_wp2_with fail
    refine (l00In_any _ _ _ _).mono ?_
    rw [H1.out]
    rintro e w3 ⟨rfl, rfl⟩
    go_wp2_with fail
    refine (l00In_any _ _ _ _).mono ?_
    rw [H2.out]
    rintro e w3 ⟨rfl, rfl⟩
    go_wp2_with fail
    go_ret2
    exact ⟨.pointer none, rfl, Below.refl _ _, by simp⟩
  · cases h5
end Go.Proofs.Ytjgajjcgapifoaa
