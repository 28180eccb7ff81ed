/- Texts in one file: NcS, Fw, NcI. -/
import Derived.Test.YtcpkhhammafchaaGF
import Derived.Test.YtcpkhhammafchaaGJ
import Derived.Test.YtcpkhhammafchaaGK
import Derived.Test.YtcpkhhammafchaaGE
import Derived.Deep.DrawnRows
/- NextContexts (reference). Written by mk_nc.py. -/
namespace Go.Proofs.Ytcpkhhammafchaa
open Go.RowKit
set_option linter.unusedVariables false
set_option linter.unusedSimpArgs false
/-- What NextContexts leaves. -/
def NcPost (w : World) (r : Int × List (List Int) × Int) (e : Ending) (w' : World) : Prop := ∃ (A : Option Addr) (n c : Nat) (F : Nat → Prop), e = .returned (.tuple #[.int .i64 r.1, .slice A n c, .int .i64 r.2.2]) ∧ OwnP w' F A n c r.2.1 ∧ (∀ k, F k → w.heap.size ≤ k ∧ k < w'.heap.size) ∧ Below w.heap.size w w'
theorem nc_none {w w' : World} {z : Int} (h : Below w.heap.size w w') : NcPost w (0, [], z) (.returned (.tuple #[.int .i64 0, .slice none 0 0, .int .i64 z])) w' := ⟨none, 0, 0, fun _ => False, rfl, OwnP.nil _, by simp, h⟩
theorem drp_bel {w w' : World} (h : ∃ m, w' = w.drewN m) : Below w.heap.size w w' := by obtain ⟨m, rfl⟩ := h; exact below_drewN (Below.refl _ _)
theorem win_no {m s : Int} {ls : List (List Int)} {n : Nat} (hs : s ≤ 6) (hm : m ≤ 9) (hn : ls.length = n) (h : allTo (lenUp ls m) n = false ∨ overB s ls = false) : winB m s ls = false := by
  rw [← winB_spec hs hm, hn]
  rcases h with h | h <;> simp [h]
theorem win_yes {m s : Int} {ls : List (List Int)} {n : Nat} (hs : s ≤ 6) (hm : m ≤ 9) (hn : ls.length = n) (h1 : allTo (lenUp ls m) n = true) (h2 : overB s ls = true) : winB m s ls = true := by
  rw [← winB_spec hs hm, hn, h1, h2]; rfl
theorem take0 {xs : List Int} {f0 : Int} {h : Nat} (h1 : 1 ≤ h) (h2 : xs[0]? = some f0) : xs.take h = f0 :: (xs.take h).drop 1 := by
  cases xs with
  | nil => simp at h2
  | cons x r =>
    obtain rfl : x = f0 := by simpa using h2
    cases h with
    | zero => omega
    | succ h => simp
theorem ctx_sm {s t st : Int} {rs : List Rul} {xs : List Int} (h : ctxC s t rs st xs = 0) : ∀ x ∈ xs, SmI x := by
  obtain ⟨h1, _, _, h4, _⟩ := ctx_zero h
  obtain ⟨hs, _⟩ := okM_all h1
  intro x hx
  have := allIn_true.1 h4 x hx
  unfold SmI
  omega
end Go.Proofs.Ytcpkhhammafchaa
/- The contexts that can follow (program). Written by mk_fw.py. -/
namespace Go.Proofs.Ytcpkhhammafchaa
open Go.RowKit
set_option linter.unusedVariables false
set_option linter.unusedSimpArgs false
attribute [local go_sem ↓] Go.wp_at_zero Go.wp_at_succ
theorem rdL4 {w : World} {A1 A2 A3 A4 : Option Addr} {n1 c1 n2 c2 n3 c3 n4 c4 T : Nat} {x1 x2 x3 x4 : List Int} (h1 : Rd w A1 n1 (ints x1)) (h2 : Rd w A2 n2 (ints x2)) (h3 : Rd w A3 n3 (ints x3)) (h4 : Rd w A4 n4 (ints x4)) (b1 : n1 ≤ 1000000000) (b2 : n2 ≤ 1000000000) (b3 : n3 ≤ 1000000000) (b4 : n4 ≤ 1000000000) :
    RdL (w.alloc (.cells #[.slice A1 n1 c1, .slice A2 n2 c2, .slice A3 n3 c3, .slice A4 n4 c4] T)) (some ⟨w.heap.size, 0, none⟩) 4 [x1, x2, x3, x4] := by
  refine ⟨[.slice A1 n1 c1, .slice A2 n2 c2, .slice A3 n3 c3, .slice A4 n4 c4], own_rd (own_lit w #[.slice A1 n1 c1, .slice A2 n2 c2, .slice A3 n3 c3, .slice A4 n4 c4] 4 T rfl (by omega)), rfl, ?_⟩
  intro i v zs hv hz
  match i, hv, hz with
  | 0, hv, hz =>
    obtain rfl : Value.slice A1 n1 c1 = v := by simpa using hv
    obtain rfl : x1 = zs := by simpa using hz
    exact ⟨A1, n1, c1, rfl, b1, h1.alloc _⟩
  | 1, hv, hz =>
    obtain rfl : Value.slice A2 n2 c2 = v := by simpa using hv
    obtain rfl : x2 = zs := by simpa using hz
    exact ⟨A2, n2, c2, rfl, b2, h2.alloc _⟩
  | 2, hv, hz =>
    obtain rfl : Value.slice A3 n3 c3 = v := by simpa using hv
    obtain rfl : x3 = zs := by simpa using hz
    exact ⟨A3, n3, c3, rfl, b3, h3.alloc _⟩
  | 3, hv, hz =>
    obtain rfl : Value.slice A4 n4 c4 = v := by simpa using hv
    obtain rfl : x4 = zs := by simpa using hz
    exact ⟨A4, n4, c4, rfl, b4, h4.alloc _⟩
  | i + 4, hv, hz => simp at hv
theorem rdl_dr {w : World} {A : Option Addr} {n : Nat} {xss : List (List Int)} (h : RdL w A n xss) : RdL w.drew A n xss := h
theorem rd_pair {w : World} {At : Option Addr} {nt ct : Nat} {F : List Int} {x : Int} (h : Rd w At nt (ints F)) (hn : nt ≤ 1000000000) (T I : Nat) : RdL ((w.alloc (.cells #[.int .i64 x] I)).alloc (.cells #[.slice At nt ct, .slice (some ⟨w.heap.size, 0, none⟩) 1 1] T)) (some ⟨w.heap.size + 1, 0, none⟩) 2 [F, [x]] := by
  have h1 := rdL2 (c3 := ct) (c4 := 1) (T := T) (h.below (below_new w (.cells #[.int .i64 x] I)) (Nat.le_refl _)) (own_rd (tmp_new w (.int .i64 x) I) : Rd _ _ 1 (ints [x])) hn (by omega)
  rw [World.size_alloc] at h1
  exact h1
theorem rd_fourR {w : World} {A2 A3 A4 : Option Addr} {n2 c2 n3 c3 n4 c4 T I : Nat} {x2 x3 x4 : List Int} {y : Int} (h2 : Rd w A2 n2 (ints x2)) (h3 : Rd w A3 n3 (ints x3)) (h4 : Rd w A4 n4 (ints x4)) (b2 : n2 ≤ 1000000000) (b3 : n3 ≤ 1000000000) (b4 : n4 ≤ 1000000000) :
    RdL ((w.alloc (.cells #[.int .i64 y] I)).alloc (.cells #[.slice (some ⟨w.heap.size, 0, none⟩) 1 1, .slice A2 n2 c2, .slice A3 n3 c3, .slice A4 n4 c4] T)) (some ⟨w.heap.size + 1, 0, none⟩) 4 [[y], x2, x3, x4] := by
  have hb := below_new w (.cells #[.int .i64 y] I)
  have h1 := rdL4 (c1 := 1) (c2 := c2) (c3 := c3) (c4 := c4) (T := T) (own_rd (tmp_new w (.int .i64 y) I) : Rd _ _ 1 (ints [y])) (h2.below hb (Nat.le_refl _)) (h3.below hb (Nat.le_refl _)) (h4.below hb (Nat.le_refl _)) (by omega) b2 b3 b4
  rw [World.size_alloc] at h1
  exact h1
theorem rd_fourL {w : World} {A1 A2 A4 : Option Addr} {n1 c1 n2 c2 n4 c4 T I : Nat} {x1 x2 x4 : List Int} {y : Int} (h1 : Rd w A1 n1 (ints x1)) (h2 : Rd w A2 n2 (ints x2)) (h4 : Rd w A4 n4 (ints x4)) (b1 : n1 ≤ 1000000000) (b2 : n2 ≤ 1000000000) (b4 : n4 ≤ 1000000000) :
    RdL ((w.alloc (.cells #[.int .i64 y] I)).alloc (.cells #[.slice A1 n1 c1, .slice A2 n2 c2, .slice (some ⟨w.heap.size, 0, none⟩) 1 1, .slice A4 n4 c4] T)) (some ⟨w.heap.size + 1, 0, none⟩) 4 [x1, x2, [y], x4] := by
  have hb := below_new w (.cells #[.int .i64 y] I)
  have h3 := rdL4 (c1 := c1) (c2 := c2) (c3 := 1) (c4 := c4) (T := T) (h1.below hb (Nat.le_refl _)) (h2.below hb (Nat.le_refl _)) (own_rd (tmp_new w (.int .i64 y) I) : Rd _ _ 1 (ints [y])) (h4.below hb (Nat.le_refl _)) b1 b2 (by omega) b4
  rw [World.size_alloc] at h3
  exact h3
theorem row_two {w w7 : World} {o o' : Obj} {A : Option Addr} {n c : Nat} {xs : List Int} (ho : w7.ownsRow ((w.alloc o).alloc o').drew.heap.size 2 1 (.slice A n c) n (ints xs)) (hb : Below ((w.alloc o).alloc o').drew.heap.size ((w.alloc o).alloc o').drew w7) : Row w w7 A n c xs := by
  have h7 := und1 hb
  have hs : w.heap.size ≤ ((w.alloc o).alloc o').heap.size := by simp; omega
  exact Row.of (own_base (base' := w.heap.size) ho hs) (((((Below.refl w.heap.size w).alloc (Nat.le_refl _) o)).alloc (by simp) o').trans (h7.mono hs))
/-- What the walk through the symbols has. -/
structure FS (w0 wr : World) (A : Option Addr) (m c : Nat) (us : List Value) (xss : List (List Int)) : Prop where
  out : OwnX wr A m c us xss
  lo : ∀ q, FX A m c us q → w0.heap.size ≤ q
  bel : Below w0.heap.size w0 wr
theorem FS.below {w0 wr w' : World} {A : Option Addr} {m c : Nat} {us : List Value} {xss : List (List Int)} (h : FS w0 wr A m c us xss) (hb : Below wr.heap.size wr w') : FS w0 w' A m c us xss := ⟨h.out.below hb, h.lo, h.bel.trans (hb.mono h.bel.size)⟩
theorem FS.put {w0 w w2 w4 : World} {A A4 A2 : Option Addr} {m c c4 n2 c2 : Nat} {ys : List Int} {us : List Value} {xss : List (List Int)} (h : FS w0 w A m c us xss) (hr : Row w w2 A2 n2 c2 ys) (hn : n2 ≤ 1000000000) (ho4 : w4.ownsRow 0 25 1 (.slice A4 (m + 1) c4) (m + 1) (us ++ [.slice A2 n2 c2])) (hc4 : Ch (Fo (.slice A m c)) w2 w4) (hf : ∀ q, Fo (.slice A4 (m + 1) c4) q → Fo (.slice A m c) q ∨ w2.heap.size ≤ q) : FS w0 w4 A4 (m + 1) c4 (us ++ [.slice A2 n2 c2]) (xss ++ [ys]) := by
  obtain ⟨h1, h2⟩ := h.out.put hr hn ho4 hc4 hf
  have hb := h.bel.trans (hr.bel.mono h.bel.size)
  exact ⟨h1, fun q hq => (h2 q hq).elim (h.lo q) (fun h3 => Nat.le_trans h.bel.size h3), below_ch hb hc4 (fun q hq => h.lo q (.inl hq)) hb.size⟩
theorem al_hfw {P Q : Nat → Prop} {w : World} {o : Obj} (h : ∀ q, P q → Q q ∨ (w.alloc o).heap.size ≤ q) : ∀ q, P q → Q q ∨ w.heap.size ≤ q := fun q hq => (h q hq).elim .inl (fun h2 => .inr (by simp at h2; omega))
theorem below_alq {w0 w : World} {o : Obj} (h : Below w0.heap.size w0 w) : Below w0.heap.size w0 (w.alloc o) := h.alloc h.size _
end Go.Proofs.Ytcpkhhammafchaa
/- NextContexts (program). Written by mk_nci.py. -/
namespace Go.Proofs.Ytcpkhhammafchaa
open Go.RowKit
set_option linter.unusedVariables false
set_option linter.unusedSimpArgs false
theorem win_no1 {m s : Int} {ls : List (List Int)} (h : ls.all (lenB m (s - 1)) = false ∨ rises ls = false) : winB m s ls = false := by
  unfold winB
  rcases h with h | h <;> simp [h]
end Go.Proofs.Ytcpkhhammafchaa
