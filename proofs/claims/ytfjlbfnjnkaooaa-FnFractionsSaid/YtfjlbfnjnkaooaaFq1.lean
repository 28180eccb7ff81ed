/- Programs of fractions (program): the divisor of two numbers, validity, lowest terms. Written by mk_fq1.py. -/
import Derived.Test.YtfjlbfnjnkaooaaFqM
import Derived.Test.YtfjlbfnjnkaooaaFoot
import Derived.Test.YtfjlbfnjnkaooaaCpy
namespace Go.Proofs.Ytfjlbfnjnkaooaa
open Go.RowKit
set_option linter.unusedSimpArgs false
set_option linter.unusedVariables false
abbrev frV (x : Fr) : Value := .agg #[.int .i64 (x.up : Int), .int .i64 (x.dn : Int)]
theorem all_stepF {α : Type} {p : α → Bool} {xs : List α} {k : Nat} {x : α} (h : (xs.take k).all p = true) (hx : xs[k]? = some x) (hp : p x = true) : (xs.take (k + 1)).all p = true := by
  rw [List.take_add_one, hx]
  simp only [List.all_append, Bool.and_eq_true]
  exact ⟨h, by simp [hp]⟩
theorem all_outF {α : Type} {p : α → Bool} {xs : List α} {k : Nat} {x : α} (hx : xs[k]? = some x) (hp : p x = false) : xs.all p = false := by
  obtain ⟨hk, rfl⟩ := List.getElem?_eq_some_iff.1 hx
  simp only [List.all_eq_false]
  exact ⟨_, List.getElem_mem hk, by simp [hp]⟩
theorem eltF : EltN Try.prog 24 39 (.agg #[.int .i64 0, .int .i64 0]) 2 := EltN.mk_ Try.underlying24 (b := 16) (by kernel_rfl) rfl (by omega) (by omega)
set_option maxHeartbeats 1000000 in
theorem gcd_any (w : World) (a b : Nat) (ha : a ≤ 1000000) (hb : b ≤ 1000000) : Calls Try.prog 33 #[.int .i64 a, .int .i64 b] w (RetV w (.int .i64 ((Nat.gcd a b : Nat) : Int))) := by
  go_enter Try.func33, Try.ntmps33
  go_wp2_with fail
  go_loopg [0, 1] b (fun V p q wr => ∃ U : Nat, p = .int .i64 U ∧ q = .int .i64 V ∧ U ≤ 1000000 ∧ V ≤ 1000000 ∧ Hid (Nat.gcd U V = Nat.gcd a b) ∧ Below w.heap.size w wr)
  case atStart => exact ⟨a, rfl, rfl, ha, hb, Lib.hid rfl, Below.refl _ _⟩
  case round =>
    obtain ⟨U, rfl, rfl, hU, hV, HG, hbel⟩ := hrel
    by_cases h0 : gk = 0
    · subst h0
      go_wp2_with fail
      go_ret
      have hg := HG.out
      rw [Nat.gcd_zero_right] at hg
      exact ⟨by rw [← hg]; rfl, hbel⟩
    · have h0' : ¬ (gk : Int) = 0 := by omega
      have ht : Int.tmod (U : Int) (gk : Int) = ((U % gk : Nat) : Int) := by rw [Int.tmod_eq_emod_of_nonneg (by omega)]; rfl
      have hm : U % gk < gk := Nat.mod_lt _ (by omega)
      go_wp2_with fail
      go_region
      go_wp2_with fail
      go_roundg (U % gk)
      case measure => exact hm
      case rel => exact ⟨gk, rfl, by first | rfl | (rw [ht]), hV, by omega, Lib.hid (by rw [← HG.out, Nat.gcd_comm U gk, Nat.gcd_rec gk U, Nat.gcd_comm]), by first | exact hbel.drew | exact hbel⟩
def okFb (x : Fr) : Bool := inB (x.up : Int) 1 999999 && inB (x.dn : Int) 1 999999
theorem okF_b {x : Fr} (h : okF x) : okFb x = true := by
  obtain ⟨h1, h2, h3, h4⟩ := h
  simp only [okFb, inB, Bool.and_eq_true, decide_eq_true_eq]
  omega
theorem okFs_all {fs : List Fr} (h : OkFs fs) : fs.all okFb = true := List.all_eq_true.2 fun x hx => okF_b (h.all x hx)
set_option maxHeartbeats 400000 in
theorem validFractions1_any (w : World) (x : Fr) : Calls Try.prog 68 #[frV x] w fun e w' => e = .returned (.bool (!okFb x)) ∧ Below w.heap.size w w' := by
  obtain ⟨a, b⟩ := x
  have HG : Hid (okFb ⟨a, b⟩ = (inB (a : Int) 1 999999 && inB (b : Int) 1 999999)) := Lib.hid rfl
  cases h1 : inB (a : Int) 1 999999 with
  | true =>
    cases h2 : inB (b : Int) 1 999999 with
    | true =>
      have H1 := Lib.hid h1; have H2 := Lib.hid h2; clear h1 h2
      go_enter Try.func68, Try.ntmps68
      go_wp2_with fail
      refine (within_any _ _ _ _).mono ?_
      rw [H1.out]; rintro e w' ⟨rfl, rfl⟩
      go_wp2_with fail
      refine (within_any _ _ _ _).mono ?_
      rw [H2.out]; rintro e w' ⟨rfl, rfl⟩
      go_wp2_with fail
      go_ret
      exact ⟨by rw [HG.out, H1.out, H2.out]; rfl, below_new _ _⟩
    | false =>
      have H1 := Lib.hid h1; have H2 := Lib.hid h2; clear h1 h2
      go_enter Try.func68, Try.ntmps68
      go_wp2_with fail
      refine (within_any _ _ _ _).mono ?_
      rw [H1.out]; rintro e w' ⟨rfl, rfl⟩
      go_wp2_with fail
      refine (within_any _ _ _ _).mono ?_
      rw [H2.out]; rintro e w' ⟨rfl, rfl⟩
      go_wp2_with fail
      go_ret
      exact ⟨by rw [HG.out, H1.out, H2.out]; rfl, below_new _ _⟩
  | false =>
    have H1 := Lib.hid h1; clear h1
    go_enter Try.func68, Try.ntmps68
    go_wp2_with fail
    refine (within_any _ _ _ _).mono ?_
    rw [H1.out]; rintro e w' ⟨rfl, rfl⟩
    go_wp2_with fail
    go_ret
    exact ⟨by rw [HG.out, H1.out]; rfl, below_new _ _⟩
/-- The index that a search returns: not negative just where something was found. -/
def FoundN (w : World) (bad : Bool) (e : Ending) (w' : World) : Prop := ∃ i : Int, e = .returned (.int .i64 i) ∧ decide (0 ≤ i) = bad ∧ Below w.heap.size w w'
set_option maxHeartbeats 1000000 in
theorem indexFuncVF (w : World) (A : Option Addr) (n c : Nat) (ps : List Fr) (hr : Rd w A (n * 2) (ints (flatF ps))) (hn : n ≤ 1099511627776) :
    Calls Try.prog 91 #[.slice A n c, .func (.func 68) #[] #[]] w (FoundN w (!ps.all okFb)) := by
  have HL : Hid (ps.length = n) := Lib.hid (by have := hr.1; simp [flatF_len] at this; omega)
  go_enter Try.func91, Try.ntmps91
  go_wp2_with fail
  go_loopw [8] (fun q wr => ∃ k : Nat, k ≤ n ∧ q = .int .i64 k ∧ Hid ((ps.take k).all okFb = true) ∧ Below w.heap.size w wr) (fun q _ => n - (intOf q).toNat)
  case atStart => exact ⟨0, Nat.zero_le _, rfl, Lib.hid (by simp), Below.refl _ _⟩
  case round =>
    obtain ⟨k, hk, rfl, hall, hb⟩ := hrel
    by_cases h1 : k < n
    · obtain ⟨x, hx⟩ := get_some (xs := ps) (k := k) (by rw [HL.out]; omega)
      obtain ⟨b, off, rfl, hbs, q0, q1⟩ := rdF hr hx
      replace q0 := (hb.cell (p := ⟨b, off + k * 2, none⟩) hbs).trans q0
      replace q1 := (hb.cell (p := ⟨b, off + k * 2 + 1, none⟩) hbs).trans q1
      have HX := Lib.hid hx
      clear hx
      by_cases hin : okFb x = true
      · go_wp2_with (go_at_call 68; refine (validFractions1_any _ x).mono ?_; rintro e w' ⟨rfl, hb2⟩)
        go_roundw
        case rel => exact ⟨k + 1, by omega, by go_num, Lib.hid (all_stepF hall.out HX.out hin), hb.trans (hb2.mono hb.size)⟩
        case measure => simp [intOf]; omega
      · have hin' : okFb x = false := by simpa using hin
        clear hin
        go_wp2_with (go_at_call 68; refine (validFractions1_any _ x).mono ?_; rintro e w' ⟨rfl, hb2⟩)
        go_ret
        exact ⟨k, rfl, by rw [all_outF HX.out hin']; simp, hb.trans (hb2.mono hb.size)⟩
    · go_wp2_with fail
      go_ret
      have h := hall.out
      rw [List.take_of_length_le (by rw [HL.out]; omega)] at h
      exact ⟨-1, rfl, by rw [h]; rfl, hb⟩
set_option maxHeartbeats 400000 in
theorem containsFuncVF (w : World) (A : Option Addr) (n c : Nat) (ps : List Fr) (hr : Rd w A (n * 2) (ints (flatF ps))) (hn : n ≤ 1099511627776) :
    Calls Try.prog 67 #[.slice A n c, .func (.func 68) #[] #[]] w (RetV w (.bool (!ps.all okFb))) := by
  go_enter Try.func67, Try.ntmps67
  go_wp2_with fail
  refine (indexFuncVF _ _ _ _ _ hr hn).mono ?_
  rintro e w' ⟨i, rfl, hi, hb⟩
  have HI := Lib.hid hi; clear hi
  go_wp2_with fail
  go_ret
  exact ⟨by rw [← HI.out]; rfl, hb⟩

set_option maxHeartbeats 400000 in
theorem sizeFr_any (w : World) (A : Option Addr) (n c : Nat) (hn : n ≤ 1099511627776) : Calls Try.prog 66 #[.slice A n c] w fun e w' => e = .returned (.int .i64 (n : Int)) ∧ w = w' := by
  go_enter Try.func66, Try.ntmps66
  go_wp2_with fail
  go_ret
  exact ⟨rfl, rfl⟩
set_option maxHeartbeats 1000000 in
theorem ValidFractions_ok (w : World) (A : Option Addr) (n c : Nat) (fs : List Fr) (hr : Rd w A (n * 2) (ints (flatF fs))) (h : OkFs fs) : Calls Try.prog 32 #[.slice A n c] w (RetV w (.bool true)) := by
  have HL : Hid (fs.length = n) := Lib.hid (by have := hr.1; simp [flatF_len] at this; omega)
  have hn1 : n ≤ 100 := by have := h.len; have := HL.out; omega
  have H1 : Hid (inB (n : Int) 1 100 = true) := Lib.hid (by have := h.one; have := HL.out; simp [inB]; omega)
  have H2 := Lib.hid (okFs_all h)
  clear h
  go_enter Try.func32, Try.ntmps32
  go_wp2_with fail
  refine (sizeFr_any _ _ _ _ (by omega)).mono ?_
  rintro e w' ⟨rfl, rfl⟩
  go_wp2_with fail
  refine (within_any _ _ _ _).mono ?_
  rw [H1.out]; rintro e w' ⟨rfl, rfl⟩
  go_wp2_with fail
  refine (containsFuncVF _ _ _ _ _ hr (by omega)).mono ?_
  rw [H2.out]; rintro e w' ⟨rfl, hb⟩
  go_wp2_with fail
  go_ret
  exact ⟨rfl, hb⟩
end Go.Proofs.Ytfjlbfnjnkaooaa
