/- Expressions: whether they are valid, and whether no other variable than 0 occurs. Partly written by mk_exv.py. -/
import Derived.Test.YtilbgbibddjdcaaExW
namespace Go.Proofs.Ytilbgbibddjdcaa
open Go.RowKit
set_option linter.unusedVariables false
set_option linter.unusedSimpArgs false
theorem all_step {α : Type} {p : α → Bool} {xs : List α} {k : Nat} {x : α} (h : (xs.take k).all p = true) (hx : xs[k]? = some x) (hp : p x = true) : (xs.take (k + 1)).all p = true := by
  rw [List.take_add_one, hx]
  simp only [List.all_append, Bool.and_eq_true]
  exact ⟨h, by simp [hp]⟩
theorem all_out {α : Type} {p : α → Bool} {xs : List α} {k : Nat} {x : α} (hx : xs[k]? = some x) (hp : p x = false) : xs.all p = false := by
  obtain ⟨hk, rfl⟩ := List.getElem?_eq_some_iff.1 hx
  simp only [List.all_eq_false]
  exact ⟨_, List.getElem_mem hk, by simp [hp]⟩
/-- The index that a search returns: not negative just where something was found. -/
def FoundN (w : World) (bad : Bool) (e : Ending) (w' : World) : Prop := ∃ i : Int, e = .returned (.int .i64 i) ∧ decide (0 ≤ i) = bad ∧ Below w.heap.size w w'

theorem wfE_bad {es : List El} {k : Nat} {x : El} (hx : es[k]? = some x) (h : okEl x = false) : wfE es = false := by
  simp [wfE, all_out hx h]
theorem wfE_len {es : List El} (h : ¬ (1 ≤ es.length ∧ es.length ≤ 40)) : wfE es = false := by simp [wfE, h]
theorem wfE_early {es : List El} {k : Nat} (hk : k < es.length) (h : scanE es 1 = scanE (es.drop k) 0) : wfE es = false := by
  have h2 : scanE (es.drop k) 0 = some (es.drop k) := by cases es.drop k <;> rfl
  have h3 : es.drop k ≠ [] := by intro e; have := congrArg List.length e; simp at this; omega
  simp [wfE, h, h2, h3]
theorem wfE_end {es : List El} {o : Nat} (hl : 1 ≤ es.length ∧ es.length ≤ 40) (hall : es.all okEl = true) (h : scanE es 1 = scanE [] o) : wfE es = decide (o = 0) := by
  rcases o with _ | o
  · simp [wfE, hl, hall, h, scanE]
  · simp [wfE, hl, hall, h, scanE]
theorem okEl_kind {k v : Int} (h : inB k 0 5 = false) : okEl (k, v) = false := by simp [okEl, h]
theorem okEl_var {v : Int} (h : inB v 0 5 = false) : okEl (1, v) = false := by simp [okEl, h]
theorem okEl_one {v : Int} (h : inB v 0 5 = true) : okEl (1, v) = true := by simp only [okEl, h]; rfl
theorem okEl_oth {k v : Int} (h1 : k ≠ 1) (h : v ≠ 0) : okEl (k, v) = false := by simp [okEl, h1, h]
theorem okEl_zero {k : Int} (h : inB k 0 5 = true) : okEl (k, 0) = true := by simp [okEl, h]; decide
theorem scanE_step' {es : List El} {k o : Nat} {x : El} (h : es[k]? = some x) (ho : 0 < o) : scanE (es.drop k) o = scanE (es.drop (k + 1)) (o - 1 + fol x) := by
  obtain ⟨m, rfl⟩ : ∃ m, o = m + 1 := ⟨o - 1, by omega⟩
  exact scanE_step h
set_option maxHeartbeats 4000000 in
set_option maxRecDepth 100000 in
theorem l22Expr_any (w : World) (A : Option Addr) (n c : Nat) (es : List El) (hr : RdE w A n es) (hn : n ≤ 1000000000) : Calls Try.prog 75 #[.slice A n c] w fun e w' => e = .returned (.bool (wfE es)) ∧ w = w' := by
  have HL : Hid (es.length = n) := Lib.hid (rdE_len hr)
  by_cases h0 : 1 ≤ n
  · by_cases h40 : n ≤ 40
    · have a1 : ¬ (n : Int) < 1 := by omega
      have a2 : ¬ (40 : Int) < (n : Int) := by omega
      go_enter Try.func75, Try.ntmps75
      go_wp2_with fail
      go_loop [3, 4] (fun p q => ∃ k o : Nat, k ≤ n ∧ o ≤ 2 * k + 1 ∧ q = .int .i64 k ∧ p = .int .i64 o ∧ Hid (scanE es 1 = scanE (es.drop k) o) ∧ Hid ((es.take k).all okEl = true)) (fun _ q => n - (intOf q).toNat)
      case atStart => exact ⟨0, 1, by omega, by omega, rfl, rfl, Lib.hid (by simp), Lib.hid (by simp)⟩
      case round =>
        obtain ⟨k, o, hk, ho, rfl, rfl, HS, HA⟩ := hrel
        by_cases hlt : k < n
        · have hlt' : (k : Int) < (n : Int) := by omega
          obtain ⟨x, hx⟩ := get_some (xs := es) (k := k) (by rw [HL.out]; exact hlt)
          obtain ⟨b, off, rfl, hbs, q0, q1⟩ := rdE hr hx
          rcases Nat.eq_zero_or_pos o with rfl | hop
          · have HW := Lib.hid (wfE_early (by rw [HL.out]; exact hlt) HS.out)
            clear hx
            go_wp2_with fail
            go_ret
            exact ⟨by rw [HW.out]; rfl, rfl⟩
          · have ho1 : ((o : Int) == 0) = false := by simp; omega
            have HX := Lib.hid hx
            have HG := Lib.hid (scanE_step' hx hop)
            have hf := fol_le x
            obtain ⟨x1, x2⟩ := x
            clear hx
            cases hk5 : inB x1 0 5 with
            | false =>
              have HI := Lib.hid hk5
              have HW := Lib.hid (wfE_bad HX.out (okEl_kind hk5))
              clear hk5
              go_wp2_with (go_at_call 111; go_must (refine (l00In_any _ _ _ _).mono ?_; rw [HI.out]; rintro e w' ⟨rfl, rfl⟩))
              go_ret
              exact ⟨by rw [HW.out]; rfl, rfl⟩
            | true =>
              have HI := Lib.hid hk5
              clear hk5
              by_cases h1 : x1 = 1
              · subst h1
                cases hv5 : inB x2 0 5 with
                | false =>
                  have HV := Lib.hid hv5
                  have HW := Lib.hid (wfE_bad HX.out (okEl_var hv5))
                  clear hv5
                  go_wp2_with (go_at_call 111; go_must (refine (l00In_any _ _ _ _).mono ?_; first | (rw [HI.out]; rintro e w' ⟨rfl, rfl⟩) | (rw [HV.out]; rintro e w' ⟨rfl, rfl⟩)))
                  go_ret
                  exact ⟨by rw [HW.out]; rfl, rfl⟩
                | true =>
                  have HV := Lib.hid hv5
                  have HO := Lib.hid (okEl_one hv5)
                  have HF : Hid (fol (1, x2) = 0) := Lib.hid rfl
                  clear hv5
                  go_wp2_with (first
                    | (go_at_call 111; go_must (refine (l00In_any _ _ _ _).mono ?_; first | (rw [HI.out]; rintro e w' ⟨rfl, rfl⟩) | (rw [HV.out]; rintro e w' ⟨rfl, rfl⟩)))
                    | (go_at_call 112; go_must (refine (l22Many_any _ _ x2).mono ?_; rw [HF.out]; rintro e w' ⟨rfl, rfl⟩)))
                  go_round
                  case rel => exact ⟨k + 1, o - 1, by omega, by omega, by go_num, by rw [show ((o : Int) + -1) = ((o - 1 : Nat) : Int) by omega], Lib.hid (by rw [HS.out, HG.out, HF.out]; rfl), Lib.hid (all_step HA.out HX.out HO.out)⟩
                  case measure => simp [intOf]; omega
              · have b1 : (x1 == 1) = false := by simpa using h1
                have b1' : (x1 != 1) = true := by simpa using h1
                have b1'' : decide (x1 = 1) = false := by simpa using h1
                by_cases h2 : x2 = 0
                · subst h2
                  have HO := Lib.hid (okEl_zero HI.out)
                  generalize hfx : fol (x1, 0) = f at HG hf
                  have HF := Lib.hid hfx
                  clear hfx
                  go_wp2_with (first
                    | (go_at_call 111; go_must (refine (l00In_any _ _ _ _).mono ?_; rw [HI.out]; rintro e w' ⟨rfl, rfl⟩))
                    | (go_at_call 112; go_must (refine (l22Many_any _ _ 0).mono ?_; rw [HF.out]; rintro e w' ⟨rfl, rfl⟩)))
                  go_round
                  case rel => exact ⟨k + 1, o - 1 + f, by omega, by omega, by go_num, by rw [show ((o : Int) + ((f : Int) - 1)) = ((o - 1 + f : Nat) : Int) by omega], Lib.hid (by rw [HS.out, HG.out]), Lib.hid (all_step HA.out HX.out HO.out)⟩
                  case measure => simp [intOf]; omega
                · have b2 : (x2 == 0) = false := by simpa using h2
                  have b2' : (x2 != 0) = true := by simpa using h2
                  have HW := Lib.hid (wfE_bad HX.out (okEl_oth h1 h2))
                  go_wp2_with (go_at_call 111; go_must (refine (l00In_any _ _ _ _).mono ?_; rw [HI.out]; rintro e w' ⟨rfl, rfl⟩))
                  go_ret
                  exact ⟨by rw [HW.out]; rfl, rfl⟩
        · obtain rfl : k = n := by omega
          have HW := Lib.hid (wfE_end (es := es) (o := o) (by rw [HL.out]; omega) (by have := HA.out; rwa [List.take_of_length_le (by rw [HL.out]; omega)] at this) (by have := HS.out; rwa [List.drop_of_length_le (by rw [HL.out]; omega)] at this))
          rcases Nat.eq_zero_or_pos o with rfl | hop
          · go_wp2_with fail
            go_ret
            exact ⟨by rw [HW.out]; rfl, rfl⟩
          · have ho1 : ((o : Int) == 0) = false := by simp; omega
            have hd : decide (o = 0) = false := by simp; omega
            rw [hd] at HW
            clear hd
            go_wp2_with fail
            go_ret
            exact ⟨by rw [HW.out]; rfl, rfl⟩
    · have a2 : (40 : Int) < (n : Int) := by omega
      have HW := Lib.hid (wfE_len (es := es) (by rw [HL.out]; omega))
      go_enter Try.func75, Try.ntmps75
      go_wp2_with fail
      go_ret
      exact ⟨by rw [HW.out]; rfl, rfl⟩
  · have a1 : (n : Int) < 1 := by omega
    have HW := Lib.hid (wfE_len (es := es) (by rw [HL.out]; omega))
    go_enter Try.func75, Try.ntmps75
    go_wp2_with fail
    go_ret
    exact ⟨by rw [HW.out]; rfl, rfl⟩
set_option maxHeartbeats 800000 in
theorem l23Only_any (w : World) (A : Option Addr) (n c : Nat) (es : List El) (hr : RdE w A n es) (hn : n ≤ 1000000000) : Calls Try.prog 76 #[.slice A n c] w fun e w' => e = .returned (.bool (only0 es)) ∧ w = w' := by
  have HL : Hid (es.length = n) := Lib.hid (rdE_len hr)
  go_enter Try.func76, Try.ntmps76
  go_wp2_with fail
  go_loop [3] (fun q => ∃ k : Nat, k ≤ n ∧ q = .int .i64 k ∧ Hid ((es.take k).all (fun x => x.2 == 0) = true)) (fun q => n - (intOf q).toNat)
  case atStart => exact ⟨0, by omega, rfl, Lib.hid (by simp)⟩
  case round =>
    obtain ⟨k, hk, rfl, HA⟩ := hrel
    by_cases hlt : k < n
    · obtain ⟨x, hx⟩ := get_some (xs := es) (k := k) (by rw [HL.out]; exact hlt)
      obtain ⟨b, off, rfl, hbs, q0, q1⟩ := rdE hr hx
      have HX := Lib.hid hx
      clear hx
      obtain ⟨x1, x2⟩ := x
      by_cases h2 : x2 = 0
      · subst h2
        go_wp2_with fail
        go_round
        case rel => exact ⟨k + 1, by omega, by go_num, Lib.hid (all_step HA.out HX.out rfl)⟩
        case measure => simp [intOf]; omega
      · have b2 : (x2 == 0) = false := by simpa using h2
        have HW : Hid (only0 es = false) := Lib.hid (by show es.all (fun x => x.2 == 0) = false; exact all_out HX.out b2)
        clear h2
        go_wp2_with fail
        go_ret
        exact ⟨by rw [HW.out]; rfl, rfl⟩
    · have HW : Hid (only0 es = true) := Lib.hid (by have := HA.out; rwa [List.take_of_length_le (by rw [HL.out]; omega)] at this)
      go_wp2_with fail
      go_ret
      exact ⟨by rw [HW.out]; rfl, rfl⟩
set_option maxHeartbeats 400000 in
theorem onlyZero1_any (w : World) (k v : Int) : Calls Try.prog 122 #[.agg #[.int .i64 k, .int .i64 v]] w fun e w' => e = .returned (.bool (!(fun x : El => x.2 == 0) (k, v))) ∧ Below w.heap.size w w' := by
  go_enter Try.func122, Try.ntmps122
  go_wp2_with fail
  go_ret
  exact ⟨by cases h : (v == 0) <;> simp_all, below_new _ _⟩
def isZ (x : El) : Bool := x.2 == 0
theorem onlyZero1_x (w : World) (x : El) : Calls Try.prog 122 #[.agg #[.int .i64 x.1, .int .i64 x.2]] w fun e w' => e = .returned (.bool (!isZ x)) ∧ Below w.heap.size w w' := onlyZero1_any w x.1 x.2
set_option maxHeartbeats 1000000 in
theorem indexFuncOZ (w : World) (A : Option Addr) (n c : Nat) (ps : List El) (hr : RdE w A n ps) (hn : n ≤ 1000000000) :
    Calls Try.prog 145 #[.slice A n c, .func (.func 122) #[] #[]] w (FoundN w (!ps.all isZ)) := by
  have HL : Hid (ps.length = n) := Lib.hid (rdE_len hr)
  go_enter Try.func145, Try.ntmps145
  go_wp2_with fail
  go_loopw [8] (fun q wr => ∃ k : Nat, k ≤ n ∧ q = .int .i64 k ∧ Hid ((ps.take k).all isZ = true) ∧ Below w.heap.size w wr) (fun q _ => n - (intOf q).toNat)
  case atStart => exact ⟨0, Nat.zero_le _, rfl, Lib.hid (by simp), Below.refl _ _⟩
  case round =>
    obtain ⟨k, hk, rfl, hall, hb⟩ := hrel
    by_cases h1 : k < n
    · obtain ⟨x, hx⟩ := get_some (xs := ps) (k := k) (by rw [HL.out]; omega)
      obtain ⟨b, off, rfl, hbs, q0, q1⟩ := rdE hr hx
      replace q0 := (hb.cell (p := ⟨b, off + k * 2, none⟩) hbs).trans q0
      replace q1 := (hb.cell (p := ⟨b, off + k * 2 + 1, none⟩) hbs).trans q1
      have HX := Lib.hid hx
      clear hx
      by_cases hin : isZ x = true
      · go_wp2_with (go_at_call 122; refine (onlyZero1_x _ x).mono ?_; rintro e w' ⟨rfl, hb2⟩)
        go_roundw
        case rel => exact ⟨k + 1, by omega, by go_num, Lib.hid (all_step hall.out HX.out hin), hb.trans (hb2.mono hb.size)⟩
        case measure => simp [intOf]; omega
      · have hin' : isZ x = false := by simpa using hin
        clear hin
        go_wp2_with (go_at_call 122; refine (onlyZero1_x _ x).mono ?_; rintro e w' ⟨rfl, hb2⟩)
        go_ret
        exact ⟨k, rfl, by rw [all_out HX.out hin']; simp, hb.trans (hb2.mono hb.size)⟩
    · go_wp2_with fail
      go_ret
      have h := hall.out
      rw [List.take_of_length_le (by rw [HL.out]; omega)] at h
      exact ⟨-1, rfl, by rw [h]; rfl, hb⟩
set_option maxHeartbeats 400000 in
theorem containsFuncOZ (w : World) (A : Option Addr) (n c : Nat) (ps : List El) (hr : RdE w A n ps) (hn : n ≤ 1000000000) :
    Calls Try.prog 121 #[.slice A n c, .func (.func 122) #[] #[]] w (RetV w (.bool (!ps.all isZ))) := by
  go_enter Try.func121, Try.ntmps121
  go_wp2_with fail
  refine (indexFuncOZ _ _ _ _ _ hr hn).mono ?_
  rintro e w' ⟨i, rfl, hi, hb⟩
  have HI := Lib.hid hi; clear hi
  go_wp2_with fail
  go_ret
  exact ⟨by rw [← HI.out]; rfl, hb⟩

set_option maxHeartbeats 400000 in
theorem onlyZero_any (w : World) (A : Option Addr) (n c : Nat) (es : List El) (hr : RdE w A n es) (hn : n ≤ 1000000000) : Calls Try.prog 81 #[.slice A n c] w (RetV w (.bool (only0 es))) := by
  go_enter Try.func81, Try.ntmps81
  go_wp2_with fail
  refine (containsFuncOZ _ _ _ _ _ hr hn).mono ?_
  rintro e w' ⟨rfl, hb⟩
  go_wp2_with fail
  go_ret
  exact ⟨by simp [only0]; rfl, hb⟩
end Go.Proofs.Ytilbgbibddjdcaa
