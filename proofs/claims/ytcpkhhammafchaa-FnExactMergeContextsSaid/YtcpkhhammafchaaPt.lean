/- A word put to its place among rising ones (reference): l29Put, whatever the place. -/
import Derived.Test.YtcpkhhammafchaaGF
import Derived.Test.YtcpkhhammafchaaPm
namespace Go.Proofs.Ytcpkhhammafchaa
open Go.RowKit
set_option linter.unusedVariables false
set_option linter.unusedSimpArgs false
/-- What l29Put leaves. -/
def PutQ (w : World) (A : Option Addr) (n c : Nat) (us : List Value) (xss : List (List Int)) (u : Value) (ys : List Int) (e : Ending) (w' : World) : Prop :=
  (ys ∈ xss ∧ e = .returned (.slice A n c) ∧ ∃ m, w' = w.drewN m) ∨
  ∃ A' c' p, e = .returned (.slice A' (n + 1) c') ∧ p ≤ n ∧ putL xss ys = insAt xss p ys ∧ w'.ownsRow 0 25 1 (.slice A' (n + 1) c') (n + 1) (insAt us p u) ∧ Ch (Fo (.slice A n c)) w w' ∧ (∀ q, Fo (.slice A' (n + 1) c') q → Fo (.slice A n c) q ∨ w.heap.size ≤ q)
theorem ch_row_set {w w4 w5 : World} {A : Option Addr} {g n c c4 k : Nat} {u : Value} (hc : Ch (Fo (.slice A n c)) w w4) (hf : ∀ q, Fo (.slice (some ⟨g, 0, none⟩) (n + 1) c4) q → Fo (.slice A n c) q ∨ w.heap.size ≤ q) (h5 : w5 = w4.setCell ⟨g, k, none⟩ u) : Ch (Fo (.slice A n c)) w w5 := by
  subst h5
  have hs := ch_set w4 g k u
  exact ⟨hs.os.trans hc.os, hs.tape.trans hc.tape, hs.output.trans hc.output, Nat.le_trans hc.size hs.size, fun q hq hn => by
    have e : ¬ q = g := fun e => by
      rcases hf q (by simp [Fo, Value.ownBlock, e]) with h1 | h1
      · exact hn h1
      · omega
    rw [hs.block q (Nat.lt_of_lt_of_le hq hc.size) e, hc.block q hq hn]⟩
/-- How the search from the end has come to the place p. -/
def SeekP (xss : List (List Int)) (ys : List Int) (n p : Nat) : Prop := p ≤ n ∧ ∀ j x, xss[j]? = some x → p ≤ j → 0 < cmpL x ys
set_option maxHeartbeats 4000000 in
set_option maxRecDepth 100000 in
theorem l29Put_go (w : World) (A : Option Addr) (n c : Nat) (us : List Value) (xss : List (List Int)) (hx : OwnX w A n c us xss) (hn : n ≤ 1000000) (hri : Rises xss) (A2 : Option Addr) (n2 c2 : Nat) (ys : List Int) (hr : Rd w A2 n2 (ints ys)) (hn2 : n2 ≤ 1000000) :
    Calls Try.prog 76 #[.slice A n c, .slice A2 n2 c2] w (PutQ w A n c us xss (.slice A2 n2 c2) ys) := by
  have HL : Hid (xss.length = n) := Lib.hid hx.ownp.rdl.len
  have HRD := Lib.hid hx.ownp.rdl
  have HX := Lib.hid hx
  have HR := Lib.hid hr
  have HRI := Lib.hid hri
  have HUL : Hid (us.length = n) := Lib.hid (by simpa using hx.1.1)
  have hen : IntKind.i64.wrap ((n : Int) + 1 - 1) = (n : Int) := by rw [IntWalk.i64_in _ (by omega)]; omega
  have HEN := Lib.hid hen
  clear hx hr hri hen
  go_enter Try.func76, Try.ntmps76
  go_wp2_with fail
  go_loopw [5] (fun q wr => ∃ p : Nat, q = .int .i64 p ∧ Hid (SeekP xss ys n p) ∧ ∃ m, wr = w.drewN m) (fun q _ => (intOf q).toNat)
  case atStart => exact ⟨n, rfl, Lib.hid ⟨Nat.le_refl _, fun j x hj hp => by have := (List.getElem?_eq_some_iff.1 hj).1; have := HL.out; omega⟩, 0, rfl⟩
  case round =>
    as_aux_lemma =>
    obtain ⟨p, rfl, HS, m, rfl⟩ := hrel
    have hpn : p ≤ n := HS.out.1
    rcases Nat.eq_zero_or_pos p with hz | hp
    · subst hz
      have HPL : Hid (putL xss ys = insAt xss 0 ys) := Lib.hid (putL_ins (Nat.zero_le _) (fun j x _ h => by omega) (fun j x h1 h2 => HS.out.2 j x h1 h2))
      have HXC : Hid ((w.drewN m).ownsRow 0 25 1 (.slice A n c) n us) := Lib.hid HX.out.1
      have HCW : Hid (Ch (Fo (.slice A n c)) w (w.drewN m)) := Lib.hid (ch_drewN (Ch.refl _ _))
      generalize w.drewN m = w3 at *
      go_upto_region 7 with (at_builtin; go_must (refine wpList_app1O Try.eltS rfl _ _ rfl w3 0 A n c us (by rfl) HXC.out (.slice none 0 0) rfl (by rfl) (by omega) ?_); intro A4 c4 w4 ho4 hc4 hf4)
      obtain ⟨g, rfl⟩ : ∃ g, A4 = some ⟨g, 0, none⟩ := own_addr ho4 (Nat.succ_pos _)
      have HC4 := Lib.hid (HCW.out.trans hc4)
      have HF4 : Hid (∀ q, Fo (.slice (some ⟨g, 0, none⟩) (n + 1) c4) q → Fo (.slice A n c) q ∨ w.heap.size ≤ q) := Lib.hid (fun q hq => (hf4 q hq).elim .inl (fun h => .inr (Nat.le_trans HCW.out.size h)))
      have HO4 : Hid (w4.ownsRow 0 25 1 (.slice (some ⟨g, 0, none⟩) (n + 1) c4) (n + 1) (insAt us n (.slice none 0 0))) := Lib.hid (by rw [← ins_end HUL.out]; exact ho4)
      have hen := HEN.out
      clear ho4 hc4 hf4
      as_aux_lemma =>
      go_wp2_with fail
      go_loopw [7] (fun q wx => ∃ (k : Nat) (v : Value), q = .int .i64 k ∧ 0 ≤ k ∧ k ≤ n ∧ Hid (wx.ownsRow 0 25 1 (.slice (some ⟨g, 0, none⟩) (n + 1) c4) (n + 1) (insAt us k v)) ∧ Hid (Ch (Fo (.slice A n c)) w wx)) (fun q _ => (intOf q).toNat)
      case atStart => exact ⟨n, _, rfl, by omega, Nat.le_refl _, HO4.out |> Lib.hid, HC4⟩
      case round =>
        as_aux_lemma =>
        obtain ⟨k, v, rfl, hpk, hkn, HO, HC⟩ := hrel
        clear HO4 HC4
        have hi1 : (k : Int) < (n : Int) + 1 := by omega
        have hi2 : k < n + 1 := by omega
        obtain ⟨⟨vz, hcell⟩, hfr⟩ := own_cell0 HO.out (j := k) (by omega)
        by_cases hlt : 0 < k
        · have hlt' : (0 : Int) < (k : Int) := by omega
          obtain ⟨x, hx⟩ := get_some (xs := us) (k := k - 1) (by rw [HUL.out]; omega)
          have hxi : (insAt us k v)[k - 1]? = some x := by rw [ins_get (by omega) (by rw [HUL.out]; omega)]; exact hx
          obtain ⟨b, off, e1, hb, hcx⟩ := (own_rd HO.out).at_ hxi
          injection e1 with e1
          injection e1 with e1 e2
          subst e1 e2
          rw [Nat.zero_add] at hcx
          have hw1 : IntKind.i64.wrap ((k : Int) - 1) = ((k - 1 : Nat) : Int) := by rw [IntWalk.i64_in _ (by omega)]; omega
          have hj1 : k - 1 < n + 1 := by omega
          have hj2 : ((k - 1 : Nat) : Int) < (n : Int) + 1 := by omega
          have HXX := Lib.hid hx
          have HOX : Hid (∃ A5 n5 c5, x = .slice A5 n5 c5) := Lib.hid (by
            obtain ⟨y, hy⟩ := get_some (xs := xss) (k := k - 1) (by rw [HL.out]; omega)
            obtain ⟨A5, n5, c5, e5, _⟩ := HX.out.2.2.1 (k - 1) x y hx hy
            exact ⟨A5, n5, c5, e5⟩)
          obtain ⟨A5, n5, c5, rfl⟩ := HOX.out
          obtain ⟨p1, hp1⟩ : ∃ p1, p1 = k - 1 := ⟨_, rfl⟩
          rw [← hp1] at hw1 hj1 hj2 hcx
          have HP1 := Lib.hid hp1
          clear hx hxi hp1
          go_wp2_with fail
          go_roundw
          case rel => exact ⟨k - 1, .slice A5 n5 c5, by rw [← HP1.out], by omega, by omega, Lib.hid (by have h := own_put HO.out k (.slice A5 n5 c5); rw [ins_set (by omega) (by rw [HUL.out]; omega) HXX.out] at h; exact h), Lib.hid (ch_row_set HC.out HF4.out rfl)⟩
          case measure => have := HP1.out; simp [intOf]; omega
        · obtain rfl : 0 = k := by omega
          have hlt' : ¬ (0 : Int) < (0 : Int) := by omega
          go_wp2_with fail
          go_ret
          refine .inr ⟨_, c4, 0, rfl, by omega, HPL.out, ?_, ch_row_set HC.out HF4.out rfl, HF4.out⟩
          have h := own_put HO.out 0 (.slice A2 n2 c2)
          rw [ins_put (by rw [HUL.out]; omega)] at h
          exact h
    · obtain ⟨xs, hxs⟩ := get_some (xs := xss) (k := p - 1) (by rw [HL.out]; omega)
      obtain ⟨b, off, A', n', c', rfl, hbs, hc, hn', hr'⟩ := HRD.out.at_ hxs
      have hp' : (0 : Int) < (p : Int) := by omega
      have hw1 : IntKind.i64.wrap ((p : Int) - 1) = ((p - 1 : Nat) : Int) := by rw [IntWalk.i64_in _ (by omega)]; omega
      have hi1 : p - 1 < n := by omega
      have hi2 : ((p - 1 : Nat) : Int) < (n : Int) := by omega
      have HRX : Hid (Rd (w.drewN m) A' n' (ints xs)) := Lib.hid hr'
      have HRY : Hid (Rd (w.drewN m) A2 n2 (ints ys)) := Lib.hid HR.out
      have HXS := Lib.hid hxs
      obtain ⟨p1, hp1⟩ : ∃ p1, p1 = p - 1 := ⟨_, rfl⟩
      rw [← hp1] at hw1 hi1 hi2 hc
      have HP1 := Lib.hid hp1
      clear hxs hr' hp1
      have hcm : (w.drewN m).cell? ⟨b, off + p1, none⟩ = some (.slice A' n' c') := hc
      clear hc
      generalize hwm : w.drewN m = wm at *
      have HWM := Lib.hid hwm
      clear hwm
      go_wp2_with fail
      refine (l01Compare_any _ A' A2 n' c' n2 c2 xs ys HRX.out HRY.out hn' (by omega)).mono ?_
      rcases Int.lt_trichotomy (cmpL xs ys) 0 with hlt | heq | hgt
      · have hng : decide ((0 : Int) < cmpL xs ys) = false := decide_eq_false (by omega)
        have hne : ¬ (0 : Int) < cmpL xs ys := by omega
        have HNE : Hid (decide (xs = ys) = false) := Lib.hid (decide_eq_false (fun e => by rw [e, cmpL_self0] at hlt; omega))
        have HPL : Hid (putL xss ys = insAt xss p ys) := Lib.hid (putL_ins (by rw [HL.out]; omega) (fun j x h1 h2 => by
          rcases Nat.lt_or_ge j (p - 1) with h3 | h3
          · exact cmpL_tri (rises_lt HRI.out h1 HXS.out h3) hlt
          · obtain rfl : j = p - 1 := by omega
            rw [HXS.out] at h1; injection h1 with h1; subst h1; exact hlt) (fun j x h1 h2 => HS.out.2 j x h1 h2))
        clear hlt
        rintro e w2 ⟨rfl, m2, rfl⟩
        go_wp2_with fail
        refine (l00Same_any _ A' A2 n' c' n2 c2 xs ys (by have h := HRX.out; exact h) (by have h := HRY.out; exact h) hn' (by omega)).mono ?_
        rw [HNE.out]
        clear hng hne
        rintro e w3 ⟨rfl, m3, rfl⟩
        obtain ⟨w3, hw3⟩ : ∃ w3, w3 = (wm.drewN m2).drewN m3 := ⟨_, rfl⟩
        have HXC : Hid (w3.ownsRow 0 25 1 (.slice (some ⟨b, off, none⟩) n c) n us) := Lib.hid (by rw [hw3, ← HWM.out]; exact HX.out.1)
        have HCW : Hid (Ch (Fo (.slice (some ⟨b, off, none⟩) n c)) w w3) := Lib.hid (by rw [hw3, ← HWM.out]; exact ch_drewN (ch_drewN (ch_drewN (Ch.refl _ _))))
        rw [← hw3]
        clear hw3 hcm
        go_upto_region 7 with (at_builtin; go_must (refine wpList_app1O Try.eltS rfl _ _ rfl w3 0 (some ⟨b, off, none⟩) n c us (by rfl) HXC.out (.slice none 0 0) rfl (by rfl) (by omega) ?_); intro A4 c4 w4 ho4 hc4 hf4)
        obtain ⟨g, rfl⟩ : ∃ g, A4 = some ⟨g, 0, none⟩ := own_addr ho4 (Nat.succ_pos _)
        have HC4 := Lib.hid (HCW.out.trans hc4)
        have HF4 : Hid (∀ q, Fo (.slice (some ⟨g, 0, none⟩) (n + 1) c4) q → Fo (.slice (some ⟨b, off, none⟩) n c) q ∨ w.heap.size ≤ q) := Lib.hid (fun q hq => (hf4 q hq).elim .inl (fun h => .inr (Nat.le_trans HCW.out.size h)))
        have HO4 : Hid (w4.ownsRow 0 25 1 (.slice (some ⟨g, 0, none⟩) (n + 1) c4) (n + 1) (insAt us n (.slice none 0 0))) := Lib.hid (by rw [← ins_end HUL.out]; exact ho4)
        have hen := HEN.out
        clear ho4 hc4 hf4
        as_aux_lemma =>
        go_wp2_with fail
        go_loopw [7] (fun q wx => ∃ (k : Nat) (v : Value), q = .int .i64 k ∧ p ≤ k ∧ k ≤ n ∧ Hid (wx.ownsRow 0 25 1 (.slice (some ⟨g, 0, none⟩) (n + 1) c4) (n + 1) (insAt us k v)) ∧ Hid (Ch (Fo (.slice (some ⟨b, off, none⟩) n c)) w wx)) (fun q _ => (intOf q).toNat)
        case atStart => exact ⟨n, _, rfl, by omega, Nat.le_refl _, HO4.out |> Lib.hid, HC4⟩
        case round =>
          as_aux_lemma =>
          obtain ⟨k, v, rfl, hpk, hkn, HO, HC⟩ := hrel
          clear HO4 HC4
          have hi1 : (k : Int) < (n : Int) + 1 := by omega
          have hi2 : k < n + 1 := by omega
          obtain ⟨⟨vz, hcell⟩, hfr⟩ := own_cell0 HO.out (j := k) (by omega)
          by_cases hlt : p < k
          · have hlt' : ((p : Nat) : Int) < (k : Int) := by omega
            obtain ⟨x, hx⟩ := get_some (xs := us) (k := k - 1) (by rw [HUL.out]; omega)
            have hxi : (insAt us k v)[k - 1]? = some x := by rw [ins_get (by omega) (by rw [HUL.out]; omega)]; exact hx
            obtain ⟨b, off, e1, hb, hcx⟩ := (own_rd HO.out).at_ hxi
            injection e1 with e1
            injection e1 with e1 e2
            subst e1 e2
            rw [Nat.zero_add] at hcx
            have hw1 : IntKind.i64.wrap ((k : Int) - 1) = ((k - 1 : Nat) : Int) := by rw [IntWalk.i64_in _ (by omega)]; omega
            have hj1 : k - 1 < n + 1 := by omega
            have hj2 : ((k - 1 : Nat) : Int) < (n : Int) + 1 := by omega
            have HXX := Lib.hid hx
            have HOX : Hid (∃ A5 n5 c5, x = .slice A5 n5 c5) := Lib.hid (by
              obtain ⟨y, hy⟩ := get_some (xs := xss) (k := k - 1) (by rw [HL.out]; omega)
              obtain ⟨A5, n5, c5, e5, _⟩ := HX.out.2.2.1 (k - 1) x y hx hy
              exact ⟨A5, n5, c5, e5⟩)
            obtain ⟨A5, n5, c5, rfl⟩ := HOX.out
            obtain ⟨p1, hp1⟩ : ∃ p1, p1 = k - 1 := ⟨_, rfl⟩
            rw [← hp1] at hw1 hj1 hj2 hcx
            have HP1 := Lib.hid hp1
            clear hx hxi hp1
            go_wp2_with fail
            go_roundw
            case rel => exact ⟨k - 1, .slice A5 n5 c5, by rw [← HP1.out], by omega, by omega, Lib.hid (by have h := own_put HO.out k (.slice A5 n5 c5); rw [ins_set (by omega) (by rw [HUL.out]; omega) HXX.out] at h; exact h), Lib.hid (ch_row_set HC.out HF4.out rfl)⟩
            case measure => have := HP1.out; simp [intOf]; omega
          · obtain rfl : p = k := by omega
            have hlt' : ¬ ((p : Nat) : Int) < ((p : Nat) : Int) := by omega
            go_wp2_with fail
            go_ret
            refine .inr ⟨_, c4, p, rfl, by omega, HPL.out, ?_, ch_row_set HC.out HF4.out rfl, HF4.out⟩
            have h := own_put HO.out p (.slice A2 n2 c2)
            rw [ins_put (by rw [HUL.out]; omega)] at h
            exact h
      · have hxy : xs = ys := cmpL_zero.1 heq
        have HIN : Hid (ys ∈ xss) := Lib.hid (by rw [← hxy]; exact List.mem_of_getElem? HXS.out)
        have HEQ : Hid (decide (xs = ys) = true) := Lib.hid (decide_eq_true hxy)
        rw [heq]
        clear heq hxy
        rintro e w2 ⟨rfl, m2, rfl⟩
        go_wp2_with fail
        refine (l00Same_any _ A' A2 n' c' n2 c2 xs ys (by have h := HRX.out; exact h) (by have h := HRY.out; exact h) hn' (by omega)).mono ?_
        rw [HEQ.out]
        rintro e w3 ⟨rfl, m3, rfl⟩
        go_wp2_with fail
        go_ret
        refine .inl ⟨HIN.out, rfl, m + m2 + m3, ?_⟩
        simp only [← HWM.out, World.drewN_drewN, Nat.add_assoc]
      · have HGT := Lib.hid hgt
        rintro e w2 ⟨rfl, m2, rfl⟩
        go_wp2_with fail
        go_roundw
        case rel =>
          refine ⟨p1, rfl, Lib.hid ⟨by omega, fun j x h1 h2 => ?_⟩, m + m2, by rw [← HWM.out, World.drewN_drewN]⟩
          have hp1 := HP1.out
          rcases Nat.lt_or_ge j p with h3 | h3
          · obtain rfl : j = p - 1 := by omega
            rw [HXS.out] at h1; injection h1 with h1; subst h1; exact HGT.out
          · exact HS.out.2 j x h1 h3
        case measure => have := HP1.out; simp [intOf]; omega
end Go.Proofs.Ytcpkhhammafchaa
