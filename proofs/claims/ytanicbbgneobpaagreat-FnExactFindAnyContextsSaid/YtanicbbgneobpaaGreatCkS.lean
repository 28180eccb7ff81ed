/- CheckContexts (reference): a context among others, the contexts that follow. -/
import Derived.Test.YtanicbbgneobpaaGreatCkM
import Derived.Test.YtanicbbgneobpaaGreatGL
import Derived.Test.YtanicbbgneobpaaGreatGI
namespace Go.Proofs.YtanicbbgneobpaaGreat
open Go.RowKit
set_option linter.unusedVariables false
set_option linter.unusedSimpArgs false
/-- The parts of a proof in memory. -/
structure SPt (w : World) (g : Nat) (m : Int) (A1 : Option Addr) (n1 c1 : Nat) (A2 : Option Addr) (n2 c2 : Nat) (A3 : Option Addr) (n3 c3 : Nat) (A4 : Option Addr) (n4 c4 : Nat) (ls ws cs : List (List Int)) (sts : List Int) : Prop where
  bs : BS w g m A1 n1 c1 A2 n2 c2 A3 n3 c3 A4 n4 c4
  r1 : RdL w A1 n1 ls
  r2 : RdL w A2 n2 ws
  r3 : RdL w A3 n3 cs
  r4 : Rd w A4 n4 (ints sts)
  b1 : n1 ≤ 1000000
  b2 : n2 ≤ 1000000
  b3 : n3 ≤ 1000000
  eq : sts.length = cs.length
  cp : ∀ (k b off : Nat) (A' : Option Addr) (n' c' : Nat), A3 = some ⟨b, off, none⟩ → k < n3 → w.cell? ⟨b, off + k, none⟩ = some (.slice A' n' c') → n' ≤ c'
section
variable {w w' : World} {g : Nat} {m : Int} {A1 A2 A3 A4 : Option Addr} {n1 c1 n2 c2 n3 c3 n4 c4 : Nat} {ls ws cs : List (List Int)} {sts : List Int}
theorem SPt.below (h : SPt w g m A1 n1 c1 A2 n2 c2 A3 n3 c3 A4 n4 c4 ls ws cs sts) (hb : Below w.heap.size w w') : SPt w' g m A1 n1 c1 A2 n2 c2 A3 n3 c3 A4 n4 c4 ls ws cs sts :=
  ⟨h.bs.bel hb, h.r1.below hb (Nat.le_refl _), h.r2.below hb (Nat.le_refl _), h.r3.below hb (Nat.le_refl _), h.r4.below hb (Nat.le_refl _), h.b1, h.b2, h.b3, h.eq, fun k b off A' n' c' he hk hc => by
    obtain ⟨y, hy⟩ := get_some (xs := cs) (k := k) (by rw [h.r3.len]; exact hk)
    obtain ⟨b', off', A5, n5, c5, e5, hl, hc5, _, _⟩ := h.r3.at_ hy
    have e6 : b = b' := by rw [e5] at he; injection he with he; injection he with h1 h2; exact h1.symm
    exact h.cp k b off A' n' c' he hk ((hb.cell (p := ⟨b, off + k, none⟩) (by rw [e6]; exact hl)).symm.trans hc)⟩
theorem SPt.n34 (h : SPt w g m A1 n1 c1 A2 n2 c2 A3 n3 c3 A4 n4 c4 ls ws cs sts) : n4 = n3 := by
  have h1 := h.r3.len
  have h2 := h.r4.1
  have h3 := h.eq
  simp at h2
  omega
end
set_option maxHeartbeats 4000000 in
theorem l29HasContext_any (w : World) (g : Nat) (m : Int) (A1 : Option Addr) (n1 c1 : Nat) (A2 : Option Addr) (n2 c2 : Nat) (A3 : Option Addr) (n3 c3 : Nat) (A4 : Option Addr) (n4 c4 : Nat) (ls ws cs : List (List Int)) (sts : List Int) (hp : SPt w g m A1 n1 c1 A2 n2 c2 A3 n3 c3 A4 n4 c4 ls ws cs sts) (st : Int) (A : Option Addr) (n c : Nat) (xs : List Int) (hr : Rd w A n (ints xs)) (hn : n ≤ 1000000000) :
    Calls Tryz.prog 31 #[.pointer (some ⟨g, 0, none⟩), .int .i64 st, .slice A n c] w (RetV w (.bool (decide ((st :: xs) ∈ stated sts cs)))) := by
  have HP := Lib.hid hp
  have HL3 := Lib.hid hp.r3.len
  have hn3 := hp.b3
  obtain rfl : n4 = n3 := hp.n34
  have HL4 : Hid (sts.length = n4) := Lib.hid (by have h := hp.r4.1; simpa using h)
  have HR := Lib.hid hr
  clear hp hr
  go_enter Tryz.func31, Tryz.ntmps31
  go_wp2_with fail
  go_loopw [7] (fun q wr => ∃ k : Nat, k ≤ n4 ∧ q = .int .i64 k ∧ Hid (∀ j, j < k → ¬ (sts[j]? = some st ∧ cs[j]? = some xs)) ∧ Below w.heap.size w wr) (fun q _ => n4 - (intOf q).toNat)
  case atStart => exact ⟨0, Nat.zero_le _, rfl, Lib.hid (fun j hj => by omega), Below.refl _ _⟩
  case round =>
    obtain ⟨k, hk, rfl, HK, hb⟩ := hrel
    have HB := Lib.hid hb
    have hbs := HP.out.bs.bel hb
    have q0 := blk_cell hbs 3 rfl
    have q1 := blk_cell hbs 4 rfl
    clear hb hbs
    by_cases hlt : k < n4
    · obtain ⟨x, hx⟩ := get_some (xs := sts) (k := k) (by rw [HL4.out]; omega)
      obtain ⟨y, hy⟩ := get_some (xs := cs) (k := k) (by rw [HL3.out]; omega)
      obtain ⟨b4, o4, e4, hl4, hc4⟩ := HP.out.r4.at_ (ints_get hx)
      obtain ⟨b3, o3, A5, n5, c5, e3, hl3, hc3, hn5, hr5⟩ := HP.out.r3.at_ hy
      subst e4 e3
      have p4 := (HB.out.cell (p := ⟨b4, o4 + k, none⟩) hl4).trans hc4
      have p3 := (HB.out.cell (p := ⟨b3, o3 + k, none⟩) hl3).trans hc3
      have HR5 := Lib.hid (hr5.below HB.out (Nat.le_refl _))
      have HX := Lib.hid hx; have HY := Lib.hid hy
      clear hx hy hc4 hc3 hr5
      by_cases hxs : x = st
      · subst hxs
        go_wp2_with fail
        refine (l00Same_any wr A5 A n5 c5 n c y xs HR5.out (HR.out.below HB.out (Nat.le_refl _)) hn5 hn).mono ?_
        rintro e w1 ⟨rfl, hw⟩
        have HB1 := Lib.hid (HB.out.trans ((drp_bel hw).mono HB.out.size))
        clear hw
        by_cases hys : y = xs
        · have hin : (x :: xs) ∈ stated sts cs := mem_stated.2 ⟨k, HX.out, by rw [← hys]; exact HY.out⟩
          have HIN := Lib.hid (decide_eq_true hin)
          rw [decide_eq_true hys]
          clear hin hys
          go_wp2_with fail
          go_ret
          exact ⟨by rw [HIN.out]; rfl, HB1.out⟩
        · have HYS := Lib.hid hys
          rw [decide_eq_false hys]
          clear hys
          go_wp2_with fail
          go_roundw
          case rel => exact ⟨k + 1, by omega, by go_num, Lib.hid (fun j hj h => by
            rcases Nat.lt_or_ge j k with h1 | h1
            · exact HK.out j h1 h
            · obtain rfl : j = k := by omega
              rw [HY.out] at h
              exact HYS.out (by simpa using h.2)), HB1.out⟩
          case measure => simp only [intOf]; omega
      · have HXS := Lib.hid hxs
        have hd : (x == st) = false := by simp [hxs]
        clear hxs
        go_wp2_with fail
        go_roundw
        case rel => exact ⟨k + 1, by omega, by go_num, Lib.hid (fun j hj h => by
          rcases Nat.lt_or_ge j k with h1 | h1
          · exact HK.out j h1 h
          · obtain rfl : j = k := by omega
            rw [HX.out] at h
            exact HXS.out (by simpa using h.1)), HB.out⟩
        case measure => simp only [intOf]; omega
    · have hin : ¬ (st :: xs) ∈ stated sts cs := fun h => by
        obtain ⟨i, h1, h2⟩ := mem_stated.1 h
        have h3 := (List.getElem?_eq_some_iff.1 h1).1
        exact HK.out i (by rw [HL4.out] at h3; omega) ⟨h1, h2⟩
      have HIN := Lib.hid (decide_eq_false hin)
      clear hin
      go_wp2_with fail
      go_ret
      exact ⟨by rw [HIN.out]; rfl, HB.out⟩
theorem l29Next_any (w : World) (g : Nat) (s : Nat) (t : Int) (A : Option Addr) (n c : Nat) (hm : BM w g s t A n c) (hs : s ≤ 6) (ra mv rc : Int) (hmv : mv = 1 ∨ mv = -1) (A1 : Option Addr) (n1 c1 h : Nat) (xs : List Int) (hr1 : Rd w A1 n1 (ints xs)) (hc1 : n1 ≤ c1) (hn1 : n1 = 2 * h + 1) (hh : 1 ≤ h ∧ h ≤ 4) (hsm : ∀ x ∈ xs, SmI x) (A2 : Option Addr) (n2 c2 : Nat) (ls ws : List (List Int)) (hr2 : RdL w A2 n2 (if mv = 1 then ws else ls)) (hn2 : n2 ≤ 1000000000) :
    Calls Tryz.prog 122 #[.pointer (some ⟨g, 0, none⟩), rulV ⟨ra, mv, rc⟩, .slice A1 n1 c1, .slice A2 n2 c2] w (RetP w (nextsOf s ⟨ra, mv, rc⟩ xs ls ws)) := by
  have hl1 : xs.length = 2 * h + 1 := by have h1 := hr1.1; simp at h1; omega
  rcases hmv with rfl | rfl
  · obtain ⟨f0, F, bh, P, Q, hF, hf0, hbh, hP, hQ, hg, hE⟩ := nexts_r (s := s) (ls := ls) (ws := ws) (ra := ra) (rc := rc) hl1 hh.1 hsm
    rw [hE]
    rw [if_pos rfl] at hr2
    exact l29Next_r w g s t A n c hm hs ra rc A1 n1 c1 h xs hr1 hc1 hn1 hh A2 n2 c2 ws hr2 hn2 f0 F bh P Q (by rw [drop_get hf0, ← hF]) (by rw [hbh, List.take_take, Nat.min_eq_left (by omega)]) hP hQ
  · obtain ⟨f0, F, bh, P, Q, hF, hf0, hbh, hP, hQ, hg, hE⟩ := nexts_l (s := s) (ls := ls) (ws := ws) (ra := ra) (rc := rc) hl1 hh.1 hsm
    rw [hE]
    rw [if_neg (by omega)] at hr2
    exact l29Next_l w g s t A n c hm hs ra rc A1 n1 c1 h xs hr1 hc1 hn1 hh A2 n2 c2 ls hr2 hn2 f0 F bh P Q (by rw [take0 hh.1 hf0, ← hF]) hbh hP hQ
end Go.Proofs.YtanicbbgneobpaaGreat
