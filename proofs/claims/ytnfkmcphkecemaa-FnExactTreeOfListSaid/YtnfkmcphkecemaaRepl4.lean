/- ReplacePart: the reference's function. -/
import Derived.Test.YtnfkmcphkecemaaRepl3
namespace Go.Proofs.Ytnfkmcphkecemaa
open Go.RowKit

def askRes (t : List Bool) (p : List Int) : Value :=
  if isTr t = true then (if pathOk p = true then (match pos (trOf t) p with | some k => .tuple #[.int .i64 k, .int .i64 0] | none => .tuple #[.int .i64 0, .int .i64 3]) else .tuple #[.int .i64 0, .int .i64 2]) else .tuple #[.int .i64 0, .int .i64 1]

set_option maxHeartbeats 800000 in
theorem l21Ask_any (w : World) (A : Option Addr) (n c : Nat) (t : List Bool) (hr : Rd w A n (bools t)) (hn : n ≤ 1000000000) (A' : Option Addr) (n' c' : Nat) (p : List Int) (hr' : Rd w A' n' (ints p)) (hn' : n' ≤ 1000000000) :
    Calls Try.prog 60 #[.slice A n c, .slice A' n' c'] w fun e w' => e = .returned (askRes t p) ∧ w = w' := by
  by_cases ha : isTr t = true
  · by_cases hp : pathOk p = true
    · obtain ⟨tt, rfl, htt⟩ := isTr_tree ha
      have hsz : n ≤ 2000 := by have := hr.1; simp [Tr.bits_len] at this; omega
      have hall : allIn p 0 1 = true := by simp only [pathOk, Bool.and_eq_true] at hp; exact hp.2
      have hp100 : n' ≤ 100 := by
        simp only [pathOk, Bool.and_eq_true, decide_eq_true_eq] at hp
        have := hr'.1; simp at this; omega
      rcases hpos : pos tt p with _ | k
      · have HA : Hid (askRes tt.bits p = .tuple #[.int .i64 0, .int .i64 3]) := Lib.hid (by simp [askRes, ha, hp, trOf_bits, hpos])
        have HP := Lib.hid hpos
        clear hpos
        go_enter Try.func60, Try.ntmps60
        go_wp2_with (first
          | (go_at_call 36; go_must (refine (l21Is_any _ _ _ _ _ hr (by omega)).mono ?_; rw [ha]; rintro e w' ⟨rfl, rfl⟩))
          | (go_at_call 75; go_must (refine (l21Path_any _ _ _ _ _ hr' (by omega)).mono ?_; rw [hp]; rintro e w' ⟨rfl, rfl⟩))
          | (go_at_call 76; go_must (refine (l21Go_any _ _ _ _ tt hr (by omega) _ _ _ p hr' (by omega) hall).mono ?_; rw [HP.out]; simp only [posRes]; rintro e w' ⟨rfl, rfl⟩)))
        go_ret2
        exact ⟨by rw [HA.out]; rfl, rfl⟩
      · have HA : Hid (askRes tt.bits p = .tuple #[.int .i64 k, .int .i64 0]) := Lib.hid (by simp [askRes, ha, hp, trOf_bits, hpos])
        have HP := Lib.hid hpos
        clear hpos
        go_enter Try.func60, Try.ntmps60
        go_wp2_with (first
          | (go_at_call 36; go_must (refine (l21Is_any _ _ _ _ _ hr (by omega)).mono ?_; rw [ha]; rintro e w' ⟨rfl, rfl⟩))
          | (go_at_call 75; go_must (refine (l21Path_any _ _ _ _ _ hr' (by omega)).mono ?_; rw [hp]; rintro e w' ⟨rfl, rfl⟩))
          | (go_at_call 76; go_must (refine (l21Go_any _ _ _ _ tt hr (by omega) _ _ _ p hr' (by omega) hall).mono ?_; rw [HP.out]; simp only [posRes]; rintro e w' ⟨rfl, rfl⟩)))
        go_ret2
        exact ⟨by rw [HA.out]; rfl, rfl⟩
    · have hp' : pathOk p = false := by simpa using hp
      have HA : Hid (askRes t p = .tuple #[.int .i64 0, .int .i64 2]) := Lib.hid (by simp [askRes, ha, hp'])
      clear hp
      go_enter Try.func60, Try.ntmps60
      go_wp2_with (first
        | (go_at_call 36; go_must (refine (l21Is_any _ _ _ _ _ hr (by omega)).mono ?_; rw [ha]; rintro e w' ⟨rfl, rfl⟩))
        | (go_at_call 75; go_must (refine (l21Path_any _ _ _ _ _ hr' (by omega)).mono ?_; rw [hp']; rintro e w' ⟨rfl, rfl⟩)))
      go_ret2
      exact ⟨by rw [HA.out]; rfl, rfl⟩
  · have ha' : isTr t = false := by simpa using ha
    have HA : Hid (askRes t p = .tuple #[.int .i64 0, .int .i64 1]) := Lib.hid (by simp [askRes, ha'])
    clear ha
    go_enter Try.func60, Try.ntmps60
    go_wp2_with (go_at_call 36; go_must (refine (l21Is_any _ _ _ _ _ hr (by omega)).mono ?_; rw [ha']; rintro e w' ⟨rfl, rfl⟩))
    go_ret2
    exact ⟨by rw [HA.out]; rfl, rfl⟩
set_option maxHeartbeats 400000 in
theorem l21Own_any (w : World) (A : Option Addr) (n c : Nat) (xs : List Bool) (hr : Rd w A n (bools xs)) (hn : n ≤ 1000000000) :
    Calls Try.prog 62 #[.slice A n c] w (RetS w 4 (bools xs)) := by
  have hown := own_lit w #[] 0 4 rfl (by omega)
  go_enter Try.func62, Try.ntmps62
  go_wp2_with (at_builtin; go_must (refine wpList_appS eltB rfl _ _ rfl (w.alloc (.cells #[] 4)) w.heap.size _ 0 _ (by rfl) hown _ n c (bools xs) (by rfl) (hr.alloc _) (bools_one _) (by simp) (by omega) ?_); rintro A1 c1 w1 hown1 hb1)
  go_ret
  simp only [Nat.zero_add, List.nil_append] at hown1
  exact ⟨A1, n, c1, rfl, hown1, (below_new _ _).trans hb1⟩
set_option maxHeartbeats 400000 in
theorem l21Fits_any (w : World) (base : Nat) (A : Option Addr) (n c : Nat) (t : Tr) (ho : w.ownsRow base 4 1 (.slice A n c) n (bools t.bits)) :
    Calls Try.prog 45 #[.slice A n c] w fun e w' => (∃ A n c, e = .returned (.tuple #[.slice A n c, .int .i64 (fitT t).2]) ∧ w'.ownsRow base 4 1 (.slice A n c) n (bools (fitT t).1)) ∧ w = w' := by
  have HL : Hid (t.nodes = n) := Lib.hid (by have := ho.1; simp [Tr.bits_len] at this; exact this)
  by_cases h : n ≤ 2000
  · have HF : Hid (fitT t = (t.bits, 0)) := Lib.hid (by simp [fitT, HL.out, h])
    go_enter Try.func45, Try.ntmps45
    go_wp2_with fail
    go_ret2
    rw [HF.out]
    exact ⟨⟨A, n, c, rfl, ho⟩, rfl⟩
  · have HF : Hid (fitT t = ([], 5)) := Lib.hid (by simp [fitT, HL.out, h])
    go_enter Try.func45, Try.ntmps45
    go_wp2_with fail
    go_ret2
    rw [HF.out]
    exact ⟨⟨none, 0, 0, rfl, own_nil _ _ _⟩, rfl⟩

set_option maxHeartbeats 1600000 in
theorem specReplacePart_any (w : World) (A0 : Option Addr) (n0 c0 : Nat) (t : List Bool) (h0 : Rd w A0 n0 (bools t)) (hn0 : n0 ≤ 1000000000) (hc0 : n0 ≤ c0) (A1 : Option Addr) (n1 c1 : Nat) (p : List Int) (h1 : Rd w A1 n1 (ints p)) (hn1 : n1 ≤ 1000000000) (A2 : Option Addr) (n2 c2 : Nat) (y : List Bool) (h2 : Rd w A2 n2 (bools y)) (hn2 : n2 ≤ 1000000000) :
    Calls Try.prog 31 #[.slice A0 n0 c0, .slice A1 n1 c1, .slice A2 n2 c2] w (RetSI w 4 (bools (repNum t p y).1) (repNum t p y).2) := by
  by_cases hy : isTr y = true
  · by_cases ht : isTr t = true
    · by_cases hp : pathOk p = true
      · obtain ⟨tt, rfl, htt⟩ := isTr_tree ht
        obtain ⟨yy, rfl, hyy⟩ := isTr_tree hy
        have haa : (isTr tt.bits && isTr yy.bits) = true := by simp [ht, hy]
        have hsz0 : n0 ≤ 2000 := by have := h0.1; simp [Tr.bits_len] at this; omega
        have hsz2 : n2 ≤ 2000 := by have := h2.1; simp [Tr.bits_len] at this; omega
        rcases hpos : pos tt p with _ | k
        · have HF := Lib.hid (rep_lost haa hp hpos)
          have HA : Hid (askRes tt.bits p = .tuple #[.int .i64 0, .int .i64 3]) := Lib.hid (by simp [askRes, ht, hp, trOf_bits, hpos])
          clear hpos haa htt hyy
          go_enter Try.func31, Try.ntmps31
          go_wp2_with (first
            | (go_at_call 36; go_must (refine (l21Is_any _ _ _ _ _ h2 (by omega)).mono ?_; rw [hy]; rintro e w' ⟨rfl, rfl⟩))
            | (go_at_call 60; go_must (refine (l21Ask_any _ _ _ _ _ h0 hn0 _ _ _ p h1 hn1).mono ?_; rw [HA.out]; rintro e w' ⟨rfl, rfl⟩)))
          go_ret2
          rw [HF.out]
          exact ⟨none, 0, 0, rfl, own_nil _ _ _, Below.refl _ _⟩
        · have HF := Lib.hid (rep_found haa hp hpos)
          have HA : Hid (askRes tt.bits p = .tuple #[.int .i64 k, .int .i64 0]) := Lib.hid (by simp [askRes, ht, hp, trOf_bits, hpos])
          obtain ⟨_, s, l, r, hs1, hs2, hs3⟩ := repl_some yy p tt k hpos
          have hlen : tt.bits.length = n0 := by simpa using h0.1
          have hkn : k ≤ n0 := by rw [← hlen, hs1]; simp; omega
          obtain ⟨he1, he2, he3⟩ := endAt_tree (bs := tt.bits) (k := k) (s := s) (r := r) (by rw [hs1, ← hs2]; simp) (by rw [hlen]; exact hkn)
          rw [hlen] at he2
          have HE1 := Lib.hid he1
          generalize hm : k + s.nodes = m at *
          have HT : Hid (tt.bits.take k = l) := Lib.hid (by rw [hs1, ← hs2]; simp)
          have HS3 := Lib.hid hs3
          obtain ⟨b, off, rfl, hbs, _⟩ := h0.at_ (k := 0) (u := .bool (tt.bits[0]'(by rw [tt.bits_len]; exact tt.nodes_pos))) (by simp)
          have hr1 : Rd w (some ⟨b, off, none⟩) k (bools l) := by
            have h := h0.take (k := k) hkn
            rw [← List.map_take, HT.out] at h
            exact h
          have hr3 : Rd w (some ⟨b, off + m, none⟩) (n0 - m) (bools r) := by
            have h := h0.drop (k := m)
            rw [← List.map_drop, he3] at h
            exact h
          clear hpos haa htt hyy hs1 hs3 he1 he3 hlen hs2 hm
          have g1 : (k : Int) ≤ (n0 : Int) := by omega
          have g2 : (m : Int) ≤ (n0 : Int) := by omega
          have g3 : (n0 : Int) ≤ (c0 : Int) := by omega
          have g4 : (k : Int) ≤ (c0 : Int) := by omega
          have g5 : (0 : Int) ≤ (k : Int) := by omega
          have g6 : (0 : Int) ≤ (m : Int) := by omega
          by_cases hcm : c0 = m
          · have hnm : n0 - m = 0 := by omega
            have hr4 : Rd w (some ⟨b, off, none⟩) 0 (bools r) := ⟨hr3.1.trans hnm, fun h => absurd h (by omega)⟩
            clear hnm
            subst hcm
            go_enter Try.func31, Try.ntmps31
            go_wp2_with (first
              | (go_at_call 36; go_must (refine (l21Is_any _ _ _ _ _ h2 (by omega)).mono ?_; rw [hy]; rintro e w' ⟨rfl, rfl⟩))
              | (go_at_call 60; go_must (refine (l21Ask_any _ _ _ _ _ h0 hn0 _ _ _ p h1 hn1).mono ?_; rw [HA.out]; rintro e w' ⟨rfl, rfl⟩))
              | (go_at_call 61; go_must (refine (l21End_any _ _ _ _ _ h0 (by omega) k hkn).mono ?_; rw [HE1.out]; rintro e w' ⟨rfl, rfl⟩)))
            refine (l21Own_any _ _ _ _ l hr1 (by omega)).mono ?_
            rintro e w2 ⟨A3, n3, c3, rfl, ho3, hb3⟩
            have hn3 : n3 ≤ 2000 := by have q1 := ho3.1; have q2 := hr1.1; simp at q1 q2; omega
            have HR4 := Lib.hid hr4
            have HBA := Lib.hid hb3
            clear hr4 hr3
            go_wp2_with (first
              | (at_builtin; refine wpList_appS eltB rfl _ _ rfl w2 w.heap.size _ n3 _ (by rfl) ho3 _ n2 c2 (bools yy.bits) (by rfl) (h2.below HBA.out (Nat.le_refl _)) (bools_one _) HBA.out.size (by omega) ?_; rintro A4 c4 w4 ho4 hb4; have HB4 := Lib.hid (HBA.out.trans hb4))
              | (at_builtin; go_must (refine wpList_appS eltB rfl _ _ rfl w4 w.heap.size _ (n3 + n2) _ (by rfl) ho4 _ _ _ (bools r) (by rfl) (HR4.out.below HB4.out (Nat.le_refl _)) (bools_one _) HB4.out.size (by omega) ?_; rintro A5 c5 w5 ho5 hb5; have HB5 := Lib.hid (HB4.out.trans hb5))))
            rw [← List.map_append, ← List.map_append, ← HS3.out] at ho5
            refine (l21Fits_any _ w.heap.size _ _ _ _ ho5).mono ?_
            rw [← HF.out]
            rintro e w6 ⟨⟨A6, n6, c6, rfl, ho6⟩, rfl⟩
            go_wp2_with fail
            go_ret2
            exact ⟨A6, n6, c6, rfl, ho6, HB5.out⟩
          · have hr4 := hr3
            go_enter Try.func31, Try.ntmps31
            go_wp2_with (first
              | (go_at_call 36; go_must (refine (l21Is_any _ _ _ _ _ h2 (by omega)).mono ?_; rw [hy]; rintro e w' ⟨rfl, rfl⟩))
              | (go_at_call 60; go_must (refine (l21Ask_any _ _ _ _ _ h0 hn0 _ _ _ p h1 hn1).mono ?_; rw [HA.out]; rintro e w' ⟨rfl, rfl⟩))
              | (go_at_call 61; go_must (refine (l21End_any _ _ _ _ _ h0 (by omega) k hkn).mono ?_; rw [HE1.out]; rintro e w' ⟨rfl, rfl⟩)))
            refine (l21Own_any _ _ _ _ l hr1 (by omega)).mono ?_
            rintro e w2 ⟨A3, n3, c3, rfl, ho3, hb3⟩
            have hn3 : n3 ≤ 2000 := by have q1 := ho3.1; have q2 := hr1.1; simp at q1 q2; omega
            have HR4 := Lib.hid hr4
            have HBA := Lib.hid hb3
            clear hr4 hr3
            go_wp2_with (first
              | (at_builtin; refine wpList_appS eltB rfl _ _ rfl w2 w.heap.size _ n3 _ (by rfl) ho3 _ n2 c2 (bools yy.bits) (by rfl) (h2.below HBA.out (Nat.le_refl _)) (bools_one _) HBA.out.size (by omega) ?_; rintro A4 c4 w4 ho4 hb4; have HB4 := Lib.hid (HBA.out.trans hb4))
              | (at_builtin; go_must (refine wpList_appS eltB rfl _ _ rfl w4 w.heap.size _ (n3 + n2) _ (by rfl) ho4 _ _ _ (bools r) (by rfl) (HR4.out.below HB4.out (Nat.le_refl _)) (bools_one _) HB4.out.size (by omega) ?_; rintro A5 c5 w5 ho5 hb5; have HB5 := Lib.hid (HB4.out.trans hb5))))
            rw [← List.map_append, ← List.map_append, ← HS3.out] at ho5
            refine (l21Fits_any _ w.heap.size _ _ _ _ ho5).mono ?_
            rw [← HF.out]
            rintro e w6 ⟨⟨A6, n6, c6, rfl, ho6⟩, rfl⟩
            go_wp2_with fail
            go_ret2
            exact ⟨A6, n6, c6, rfl, ho6, HB5.out⟩
      · have hp' : pathOk p = false := by simpa using hp
        have HF := Lib.hid (rep_path (t := t) (y := y) (by simp [ht, hy]) hp')
        have HA : Hid (askRes t p = .tuple #[.int .i64 0, .int .i64 2]) := Lib.hid (by simp [askRes, ht, hp'])
        clear hp
        go_enter Try.func31, Try.ntmps31
        go_wp2_with (first
          | (go_at_call 36; go_must (refine (l21Is_any _ _ _ _ _ h2 (by omega)).mono ?_; rw [hy]; rintro e w' ⟨rfl, rfl⟩))
          | (go_at_call 60; go_must (refine (l21Ask_any _ _ _ _ _ h0 hn0 _ _ _ p h1 hn1).mono ?_; rw [HA.out]; rintro e w' ⟨rfl, rfl⟩)))
        go_ret2
        rw [HF.out]
        exact ⟨none, 0, 0, rfl, own_nil _ _ _, Below.refl _ _⟩
    · have ht' : isTr t = false := by simpa using ht
      have HF := Lib.hid (rep_bad (t := t) (y := y) (p := p) (by simp [ht']))
      have HA : Hid (askRes t p = .tuple #[.int .i64 0, .int .i64 1]) := Lib.hid (by simp [askRes, ht'])
      clear ht
      go_enter Try.func31, Try.ntmps31
      go_wp2_with (first
        | (go_at_call 36; go_must (refine (l21Is_any _ _ _ _ _ h2 (by omega)).mono ?_; rw [hy]; rintro e w' ⟨rfl, rfl⟩))
        | (go_at_call 60; go_must (refine (l21Ask_any _ _ _ _ _ h0 hn0 _ _ _ p h1 hn1).mono ?_; rw [HA.out]; rintro e w' ⟨rfl, rfl⟩)))
      go_ret2
      rw [HF.out]
      exact ⟨none, 0, 0, rfl, own_nil _ _ _, Below.refl _ _⟩
  · have hy' : isTr y = false := by simpa using hy
    have HF := Lib.hid (rep_bad (t := t) (y := y) (p := p) (by simp [hy']))
    clear hy
    go_enter Try.func31, Try.ntmps31
    go_wp2_with (go_at_call 36; go_must (refine (l21Is_any _ _ _ _ _ h2 (by omega)).mono ?_; rw [hy']; rintro e w' ⟨rfl, rfl⟩))
    go_ret2
    rw [HF.out]
    exact ⟨none, 0, 0, rfl, own_nil _ _ _, Below.refl _ _⟩
end Go.Proofs.Ytnfkmcphkecemaa
