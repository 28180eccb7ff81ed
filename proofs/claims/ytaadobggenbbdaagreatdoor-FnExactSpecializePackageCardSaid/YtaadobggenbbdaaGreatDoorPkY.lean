/- Which variables a program has (reference): the list, the test. -/
import Derived.Test.YtaadobggenbbdaaGreatDoorPkX
namespace Go.Proofs.YtaadobggenbbdaaGreatDoor
open Go.RowKit
set_option linter.unusedVariables false
set_option linter.unusedSimpArgs false
attribute [local go_sem ↓] Go.wp_at_zero Go.wp_at_succ
theorem okC_each : ∀ (f : Nat) (cs : List Cmd), cs.length ≤ f → okC cs = true → ∀ x ∈ cs, wfE x.e = true ∧ (x.k = 0 ∨ (x.k = 1 ∧ x.v = 0))
  | _, [], _, _, x, hx => by simp at hx
  | 0, y :: r, hl, _, _, _ => by simp at hl
  | f + 1, y :: r, hl, h, x, hx => by
    rw [okC_cons] at h
    simp only [Bool.and_eq_true] at h
    obtain ⟨h1, h2⟩ := h
    simp only [List.length_cons] at hl
    by_cases k0 : y.k = 0
    · rw [if_pos k0] at h2
      simp only [Bool.and_eq_true] at h2
      rcases List.mem_cons.1 hx with rfl | hx
      · exact ⟨h1, .inl k0⟩
      · exact okC_each f r (by omega) h2.2 x hx
    · rw [if_neg k0] at h2
      by_cases k1 : y.k = 1
      · rw [if_pos k1] at h2
        simp only [Bool.and_eq_true, beq_iff_eq] at h2
        obtain ⟨⟨⟨h3, _⟩, h4⟩, h5⟩ := h2
        rcases List.mem_cons.1 hx with rfl | hx
        · exact ⟨h1, .inr ⟨k1, h3⟩⟩
        · rw [← List.take_append_drop y.l.toNat r] at hx
          rcases List.mem_append.1 hx with hx | hx
          · exact okC_each f _ (by rw [List.length_take]; omega) h4 x hx
          · exact okC_each f _ (by rw [List.length_drop]; omega) h5 x hx
      · rw [if_neg k1] at h2; cases h2
theorem okEl_no {e : El} (h : okEl e = true) (h1 : e.1 ≠ 1) : e.2 = 0 := by
  simp only [okEl, Bool.and_eq_true, Bool.or_eq_true, beq_iff_eq] at h
  rcases h.2 with h | h
  · exact absurd h h1
  · exact h
def z2 (e : El) : Bool := e.2 == 0
theorem only0_z2 (es : List El) : only0 es = es.all z2 := rfl
theorem all_snoc {α : Type} {p : α → Bool} {xs : List α} {k : Nat} {x : α} (h : xs[k]? = some x) : (xs.take (k + 1)).all p = ((xs.take k).all p && p x) := by
  rw [List.take_add_one, h]; simp
def VarP (w : World) (cs : List Cmd) (e : Ending) (w' : World) : Prop := ∃ A n c xs, e = .returned (.tuple #[.slice A n c, .int .i64 0]) ∧ w'.ownsRow w.heap.size 2 1 (.slice A n c) n (ints xs) ∧ Zs xs (ozW cs) ∧ n ≤ 1000000 ∧ Below w.heap.size w w'
set_option maxHeartbeats 8000000 in
set_option maxRecDepth 100000 in
theorem WhileVariables_any (w : World) (A : Option Addr) (n c : Nat) (cs : List Cmd) (hr : RdC w A n cs) (hv : isW cs = true) : Calls Tryz.prog 65 #[.slice A n c] w (VarP w cs) := by
  have hok := isW_ok hv
  have hl := hr.len
  have hn : n ≤ 80 := by omega
  have H1 := l22IsX_any w A n c cs hr (by omega)
  rw [hv] at H1
  replace H1 := Lib.hid H1
  have HE := Lib.hid (okC_each cs.length cs (Nat.le_refl _) hok.2)
  have HL := Lib.hid hl; have HR := Lib.hid hr; have HN := Lib.hid hn
  clear hv hok hl hr
  go_enter Tryz.func65, Tryz.ntmps65
  go_upto_region 3 with (go_at_call 33; refine H1.out.mono ?_; rintro e w1 ⟨rfl, hb1⟩; have HB1 := Lib.hid hb1; clear hb1)
  obtain ⟨w2, hw2⟩ : ∃ w2, w2 = w1.alloc (.cells #[] 2) := ⟨_, rfl⟩
  have HB2 : Hid (Below w.heap.size w w2) := Lib.hid (by rw [hw2]; exact HB1.out.alloc HB1.out.size _)
  have HO2 : Hid (w2.ownsRow w.heap.size 2 1 (.slice (some ⟨w1.heap.size, 0, none⟩) 0 0) 0 (ints [])) := Lib.hid (by rw [hw2]; exact own_base (own_lit w1 #[] 0 2 rfl (by omega)) HB1.out.size)
  go_upto_region 4 with fail
  rw [← hw2]
  clear hw2
  go_wp2_with fail
  go_loopw [4, 5] (fun o q wr => ∃ (i : Nat) (A1 : Option Addr) (n1 c1 : Nat) (ys : List Int), i ≤ n ∧ q = .int .i64 i ∧ o = .slice A1 n1 c1 ∧ Hid (wr.ownsRow w.heap.size 2 1 (.slice A1 n1 c1) n1 (ints ys)) ∧ Hid (Zs ys ((cs.take i).all ozC)) ∧ Hid (n1 ≤ 41 * i) ∧ Hid (Below w.heap.size w wr)) (fun _ q _ => n - (intOf q).toNat)
  case atStart => exact ⟨0, _, _, _, [], Nat.zero_le _, by go_num, rfl, HO2, Lib.hid ⟨fun _ => .inl rfl, fun h => by simp at h⟩, Lib.hid (by omega), HB2⟩
  case round =>
    clear HO2 HB2
    obtain ⟨i, A1, n1, c1, ys, hi, rfl, rfl, HO, HZ, HNN, HB⟩ := hrel
    by_cases hlt : i < n
    · skip
      obtain ⟨x, hx⟩ := get_some (xs := cs) (k := i) (by rw [HL.out]; exact hlt)
      obtain ⟨hwf, hkk⟩ := HE.out x (List.mem_of_getElem? hx)
      obtain ⟨ex, -, -, hel, hal⟩ := wfE_ex hwf
      obtain ⟨b, off, A', n', c', rfl, hbl, q0, q1, q2, q3, hn', hc', hre⟩ := HR.out.at_ hx
      have HT : Hid ((cs.take (i + 1)).all ozC = ((cs.take i).all ozC && ozC x)) := Lib.hid (all_snoc hx)
      have HRE := Lib.hid hre
      have HEL : Hid (x.e.length = n' ∧ n' ≤ 40) := Lib.hid ⟨rdE_len hre, by have := rdE_len hre; omega⟩
      have HAL := Lib.hid hal
      have HBL := Lib.hid hbl
      have HQ := Lib.hid (And.intro q0 (And.intro q1 q3))
      clear hx hwf ex hel hal hre hn' hc' q0 q1 q2 q3
      obtain ⟨xk, xv, xl, xe⟩ := x
      simp only at HQ hkk HEL HAL HRE
      have hi0 : (0 : Int) ≤ (i : Int) := by omega
      have hi1 : (i : Int) < (n : Int) := by omega
      have hn80 := HN.out
      obtain ⟨B0, hB0⟩ : ∃ B0, B0 = ((cs.take i).all ozC && (xv == 0)) := ⟨_, rfl⟩
      have HB0 := Lib.hid hB0
      clear hB0
      have HQW := Lib.hid (fun (wx : World) (hb : Below w.heap.size w wx) => (show wx.cell? ⟨b, off + i * 4, none⟩ = some (.int .i64 xk) ∧ wx.cell? ⟨b, off + i * 4 + 1, none⟩ = some (.int .i64 xv) ∧ wx.cell? ⟨b, off + i * 4 + 3, none⟩ = some (.slice A' n' c') from ⟨(hb.cell (p := ⟨b, off + i * 4, none⟩) HBL.out).trans HQ.out.1, (hb.cell (p := ⟨b, off + i * 4 + 1, none⟩) HBL.out).trans HQ.out.2.1, (hb.cell (p := ⟨b, off + i * 4 + 3, none⟩) HBL.out).trans HQ.out.2.2⟩))
      obtain ⟨q0, q1, q3⟩ := HQW.out wr HB.out
      rcases hkk with hk0 | ⟨hk1, hv0⟩
      · skip
        subst hk0
        have HPT := Lib.hid (l00Put_any wr A1 n1 c1 ys (own_rd HO.out) (by have := HNN.out; omega) xv)
        go_wp2_with (go_at_call 93
                     refine HPT.out.mono ?_
                     rintro e w4 ⟨A4, n4, c4, rfl, ho4, hb4⟩
                     have hn4 : n4 ≤ 41 * i + 1 := by
                       have h1 := ho4.1
                       have h2 := putGo_len xv false ys
                       have h3 := HO.out.1
                       have h4 := HNN.out
                       simp only [List.length_map, Nat.mul_one] at h1 h3
                       omega
                     have HN4 := Lib.hid hn4
                     have HO4 := Lib.hid (own_base ho4 HB.out.size)
                     have HZ4 : Hid (Zs (putGo xv false ys) B0) := Lib.hid (by rw [HB0.out]; exact HZ.out.put xv)
                     have HB4 : Hid (Below w.heap.size w w4) := Lib.hid (bqcP hb4 HB.out)
                     clear ho4 hb4 hn4 q0 q1 q3)
        go_loopw [4, 6] (fun o q wr => ∃ (k : Nat) (A5 : Option Addr) (n5 c5 : Nat) (us : List Int), k ≤ n' ∧ q = .int .i64 k ∧ o = .slice A5 n5 c5 ∧ Hid (wr.ownsRow w.heap.size 2 1 (.slice A5 n5 c5) n5 (ints us)) ∧ Hid (Zs us (B0 && (xe.take k).all z2)) ∧ Hid (n5 ≤ 41 * i + 1 + k) ∧ Hid (Below w.heap.size w wr)) (fun _ q _ => n' - (intOf q).toNat)
        case atStart => exact ⟨0, _, _, _, _, Nat.zero_le _, by go_num, rfl, HO4, Lib.hid (by simpa using HZ4.out), HN4, HB4⟩
        case round =>
          clear HO4 HZ4 HN4 HB4
          rename_i wr0
          obtain ⟨k, A5, n5, c5, us, hk, rfl, rfl, HO5, HZ5, HN5, HB5⟩ := hrel
          obtain ⟨q0, q1, q3⟩ := HQW.out _ HB5.out
          by_cases hlk : k < n'
          · skip
            obtain ⟨y, hy⟩ := get_some (xs := xe) (k := k) (by rw [HEL.out.1]; exact hlk)
            obtain ⟨b2, off2, hA2, hbl2, r0, r1⟩ := rdE (HRE.out.below HB5.out (Nat.le_refl _)) hy
            subst hA2
            have HOY := Lib.hid (List.all_eq_true.1 HAL.out y (List.mem_of_getElem? hy))
            have HTY : Hid ((xe.take (k + 1)).all z2 = ((xe.take k).all z2 && z2 y)) := Lib.hid (all_snoc hy)
            obtain ⟨yk, yv⟩ := y
            simp only at r0 r1
            have hk0 : (0 : Int) ≤ (k : Int) := by omega
            have hk1 : (k : Int) < (n' : Int) := by omega
            have hn40 := HEL.out.2
            clear hy
            by_cases hyk : yk = 1
            · skip
              subst hyk
              have HPT := Lib.hid (l00Put_any _ A5 n5 c5 us (own_rd HO5.out) (by have := HN5.out; omega) yv)
              go_wp2_with (go_at_call 93
                           refine HPT.out.mono ?_
                           rintro e w6 ⟨A6, n6, c6, rfl, ho6, hb6⟩
                           have hn6 : n6 ≤ 41 * i + 1 + (k + 1) := by
                             have h1 := ho6.1
                             have h2 := putGo_len yv false us
                             have h3 := HO5.out.1
                             have h4 := HN5.out
                             simp only [List.length_map, Nat.mul_one] at h1 h3
                             omega
                           have HN6 := Lib.hid hn6
                           have HO6 := Lib.hid (own_base ho6 HB5.out.size)
                           have HZ6 : Hid (Zs (putGo yv false us) (B0 && (xe.take (k + 1)).all z2)) := Lib.hid (by rw [HTY.out, ← Bool.and_assoc]; exact HZ5.out.put yv)
                           have HB6 : Hid (Below w.heap.size w w6) := Lib.hid (bqcP hb6 HB5.out)
                           clear ho6 hb6 hn6 q0 q1 q3 r0 r1)
              go_roundw
              case rel => exact ⟨k + 1, A6, n6, c6, _, by omega, by go_num, rfl, HO6, HZ6, HN6, HB6⟩
              case measure => simp [intOf]; omega
            · skip
              have hyq : (yk == 1) = false := by rw [beq_eq_false_iff_ne]; exact hyk
              have HZ6 : Hid (Zs us (B0 && (xe.take (k + 1)).all z2)) := Lib.hid (by
                have h1 : z2 (yk, yv) = true := by
                  have h2 := okEl_no HOY.out hyk
                  simp only at h2
                  simp [z2, h2]
                rw [HTY.out, h1, Bool.and_true]; exact HZ5.out)
              clear hyk
              go_wp2_with fail
              go_roundw
              case rel => exact ⟨k + 1, A5, n5, c5, us, by omega, by go_num, rfl, HO5, HZ6, Lib.hid (by have := HN5.out; omega), HB5⟩
              case measure => simp [intOf]; omega
          · skip
            have hkn : k = n' := by omega
            subst hkn
            have HZ7 : Hid (Zs us ((cs.take (i + 1)).all ozC)) := Lib.hid (by
              have h1 := HZ5.out
              rw [List.take_of_length_le (by rw [HEL.out.1]; omega), ← only0_z2] at h1
              rw [HT.out]
              rw [HB0.out, Bool.and_assoc] at h1
              exact h1)
            have HN7 : Hid (n5 ≤ 41 * (i + 1)) := Lib.hid (by have h1 := HN5.out; have h2 := HEL.out.2; omega)
            go_wp2_with fail
            go_roundw
            case rel => exact ⟨i + 1, A5, n5, c5, us, by omega, by go_num, rfl, HO5, HZ7, HN7, HB5⟩
            case measure => simp [intOf]; omega
      · skip
        subst hk1 hv0
        obtain ⟨w4, hw4⟩ : ∃ w4, w4 = wr := ⟨_, rfl⟩
        obtain ⟨A4, n4, c4, zs, e1, e2, e3, HO4, HZ4, HN4, HB4⟩ : ∃ A4 n4 c4 zs, A4 = A1 ∧ n4 = n1 ∧ c4 = c1 ∧ Hid (w4.ownsRow w.heap.size 2 1 (.slice A4 n4 c4) n4 (ints zs)) ∧ Hid (Zs zs B0) ∧ Hid (n4 ≤ 41 * i + 1) ∧ Hid (Below w.heap.size w w4) := ⟨A1, n1, c1, ys, rfl, rfl, rfl, Lib.hid (by rw [hw4]; exact HO.out), Lib.hid (by rw [HB0.out]; simpa using HZ.out), Lib.hid (by have := HNN.out; omega), Lib.hid (by rw [hw4]; exact HB.out)⟩
        rw [← e1, ← e2, ← e3]
        go_wp2_with fail
        rw [← hw4]
        clear hw4 e1 e2 e3 q0 q1 q3
        go_loopw [4, 6] (fun o q wr => ∃ (k : Nat) (A5 : Option Addr) (n5 c5 : Nat) (us : List Int), k ≤ n' ∧ q = .int .i64 k ∧ o = .slice A5 n5 c5 ∧ Hid (wr.ownsRow w.heap.size 2 1 (.slice A5 n5 c5) n5 (ints us)) ∧ Hid (Zs us (B0 && (xe.take k).all z2)) ∧ Hid (n5 ≤ 41 * i + 1 + k) ∧ Hid (Below w.heap.size w wr)) (fun _ q _ => n' - (intOf q).toNat)
        case atStart => exact ⟨0, _, _, _, _, Nat.zero_le _, by go_num, rfl, HO4, Lib.hid (by simpa using HZ4.out), HN4, HB4⟩
        case round =>
          clear HO4 HZ4 HN4 HB4
          rename_i wr0
          obtain ⟨k, A5, n5, c5, us, hk, rfl, rfl, HO5, HZ5, HN5, HB5⟩ := hrel
          obtain ⟨q0, q1, q3⟩ := HQW.out _ HB5.out
          by_cases hlk : k < n'
          · skip
            obtain ⟨y, hy⟩ := get_some (xs := xe) (k := k) (by rw [HEL.out.1]; exact hlk)
            obtain ⟨b2, off2, hA2, hbl2, r0, r1⟩ := rdE (HRE.out.below HB5.out (Nat.le_refl _)) hy
            subst hA2
            have HOY := Lib.hid (List.all_eq_true.1 HAL.out y (List.mem_of_getElem? hy))
            have HTY : Hid ((xe.take (k + 1)).all z2 = ((xe.take k).all z2 && z2 y)) := Lib.hid (all_snoc hy)
            obtain ⟨yk, yv⟩ := y
            simp only at r0 r1
            have hk0 : (0 : Int) ≤ (k : Int) := by omega
            have hk1 : (k : Int) < (n' : Int) := by omega
            have hn40 := HEL.out.2
            clear hy
            by_cases hyk : yk = 1
            · skip
              subst hyk
              have HPT := Lib.hid (l00Put_any _ A5 n5 c5 us (own_rd HO5.out) (by have := HN5.out; omega) yv)
              go_wp2_with (go_at_call 93
                           refine HPT.out.mono ?_
                           rintro e w6 ⟨A6, n6, c6, rfl, ho6, hb6⟩
                           have hn6 : n6 ≤ 41 * i + 1 + (k + 1) := by
                             have h1 := ho6.1
                             have h2 := putGo_len yv false us
                             have h3 := HO5.out.1
                             have h4 := HN5.out
                             simp only [List.length_map, Nat.mul_one] at h1 h3
                             omega
                           have HN6 := Lib.hid hn6
                           have HO6 := Lib.hid (own_base ho6 HB5.out.size)
                           have HZ6 : Hid (Zs (putGo yv false us) (B0 && (xe.take (k + 1)).all z2)) := Lib.hid (by rw [HTY.out, ← Bool.and_assoc]; exact HZ5.out.put yv)
                           have HB6 : Hid (Below w.heap.size w w6) := Lib.hid (bqcP hb6 HB5.out)
                           clear ho6 hb6 hn6 q0 q1 q3 r0 r1)
              go_roundw
              case rel => exact ⟨k + 1, A6, n6, c6, _, by omega, by go_num, rfl, HO6, HZ6, HN6, HB6⟩
              case measure => simp [intOf]; omega
            · skip
              have hyq : (yk == 1) = false := by rw [beq_eq_false_iff_ne]; exact hyk
              have HZ6 : Hid (Zs us (B0 && (xe.take (k + 1)).all z2)) := Lib.hid (by
                have h1 : z2 (yk, yv) = true := by
                  have h2 := okEl_no HOY.out hyk
                  simp only at h2
                  simp [z2, h2]
                rw [HTY.out, h1, Bool.and_true]; exact HZ5.out)
              clear hyk
              go_wp2_with fail
              go_roundw
              case rel => exact ⟨k + 1, A5, n5, c5, us, by omega, by go_num, rfl, HO5, HZ6, Lib.hid (by have := HN5.out; omega), HB5⟩
              case measure => simp [intOf]; omega
          · skip
            have hkn : k = n' := by omega
            subst hkn
            have HZ7 : Hid (Zs us ((cs.take (i + 1)).all ozC)) := Lib.hid (by
              have h1 := HZ5.out
              rw [List.take_of_length_le (by rw [HEL.out.1]; omega), ← only0_z2] at h1
              rw [HT.out]
              rw [HB0.out, Bool.and_assoc] at h1
              exact h1)
            have HN7 : Hid (n5 ≤ 41 * (i + 1)) := Lib.hid (by have h1 := HN5.out; have h2 := HEL.out.2; omega)
            go_wp2_with fail
            go_roundw
            case rel => exact ⟨i + 1, A5, n5, c5, us, by omega, by go_num, rfl, HO5, HZ7, HN7, HB5⟩
            case measure => simp [intOf]; omega
    · skip
      have hin : i = n := by omega
      subst hin
      have HEE : Hid ((cs.take i).all ozC = ozW cs) := Lib.hid (by rw [List.take_of_length_le (by rw [HL.out]; omega)]; rfl)
      go_wp2_with fail
      go_ret2
      have h1 := HZ.out
      rw [HEE.out] at h1
      exact ⟨A1, n1, c1, ys, rfl, HO.out, h1, by have := HNN.out; omega, HB.out⟩
end Go.Proofs.YtaadobggenbbdaaGreatDoor
