/- Which variables a program has (reference). -/
import Derived.Test.YtaadobggenbbdaaGreatDoorPkW
namespace Go.Proofs.YtaadobggenbbdaaGreatDoor
open Go.RowKit
set_option linter.unusedVariables false
set_option linter.unusedSimpArgs false
attribute [local go_sem ↓] Go.wp_at_zero Go.wp_at_succ
theorem eltI0 : Elt Tryz.prog 88 2 (.int .i64 0) := Elt.mk_ (b := 8) Tryz.underlying88 (by kernel_rfl) rfl (by decide)
def putGo (v : Int) : Bool → List Int → List Int
  | d, [] => if d then [] else [v]
  | true, x :: r => x :: putGo v true r
  | false, x :: r => if v ≤ x then (if v < x then v :: x :: putGo v true r else x :: putGo v true r) else x :: putGo v false r
theorem putGo_len (v : Int) : ∀ (d : Bool) (xs : List Int), (putGo v d xs).length ≤ xs.length + 1
  | d, [] => by cases d <;> simp [putGo]
  | true, x :: r => by have := putGo_len v true r; have h2 : (putGo v true r).length ≤ r.length := by
                        clear this
                        induction r with
                        | nil => simp [putGo]
                        | cons y s ih => simp only [putGo, List.length_cons]; omega
                       simp only [putGo, List.length_cons]; omega
  | false, x :: r => by
    have h1 := putGo_len v false r
    have h2 : (putGo v true r).length ≤ r.length := by
      clear h1
      induction r with
      | nil => simp [putGo]
      | cons y s ih => simp only [putGo, List.length_cons]; omega
    simp only [putGo]
    split
    · split
      · simp only [List.length_cons]; omega
      · simp only [List.length_cons]; omega
    · simp only [List.length_cons]; omega
theorem putGo_mem (v : Int) : ∀ (d : Bool) (xs : List Int) (z : Int), z ∈ xs → z ∈ putGo v d xs
  | d, [], z, h => by simp at h
  | true, x :: r, z, h => by
    simp only [putGo, List.mem_cons] at *
    rcases h with h | h
    · exact .inl h
    · exact .inr (putGo_mem v true r z h)
  | false, x :: r, z, h => by
    simp only [putGo]
    have k1 : z ∈ r → z ∈ putGo v true r := putGo_mem v true r z
    have k2 : z ∈ r → z ∈ putGo v false r := putGo_mem v false r z
    simp only [List.mem_cons] at h
    split
    · split
      · simp only [List.mem_cons]; rcases h with h | h
        · exact .inr (.inl h)
        · exact .inr (.inr (k1 h))
      · simp only [List.mem_cons]; rcases h with h | h
        · exact .inl h
        · exact .inr (k1 h)
    · simp only [List.mem_cons]; rcases h with h | h
      · exact .inl h
      · exact .inr (k2 h)
theorem putGo_self (v : Int) : ∀ xs : List Int, v ∈ putGo v false xs
  | [] => by simp [putGo]
  | x :: r => by
    simp only [putGo]
    split
    · split
      · simp
      · rename_i h1 h2
        have e : x = v := by omega
        simp [e]
    · simp only [List.mem_cons]; exact .inr (putGo_self v r)
/-- All numbers so far are 0, or one is not. -/
def Zs (xs : List Int) (b : Bool) : Prop := (b = true → xs = [] ∨ xs = [0]) ∧ (b = false → ∃ z, z ∈ xs ∧ z ≠ 0)
theorem Zs.put {xs : List Int} {b : Bool} (h : Zs xs b) (v : Int) : Zs (putGo v false xs) (b && (v == 0)) := by
  refine ⟨fun e => ?_, fun e => ?_⟩
  · simp only [Bool.and_eq_true, beq_iff_eq] at e
    obtain ⟨e1, rfl⟩ := e
    rcases h.1 e1 with rfl | rfl
    · right; rfl
    · right; rfl
  · by_cases hv : v = 0
    · have hb : b = false := by cases b with
        | false => rfl
        | true => simp [hv] at e
      obtain ⟨z, hz, hn⟩ := h.2 hb
      exact ⟨z, putGo_mem v false xs z hz, hn⟩
    · exact ⟨v, putGo_self v xs, hv⟩
set_option maxHeartbeats 4000000 in
set_option maxRecDepth 100000 in
theorem l00Put_any (w : World) (A : Option Addr) (n c : Nat) (xs : List Int) (hr : Rd w A n (ints xs)) (hn : n ≤ 1000000) (v : Int) :
    Calls Tryz.prog 93 #[.slice A n c, .int .i64 v] w (RetS w 2 (ints (putGo v false xs))) := by
  have HL : Hid (xs.length = n) := Lib.hid (by simpa using hr.1)
  have HR := Lib.hid hr
  obtain ⟨w1, hw1⟩ : ∃ w1, w1 = w.alloc (.cells #[] 2) := ⟨_, rfl⟩
  have HB1 : Hid (Below w.heap.size w w1) := Lib.hid (by rw [hw1]; exact below_new _ _)
  have HO1 : Hid (w1.ownsRow w.heap.size 2 1 (.slice (some ⟨w.heap.size, 0, none⟩) 0 0) 0 (ints [])) := Lib.hid (by rw [hw1]; exact own_lit w #[] 0 2 rfl (by omega))
  have HLN := Lib.hid (putGo_len v false xs)
  clear hr
  go_enter Tryz.func93, Tryz.ntmps93
  go_upto_region 2 with fail
  rw [← hw1]
  clear hw1
  go_wp2_with fail
  go_loopw [5, 6, 7] (fun o d q wr => ∃ (k : Nat) (A1 : Option Addr) (n1 c1 : Nat) (ys : List Int) (b : Bool), k ≤ n ∧ q = .int .i64 k ∧ d = .bool b ∧ o = .slice A1 n1 c1 ∧ Hid (wr.ownsRow w.heap.size 2 1 (.slice A1 n1 c1) n1 (ints ys)) ∧ Hid (putGo v false xs = ys ++ putGo v b (xs.drop k)) ∧ Hid (n1 ≤ 2 * k) ∧ Hid (Below w.heap.size w wr)) (fun _ _ q _ => n - (intOf q).toNat)
  case atStart => exact ⟨0, _, _, _, [], false, Nat.zero_le _, by go_num, rfl, rfl, HO1, Lib.hid rfl, Lib.hid (by omega), HB1⟩
  case round =>
    clear HO1 HB1
    obtain ⟨k, A1, n1, c1, ys, b, hk, rfl, rfl, rfl, HO, HP, HNN, HB⟩ := hrel
    by_cases hlt : k < n
    · skip
      obtain ⟨x, hx⟩ := get_some (xs := xs) (k := k) (by rw [HL.out]; exact hlt)
      obtain ⟨bb, off, rfl, hbl, q0⟩ := (HR.out.below HB.out (Nat.le_refl _)).at_ (ints_get hx)
      have HD : Hid (xs.drop k = x :: xs.drop (k + 1)) := Lib.hid (drop_get hx)
      have hk0 : (0 : Int) ≤ (k : Int) := by omega
      have hk1 : (k : Int) < (n : Int) := by omega
      have HKN : Hid (n1 ≤ 1000000000) := Lib.hid (by have := HNN.out; omega)
      clear hx
      cases b with
      | true =>
        skip
        have HQ : Hid (putGo v false xs = (ys ++ [x]) ++ putGo v true (xs.drop (k + 1))) := Lib.hid (by rw [HP.out, HD.out]; simp [putGo])
        go_wp2_with (at_builtin; go_must (refine wpList_app1g eltI0 rfl _ _ rfl wr w.heap.size _ n1 _ (by rfl) HO.out _ (by rfl) (by rfl) HB.out.size (by have := HKN.out; omega) ?_); rintro A5 c5 w5 ho5 hb5 hg5
                     have HO5 : Hid (w5.ownsRow w.heap.size 2 1 (.slice A5 (n1 + 1) c5) (n1 + 1) (ints (ys ++ [x]))) := Lib.hid (by simpa using ho5)
                     have HB5 : Hid (Below w.heap.size w w5) := Lib.hid (HB.out.trans hb5)
                     clear ho5 hb5 hg5)
        go_roundw
        case rel => exact ⟨k + 1, A5, n1 + 1, c5, _, true, by omega, by go_num, rfl, rfl, HO5, HQ, Lib.hid (by have := HNN.out; omega), HB5⟩
        case measure => simp [intOf]; omega
      | false =>
        skip
        by_cases hvx : v ≤ x
        · skip
          have hge : x ≥ v := hvx
          by_cases hvl : v < x
          · skip
            have hgt : x > v := hvl
            have HQ : Hid (putGo v false xs = ((ys ++ [v]) ++ [x]) ++ putGo v true (xs.drop (k + 1))) := Lib.hid (by rw [HP.out, HD.out]; simp only [putGo]; rw [if_pos hvx, if_pos hvl]; simp)
            go_upto_region 10 with (at_builtin; go_must (refine wpList_app1g eltI0 rfl _ _ rfl wr w.heap.size _ n1 _ (by rfl) HO.out _ (by rfl) (by rfl) HB.out.size (by have := HKN.out; omega) ?_); rintro A4 c4 w4 ho4 hb4 hg4
                                    have HO4 : Hid (w4.ownsRow w.heap.size 2 1 (.slice A4 (n1 + 1) c4) (n1 + 1) (ints (ys ++ [v]))) := Lib.hid (by simpa using ho4)
                                    have HB4 : Hid (Below w.heap.size w w4) := Lib.hid (HB.out.trans hb4)
                                    clear ho4 hb4 hg4)
            obtain ⟨bb2, off2, hA2, hbl2, q2⟩ := (HR.out.below HB4.out (Nat.le_refl _)).at_ (ints_get (show xs[k]? = some x by have h9 := congrArg (fun l => l[0]?) HD.out; simpa using h9))
            injection hA2 with hA2
            injection hA2 with e1 e2
            subst e1 e2
            go_wp2_with (at_builtin; go_must (refine wpList_app1g eltI0 rfl _ _ rfl w4 w.heap.size _ (n1 + 1) _ (by rfl) HO4.out _ (by rfl) (by rfl) HB4.out.size (by have := HKN.out; omega) ?_); rintro A5 c5 w5 ho5 hb5 hg5
                         have HO5 : Hid (w5.ownsRow w.heap.size 2 1 (.slice A5 (n1 + 1 + 1) c5) (n1 + 1 + 1) (ints ((ys ++ [v]) ++ [x]))) := Lib.hid (by simpa using ho5)
                         have HB5 : Hid (Below w.heap.size w w5) := Lib.hid (HB4.out.trans hb5)
                         clear ho5 hb5 hg5)
            go_roundw
            case rel => exact ⟨k + 1, A5, n1 + 1 + 1, c5, _, true, by omega, by go_num, rfl, rfl, HO5, HQ, Lib.hid (by have := HNN.out; omega), HB5⟩
            case measure => simp [intOf]; omega
          · skip
            have hgt : ¬ (x > v) := hvl
            have hgt2 : x ≤ v := by omega
            have HQ : Hid (putGo v false xs = (ys ++ [x]) ++ putGo v true (xs.drop (k + 1))) := Lib.hid (by rw [HP.out, HD.out]; simp only [putGo]; rw [if_pos hvx, if_neg hvl]; simp)
            go_wp2_with (at_builtin; go_must (refine wpList_app1g eltI0 rfl _ _ rfl wr w.heap.size _ n1 _ (by rfl) HO.out _ (by rfl) (by rfl) HB.out.size (by have := HKN.out; omega) ?_); rintro A5 c5 w5 ho5 hb5 hg5
                         have HO5 : Hid (w5.ownsRow w.heap.size 2 1 (.slice A5 (n1 + 1) c5) (n1 + 1) (ints (ys ++ [x]))) := Lib.hid (by simpa using ho5)
                         have HB5 : Hid (Below w.heap.size w w5) := Lib.hid (HB.out.trans hb5)
                         clear ho5 hb5 hg5)
            go_roundw
            case rel => exact ⟨k + 1, A5, n1 + 1, c5, _, true, by omega, by go_num, rfl, rfl, HO5, HQ, Lib.hid (by have := HNN.out; omega), HB5⟩
            case measure => simp [intOf]; omega
        · skip
          have hge : ¬ (x ≥ v) := hvx
          have hge2 : x < v := by omega
          have HQ : Hid (putGo v false xs = (ys ++ [x]) ++ putGo v false (xs.drop (k + 1))) := Lib.hid (by rw [HP.out, HD.out]; simp only [putGo]; rw [if_neg hvx]; simp)
          go_wp2_with (at_builtin; go_must (refine wpList_app1g eltI0 rfl _ _ rfl wr w.heap.size _ n1 _ (by rfl) HO.out _ (by rfl) (by rfl) HB.out.size (by have := HKN.out; omega) ?_); rintro A5 c5 w5 ho5 hb5 hg5
                       have HO5 : Hid (w5.ownsRow w.heap.size 2 1 (.slice A5 (n1 + 1) c5) (n1 + 1) (ints (ys ++ [x]))) := Lib.hid (by simpa using ho5)
                       have HB5 : Hid (Below w.heap.size w w5) := Lib.hid (HB.out.trans hb5)
                       clear ho5 hb5 hg5)
          go_roundw
          case rel => exact ⟨k + 1, A5, n1 + 1, c5, _, false, by omega, by go_num, rfl, rfl, HO5, HQ, Lib.hid (by have := HNN.out; omega), HB5⟩
          case measure => simp [intOf]; omega
    · skip
      have hkn : k = n := by omega
      subst hkn
      have HE : Hid (xs.drop k = []) := Lib.hid (List.drop_of_length_le (by rw [HL.out]; omega))
      have HKN : Hid (n1 ≤ 1000000000) := Lib.hid (by have := HNN.out; omega)
      cases b with
      | true =>
        skip
        go_wp2_with fail
        go_ret
        have h1 := HP.out
        rw [HE.out] at h1
        simp [putGo] at h1
        rw [h1]
        exact ⟨A1, n1, c1, rfl, HO.out, HB.out⟩
      | false =>
        skip
        go_wp2_with (at_builtin; go_must (refine wpList_app1g eltI0 rfl _ _ rfl wr w.heap.size _ n1 _ (by rfl) HO.out _ (by rfl) (by rfl) HB.out.size (by have := HKN.out; omega) ?_); rintro A5 c5 w5 ho5 hb5 hg5
                     have HO5 : Hid (w5.ownsRow w.heap.size 2 1 (.slice A5 (n1 + 1) c5) (n1 + 1) (ints (ys ++ [v]))) := Lib.hid (by simpa using ho5)
                     have HB5 : Hid (Below w.heap.size w w5) := Lib.hid (HB.out.trans hb5)
                     clear ho5 hb5 hg5)
        go_ret
        have h1 := HP.out
        rw [HE.out] at h1
        simp [putGo] at h1
        rw [h1]
        exact ⟨A5, n1 + 1, c5, rfl, HO5.out, HB5.out⟩
end Go.Proofs.YtaadobggenbbdaaGreatDoor
