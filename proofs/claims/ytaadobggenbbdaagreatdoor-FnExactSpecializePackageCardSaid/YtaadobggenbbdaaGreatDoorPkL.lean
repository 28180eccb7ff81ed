/- Programs behind texts, codes of them (program). -/
import Derived.Test.YtaadobggenbbdaaGreatDoorPkK
import Derived.Test.YtaadobggenbbdaaGreatDoorPkC
import Derived.Test.YtaadobggenbbdaaGreatDoorCdT
namespace Go.Proofs.YtaadobggenbbdaaGreatDoor
open Go.RowKit
set_option linter.unusedVariables false
set_option linter.unusedSimpArgs false
attribute [local go_sem ↓] Go.wp_at_zero Go.wp_at_succ
/-- A text that the program reads as an assignment. -/
structure TxtOk (x : Tx) (s : ByteArray) : Prop where
  ru : Conv.runesFrom s s.size 0 #[] = (runesV (48 :: 61 :: x.rn)).toArray
  li : x.line = s
  l1 : x.els.length ≤ 40
  l2 : x.rn.length ≤ 1000
theorem ok_tQuine : TxtOk tQuine ⟨#[48, 61, 104, 48]⟩ := ⟨by kernel_rfl, by kernel_rfl, by decide, by decide⟩
theorem ok_tFix : TxtOk tFix ⟨#[48, 61, 40, 40, 104, 48, 46, 104, 48, 41, 46, 116, 48, 41]⟩ := ⟨by kernel_rfl, by kernel_rfl, by decide, by decide⟩
theorem ok_tPlain : TxtOk tPlain ⟨#[48, 61, 116, 48]⟩ := ⟨by kernel_rfl, by kernel_rfl, by decide, by decide⟩
theorem ok_tPad : TxtOk tPad ⟨#[48, 61, 48]⟩ := ⟨by kernel_rfl, by kernel_rfl, by decide, by decide⟩
theorem rdc_parts {w : World} {A : Option Addr} {n : Nat} {cs : List Cmd} (h : RdC w A n cs) : ∃ ss : List Value, Rd w A (n * 4) (flatC cs ss) ∧ ss.length = cs.length ∧ (∀ s ∈ ss, s.oneCell' = true) ∧ ∀ (i : Nat) (s : Value) (x : Cmd), ss[i]? = some s → cs[i]? = some x → ∃ A' n' c', s = .slice A' n' c' ∧ n' ≤ 1000000000 ∧ n' ≤ c' ∧ RdE w A' n' x.e := by
  obtain ⟨ss, h1, h2, h3⟩ := h
  refine ⟨ss, h1, h2, fun s hs => ?_, h3⟩
  obtain ⟨i, hi, rfl⟩ := List.mem_iff_getElem.1 hs
  obtain ⟨x, hx⟩ := get_some (xs := cs) (k := i) (by rw [← h2]; exact hi)
  obtain ⟨A', n', c', e, _⟩ := h3 i _ x (List.getElem?_eq_getElem hi) hx
  rw [e]; rfl
theorem rdc_join {w : World} {A : Option Addr} {n m : Nat} {cs ds : List Cmd} {ss ts : List Value} (h : Rd w A ((n + m) * 4) (flatC cs ss ++ flatC ds ts)) (h1 : ss.length = cs.length) (h2 : ts.length = ds.length)
    (k1 : ∀ (i : Nat) (s : Value) (x : Cmd), ss[i]? = some s → cs[i]? = some x → ∃ A' n' c', s = .slice A' n' c' ∧ n' ≤ 1000000000 ∧ n' ≤ c' ∧ RdE w A' n' x.e)
    (k2 : ∀ (i : Nat) (s : Value) (x : Cmd), ts[i]? = some s → ds[i]? = some x → ∃ A' n' c', s = .slice A' n' c' ∧ n' ≤ 1000000000 ∧ n' ≤ c' ∧ RdE w A' n' x.e) : RdC w A (n + m) (cs ++ ds) := by
  refine ⟨ss ++ ts, by rw [flatC_append cs ss ds ts h1]; exact h, by simp [h1, h2], fun i s x hs hx => ?_⟩
  by_cases hi : i < ss.length
  · rw [List.getElem?_append_left hi] at hs
    rw [List.getElem?_append_left (by omega)] at hx
    exact k1 i s x hs hx
  · rw [List.getElem?_append_right (by omega)] at hs
    rw [List.getElem?_append_right (by omega)] at hx
    exact k2 _ s x hs (by rw [h1]; exact hx)
def BehP (w : World) (x : Tx) (n : Nat) (cs : List Cmd) (e : Ending) (w' : World) : Prop := ∃ A c, e = .returned (.slice A (1 + n) c) ∧ RdC w' A (1 + n) (x.cmd :: cs) ∧ 1 + n ≤ c ∧ Below w.heap.size w w'
set_option maxHeartbeats 2000000 in
set_option maxRecDepth 100000 in
theorem behind_any (x : Tx) (s : ByteArray) (hs : TxtOk x s) (w : World) (A : Option Addr) (n c : Nat) (cs : List Cmd) (hr : RdC w A n cs) (hn : n ≤ 1000000) :
    Calls Tryz.prog 42 #[.string s, .slice A n c] w (BehP w x n cs) := by
  have HW := Lib.hid (whileOf_any x s hs.ru hs.li hs.l1 hs.l2 w)
  have HR := Lib.hid hr
  have HN := Lib.hid hn
  clear hs hr hn
  go_enter Tryz.func42, Tryz.ntmps42
  go_wp2_with (first
    | (go_at_call 31
       refine HW.out.mono ?_
       rintro e w2 ⟨A2, c2, rfl, hrc, hc2, hb2⟩
       have HRC := Lib.hid hrc; have HB2 := Lib.hid hb2
       have HR2 := Lib.hid (HR.out.below hb2 (Nat.le_refl _))
       clear hrc hc2 hb2)
    | (go_at_call 60
       obtain ⟨w3, hw3⟩ : ∃ w3, w3 = w2.alloc (.cells #[.slice A2 1 c2, .slice A n c] 31) := ⟨_, rfl⟩
       have hb3 : Below w2.heap.size w2 w3 := by rw [hw3]; exact below_new _ _
       obtain ⟨ss, p1, p2, p3, p4⟩ := rdc_parts (HRC.out.below hb3 (Nat.le_refl _))
       obtain ⟨ts, q1, q2, q3, q4⟩ := rdc_parts (HR2.out.below hb3 (Nat.le_refl _))
       have hv : RdV w3 (some ⟨w2.heap.size, 0, none⟩) 2 [(1, flatC [x.cmd] ss), (n, flatC cs ts)] := by
         refine ⟨[.slice A2 1 c2, .slice A n c], by rw [hw3]; exact own_rd (own_lit w2 #[.slice A2 1 c2, .slice A n c] 2 31 rfl (by omega)), rfl, ?_⟩
         intro j v ys hj hy
         match j, hj, hy with
         | 0, hj, hy => injection hj with hj; injection hy with hy; subst hj hy; exact ⟨_, _, rfl, p1, flatC_one _ _ p3⟩
         | 1, hj, hy => injection hj with hj; injection hy with hy; subst hj hy; exact ⟨_, _, rfl, q1, flatC_one _ _ q3⟩
         | j + 2, hj, hy => simp at hj
       have hh := concatC_any w3 _ 2 2 _ hv (by omega) (by have := HN.out; simp only [sumN]; omega)
       rw [← hw3]
       refine hh.mono ?_
       rintro e w4 ⟨A4, c4, rfl, ho4, hb4⟩
       simp only [sumN, Nat.add_zero, catV, List.map_cons, List.map_nil, List.flatten_cons, List.flatten_nil, List.append_nil] at ho4 ⊢
       have HC4 : Hid (1 + n ≤ c4) := Lib.hid (ownN_cap ho4)
       have HJ : Hid (RdC w4 A4 (1 + n) (x.cmd :: cs)) := Lib.hid (rdc_join (ownN_rd ho4) p2 q2 (fun i s y hs hy => by
         obtain ⟨A', n', c', e, k1, k2, k3⟩ := p4 i s y hs hy
         exact ⟨A', n', c', e, k1, k2, k3.below hb4 (Nat.le_refl _)⟩) (fun i s y hs hy => by
         obtain ⟨A', n', c', e, k1, k2, k3⟩ := q4 i s y hs hy
         exact ⟨A', n', c', e, k1, k2, k3.below hb4 (Nat.le_refl _)⟩))
       have HB4 : Hid (Below w.heap.size w w4) := Lib.hid (bqcP hb4 (bqcP hb3 HB2.out))
       clear hh hv p1 p2 p3 p4 q1 q2 q3 q4 ho4 hb4 hb3 hw3))
  go_ret
  exact ⟨A4, c4, rfl, HJ.out, HC4.out, HB4.out⟩
end Go.Proofs.YtaadobggenbbdaaGreatDoor
