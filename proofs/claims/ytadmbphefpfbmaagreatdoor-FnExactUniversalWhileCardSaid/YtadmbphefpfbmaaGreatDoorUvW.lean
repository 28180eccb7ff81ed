/- The universal program: strings.Replacer: ways down the trie; what the loop over a text keeps (no walk). Printed by mk_uvw.py. -/
import Derived.Test.YtadmbphefpfbmaaGreatDoorUvQ
namespace Go.Proofs.YtadmbphefpfbmaaGreatDoor
open Go.RowKit
set_option linter.unusedVariables false
set_option linter.unusedSimpArgs false
theorem way8 {B : Nat} {v8 v10 v11 : ByteArray} {w : World} {r : Nat} {t : ByteArray} {q : List Nat} (h : TrS B v8 v10 v11 w r 3) (ht : nm t = 84 :: 56 :: q) : ∃ nd tb ix, Way w r 2 nd tb ix t v8 6 := by
  obtain ⟨T, N, M, U, K, L, V, J, _, hg, hT, hn, hu, hm, hk, hv, hl, hj⟩ := h
  refine ⟨fun j => match j with | 0 => r | 1 => N | _ => M, fun j => match j with | 0 => T | _ => U, fun j => match j with | 0 => 3 | _ => 2, ?_⟩
  refine ⟨rfl, by rw [← nm_size, ht]; simp, fun j hj' => ?_, fun j hj' => ?_, blk_cell hg 5 (grC_lo rfl), fun j hj' => ?_, fun j x hj' hx' => ?_, fun j hj' => ?_, by omega, blk_cell hm 0 rfl, blk_cell hm 1 rfl, blk_cell hm 2 rfl, blk_cell hm 4 rfl⟩
  · match j, hj' with
    | 0, _ => exact blk_cell hg 1 (grC_lo rfl)
    | 1, _ => exact blk_cell hn 1 rfl
  · match j, hj' with
    | 0, _ => exact blk_cell hg 4 (grC_lo rfl)
    | 1, _ => exact blk_cell hn 4 rfl
  · match j, hj' with
    | 0, _ => exact (by decide)
    | 1, _ => exact (by decide)
  · rw [ht] at hx'
    match j, hj', hx' with
    | 0, _, hx => obtain rfl : 84 = x := (by simpa using hx); exact blk_cell hg 90 (gr_map (b := 84) (by omega) rfl)
    | 1, _, hx => obtain rfl : 56 = x := (by simpa using hx); exact blk_cell hg 62 (gr_map (b := 56) (by omega) rfl)
  · match j, hj' with
    | 0, _ => exact blk_cell hT 3 rfl
    | 1, _ => exact blk_cell hu 2 rfl
theorem way10 {B : Nat} {v8 v10 v11 : ByteArray} {w : World} {r : Nat} {t : ByteArray} {q : List Nat} (h : TrS B v8 v10 v11 w r 3) (ht : nm t = 84 :: 49 :: 48 :: q) : ∃ nd tb ix, Way w r 3 nd tb ix t v10 4 := by
  obtain ⟨T, N, M, U, K, L, V, J, _, hg, hT, hn, hu, hm, hk, hv, hl, hj⟩ := h
  refine ⟨fun j => match j with | 0 => r | 1 => N | 2 => K | _ => L, fun j => match j with | 0 => T | 1 => U | _ => V, fun j => match j with | 0 => 3 | 1 => 1 | _ => 0, ?_⟩
  refine ⟨rfl, by rw [← nm_size, ht]; simp, fun j hj' => ?_, fun j hj' => ?_, blk_cell hg 5 (grC_lo rfl), fun j hj' => ?_, fun j x hj' hx' => ?_, fun j hj' => ?_, by omega, blk_cell hl 0 rfl, blk_cell hl 1 rfl, blk_cell hl 2 rfl, blk_cell hl 4 rfl⟩
  · match j, hj' with
    | 0, _ => exact blk_cell hg 1 (grC_lo rfl)
    | 1, _ => exact blk_cell hn 1 rfl
    | 2, _ => exact blk_cell hk 1 rfl
  · match j, hj' with
    | 0, _ => exact blk_cell hg 4 (grC_lo rfl)
    | 1, _ => exact blk_cell hn 4 rfl
    | 2, _ => exact blk_cell hk 4 rfl
  · match j, hj' with
    | 0, _ => exact (by decide)
    | 1, _ => exact (by decide)
    | 2, _ => exact (by decide)
  · rw [ht] at hx'
    match j, hj', hx' with
    | 0, _, hx => obtain rfl : 84 = x := (by simpa using hx); exact blk_cell hg 90 (gr_map (b := 84) (by omega) rfl)
    | 1, _, hx => obtain rfl : 49 = x := (by simpa using hx); exact blk_cell hg 55 (gr_map (b := 49) (by omega) rfl)
    | 2, _, hx => obtain rfl : 48 = x := (by simpa using hx); exact blk_cell hg 54 (gr_map (b := 48) (by omega) rfl)
  · match j, hj' with
    | 0, _ => exact blk_cell hT 3 rfl
    | 1, _ => exact blk_cell hu 1 rfl
    | 2, _ => exact blk_cell hv 0 rfl
theorem way11 {B : Nat} {v8 v10 v11 : ByteArray} {w : World} {r : Nat} {t : ByteArray} {q : List Nat} (h : TrS B v8 v10 v11 w r 3) (ht : nm t = 84 :: 49 :: 49 :: q) : ∃ nd tb ix, Way w r 3 nd tb ix t v11 2 := by
  obtain ⟨T, N, M, U, K, L, V, J, _, hg, hT, hn, hu, hm, hk, hv, hl, hj⟩ := h
  refine ⟨fun j => match j with | 0 => r | 1 => N | 2 => K | _ => J, fun j => match j with | 0 => T | 1 => U | _ => V, fun j => match j with | 0 => 3 | 1 => 1 | _ => 1, ?_⟩
  refine ⟨rfl, by rw [← nm_size, ht]; simp, fun j hj' => ?_, fun j hj' => ?_, blk_cell hg 5 (grC_lo rfl), fun j hj' => ?_, fun j x hj' hx' => ?_, fun j hj' => ?_, by omega, blk_cell hj 0 rfl, blk_cell hj 1 rfl, blk_cell hj 2 rfl, blk_cell hj 4 rfl⟩
  · match j, hj' with
    | 0, _ => exact blk_cell hg 1 (grC_lo rfl)
    | 1, _ => exact blk_cell hn 1 rfl
    | 2, _ => exact blk_cell hk 1 rfl
  · match j, hj' with
    | 0, _ => exact blk_cell hg 4 (grC_lo rfl)
    | 1, _ => exact blk_cell hn 4 rfl
    | 2, _ => exact blk_cell hk 4 rfl
  · match j, hj' with
    | 0, _ => exact (by decide)
    | 1, _ => exact (by decide)
    | 2, _ => exact (by decide)
  · rw [ht] at hx'
    match j, hj', hx' with
    | 0, _, hx => obtain rfl : 84 = x := (by simpa using hx); exact blk_cell hg 90 (gr_map (b := 84) (by omega) rfl)
    | 1, _, hx => obtain rfl : 49 = x := (by simpa using hx); exact blk_cell hg 55 (gr_map (b := 49) (by omega) rfl)
    | 2, _, hx => obtain rfl : 49 = x := (by simpa using hx); exact blk_cell hg 55 (gr_map (b := 49) (by omega) rfl)
  · match j, hj' with
    | 0, _ => exact blk_cell hT 3 rfl
    | 1, _ => exact blk_cell hu 1 rfl
    | 2, _ => exact blk_cell hv 1 rfl
theorem trS_below {B : Nat} {v8 v10 v11 : ByteArray} {w w' : World} {r : Nat} (h : TrS B v8 v10 v11 w r 3) (hb : Below w.heap.size w w') : TrS B v8 v10 v11 w' r 3 := by
  obtain ⟨T, N, M, U, K, L, V, J, hB, hg, hT, hn, hu, hm, hk, hv, hl, hj⟩ := h
  exact ⟨T, N, M, U, K, L, V, J, hB, blk_bel hg hb, blk_bel hT hb, blk_bel hn hb, blk_bel hu hb, blk_bel hm hb, blk_bel hk hb, blk_bel hv hb, blk_bel hl hb, blk_bel hj hb⟩
/-- What the loop over a text sn keeps: l is written, what begins at last waits, i is looked at. -/
def WrI (a b c sn o l : List Nat) (last i : Nat) : Prop :=
  last ≤ sn.length ∧ ((i ≤ sn.length ∧ last ≤ i ∧ ∃ p, Rp a b c (sn.drop i) p ∧ l ++ (sn.drop last).take (i - last) ++ p = o) ∨ (i = sn.length + 1 ∧ l ++ sn.drop last = o))
section
variable {a b c sn o l : List Nat} {last i : Nat}
theorem wri_0 (h : Rp a b c sn o) : WrI a b c sn o [] 0 0 := ⟨Nat.zero_le _, .inl ⟨Nat.zero_le _, Nat.le_refl _, o, h, by simp⟩⟩
theorem wri_len (h : WrI a b c sn o l last i) : l.length ≤ o.length := by
  rcases h.2 with ⟨_, _, p, _, e⟩ | ⟨_, e⟩ <;> (rw [← e]; simp; try omega)
theorem seg_snoc {x : Nat} (h : sn[i]? = some x) (hl : last ≤ i) : (sn.drop last).take (i + 1 - last) = (sn.drop last).take (i - last) ++ [x] := by
  rw [show i + 1 - last = i - last + 1 by omega, List.take_add_one]
  have e : (sn.drop last)[i - last]? = some x := by rw [List.getElem?_drop, show last + (i - last) = i by omega]; exact h
  rw [e]; rfl
/-- What stands at a place ahead of the end. -/
theorem wri_at (h : WrI a b c sn o l last i) (hi : i < sn.length) : last ≤ i ∧
    ((∃ x, x ≠ 84 ∧ sn[i]? = some x ∧ WrI a b c sn o l last (i + 1)) ∨
     (∃ q v m, ((sn.drop i = 84 :: 56 :: q ∧ v = a ∧ m = 2) ∨ (sn.drop i = 84 :: 49 :: 48 :: q ∧ v = b ∧ m = 3) ∨ (sn.drop i = 84 :: 49 :: 49 :: q ∧ v = c ∧ m = 3)) ∧ i + m ≤ sn.length ∧ WrI a b c sn o (l ++ (sn.drop last).take (i - last) ++ v) (i + m) (i + m))) := by
  rcases h.2 with ⟨_, hle, p, hp, e⟩ | ⟨e, _⟩
  · refine ⟨hle, ?_⟩
    have key : ∀ (ks q v p2 : List Nat), sn.drop i = ks ++ q → p = v ++ p2 → Rp a b c q p2 → i + ks.length ≤ sn.length ∧ WrI a b c sn o (l ++ (sn.drop last).take (i - last) ++ v) (i + ks.length) (i + ks.length) := by
      intro ks q v p2 e1 e2 e3
      have h1 := congrArg List.length e1
      simp only [List.length_drop, List.length_append] at h1
      have hlen : i + ks.length ≤ sn.length := by omega
      have hd : sn.drop (i + ks.length) = q := by rw [← List.drop_drop, e1, List.drop_left]
      exact ⟨hlen, hlen, .inl ⟨hlen, Nat.le_refl _, p2, by rw [hd]; exact e3, by rw [Nat.sub_self, List.take_zero, List.append_nil, ← e, e2]; simp [List.append_assoc]⟩⟩
    rcases hp.view with ⟨e1, _⟩ | ⟨x, q, p2, hx, e1, e2, e3⟩ | ⟨q, p2, e1, e2, e3⟩ | ⟨q, p2, e1, e2, e3⟩ | ⟨q, p2, e1, e2, e3⟩
    · have h1 := congrArg List.length e1
      simp only [List.length_drop, List.length_nil] at h1
      omega
    · refine .inl ⟨x, hx, (by have h1 : (sn.drop i)[0]? = some x := by rw [e1]; rfl
                              rw [List.getElem?_drop] at h1; exact h1), h.1, .inl ⟨by omega, by omega, p2, ?_, ?_⟩⟩
      · have hd : sn.drop (i + 1) = q := by rw [← List.drop_drop, e1]; rfl
        rw [hd]; exact e3
      · have h1 : sn[i]? = some x := by
          have h1 : (sn.drop i)[0]? = some x := by rw [e1]; rfl
          rw [List.getElem?_drop] at h1; exact h1
        rw [seg_snoc h1 hle, ← e, e2]; simp [List.append_assoc]
    · have h1 := key [84, 56] q a p2 e1 e2 e3
      exact .inr ⟨q, a, 2, .inl ⟨e1, rfl, rfl⟩, h1.1, h1.2⟩
    · have h1 := key [84, 49, 48] q b p2 e1 e2 e3
      exact .inr ⟨q, b, 3, .inr (.inl ⟨e1, rfl, rfl⟩), h1.1, h1.2⟩
    · have h1 := key [84, 49, 49] q c p2 e1 e2 e3
      exact .inr ⟨q, c, 3, .inr (.inr ⟨e1, rfl, rfl⟩), h1.1, h1.2⟩
  · omega
theorem wri_end (h : WrI a b c sn o l last i) (hi : i = sn.length) : WrI a b c sn o l last (sn.length + 1) := by
  rcases h.2 with ⟨_, hle, p, hp, e⟩ | ⟨e, _⟩
  · refine ⟨h.1, .inr ⟨rfl, ?_⟩⟩
    subst hi
    rw [List.drop_length] at hp
    cases hp
    rw [List.take_of_length_le (by simp)] at e
    simpa using e
  · omega
theorem wri_out (h : WrI a b c sn o l last (sn.length + 1)) : last ≤ sn.length ∧ l ++ sn.drop last = o := by
  rcases h.2 with ⟨e, _⟩ | ⟨_, e⟩
  · omega
  · exact ⟨h.1, e⟩
end
theorem nm_ext (t : ByteArray) (i j : Nat) : nm (t.extract i j) = ((nm t).drop i).take (j - i) := by
  simp [nm, List.map_take, List.map_drop]
end Go.Proofs.YtadmbphefpfbmaaGreatDoor
