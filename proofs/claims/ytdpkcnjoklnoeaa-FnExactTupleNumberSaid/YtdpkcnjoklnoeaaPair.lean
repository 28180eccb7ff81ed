/- PairOf: division by a small number, the pair's number, naturals. -/
import Derived.Test.YtdpkcnjoklnoeaaSign2
import Derived.Test.YtdpkcnjoklnoeaaMath3
namespace Go.Proofs.Ytdpkcnjoklnoeaa
open Go.RowKit Limb

theorem zs_snoc (k : Nat) : zs (k + 1) = zs k ++ [0] := by simp [zs, List.replicate_succ']
theorem div_get (k : Nat) (q : List Int) : (ints (zs (k + 1) ++ q))[k]? = some (.int .i64 0) := by
  rw [zs_snoc]; refine ints_get ?_
  rw [List.append_assoc, List.getElem?_append_right (by simp [zs])]; simp [zs]
theorem div_set (k : Nat) (q : List Int) (v : Int) : (ints (zs (k + 1) ++ q)).set k (.int .i64 v) = ints (zs k ++ (v :: q)) := by
  rw [zs_snoc]
  have e := set_mid [] (zs k) q 0 v k (by simp [zs])
  rw [List.nil_append, List.nil_append] at e
  rw [List.append_assoc]
  show (ints (zs k ++ 0 :: q)).set k _ = _
  rw [e]; simp

set_option maxHeartbeats 1000000 in
theorem l02By_any (w : World) (A : Option Addr) (n c : Nat) (X : Nat) (hr : Rd w A n (ints (limbs X))) (hn : n ≤ 1000000) (b : Int) (hb0 : 1 ≤ b) (hb1 : b ≤ 1000000) :
    Calls Try.prog 86 #[.slice A n c, .int .i64 b] w (RetSI w 2 (ints (limbs (X / b.toNat))) ((X % b.toNat : Nat) : Int)) := by
  have HL : Hid ((limbs X).length = n) := Lib.hid (by simpa using hr.1)
  have HF := Lib.hid (div_limbs X b hb0 hb1)
  have okx := ok_limbs X
  generalize limbs X = xs at hr HL HF okx
  go_enter Try.func86, Try.ntmps86
  go_wp2_with (at_make; go_must (refine wpList_mk Try.eltI rfl _ _ rfl w _ _ n (by rfl) (by rfl) (by omega) (by omega) (by omega) ?_); rintro w1 hown1 hb1' hs1)
  rw [show List.replicate n (Value.int .i64 0) = ints (zs n) by simp [zs]] at hown1
  go_loopw [7, 8] (fun q i wr => ∃ (j : Nat) (r : Int), i = .int .i64 ((j : Int) - 1) ∧ q = .int .i64 r ∧ j ≤ n ∧ 0 ≤ r ∧ r < b ∧ Hid ((divL b (xs.drop j)).2 = r) ∧ wr.ownsRow w.heap.size 2 1 (.slice (some ⟨w.heap.size, 0, none⟩) n n) n (ints (zs j ++ (divL b (xs.drop j)).1)) ∧ Below w.heap.size w wr) (fun _ i _ => (intOf i + 1).toNat)
  case atStart =>
    refine ⟨n, 0, rfl, rfl, by omega, by omega, by omega, ?_, ?_, hb1'⟩
    · rw [List.drop_of_length_le (by rw [HL.out]; omega)]; exact Lib.hid rfl
    · rw [List.drop_of_length_le (by rw [HL.out]; omega)]; simpa [divL] using hown1
  case round =>
    obtain ⟨j, r, rfl, rfl, hj, hr0, hr1, HR, hown, hb⟩ := hrel
    clear hown1 hb1' hs1
    rcases Nat.eq_zero_or_pos j with h0 | h0
    · subst h0
      rw [List.drop_zero] at hown HR
      have hown' : wr.ownsRow w.heap.size 2 1 (.slice (some ⟨w.heap.size, 0, none⟩) n n) n (ints (divL b xs).1) := by simpa [zs] using hown
      clear hown
      go_wp2_with (go_at_call 83; refine (l02Trim_any _ w.heap.size _ n n _ hown' (by omega)).mono ?_; rintro e w2 ⟨rfl, rfl⟩)
      go_ret2
      rw [← HF.out.1, ← HF.out.2, HR.out]
      exact ⟨_, _, n, rfl, own_trim hown', hb⟩
    · obtain ⟨k, rfl⟩ : ∃ k, j = k + 1 := ⟨j - 1, by omega⟩
      have ek : (((k + 1 : Nat) : Int) - 1) = (k : Int) := by omega
      rw [ek]
      clear ek
      obtain ⟨x, hx⟩ := get_some (xs := xs) (k := k) (by rw [HL.out]; omega)
      obtain ⟨hx0, hx1⟩ := ok_get okx hx
      obtain ⟨bb, off, rfl, hbk, hcx⟩ := hr.at_ (ints_get hx)
      have hcx1 := (hb.cell (p := ⟨bb, off + k, none⟩) hbk).trans hcx
      have HST := Lib.hid (divL_step (b := b) hx)
      obtain ⟨g, hg, _, _, hc2, hc3⟩ := own_get hown (div_get k _)
      obtain rfl : w.heap.size = g := by simpa using hg
      have HO := Lib.hid (own_put hown k (.int .i64 ((r * 1000000 + x) / b)))
      have HB := Lib.hid hb
      have hkn : k < n := by omega
      have hm0 := Int.emod_nonneg (r * 1000000 + x) (show b ≠ 0 by omega)
      have hm1 := Int.emod_lt_of_pos (r * 1000000 + x) (show 0 < b by omega)
      clear hx hcx hb hown hg
      go_wp2_with fail
      go_roundw
      case rel =>
        refine ⟨k, _, rfl, rfl, by omega, hm0, hm1, ?_, ?_, HB.out.setCell (p := ⟨w.heap.size, k, none⟩) (Nat.le_refl _) _⟩
        · rw [HST.out, HR.out]; exact Lib.hid rfl
        · rw [HST.out, HR.out, ← div_set]; exact HO.out
      case measure => simp only [intOf]; omega

set_option maxHeartbeats 1000000 in
theorem divideSmall_any (w : World) (A : Option Addr) (n c : Nat) (X : Nat) (hr : Rd w A n (ints (limbs X))) (hn : n ≤ 1000000) (b : Int) (hb0 : 1 ≤ b) (hb1 : b ≤ 1000000) :
    Calls Try.prog 89 #[.slice A n c, .int .i64 b] w (RetSI w 2 (ints (limbs (X / b.toNat))) ((X % b.toNat : Nat) : Int)) := by
  have HL : Hid ((limbs X).length = n) := Lib.hid (by simpa using hr.1)
  have HF := Lib.hid (div_limbs X b hb0 hb1)
  have okx := ok_limbs X
  generalize limbs X = xs at hr HL HF okx
  go_enter Try.func89, Try.ntmps89
  go_wp2_with (at_make; go_must (refine wpList_mk Try.eltI rfl _ _ rfl w _ _ n (by rfl) (by rfl) (by omega) (by omega) (by omega) ?_); rintro w1 hown1 hb1' hs1)
  rw [show List.replicate n (Value.int .i64 0) = ints (zs n) by simp [zs]] at hown1
  go_loopw [7, 8] (fun q i wr => ∃ (j : Nat) (r : Int), i = .int .i64 ((j : Int) - 1) ∧ q = .int .i64 r ∧ j ≤ n ∧ 0 ≤ r ∧ r < b ∧ Hid ((divL b (xs.drop j)).2 = r) ∧ wr.ownsRow w.heap.size 2 1 (.slice (some ⟨w.heap.size, 0, none⟩) n n) n (ints (zs j ++ (divL b (xs.drop j)).1)) ∧ Below w.heap.size w wr) (fun _ i _ => (intOf i + 1).toNat)
  case atStart =>
    refine ⟨n, 0, rfl, rfl, by omega, by omega, by omega, ?_, ?_, hb1'⟩
    · rw [List.drop_of_length_le (by rw [HL.out]; omega)]; exact Lib.hid rfl
    · rw [List.drop_of_length_le (by rw [HL.out]; omega)]; simpa [divL] using hown1
  case round =>
    obtain ⟨j, r, rfl, rfl, hj, hr0, hr1, HR, hown, hb⟩ := hrel
    clear hown1 hb1' hs1
    rcases Nat.eq_zero_or_pos j with h0 | h0
    · subst h0
      rw [List.drop_zero] at hown HR
      have hown' : wr.ownsRow w.heap.size 2 1 (.slice (some ⟨w.heap.size, 0, none⟩) n n) n (ints (divL b xs).1) := by simpa [zs] using hown
      clear hown
      go_wp2_with (go_at_call 85; refine (trimmed_any _ w.heap.size _ n n _ hown' (by omega)).mono ?_; rintro e w2 ⟨rfl, rfl⟩)
      go_ret2
      rw [← HF.out.1, ← HF.out.2, HR.out]
      exact ⟨_, _, n, rfl, own_trim hown', hb⟩
    · obtain ⟨k, rfl⟩ : ∃ k, j = k + 1 := ⟨j - 1, by omega⟩
      have ek : (((k + 1 : Nat) : Int) - 1) = (k : Int) := by omega
      rw [ek]
      clear ek
      obtain ⟨x, hx⟩ := get_some (xs := xs) (k := k) (by rw [HL.out]; omega)
      obtain ⟨hx0, hx1⟩ := ok_get okx hx
      obtain ⟨bb, off, rfl, hbk, hcx⟩ := hr.at_ (ints_get hx)
      have hcx1 := (hb.cell (p := ⟨bb, off + k, none⟩) hbk).trans hcx
      have HST := Lib.hid (divL_step (b := b) hx)
      obtain ⟨g, hg, _, _, hc2, hc3⟩ := own_get hown (div_get k _)
      obtain rfl : w.heap.size = g := by simpa using hg
      have HO := Lib.hid (own_put hown k (.int .i64 ((r * 1000000 + x) / b)))
      have HB := Lib.hid hb
      have hkn : k < n := by omega
      have hm0 := Int.emod_nonneg (r * 1000000 + x) (show b ≠ 0 by omega)
      have hm1 := Int.emod_lt_of_pos (r * 1000000 + x) (show 0 < b by omega)
      clear hx hcx hb hown hg
      go_wp2_with fail
      go_region
      go_wp2_with fail
      go_roundw
      case rel =>
        refine ⟨k, _, rfl, rfl, by omega, hm0, hm1, ?_, ?_, (HB.out.setCell (p := ⟨w.heap.size, k, none⟩) (Nat.le_refl _) _).drew⟩
        · rw [HST.out, HR.out]; exact Lib.hid rfl
        · rw [HST.out, HR.out, ← div_set]; exact HO.out
      case measure => simp only [intOf]; omega
end Go.Proofs.Ytdpkcnjoklnoeaa
