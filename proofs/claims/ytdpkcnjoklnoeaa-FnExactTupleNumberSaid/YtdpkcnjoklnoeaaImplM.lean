/- Contracts of the program's functions on naturals: the product. -/
import Derived.Test.YtdpkcnjoklnoeaaImplN
namespace Go.Proofs.Ytdpkcnjoklnoeaa
open Go.RowKit Limb

set_option maxHeartbeats 2000000 in
theorem multiply_any0 (w : World) (A : Option Addr) (n c : Nat) (xs : List Int) (hr : Rd w A n (ints xs)) (hn : n ≤ 1000000000)
    (A' : Option Addr) (n' c' : Nat) (ys : List Int) (hr' : Rd w A' n' (ints ys)) (hn' : n' ≤ 1000000000) (okx : Ok xs) (oky : Ok ys) :
    Calls Try.prog 56 #[.slice A n c, .slice A' n' c'] w (RetS w 2 (ints (trim (mulL ys xs (zs (n + n')))))) := by
  have hlen : xs.length = n := by simpa using hr.1
  have hlen' : ys.length = n' := by simpa using hr'.1
  have HL := Lib.hid hlen; have HL' := Lib.hid hlen'; clear hlen hlen'
  go_enter Try.func56, Try.ntmps56
  go_wp2_with (at_make; go_must (refine wpList_mk Try.eltI rfl _ _ rfl w _ _ (n + n') (by rfl) (by rfl) (by omega) (by omega) (by omega) ?_); rintro w1 hown1 hb1 hs1)
  rw [show List.replicate (n + n') (Value.int .i64 0) = ints (zs (n + n')) by simp [zs]] at hown1
  generalize hT : n + n' = T at hown1
  have HT := Lib.hid hT
  go_loopw [18] (fun i wr => ∃ (k : Nat) (done rest : List Int), i = .int .i64 k ∧ k ≤ n ∧ Hid (MulRel ys xs (zs T) k done rest) ∧ wr.ownsRow w.heap.size 2 1 (.slice (some ⟨w.heap.size, 0, none⟩) T T) T (ints (done ++ rest)) ∧ Below w.heap.size w wr) (fun i _ => n - (intOf i).toNat)
  case atStart =>
    refine ⟨0, [], zs T, rfl, by omega, Lib.hid (MulRel.start (ok_zeros _) (zeros_far _ _)), by simpa using hown1, hb1⟩
  case round =>
    obtain ⟨k, done, rest, rfl, hk, hm, hown, hb⟩ := hrel
    clear hown1 hb1 hs1
    by_cases h1 : k < n
    · obtain ⟨x, hx⟩ := get_some (xs := xs) (k := k) (by rw [HL.out]; omega)
      obtain ⟨hx0, hx1⟩ := ok_get okx hx
      obtain ⟨b, off, rfl, hbk, hcx⟩ := hr.at_ (ints_get hx)
      have HX := Lib.hid hx; have HC := Lib.hid hcx
      clear hx hcx
      have hrl : Hid (n' < rest.length) := by
        obtain ⟨e1, _, _, _, e2⟩ := hm.out
        have : (zs T).length = T := by simp [zs]
        refine Lib.hid ?_
        have := HT.out
        omega
      obtain ⟨wo, rfl⟩ : ∃ wo : World, wo = wr := ⟨_, rfl⟩
      have hcx0 := (hb.cell (p := ⟨b, off + k, none⟩) hbk).trans HC.out
      go_wp2_with fail
      clear hcx0
      go_loopw [8, 9] (fun q i wr => ∃ (j : Nat) (cc : Int) (mid rest2 : List Int), i = .int .i64 j ∧ q = .int .i64 cc ∧ j ≤ n' + 1 ∧ 0 ≤ cc ∧ cc < 1000000 ∧ Hid (RowRel ys x rest j cc mid rest2) ∧ wr.ownsRow w.heap.size 2 1 (.slice (some ⟨w.heap.size, 0, none⟩) T T) T (ints (done ++ (mid ++ rest2))) ∧ Below w.heap.size w wr) (fun _ i _ => n' + 1 - (intOf i).toNat)
      case atStart => exact ⟨0, 0, [], rest, rfl, rfl, by omega, by omega, by omega, Lib.hid (RowRel.start hm.out.2.2.1 hm.out.2.2.2.1), by simpa using hown, hb⟩
      case round =>
        obtain ⟨j, cc, mid, rest2, rfl, rfl, hj, hcc0, hcc1, hrow, hown2, hb2⟩ := hrel
        clear hown hb
        by_cases h2 : j < n'
        · obtain ⟨y, hy⟩ := get_some (xs := ys) (k := j) (by rw [HL'.out]; omega)
          obtain ⟨hy0, hy1⟩ := ok_get oky hy
          obtain ⟨b', off', rfl, hbk', hcy⟩ := hr'.at_ (ints_get hy)
          have hcy1 := (hb2.cell (p := ⟨b', off' + j, none⟩) hbk').trans hcy
          obtain ⟨hjn, o, os, rfl, ho0, ho1⟩ := hrow.out.head (.inl (by rw [HL'.out]; omega)) (by rw [HL'.out]; exact hrl.out)
          obtain ⟨p1, p2, p3, p4⟩ := limb_prod ⟨hx0, hx1⟩ ⟨hy0, hy1⟩ ⟨ho0, ho1⟩ ⟨hcc0, hcc1⟩
          have hdm : (done ++ mid).length = k + j := by rw [List.length_append, hm.out.1, hrow.out.1]
          have hget := get_mid done mid os o (k + j) hdm
          obtain ⟨g, hg, _, _, hc2, hc3⟩ := own_get hown2 hget
          obtain rfl : w.heap.size = g := by simpa using hg
          have HS := Lib.hid (own_put hown2 (k + j) (.int .i64 ((cc + o + x * y) % 1000000)))
          have HDM := Lib.hid hdm; have HY := Lib.hid hy; have hkT : k + j < T := by
            have h3 := hown2.1
            simp at h3
            have := HDM.out
            simp at this
            omega
          have HB := Lib.hid hb2
          clear hdm hget hown2 hy hcy hg hb2 hjn
          go_wp2_with fail
          go_roundw
          case rel => exact ⟨j + 1, _, mid ++ [_], os, by go_num, rfl, by omega, by omega, by omega, by rw [Int.add_comm cc o]; exact Lib.hid (hrow.out.stepIn ⟨hx0, hx1⟩ ⟨hy0, hy1⟩ HY.out), by rw [← set_mid done mid os o _ _ HDM.out, Int.add_comm o cc]; exact HS.out, HB.out.setCell (p := ⟨w.heap.size, k + j, none⟩) (Nat.le_refl _) _⟩
          case measure => simp [intOf]; omega
        · by_cases h3 : 0 < cc
          · obtain ⟨hjn, o, os, rfl, ho0, ho1⟩ := hrow.out.head (.inr h3) (by rw [HL'.out]; exact hrl.out)
            have hjn' : j ≤ n' := by have := HL'.out; omega
            have hdm : (done ++ mid).length = k + j := by rw [List.length_append, hm.out.1, hrow.out.1]
            have hget := get_mid done mid os o (k + j) hdm
            obtain ⟨g, hg, _, _, hc2, hc3⟩ := own_get hown2 hget
            obtain rfl : w.heap.size = g := by simpa using hg
            have HS := Lib.hid (own_put hown2 (k + j) (.int .i64 ((cc + o) % 1000000)))
            have HDM := Lib.hid hdm
            have hkT : k + j < T := by
              have h3 := hown2.1
              simp at h3
              have := HDM.out
              simp at this
              omega
            have HB := Lib.hid hb2
            clear hdm hget hown2 hg hb2 hjn
            go_wp2_with fail
            go_roundw
            case rel => exact ⟨j + 1, _, mid ++ [_], os, by go_num, rfl, by omega, by omega, by omega, by rw [Int.add_comm cc o]; exact Lib.hid (hrow.out.stepOut (by rw [HL'.out]; omega) h3), by rw [← set_mid done mid os o _ _ HDM.out, Int.add_comm o cc]; exact HS.out, HB.out.setCell (Nat.le_refl _) _⟩
            case measure => simp [intOf]; omega
          · go_wp2_with fail
            obtain ⟨o, os, he, hm'⟩ := hm.out.step oky HX.out ⟨hx0, hx1⟩ (by rw [HL.out, HL'.out]; have := HT.out; simp [zs]; omega) (hrow.out.stop (by rw [HL'.out]; omega) h3)
            go_roundw
            case rel => exact ⟨k + 1, done ++ [o], os, by go_num, by omega, Lib.hid hm', by rw [he] at hown2; simpa using hown2, hb2⟩
            case measure => simp [intOf]; omega
    · go_wp2_with (go_at_call 85; refine (trimmed_any _ w.heap.size _ T T _ hown (by have := HT.out; omega)).mono ?_; rintro e w2 ⟨rfl, rfl⟩)
      go_ret
      rw [show n + n' = T from HT.out, hm.out.stop (by rw [HL.out]; omega)]
      exact ⟨some ⟨w.heap.size, 0, none⟩, _, T, rfl, own_trim hown, hb⟩
theorem multiply_any (w : World) (A : Option Addr) (n c : Nat) (X : Nat) (hr : Rd w A n (ints (limbs X))) (hn : n ≤ 1000000) (A' : Option Addr) (n' c' : Nat) (Y : Nat) (hr' : Rd w A' n' (ints (limbs Y))) (hn' : n' ≤ 1000000) :
    Calls Try.prog 56 #[.slice A n c, .slice A' n' c'] w (RetS w 2 (ints (limbs (X * Y)))) := by
  have hlen : (limbs X).length = n := by simpa using hr.1
  have hlen' : (limbs Y).length = n' := by simpa using hr'.1
  have h := multiply_any0 w A n c _ hr (by omega) A' n' c' _ hr' (by omega) (ok_limbs X) (ok_limbs Y)
  rwa [show trim (mulL (limbs Y) (limbs X) (zs (n + n'))) = limbs (X * Y) from mul_limbs X Y _ (by omega)] at h
theorem l02Mul_limbs (w : World) (A : Option Addr) (n c : Nat) (X : Nat) (hr : Rd w A n (ints (limbs X))) (hn : n ≤ 1000000) (A' : Option Addr) (n' c' : Nat) (Y : Nat) (hr' : Rd w A' n' (ints (limbs Y))) (hn' : n' ≤ 1000000) :
    Calls Try.prog 51 #[.slice A n c, .slice A' n' c'] w (RetS w 2 (ints (limbs (X * Y)))) := by
  have hlen : (limbs X).length = n := by simpa using hr.1
  have hlen' : (limbs Y).length = n' := by simpa using hr'.1
  have h := l02Mul_any w A n c _ hr (by omega) A' n' c' _ hr' (by omega) (ok_limbs X) (ok_limbs Y)
  rwa [show trim (mulL (limbs Y) (limbs X) (zs (n + n' + 1))) = limbs (X * Y) from mul_limbs X Y _ (by omega)] at h
theorem l02Add_limbs (w : World) (A : Option Addr) (n c : Nat) (X : Nat) (hr : Rd w A n (ints (limbs X))) (hn : n ≤ 1000000) (A' : Option Addr) (n' c' : Nat) (Y : Nat) (hr' : Rd w A' n' (ints (limbs Y))) (hn' : n' ≤ 1000000) :
    Calls Try.prog 50 #[.slice A n c, .slice A' n' c'] w (RetS w 2 (ints (limbs (X + Y)))) := by
  have h := l02Add_any w A n c _ hr (by omega) A' n' c' _ hr' (by omega) (ok_limbs X) (ok_limbs Y)
  rwa [addL_limbs] at h
end Go.Proofs.Ytdpkcnjoklnoeaa
