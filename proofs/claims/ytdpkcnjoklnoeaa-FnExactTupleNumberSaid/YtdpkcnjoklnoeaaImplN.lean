/- Contracts of the program's functions on naturals: carried, trimmed, add, naturalOf, within, allWithin, limited. -/
import Derived.Test.YtdpkcnjoklnoeaaSpecN2
namespace Go.Proofs.Ytdpkcnjoklnoeaa
open Go.RowKit Limb

set_option maxHeartbeats 400000 in
theorem trimmed_any (w : World) (base : Nat) (A : Option Addr) (n c : Nat) (xs : List Int) (ho : w.ownsRow base 2 1 (.slice A n c) n (ints xs)) (hn : n ≤ 1099511627776) :
    Calls Try.prog 85 #[.slice A n c] w fun e w' => e = .returned (.slice A (trim xs).length c) ∧ w = w' := by
  have hlen : xs.length = n := by simpa using ho.1
  obtain ⟨_, _, hf, hnc, _⟩ := own_form ho
  injection hf with hf1 hf2 hf3
  subst hf1 hf3
  have HL := Lib.hid hlen; clear hlen hf2
  go_enter Try.func85, Try.ntmps85
  go_wp2_with fail
  go_loop [0] (fun q => ∃ k : Nat, k ≤ n ∧ q = .slice A k c ∧ Hid (trim xs = trim (xs.take k))) (fun q => match q with | .slice _ k _ => k | _ => 0)
  case atStart => exact ⟨n, Nat.le_refl _, rfl, by rw [List.take_of_length_le (Nat.le_of_eq HL.out)]; exact Lib.hid rfl⟩
  case round =>
    obtain ⟨k, hk, rfl, ht⟩ := hrel
    rcases Nat.eq_zero_or_pos k with h0 | h0
    · subst h0
      go_wp2_with fail
      go_ret
      refine ⟨?_, rfl⟩
      rw [ht.out]; rfl
    · obtain ⟨j, rfl⟩ : ∃ j, k = j + 1 := ⟨k - 1, by omega⟩
      obtain ⟨u, hu⟩ := get_some (xs := xs) (k := j) (by rw [HL.out]; omega)
      obtain ⟨g, rfl, _, _, hc, _⟩ := own_get ho (ints_get hu)
      have HU := Lib.hid hu
      clear hu
      by_cases hz : u = 0
      · subst hz
        go_wp2_with fail
        go_round
        case rel => exact ⟨j, by omega, rfl, by rw [ht.out, trim_step0 HU.out]; exact Lib.hid rfl⟩
        case measure => simp
      · have hz' : (u == 0) = false := by simpa using hz
        have HZ := Lib.hid hz; clear hz
        go_wp2_with fail
        go_ret
        refine ⟨?_, rfl⟩
        rw [ht.out, trim_stop HU.out HZ.out, List.length_take, HL.out, Nat.min_eq_left hk]; rfl

theorem carryL_step_in {xs : List Int} {k : Nat} {x c : Int} (hx : xs[k]? = some x) : carryL (xs.drop k) c = ((c + x) % 1000000) :: carryL (xs.drop (k + 1)) ((c + x) / 1000000) := by
  rw [drop_get hx, carryL]
theorem carryL_step_out {xs : List Int} {k : Nat} {c : Int} (hx : xs.length ≤ k) (hc : 0 < c) : carryL (xs.drop k) c = (c % 1000000) :: carryL (xs.drop (k + 1)) (c / 1000000) := by
  rw [List.drop_of_length_le hx, List.drop_of_length_le (by omega : xs.length ≤ k + 1), carryL, carryL, limbs_pos (by omega)]
  rw [show ((c.toNat % 1000000 : Nat) : Int) = c % 1000000 by omega, show c.toNat / 1000000 = (c / 1000000).toNat by omega]

set_option maxHeartbeats 1000000 in
theorem carried_any (w : World) (A : Option Addr) (n c : Nat) (xs : List Int) (hr : Rd w A n (ints xs)) (hn : n ≤ 1000000000) (hxs : ∀ x ∈ xs, 0 ≤ x ∧ x ≤ 1000000000000) :
    Calls Try.prog 84 #[.slice A n c] w (RetS w 2 (ints (limbs (val xs).toNat))) := by
  have hlen : xs.length = n := by simpa using hr.1
  have HL := Lib.hid hlen; clear hlen
  go_enter Try.func84, Try.ntmps84
  go_wp2_with fail
  go_loopw [3, 4, 5] (fun v q i wr => ∃ (k : Nat) (cc : Int) (out : List Int), i = .int .i64 k ∧ q = .int .i64 cc ∧ Hid (out.length = k) ∧ Hid (carryL xs 0 = out ++ carryL (xs.drop k) cc) ∧ 0 ≤ cc ∧ cc ≤ 1000000000000 ∧ k + cc.toNat ≤ n + 1000000000000 ∧
    wr.ownsRow w.heap.size 2 1 v k (ints out) ∧ Below w.heap.size w wr) (fun _ q i _ => (n - (intOf i).toNat) * 10000000000000 + (intOf q).toNat)
  case atStart =>
    refine ⟨0, 0, [], rfl, rfl, Lib.hid rfl, Lib.hid (by simp), by omega, by omega, by omega, ?_, ?_⟩
    · exact World.ownsRow_lit (base := w.heap.size) w #[] 0 (Nat.le_refl _) (by unfold maxLen; omega) rfl
    · exact (Below.refl _ _).alloc (Nat.le_refl _) _
  case round =>
    obtain ⟨k, cc, out, rfl, rfl, HK, HA, hc0, hc1, hkc, hown, hb⟩ := hrel
    obtain ⟨Ao, co, rfl, hco, _⟩ := own_form hown
    have hbs := hb.size
    by_cases h1 : k < n
    · obtain ⟨x, hx⟩ := get_some (xs := xs) (k := k) (by rw [HL.out]; omega)
      obtain ⟨hx0, hx1⟩ : 0 ≤ x ∧ x ≤ 1000000000000 := by obtain ⟨hk', rfl⟩ := List.getElem?_eq_some_iff.1 hx; exact hxs _ (List.getElem_mem hk')
      obtain ⟨b, off, rfl, hbk, hcx⟩ := hr.at_ (ints_get hx)
      have hcx1 := (hb.cell (p := ⟨b, off + k, none⟩) hbk).trans hcx
      have HX := Lib.hid hx
      clear hx hcx
      go_wp2_with (at_builtin; go_must (refine wpList_app1 Try.eltI rfl _ _ rfl wr w.heap.size _ k _ (by rfl) hown _ (by rfl) (by rfl) (by omega) (by omega) ?_); rintro A1 c1 w1 hown1 hb1)
      go_roundw
      case rel =>
        refine ⟨k + 1, _, out ++ [_], by go_num, rfl, Lib.hid (by simp [HK.out]), Lib.hid ?_, by omega, by omega, by omega, by rw [ints_snoc] at hown1; exact hown1, hb.trans hb1⟩
        rw [HA.out, carryL_step_in HX.out]; simp
      case measure => simp only [intOf]; omega
    · by_cases h3 : 0 < cc
      · go_wp2_with (at_builtin; go_must (refine wpList_app1 Try.eltI rfl _ _ rfl wr w.heap.size _ k _ (by rfl) hown _ (by rfl) (by rfl) (by omega) (by omega) ?_); rintro A1 c1 w1 hown1 hb1)
        go_roundw
        case rel =>
          refine ⟨k + 1, _, out ++ [_], by go_num, rfl, Lib.hid (by simp [HK.out]), Lib.hid ?_, by omega, by omega, by omega, by rw [ints_snoc] at hown1; exact hown1, hb.trans hb1⟩
          rw [HA.out, carryL_step_out (by rw [HL.out]; omega) h3]; simp
        case measure => simp only [intOf]; omega
      · have hkb : k ≤ 1099511627776 := by omega
        go_wp2_with (go_at_call 85; refine (trimmed_any _ w.heap.size _ k co _ hown hkb).mono ?_; rintro e w2 ⟨rfl, rfl⟩)
        go_ret
        have e : carryL xs 0 = out := by
          rw [HA.out, List.drop_of_length_le (by rw [HL.out]; omega), carryL, show cc.toNat = 0 by omega, limbs_zero, List.append_nil]
        rw [← carry_limbs (fun x hx => (hxs x hx).1), e]
        exact ⟨Ao, _, co, rfl, own_trim hown, hb⟩

set_option maxHeartbeats 400000 in
theorem naturalOf_any (w : World) (x : Int) (h0 : 0 ≤ x) (h1 : x ≤ 1000000000000) :
    Calls Try.prog 57 #[.int .i64 x] w (RetS w 2 (ints (limbs x.toNat))) := by
  have hr := own_rd (own_lit w #[.int .i64 x] 1 2 rfl (by omega))
  have HR := Lib.hid hr; clear hr
  go_enter Try.func57, Try.ntmps57
  go_wp2_with (go_at_call 84; go_must (refine (carried_any _ _ 1 1 [x] HR.out (by omega) (by simp; omega)).mono ?_); rintro e w2 ⟨A1, n1, c1, rfl, ho1, hb1⟩)
  go_ret
  have e : (val [x]).toNat = x.toNat := by simp [val]
  rw [← e]
  exact ⟨A1, n1, c1, rfl, own_base ho1 (by simp), (below_new _ _).trans (hb1.mono (by simp))⟩

set_option maxHeartbeats 1000000 in
theorem add_any (w : World) (A : Option Addr) (n c : Nat) (X : Nat) (hr : Rd w A n (ints (limbs X))) (hn : n ≤ 1000000) (A' : Option Addr) (n' c' : Nat) (Y : Nat) (hr' : Rd w A' n' (ints (limbs Y))) (hn' : n' ≤ 1000000) :
    Calls Try.prog 55 #[.slice A n c, .slice A' n' c'] w (RetS w 2 (ints (limbs (X + Y)))) := by
  have hlen : (limbs X).length = n := by simpa using hr.1
  have hlen' : (limbs Y).length = n' := by simpa using hr'.1
  have HL := Lib.hid hlen; have HL' := Lib.hid hlen'; clear hlen hlen'
  have okx := ok_limbs X
  have oky := ok_limbs Y
  have HF := Lib.hid (add_limbs X Y (max n n' - n) (by rw [HL.out, HL'.out]; omega))
  generalize limbs X = xs at hr HL okx HF
  generalize limbs Y = ys at hr' HL' oky HF
  have hM : ∃ M : Nat, M = max n n' := ⟨max n n', rfl⟩
  obtain ⟨M, hM2⟩ := hM
  have HM2 := Lib.hid hM2
  have hnM : n ≤ M := by omega
  have hnM' : n' ≤ M := by omega
  have hMb : M ≤ 1000000 := by omega
  have hMor : Hid (M = n ∨ M = n') := Lib.hid (by omega)
  clear hM2
  go_enter Try.func55, Try.ntmps55
  go_wp2_with (first
    | (at_make; go_must (refine wpList_mk Try.eltI rfl _ _ rfl w _ _ M (by rfl) (by rfl) (by have := HM2.out; omega) (by have := HM2.out; omega) (by omega) ?_); rintro w1 hown1 hb1 hs1)
    | (refine wpList_cp (o := ⟨some 16, _, _, _, _, _⟩) Try.eltI rfl (.tmp 14) (.tmp 15) rfl _ w.heap.size w.heap.size M M _ (by rfl) hown1 A n c (ints xs) (by rfl) (hr.below hb1 (Nat.le_refl _)) ints_one hnM ?_; rintro w2 hown2 hb2))
  all_goals
    have hbase : (ints xs ++ (List.replicate M (Value.int .i64 0)).drop n) = ints (xs ++ List.replicate (M - n) 0) := by simp
    rw [hbase] at hown2
    have hb12 := hb1.trans hb2
    have HM3 : Hid (max n n' - n = M - n) := Lib.hid (by rw [HM2.out])
    rw [HM3.out] at HF
    clear hbase hown1 hb1 hb2 hs1
    have okb := ok_append okx (ok_zeros (M - n))
    have HBL : Hid ((xs ++ List.replicate (M - n) 0).length = M) := Lib.hid (by simp; have := HL.out; omega)
    generalize xs ++ List.replicate (M - n) 0 = bs at hown2 HF okb HBL
    go_loopw [19] (fun q wr => ∃ (j : Nat) (done rest : List Int), q = .int .i64 j ∧ j ≤ n' ∧ Hid (AccRel bs ys j done rest) ∧ wr.ownsRow w.heap.size 2 1 (.slice (some ⟨w.heap.size, 0, none⟩) M M) M (ints (done ++ rest)) ∧ Below w.heap.size w wr) (fun q _ => n' - (intOf q).toNat)
    case atStart => exact ⟨0, [], bs, rfl, by omega, Lib.hid (AccRel.start okb), by simpa using hown2, hb12⟩
    case round =>
      obtain ⟨j, done, rest, rfl, hj, hrl, hown, hb⟩ := hrel
      clear hown2 hb12
      by_cases h1 : j < n'
      · obtain ⟨y, hy⟩ := get_some (xs := ys) (k := j) (by rw [HL'.out]; omega)
        obtain ⟨hy0, hy1⟩ := ok_get oky hy
        obtain ⟨b', off', rfl, hbk', hcy⟩ := hr'.at_ (ints_get hy)
        have hcy1 := (hb.cell (p := ⟨b', off' + j, none⟩) hbk').trans hcy
        obtain ⟨o, os, rfl, ho0, ho1⟩ := hrl.out.head (by rw [HBL.out]; omega)
        have hget := get_mid [] done os o j (by simpa using hrl.out.1)
        rw [List.nil_append] at hget
        obtain ⟨g, hg, _, _, hc2, hc3⟩ := own_get hown hget
        obtain rfl : w.heap.size = g := by simpa using hg
        have HS := Lib.hid (own_put hown j (.int .i64 (o + y)))
        have HY := Lib.hid hy; have HB := Lib.hid hb
        have hjM : j < M := by omega
        clear hget hown hy hcy hg hb
        go_wp2_with fail
        go_roundw
        case rel =>
          refine ⟨j + 1, done ++ [o + y], os, by go_num, by omega, Lib.hid (hrl.out.step HY.out), ?_, HB.out.setCell (p := ⟨w.heap.size, j, none⟩) (Nat.le_refl _) _⟩
          have e := set_mid [] done os o (o + y) j (by simpa using hrl.out.1)
          rw [List.nil_append, List.nil_append] at e
          rw [← e]; exact HS.out
        case measure => simp [intOf]; omega
      · have e := hrl.out.stop (by rw [HL'.out]; omega)
        have hall : ∀ x ∈ done ++ rest, 0 ≤ x ∧ x ≤ 1000000000000 := fun x hx => by
          have := (addInto_spec bs ys (by rw [HBL.out, HL'.out]; omega)).2 okb oky x (by rw [e]; exact hx)
          omega
        have HALL := Lib.hid hall
        rw [e] at HF
        have hrd := own_rd hown
        clear e hall
        go_wp2_with (go_at_call 84; go_must (refine (carried_any _ _ M M (done ++ rest) hrd (by omega) HALL.out).mono ?_); rintro e w2 ⟨A1, n1, c1, rfl, ho1, hb1⟩)
        go_ret
        rw [← HF.out]
        exact ⟨A1, n1, c1, rfl, own_base ho1 hb.size, hb.trans (hb1.mono hb.size)⟩
end Go.Proofs.Ytdpkcnjoklnoeaa
