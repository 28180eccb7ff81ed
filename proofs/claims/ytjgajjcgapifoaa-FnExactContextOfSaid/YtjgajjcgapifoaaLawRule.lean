/- The contracts of the laws' own helpers on Rule and on slices of it. -/
import Derived.Test.YtjgajjcgapifoaaFlatM
namespace Go.Proofs.Ytjgajjcgapifoaa
open Go.RowKit
set_option maxHeartbeats 400000 in
theorem toRule_any (w : World) (a0 a1 a2 : Int) : Calls Try.prog 107 #[.agg #[.int .i64 a0, .int .i64 a1, .int .i64 a2]] w fun e w' => e = .returned (.agg #[.int .i64 a0, .int .i64 a1, .int .i64 a2]) ∧ Below w.heap.size w w' := by
  go_enter Try.func107, Try.ntmps107
  go_wp2_with fail
  exact bodyPost_ret (v := .agg #[.int .i64 a0, .int .i64 a1, .int .i64 a2]) (by simp [results, Try.results107, go_sem]) rfl ⟨rfl, (((Below.refl _ _).alloc (Nat.le_refl _) _).alloc (by simp) _).alloc (by simp; omega) _⟩
set_option maxHeartbeats 400000 in
theorem eqRule_any (w : World) (a0 a1 a2 b0 b1 b2 : Int) : Calls Try.prog 112 #[.agg #[.int .i64 a0, .int .i64 a1, .int .i64 a2], .agg #[.int .i64 b0, .int .i64 b1, .int .i64 b2]] w fun e w' => e = .returned (.bool (decide ([a0, a1, a2] = [b0, b1, b2]))) ∧ Below w.heap.size w w' := by
  go_enter Try.func112, Try.ntmps112
  go_wp2_with fail
  all_goals
    go_ret
    exact ⟨by simp_all, ((Below.refl _ _).alloc (Nat.le_refl _) _).alloc (by simp) _⟩
theorem eqRule_same (w : World) (a0 a1 a2 : Int) : Calls Try.prog 112 #[.agg #[.int .i64 a0, .int .i64 a1, .int .i64 a2], .agg #[.int .i64 a0, .int .i64 a1, .int .i64 a2]] w fun e w' => e = .returned (.bool true) ∧ Below w.heap.size w w' := by
  have h := eqRule_any w a0 a1 a2 a0 a1 a2
  simpa using h
theorem eltRule : EltN Try.prog 29 81 (.agg #[.int .i64 0, .int .i64 0, .int .i64 0]) 3 := EltN.mk_ (b := 24) Try.underlying29 (by kernel_rfl) rfl (by omega) (by omega)
theorem madeRule (n : Nat) : (madeCells (Value.agg #[.int .i64 0, .int .i64 0, .int .i64 0]).cells (n * 3)).toList = ints (zs (n * 3)) := by
  rw [show (Value.agg #[.int .i64 0, .int .i64 0, .int .i64 0]).cells = Array.replicate 3 (.int .i64 0) from rfl, made_same _ _ _ (by omega)]; simp [zs]
set_option maxHeartbeats 800000 in
theorem toRuleS_any (w : World) (A : Option Addr) (n c : Nat) (xs : List Int) (hr : Rd w A (n * 3) (ints xs)) (hn : n ≤ 1099511627776) :
    Calls Try.prog 56 #[.slice A n c] w (RetN w 81 3 (ints xs)) := by
  have hlen : xs.length = n * 3 := by simpa using hr.1
  have HL := Lib.hid hlen; clear hlen
  go_enter Try.func56, Try.ntmps56
  go_wp2_with (at_make; refine wpList_mkN eltRule (by rfl) _ _ (by rfl) _ _ _ n (by rfl) (by rfl) (by rfl) (by rfl) (by omega) ?_; rintro w1 hown1 hgrow1 hlt1)
  go_loopw [4] (fun i wr => ∃ k : Nat, k ≤ n ∧ i = .int .i64 k ∧ wr.ownsRow w.heap.size 81 3 (.slice (some ⟨w.heap.size, 0, none⟩) n n) n (ints (xs.take (k * 3) ++ zs (n * 3 - k * 3))) ∧ Below w.heap.size w wr) (fun i _ => n - (intOf i).toNat)
  case atStart =>
    refine ⟨0, Nat.zero_le _, rfl, ?_, hgrow1⟩
    rw [madeRule] at hown1; simpa using hown1
  case round =>
    obtain ⟨k, hk, rfl, hown, hb⟩ := hrel
    clear hown1 hgrow1 hlt1
    by_cases hlt : k < n
    · have hks : (k + 1) * 3 = k * 3 + 3 := by omega
      have HKS := Lib.hid hks; clear hks
      obtain ⟨b, off, rfl, hbs, hc⟩ := hr.2 (by omega)
      obtain ⟨x0, h0⟩ := get_some (xs := xs) (k := k * 3) (by rw [HL.out]; omega)
      have q0 := (hb.cell (p := ⟨b, off + (k * 3), none⟩) hbs).trans (hc (k * 3) _ (ints_get h0))
      have H0 := Lib.hid h0
      obtain ⟨x1, h1⟩ := get_some (xs := xs) (k := k * 3 + 1) (by rw [HL.out]; omega)
      have q1 := (hb.cell (p := ⟨b, off + (k * 3 + 1), none⟩) hbs).trans (hc (k * 3 + 1) _ (ints_get h1))
      have H1 := Lib.hid h1
      obtain ⟨x2, h2⟩ := get_some (xs := xs) (k := k * 3 + 2) (by rw [HL.out]; omega)
      have q2 := (hb.cell (p := ⟨b, off + (k * 3 + 2), none⟩) hbs).trans (hc (k * 3 + 2) _ (ints_get h2))
      have H2 := Lib.hid h2
      rw [← Nat.add_assoc] at q1 q2
      have HF := Lib.hid (fillN xs (n * 3) (k * 3) 3 HL.out (by omega))
      clear hc h0 h1 h2
      go_wp2_with fail
      refine (toRule_any _ _ _ _).mono ?_
      rintro e w2 ⟨rfl, hb2⟩
      replace hown := ownN_below hown hb2 (Nat.le_refl _)
      have HB := Lib.hid (hb.trans (hb2.mono hb.size))
      obtain ⟨r0, f0⟩ := ownN_at hown (HF.out 0 (by omega))
      obtain ⟨r1, f1⟩ := ownN_at hown (HF.out 1 (by omega))
      obtain ⟨r2, f2⟩ := ownN_at hown (HF.out 2 (by omega))
      rw [Nat.add_zero] at r0 f0
      have HS := Lib.hid (ownN_put (ownN_put (ownN_put hown (k * 3) (.int .i64 x0)) (k * 3 + 1) (.int .i64 x1)) (k * 3 + 2) (.int .i64 x2))
      clear hown hb hb2
      go_wp2_with fail
      go_roundw
      case rel =>
        refine ⟨k + 1, by omega, by go_num, ?_, ?_⟩
        · have e := HS.out
          rw [fill3 HL.out (by rw [HL.out]; omega) H0.out H1.out H2.out] at e
          rw [HKS.out]
          exact e
        · exact ((HB.out.setCell (Nat.le_refl _) _).setCell (Nat.le_refl _) _).setCell (Nat.le_refl _) _
      case measure => simp [intOf]; omega
    · go_wp2_with fail
      go_ret
      obtain rfl : k = n := by omega
      refine ⟨some ⟨w.heap.size, 0, none⟩, k, k, rfl, ?_, hb⟩
      simpa [zs, List.take_of_length_le (Nat.le_of_eq HL.out)] using hown
set_option maxHeartbeats 800000 in
theorem eqRuleS_same (w : World) (A : Option Addr) (n c : Nat) (xs : List Int) (hr : Rd w A (n * 3) (ints xs)) (hn : n ≤ 1099511627776)
    (A' : Option Addr) (n' c' : Nat) (hr' : Rd w A' (n' * 3) (ints xs)) : Calls Try.prog 59 #[.slice A n c, .slice A' n' c'] w (RetV w (.bool true)) := by
  have hlen : xs.length = n * 3 := by simpa using hr.1
  have hlen' : xs.length = n' * 3 := by simpa using hr'.1
  obtain rfl : n = n' := by omega
  have HL := Lib.hid hlen; clear hlen hlen'
  go_enter Try.func59, Try.ntmps59
  go_wp2_with fail
  go_loopw [5] (fun i wr => ∃ k : Nat, k ≤ n ∧ i = .int .i64 k ∧ Below w.heap.size w wr) (fun i _ => n - (intOf i).toNat)
  case atStart => exact ⟨0, Nat.zero_le _, rfl, Below.refl _ _⟩
  case round =>
    obtain ⟨k, hk, rfl, hb⟩ := hrel
    by_cases hlt : k < n
    · have hpos : 0 < n * 3 := by omega
      obtain ⟨b, off, rfl, hbs, hc⟩ := hr.2 hpos
      obtain ⟨b', off', rfl, hbs', hc'⟩ := hr'.2 hpos
      obtain ⟨x0, h0⟩ := get_some (xs := xs) (k := k * 3) (by rw [HL.out]; omega)
      have q0 := (hb.cell (p := ⟨b, off + (k * 3), none⟩) hbs).trans (hc (k * 3) _ (ints_get h0))
      have p0 := (hb.cell (p := ⟨b', off' + (k * 3), none⟩) hbs').trans (hc' (k * 3) _ (ints_get h0))
      obtain ⟨x1, h1⟩ := get_some (xs := xs) (k := k * 3 + 1) (by rw [HL.out]; omega)
      have q1 := (hb.cell (p := ⟨b, off + (k * 3 + 1), none⟩) hbs).trans (hc (k * 3 + 1) _ (ints_get h1))
      have p1 := (hb.cell (p := ⟨b', off' + (k * 3 + 1), none⟩) hbs').trans (hc' (k * 3 + 1) _ (ints_get h1))
      obtain ⟨x2, h2⟩ := get_some (xs := xs) (k := k * 3 + 2) (by rw [HL.out]; omega)
      have q2 := (hb.cell (p := ⟨b, off + (k * 3 + 2), none⟩) hbs).trans (hc (k * 3 + 2) _ (ints_get h2))
      have p2 := (hb.cell (p := ⟨b', off' + (k * 3 + 2), none⟩) hbs').trans (hc' (k * 3 + 2) _ (ints_get h2))
      rw [← Nat.add_assoc] at q1 p1 q2 p2
      clear hc hc' h0 h1 h2
      go_wp2_with fail
      go_region_held3 (fun w' => w'.cell? ⟨b, off + k * 3, none⟩ = some (.int .i64 x0) ∧ w'.cell? ⟨b, off + k * 3 + 1, none⟩ = some (.int .i64 x1) ∧ w'.cell? ⟨b, off + k * 3 + 2, none⟩ = some (.int .i64 x2) ∧ w'.cell? ⟨b', off' + k * 3, none⟩ = some (.int .i64 x0) ∧ w'.cell? ⟨b', off' + k * 3 + 1, none⟩ = some (.int .i64 x1) ∧ w'.cell? ⟨b', off' + k * 3 + 2, none⟩ = some (.int .i64 x2)) (exact ⟨q0, q1, q2, p0, p1, p2⟩) (first
        | (go_at_call 112
           refine (eqRule_same _ _ _ _).mono ?_
           rintro e w2 ⟨rfl, hb2⟩
           (try replace hb2 := below_undrew hb2)
           (try replace hb2 := below_undrewN hb2)
           have q0 := (hb2.cell (p := ⟨b, off + k * 3, none⟩) (Nat.lt_of_lt_of_le hbs hb.size)).trans q0
           have p0 := (hb2.cell (p := ⟨b', off' + k * 3, none⟩) (Nat.lt_of_lt_of_le hbs' hb.size)).trans p0
           have q1 := (hb2.cell (p := ⟨b, off + k * 3 + 1, none⟩) (Nat.lt_of_lt_of_le hbs hb.size)).trans q1
           have p1 := (hb2.cell (p := ⟨b', off' + k * 3 + 1, none⟩) (Nat.lt_of_lt_of_le hbs' hb.size)).trans p1
           have q2 := (hb2.cell (p := ⟨b, off + k * 3 + 2, none⟩) (Nat.lt_of_lt_of_le hbs hb.size)).trans q2
           have p2 := (hb2.cell (p := ⟨b', off' + k * 3 + 2, none⟩) (Nat.lt_of_lt_of_le hbs' hb.size)).trans p2
           ))
      go_wp2_with fail
      go_roundw
      case rel => exact ⟨k + 1, by omega, by go_num, hb.trans (hb2.mono hb.size)⟩
      case measure => simp [intOf]; omega
    · go_wp2_with fail
      go_ret
      exact ⟨rfl, hb⟩
set_option maxHeartbeats 400000 in
theorem szRuleS_any (w : World) (A : Option Addr) (n c : Nat) (hn : n ≤ 9223372036854775807) (k : Int) (hk0 : 0 ≤ k) (hk1 : k ≤ 1048576) :
    Calls Try.prog 52 #[.slice A n c, .int .i64 k] w fun e w' => e = .returned (.int .i64 (if k - n < 0 then -1 else k - n)) ∧ w = w' := by
  by_cases h : k - n < 0
  · go_enter Try.func52, Try.ntmps52
    go_wp2_with fail
    go_ret
    exact ⟨rfl, rfl⟩
  · go_enter Try.func52, Try.ntmps52
    go_wp2_with fail
    go_ret
    exact ⟨rfl, rfl⟩
set_option maxHeartbeats 1600000 in
theorem markRuleS_any (w : World) (base : Nat) (A : Option Addr) (n c : Nat) (xs : List Int) (ho : w.ownsRow base 81 3 (.slice A n c) n (ints xs)) (hn : n ≤ 1099511627776) (k : Int) (hk0 : 0 ≤ k) (hk1 : k ≤ 1099511627776) :
    Calls Try.prog 60 #[.slice A n c, .int .i64 k] w fun e w' => e = .returned (.int .i64 (k + (n : Int) * 3)) ∧ w'.ownsRow base 81 3 (.slice A n c) n (ints (up k (n * 3))) ∧ w.grownBy w' (Value.ownBlock (.slice A n c)) := by
  have hlen : xs.length = n * 3 := by simpa using ho.1
  have HL := Lib.hid hlen; clear hlen
  go_enter Try.func60, Try.ntmps60
  go_wp2_with fail
  go_loopw [1, 5] (fun q i wr => ∃ j : Nat, j ≤ n ∧ i = .int .i64 j ∧ q = .int .i64 (k + (j : Int) * 3) ∧ wr.ownsRow base 81 3 (.slice A n c) n (ints (up k (j * 3) ++ xs.drop (j * 3))) ∧ w.grownBy wr (Value.ownBlock (.slice A n c))) (fun _ i _ => n - (intOf i).toNat)
  case atStart => exact ⟨0, Nat.zero_le _, rfl, by simp, by simpa [up] using ho, World.grownBy.refl _ _⟩
  case round =>
    obtain ⟨j, hj, rfl, rfl, hown, hg⟩ := hrel
    clear ho
    by_cases hlt : j < n
    · have HKS : Hid ((j + 1) * 3 = j * 3 + 3) := Lib.hid (by omega)
      obtain ⟨u0, hu0⟩ := markN_get k xs (n * 3) (j * 3) 0 HL.out (by omega)
      obtain ⟨g, rfl, hbg, hgs, _, _⟩ := ownN_get hown hu0
      obtain ⟨v0, e0⟩ := markN_get k xs (n * 3) (j * 3) 0 HL.out (by omega)
      obtain ⟨r0, f0⟩ := ownN_at hown e0
      obtain ⟨v1, e1⟩ := markN_get k xs (n * 3) (j * 3) 1 HL.out (by omega)
      obtain ⟨r1, f1⟩ := ownN_at hown e1
      obtain ⟨v2, e2⟩ := markN_get k xs (n * 3) (j * 3) 2 HL.out (by omega)
      obtain ⟨r2, f2⟩ := ownN_at hown e2
      rw [Nat.add_zero] at r0 f0
      have HS := Lib.hid (ownN_put (ownN_put (ownN_put hown (j * 3) (.int .i64 (k + (j : Int) * 3))) (j * 3 + 1) (.int .i64 (k + (j : Int) * 3 + 1))) (j * 3 + 2) (.int .i64 (k + (j : Int) * 3 + 1 + 1)))
      have HG := Lib.hid hg
      clear hu0 e0 e1 e2 hown hg
      go_wp2_with fail
      go_roundw
      case rel =>
        refine ⟨j + 1, by omega, by go_num, by congr 1; omega, ?_, ?_⟩
        · have e := HS.out
          rw [mark3 HL.out (by omega) (by omega) (by omega) (by omega)] at e
          rw [HKS.out]
          exact e
        · exact (((HG.out).trans (grown_set _ _ _ _)).trans (grown_set _ _ _ _)).trans (grown_set _ _ _ _)
      case measure => simp [intOf]; omega
    · go_wp2_with fail
      go_ret
      obtain rfl : j = n := by omega
      refine ⟨rfl, ?_, hg⟩
      simpa [List.drop_of_length_le (Nat.le_of_eq HL.out)] using hown
end Go.Proofs.Ytjgajjcgapifoaa
