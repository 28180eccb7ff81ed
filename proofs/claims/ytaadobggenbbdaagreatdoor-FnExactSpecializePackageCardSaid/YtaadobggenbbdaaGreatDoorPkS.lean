/- The reference's reader of programs: expressions of one variable. Printed by mk_pks.py. -/
import Derived.Test.YtaadobggenbbdaaGreatDoorPkG
import Derived.Test.YtaadobggenbbdaaGreatDoorGE
import Derived.Deep.DrawnRows
namespace Go.Proofs.YtaadobggenbbdaaGreatDoor
open Go.RowKit
set_option linter.unusedVariables false
set_option linter.unusedSimpArgs false
attribute [local go_sem ↓] Go.wp_at_zero Go.wp_at_succ
set_option maxHeartbeats 400000 in
theorem l01Digit_any (w : World) (c : Nat) (hc : c < 256) : Calls Tryz.prog 113 #[.int .u8 (c : Int)] w fun e w' => e = .returned (.bool (decide (48 ≤ c ∧ c ≤ 57))) ∧ w = w' := by
  by_cases h1 : 48 ≤ c
  · by_cases h2 : c ≤ 57
    · have h3 : (48 : Int) ≤ (c : Int) := by omega
      have h4 : (c : Int) ≤ 57 := by omega
      go_enter Tryz.func113, Tryz.ntmps113
      go_wp2_with fail
      go_ret
      exact ⟨by simp [h1, h2], rfl⟩
    · have h3 : (48 : Int) ≤ (c : Int) := by omega
      have h4 : ¬ (c : Int) ≤ 57 := by omega
      go_enter Tryz.func113, Tryz.ntmps113
      go_wp2_with fail
      go_ret
      exact ⟨by simp [h1, h2], rfl⟩
  · have h3 : ¬ (48 : Int) ≤ (c : Int) := by omega
    go_enter Tryz.func113, Tryz.ntmps113
    go_wp2_with fail
    go_ret
    exact ⟨by simp [h1], rfl⟩
/-- The bytes of a string at a place. -/
def BsAt (s : ByteArray) (at_ : Nat) (l : List Nat) : Prop := ∀ (i c : Nat), l[i]? = some c → ∀ j, j = at_ + i → ∃ h : j < s.size, s[j].toNat = c
theorem Tx.els_rn : ∀ x : Tx, x.els.length ≤ x.rn.length
  | .v => by simp [Tx.els, Tx.ex, Ex.els, Tx.rn]
  | .h a => by have h := a.els_rn; simp only [Tx.els, Tx.ex, Ex.els, Tx.rn, List.length_cons] at *; omega
  | .t a => by have h := a.els_rn; simp only [Tx.els, Tx.ex, Ex.els, Tx.rn, List.length_cons] at *; omega
  | .p a b => by have h := a.els_rn; have h2 := b.els_rn; simp only [Tx.els, Tx.ex, Ex.els, Tx.rn, List.length_cons, List.length_append] at *; omega
def RxP (w : World) (x : Tx) (nx : Nat) (e : Ending) (w' : World) : Prop :=
  ∃ A c, e = .returned (.tuple #[.slice A x.els.length c, .int .i64 (nx : Int), .bool true]) ∧ w'.ownsRow w.heap.size 98 2 (.slice A x.els.length c) x.els.length (ints (eNums x.els)) ∧ Below w.heap.size w w'
set_option maxHeartbeats 8000000 in
set_option maxRecDepth 100000 in
theorem readExpr_any (x : Tx) : ∀ (w : World) (s : ByteArray) (at_ : Nat) (d : Int), BsAt s at_ x.rn → (x.deep : Int) ≤ d → d ≤ 1000 → at_ + x.rn.length ≤ 100000 → Calls Tryz.prog 89 #[.string s, .int .i64 (at_ : Int), .int .i64 d] w (RxP w x (at_ + x.rn.length)) := by
  induction x with
  | v =>
    intro w s at_ d hb hd hd2 hat
    obtain ⟨h1, hc0⟩ := hb 0 48 rfl at_ (by omega)
    have HBY := Lib.hid hb
    have HDD : Hid (1 ≤ d ∧ d ≤ 1000) := Lib.hid (by simp only [Tx.deep] at hd; omega)
    have HD := Lib.hid hd
    have HAT := Lib.hid hat
    have hd0 : (d == 0) = false := by rw [beq_eq_false_iff_ne]; have := HDD.out; omega
    have hlt : (at_ : Int) < (s.size : Int) := by omega
    have h0 : (0 : Int) ≤ (at_ : Int) := by omega
    clear hb hd hat
    have hat := HAT.out
    go_enter Tryz.func89, Tryz.ntmps89
    go_wp2_with (first
      | (go_at_call 113
         have hh := l01Digit_any w 48 (by decide)
         refine hh.mono ?_
         rintro e w' ⟨rfl, rfl⟩
         clear hh))
    refine bodyPost_ret (v := .tuple #[.slice (some ⟨w.heap.size, 0, none⟩) 1 1, .int .i64 ((at_ : Int) + 1), .bool true]) (by simp [results, Tryz.results89, go_sem]) rfl ?_
    exact ⟨_, _, by simp [Tx.rn, Tx.els, Tx.ex, Ex.els], lit_elV w, below_new _ _⟩
  | h a ih =>
    intro w s at_ d hb hd hd2 hat
    obtain ⟨h1, hc0⟩ := hb 0 104 rfl at_ (by omega)
    have HBY := Lib.hid hb
    have HDD : Hid (1 ≤ d ∧ d ≤ 1000) := Lib.hid (by simp only [Tx.deep] at hd; omega)
    have HD := Lib.hid hd
    have HAT := Lib.hid hat
    have hd0 : (d == 0) = false := by rw [beq_eq_false_iff_ne]; have := HDD.out; omega
    have hlt : (at_ : Int) < (s.size : Int) := by omega
    have h0 : (0 : Int) ≤ (at_ : Int) := by omega
    clear hb hd hat
    have HI := Lib.hid (ih w s (at_ + 1) (d - 1) (fun i c hi j hj => HBY.out (i + 1) c (by simpa [Tx.rn] using hi) j (by omega)) (by have h9 := HD.out; simp only [Tx.deep] at h9; omega) (by have := HDD.out; omega) (by have h9 := HAT.out; simp only [Tx.rn, List.length_cons] at h9; omega))
    obtain ⟨m, hm⟩ : ∃ m, m = at_ + 1 + a.rn.length := ⟨_, rfl⟩
    rw [← hm, show ((at_ + 1 : Nat) : Int) = (at_ : Int) + 1 by omega] at HI
    have HM : Hid (m = at_ + (Tx.h a).rn.length) := Lib.hid (by rw [hm]; simp only [Tx.rn, List.length_cons]; omega)
    have HAL : Hid (a.els.length ≤ 1000000) := Lib.hid (by have h7 := a.els_rn; have h9 := HAT.out; simp only [Tx.rn, List.length_cons] at h9; omega)
    have hat := HAT.out
    have hdd := HDD.out
    clear ih hm
    go_enter Tryz.func89, Tryz.ntmps89
    go_wp2_with (first
      | (go_at_call 113
         have hh := l01Digit_any w 104 (by decide)
         refine hh.mono ?_
         rintro e w' ⟨rfl, rfl⟩
         clear hh)
      | (go_at_call 89
         refine HI.out.mono ?_
         rintro e w2 ⟨A2, c2, rfl, ho, hb2⟩
         have HO2 := Lib.hid ho; have HB2 := Lib.hid hb2
         clear ho hb2)
      | (at_builtin; go_must (refine wpList_appSN eltEl rfl _ _ rfl (w2.alloc (.cells #[.int .i64 3, .int .i64 0] 98)) w2.heap.size (.slice (some ⟨w2.heap.size, 0, none⟩) 1 1) 1 (ints (eNums [(3, 0)])) (by rfl) (lit_el w2 3) A2 a.els.length c2 (ints (eNums a.els)) (by rfl) ((ownN_rd HO2.out).alloc _) (ints_one1 _) (by simp) (by have := HAL.out; omega) ?_); rintro A3 c3 w3 ho3 hb3 hg3
         have HO3 := Lib.hid ho3
         have HB3 : Hid (Below w.heap.size w w3) := Lib.hid (bqcP (hb3 |> fun h => (below_new w2 (.cells #[.int .i64 3, .int .i64 0] 98)).trans h) HB2.out)
         clear ho3 hb3 hg3))
    refine bodyPost_ret (v := .tuple #[.slice A3 (1 + a.els.length) c3, .int .i64 (m : Int), .bool true]) (by simp [results, Tryz.results89, go_sem]) rfl ?_
    have e1 : (1 + a.els.length) = (Tx.h a).els.length := by simp only [Tx.els, Tx.ex, Ex.els, List.length_cons]; omega
    have h6 := HO3.out
    rw [app_nums'] at h6
    rw [e1] at h6 ⊢
    exact ⟨A3, c3, by rw [HM.out], ownN_base h6 HB2.out.size, HB3.out⟩
  | t a ih =>
    intro w s at_ d hb hd hd2 hat
    obtain ⟨h1, hc0⟩ := hb 0 116 rfl at_ (by omega)
    have HBY := Lib.hid hb
    have HDD : Hid (1 ≤ d ∧ d ≤ 1000) := Lib.hid (by simp only [Tx.deep] at hd; omega)
    have HD := Lib.hid hd
    have HAT := Lib.hid hat
    have hd0 : (d == 0) = false := by rw [beq_eq_false_iff_ne]; have := HDD.out; omega
    have hlt : (at_ : Int) < (s.size : Int) := by omega
    have h0 : (0 : Int) ≤ (at_ : Int) := by omega
    clear hb hd hat
    have HI := Lib.hid (ih w s (at_ + 1) (d - 1) (fun i c hi j hj => HBY.out (i + 1) c (by simpa [Tx.rn] using hi) j (by omega)) (by have h9 := HD.out; simp only [Tx.deep] at h9; omega) (by have := HDD.out; omega) (by have h9 := HAT.out; simp only [Tx.rn, List.length_cons] at h9; omega))
    obtain ⟨m, hm⟩ : ∃ m, m = at_ + 1 + a.rn.length := ⟨_, rfl⟩
    rw [← hm, show ((at_ + 1 : Nat) : Int) = (at_ : Int) + 1 by omega] at HI
    have HM : Hid (m = at_ + (Tx.t a).rn.length) := Lib.hid (by rw [hm]; simp only [Tx.rn, List.length_cons]; omega)
    have HAL : Hid (a.els.length ≤ 1000000) := Lib.hid (by have h7 := a.els_rn; have h9 := HAT.out; simp only [Tx.rn, List.length_cons] at h9; omega)
    have hat := HAT.out
    have hdd := HDD.out
    clear ih hm
    go_enter Tryz.func89, Tryz.ntmps89
    go_wp2_with (first
      | (go_at_call 113
         have hh := l01Digit_any w 116 (by decide)
         refine hh.mono ?_
         rintro e w' ⟨rfl, rfl⟩
         clear hh)
      | (go_at_call 89
         refine HI.out.mono ?_
         rintro e w2 ⟨A2, c2, rfl, ho, hb2⟩
         have HO2 := Lib.hid ho; have HB2 := Lib.hid hb2
         clear ho hb2)
      | (at_builtin; go_must (refine wpList_appSN eltEl rfl _ _ rfl (w2.alloc (.cells #[.int .i64 4, .int .i64 0] 98)) w2.heap.size (.slice (some ⟨w2.heap.size, 0, none⟩) 1 1) 1 (ints (eNums [(4, 0)])) (by rfl) (lit_el w2 4) A2 a.els.length c2 (ints (eNums a.els)) (by rfl) ((ownN_rd HO2.out).alloc _) (ints_one1 _) (by simp) (by have := HAL.out; omega) ?_); rintro A3 c3 w3 ho3 hb3 hg3
         have HO3 := Lib.hid ho3
         have HB3 : Hid (Below w.heap.size w w3) := Lib.hid (bqcP (hb3 |> fun h => (below_new w2 (.cells #[.int .i64 4, .int .i64 0] 98)).trans h) HB2.out)
         clear ho3 hb3 hg3))
    refine bodyPost_ret (v := .tuple #[.slice A3 (1 + a.els.length) c3, .int .i64 (m : Int), .bool true]) (by simp [results, Tryz.results89, go_sem]) rfl ?_
    have e1 : (1 + a.els.length) = (Tx.t a).els.length := by simp only [Tx.els, Tx.ex, Ex.els, List.length_cons]; omega
    have h6 := HO3.out
    rw [app_nums'] at h6
    rw [e1] at h6 ⊢
    exact ⟨A3, c3, by rw [HM.out], ownN_base h6 HB2.out.size, HB3.out⟩
  | p a b iha ihb =>
    intro w s at_ d hb hd hd2 hat
    obtain ⟨h1, hc0⟩ := hb 0 40 rfl at_ (by omega)
    have HBY := Lib.hid hb
    have HDD : Hid (1 ≤ d ∧ d ≤ 1000) := Lib.hid (by simp only [Tx.deep] at hd; omega)
    have HD := Lib.hid hd
    have HAT := Lib.hid hat
    have hd0 : (d == 0) = false := by rw [beq_eq_false_iff_ne]; have := HDD.out; omega
    have hlt : (at_ : Int) < (s.size : Int) := by omega
    have h0 : (0 : Int) ≤ (at_ : Int) := by omega
    clear hb hd hat
    have HIA := Lib.hid (iha w s (at_ + 1) (d - 1) (fun i c hi j hj => HBY.out (i + 1) c (by have h9 := (List.getElem?_eq_some_iff.1 hi).1; simp only [Tx.rn, List.getElem?_cons_succ]; rw [List.getElem?_append_left h9]; exact hi) j (by omega)) (by have h9 := HD.out; simp only [Tx.deep] at h9; omega) (by have := HDD.out; omega) (by have h9 := HAT.out; simp only [Tx.rn, List.length_cons, List.length_append] at h9; omega))
    obtain ⟨m, hm⟩ : ∃ m, m = at_ + 1 + a.rn.length := ⟨_, rfl⟩
    obtain ⟨hm1, hmc⟩ := HBY.out (1 + a.rn.length) 46 (by simp only [Tx.rn]; rw [Nat.add_comm, List.getElem?_cons_succ, List.getElem?_append_right (Nat.le_refl _), Nat.sub_self]; rfl) m (by omega)
    have HIB := Lib.hid (fun (w2 : World) => ihb w2 s (m + 1) (d - 1) (fun i c hi j hj => HBY.out (1 + (a.rn.length + (1 + i))) c (by have h9 := (List.getElem?_eq_some_iff.1 hi).1; simp only [Tx.rn]; rw [Nat.add_comm, List.getElem?_cons_succ, List.getElem?_append_right (by omega), Nat.add_sub_cancel_left, Nat.add_comm 1 i, List.getElem?_cons_succ, List.getElem?_append_left h9]; exact hi) j (by omega)) (by have h9 := HD.out; simp only [Tx.deep] at h9; omega) (by have := HDD.out; omega) (by have h9 := HAT.out; simp only [Tx.rn, List.length_cons, List.length_append] at h9; omega))
    obtain ⟨q, hq⟩ : ∃ q, q = m + 1 + b.rn.length := ⟨_, rfl⟩
    obtain ⟨hq1, hqc⟩ := HBY.out (1 + (a.rn.length + (1 + b.rn.length))) 41 (by simp only [Tx.rn]; rw [Nat.add_comm, List.getElem?_cons_succ, List.getElem?_append_right (by omega), Nat.add_sub_cancel_left, Nat.add_comm 1, List.getElem?_cons_succ, List.getElem?_append_right (Nat.le_refl _), Nat.sub_self]; rfl) q (by omega)
    rw [← hm, show ((at_ + 1 : Nat) : Int) = (at_ : Int) + 1 by omega] at HIA
    rw [← hq, show ((m + 1 : Nat) : Int) = (m : Int) + 1 by omega] at HIB
    have HQ : Hid (q + 1 = at_ + (Tx.p a b).rn.length) := Lib.hid (by rw [hq, hm]; simp only [Tx.rn, List.length_cons, List.length_append, List.length_nil]; omega)
    have hq9 : q ≤ 100000 := by have h8 := HQ.out; have h9 := HAT.out; omega
    have hm9 : m ≤ 100000 := by omega
    have HAL : Hid (a.els.length ≤ 100000 ∧ b.els.length ≤ 100000) := Lib.hid (by have h7 := a.els_rn; have h8 := b.els_rn; omega)
    have hlm : (m : Int) < (s.size : Int) := by omega
    have hlq : (q : Int) < (s.size : Int) := by omega
    have h0m : (0 : Int) ≤ (m : Int) := by omega
    have hat := HAT.out
    have hdd := HDD.out
    have hgm : ¬ (s.size ≤ m) := by omega
    have hgq : ¬ (s.size ≤ q) := by omega
    clear iha ihb hm hq
    go_enter Tryz.func89, Tryz.ntmps89
    go_upto_region 17 with (first
      | (go_at_call 113
         have hh := l01Digit_any w 40 (by decide)
         refine hh.mono ?_
         rintro e w' ⟨rfl, rfl⟩
         clear hh)
      | (go_at_call 89
         refine HIA.out.mono ?_
         rintro e w2 ⟨A2, c2, rfl, ho, hb2⟩
         have HO2 := Lib.hid ho; have HB2 := Lib.hid hb2
         have HIB2 := Lib.hid (HIB.out w2)
         clear ho hb2))
    go_upto_region 23 with (go_at_call 89
                            refine HIB2.out.mono ?_
                            rintro e w3 ⟨A3, c3, rfl, ho, hb3⟩
                            have HO3 := Lib.hid ho
                            have HP3 := Lib.hid (ownN_below HO2.out hb3 (Nat.le_refl _))
                            have HB3 : Hid (Below w.heap.size w w3) := Lib.hid (bqcP hb3 HB2.out)
                            clear ho hb3)
    go_upto_region 26 with (at_builtin; go_must (refine wpList_appSN eltEl rfl _ _ rfl (w3.alloc (.cells #[.int .i64 2, .int .i64 0] 98)) w3.heap.size (.slice (some ⟨w3.heap.size, 0, none⟩) 1 1) 1 (ints (eNums [(2, 0)])) (by rfl) (lit_el w3 2) A2 a.els.length c2 (ints (eNums a.els)) (by rfl) ((ownN_rd HP3.out).alloc _) (ints_one1 _) (by simp) (by have := HAL.out; omega) ?_); rintro A4 c4 w4 ho4 hb4 hg4
                            have HO4 := Lib.hid ho4
                            have HB34 : Hid (Below w3.heap.size w3 w4) := Lib.hid ((below_new w3 (.cells #[.int .i64 2, .int .i64 0] 98)).trans hb4)
                            have HQ4 := Lib.hid (ownN_rd (ownN_below HO3.out HB34.out (Nat.le_refl _)))
                            have HB4 : Hid (Below w.heap.size w w4) := Lib.hid (bqcP HB34.out HB3.out)
                            clear ho4 hb4 hg4)
    go_wp2_with (at_builtin; go_must (refine wpList_appSN eltEl rfl _ _ rfl w4 w3.heap.size (.slice A4 (1 + a.els.length) c4) (1 + a.els.length) _ (by rfl) HO4.out A3 b.els.length c3 (ints (eNums b.els)) (by rfl) HQ4.out (ints_one1 _) HB34.out.size (by have := HAL.out; omega) ?_); rintro A5 c5 w5 ho5 hb5 hg5
                 have HO5 := Lib.hid ho5
                 have HB5 : Hid (Below w.heap.size w w5) := Lib.hid (bqcP (HB34.out.trans hb5) HB3.out)
                 clear ho5 hb5 hg5)
    refine bodyPost_ret (v := .tuple #[.slice A5 (1 + a.els.length + b.els.length) c5, .int .i64 ((q : Int) + 1), .bool true]) (by simp [results, Tryz.results89, go_sem]) rfl ?_
    have e1 : (1 + a.els.length + b.els.length) = (Tx.p a b).els.length := by simp only [Tx.els, Tx.ex, Ex.els, List.length_cons, List.length_append]; omega
    have h6 := HO5.out
    rw [app_nums', app_nums'] at h6
    rw [e1] at h6 ⊢
    exact ⟨A5, c5, by rw [← HQ.out]; simp, ownN_base h6 HB3.out.size, HB5.out⟩
end Go.Proofs.YtaadobggenbbdaaGreatDoor
