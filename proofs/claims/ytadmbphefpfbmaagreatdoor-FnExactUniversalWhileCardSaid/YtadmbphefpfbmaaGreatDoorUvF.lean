/- The universal program: the text of an expression (reference): l22Show. Printed by mk_uvf.py. -/
import Derived.Test.YtadmbphefpfbmaaGreatDoorUvE
import Derived.Test.YtadmbphefpfbmaaGreatDoorUvG
namespace Go.Proofs.YtadmbphefpfbmaaGreatDoor
open Go.RowKit
set_option linter.unusedVariables false
set_option linter.unusedSimpArgs false
attribute [local go_sem ↓] Go.wp_at_zero Go.wp_at_succ
set_option maxHeartbeats 8000000 in
set_option maxRecDepth 100000 in
theorem l22ShowY_any (x : Ex) (hok : x.ok) (w : World) (A : Option Addr) (n c : Nat) (hr : RdE w A n x.els) (hn : n ≤ 2000) : Calls Tryz.prog 99 #[.slice A n c] w (TxtY w x) := by
  have HL : Hid (x.els.length = n) := Lib.hid (rdE_len hr)
  have HNN : Hid (n ≤ 2000) := Lib.hid hn
  have HAT := Lib.hid (fun (i : Nat) (hi : i < x.els.length) => by have h := els_at x hok [] i hi; rw [List.append_nil] at h; exact h)
  have HTA : Hid (sufE x.els = [x]) := Lib.hid (sufE_one x hok)
  have HR := Lib.hid hr
  obtain ⟨w1, hw1⟩ : ∃ w1, w1 = w.alloc (.cells #[] 9) := ⟨_, rfl⟩
  have HB1 : Hid (Below w.heap.size w w1) := Lib.hid (by rw [hw1]; exact below_new _ _)
  have HO1 : Hid (w1.ownsRow w.heap.size 9 1 (.slice (some ⟨w.heap.size, 0, none⟩) 0 0) 0 []) := Lib.hid (by rw [hw1]; exact own_lit w #[] 0 9 rfl (by omega))
  have hw9 : IntKind.i64.wrap ((n : Int) - 1) = (n : Int) - 1 := IntWalk.i64_in _ (by have := HNN.out; omega)
  obtain ⟨es, hes⟩ : ∃ es, es = x.els := ⟨_, rfl⟩
  rw [← hes] at HL HAT HTA HR
  clear hr hn hes hok
  go_enter Tryz.func99, Tryz.ntmps99
  go_upto_region 3 with fail
  rw [← hw1]
  clear hw1 hw9
  go_loopw [3, 4] (fun u v wr => ∃ (m q : Nat) (z : Int) (A3 : Option Addr) (c3 : Nat), m ≤ n ∧ v = .int .i64 z ∧ u = .slice A3 q c3 ∧ Hid (z = (m : Int) - 1) ∧ Hid (q = (sufE (es.drop m)).length) ∧ Hid (wr.ownsRow w.heap.size 9 1 (.slice A3 q c3) q (strsY (sufE (es.drop m)).reverse)) ∧ Hid (Below w.heap.size w wr)) (fun _ v _ => (intOf v + 1).toNat)
  case atStart => exact ⟨n, 0, _, _, _, Nat.le_refl _, rfl, rfl, Lib.hid rfl, Lib.hid (by rw [List.drop_eq_nil_of_le (by have := HL.out; omega)]; rfl), Lib.hid (by rw [List.drop_eq_nil_of_le (by have := HL.out; omega)]; exact HO1.out), HB1⟩
  case round =>
    clear HO1 HB1
    obtain ⟨m, q, z, A3, c3, hm, rfl, rfl, HX, HQ, HO3, HB3⟩ := hrel
    have HQL : Hid (q ≤ 2000) := Lib.hid (by
      have h1 := sufE_len (es.drop m); have h2 := HQ.out; have h3 := HL.out; have h4 := HNN.out
      simp only [List.length_drop] at h1
      omega)
    cases m with
    | zero =>
      have hx := HX.out
      obtain rfl : z = -1 := by rw [hx]; rfl
      have hq := HQ.out
      rw [List.drop_zero, HTA.out] at hq
      obtain rfl : q = 1 := hq
      have ho := HO3.out
      rw [List.drop_zero, HTA.out] at ho
      obtain ⟨g, rfl, hg, hgs, q0, _⟩ := own_get ho (k := 0) (u := .string x.bs) rfl
      clear hx ho hg
      go_wp2_with fail
      go_ret
      exact ⟨rfl, HB3.out⟩
    | succ m =>
      have hx := HX.out
      obtain rfl : z = (m : Int) := by omega
      have hlt' : (m : Int) < (n : Int) := by omega
      have hm0 : (0 : Int) ≤ (m : Int) := by omega
      have hq9 := HQL.out
      have hn9 := HNN.out
      obtain ⟨y, r, hyk, hd⟩ := HAT.out m (by have := HL.out; omega)
      have HSZ : Hid (y.bs.size ≤ 10000) := Lib.hid (ex_size hd (by have := HL.out; have := HNN.out; omega))
      have HDD := Lib.hid hd
      have hw5 : IntKind.i64.wrap ((q : Int) - 1) = (q : Int) - 1 := IntWalk.i64_in _ (by omega)
      have HII : Hid (q ≤ 1099511627776) := Lib.hid (by omega)
      clear hx hd
      cases y with
      | leaf ye =>
        rcases hyk with rfl | ⟨d, hd5, rfl⟩
        · as_aux_lemma =>
            obtain ⟨he, hd1⟩ := drop_hd2 (e := ((0 : Int), (0 : Int))) (by have h := HDD.out; simpa [Ex.els] using h)
            have HSN : Hid (sufE (es.drop m) = .leaf ((0 : Int), (0 : Int)) :: sufE (es.drop (m + 1))) := Lib.hid (by rw [HDD.out, sufE_app (.leaf (0, 0)) (Or.inl rfl), hd1])
            obtain ⟨g, off, rfl, hg, p0, p1⟩ := rdE (HR.out.below HB3.out (Nat.le_refl _)) (k := m) (x := ((0 : Int), (0 : Int))) he
            dsimp only at p0 p1
            clear he hd1 hg
            go_wp2_with (first
              | (at_builtin; go_must (refine wpList_app1g eltStr rfl _ _ rfl wr w.heap.size (.slice A3 q c3) q _ (by rfl) HO3.out (.string ⟨#[110]⟩) (by rfl) (by rfl) HB3.out.size HII.out ?_); rintro A6 c6 w6 ho6 hb6 hg6
                 have HO6 : Hid (w6.ownsRow w.heap.size 9 1 (.slice A6 (q + 1) c6) (q + 1) (strsY (sufE (es.drop m)).reverse)) := Lib.hid (by rw [HSN.out, strsE_snoc]; first | exact ho6 | simpa [Ex.bs] using ho6)
                 have HB6 : Hid (Below w.heap.size w w6) := Lib.hid (HB3.out.trans hb6)
                 clear ho6 hb6 hg6))
            go_roundw
            case rel => exact ⟨m, q + 1, _, A6, c6, by omega, rfl, rfl, Lib.hid (by first | rfl | (symm; exact IntWalk.i64_in _ (by omega)) | exact IntWalk.i64_in _ (by omega)), Lib.hid (by rw [HSN.out, List.length_cons, ← HQ.out]), HO6, HB6⟩
            case measure => simp [intOf]
        · as_aux_lemma =>
            obtain ⟨he, hd1⟩ := drop_hd2 (e := ((1 : Int), (d : Int))) (by have h := HDD.out; simpa [Ex.els] using h)
            have HSN : Hid (sufE (es.drop m) = .leaf ((1 : Int), (d : Int)) :: sufE (es.drop (m + 1))) := Lib.hid (by rw [HDD.out, sufE_app (.leaf (1, (d : Int))) (Or.inr ⟨d, hd5, rfl⟩), hd1])
            obtain ⟨g, off, rfl, hg, p0, p1⟩ := rdE (HR.out.below HB3.out (Nat.le_refl _)) (k := m) (x := ((1 : Int), (d : Int))) he
            dsimp only at p0 p1
            clear he hd1 hg
            go_wp2_with (first
              | (at_builtin; go_must (refine wpList_app1g eltStr rfl _ _ rfl w5 w.heap.size (.slice A3 q c3) q _ (by rfl) HO5.out (.string (decB d)) (by rfl) (by rfl) HB5.out.size HII.out ?_); rintro A6 c6 w6 ho6 hb6 hg6
                 have HO6 : Hid (w6.ownsRow w.heap.size 9 1 (.slice A6 (q + 1) c6) (q + 1) (strsY (sufE (es.drop m)).reverse)) := Lib.hid (by rw [HSN.out, strsE_snoc]; first | exact ho6 | simpa [Ex.bs] using ho6)
                 have HB6 : Hid (Below w.heap.size w w6) := Lib.hid (HB5.out.trans hb6)
                 clear ho6 hb6 hg6)
              | (go_at_call 142
                 refine (l01DecV_any wr d hd5).mono ?_
                 rintro e w5 ⟨rfl, hb5⟩
                 have HO5 := Lib.hid (ownN_below HO3.out hb5 (Nat.le_refl _))
                 have HB5 : Hid (Below w.heap.size w w5) := Lib.hid (bqcP hb5 HB3.out)
                 clear hb5))
            go_roundw
            case rel => exact ⟨m, q + 1, _, A6, c6, by omega, rfl, rfl, Lib.hid (by first | rfl | (symm; exact IntWalk.i64_in _ (by omega)) | exact IntWalk.i64_in _ (by omega)), Lib.hid (by rw [HSN.out, List.length_cons, ← HQ.out]), HO6, HB6⟩
            case measure => simp [intOf]
      | un ye a =>
        obtain ⟨hk0, hka⟩ := hyk
        rcases hk0 with rfl | rfl
        · as_aux_lemma =>
            obtain ⟨he, hd1⟩ := drop_hd2 (e := ((3 : Int), (0 : Int))) (by have h := HDD.out; simpa [Ex.els] using h)
            have HSN : Hid (sufE (es.drop m) = .un (3, 0) a :: sufE r) := Lib.hid (by rw [HDD.out, sufE_app (.un (3, 0) a) ⟨by first | exact .inl rfl | exact .inr rfl, hka⟩])
            have e1 : sufE (es.drop (m + 1)) = a :: sufE r := by rw [hd1, sufE_app _ hka]
            have hq := HQ.out
            have ho := HO3.out
            rw [e1] at hq ho
            obtain ⟨g, off, rfl, hg, p0, p1⟩ := rdE (HR.out.below HB3.out (Nat.le_refl _)) (k := m) (x := ((3 : Int), (0 : Int))) he
            obtain ⟨k, hk⟩ : ∃ k, k = (sufE r).length := ⟨_, rfl⟩
            have hqk : q = k + 1 := by rw [hq, hk]; rfl
            rw [strsE_snoc] at ho
            have hlr : (strsY (sufE r).reverse).length = k := by simp [strsY, hk]
            obtain ⟨g3, rfl, _, _, t0, _⟩ := own_get ho (k := k) (u := .string a.bs) (by rw [List.getElem?_append_right (by omega), hlr]; simp)
            have hot := own_take ho (k := k) (by omega)
            rw [List.take_left' hlr] at hot
            have HOT := Lib.hid hot
            have hcap := ownN_cap ho
            have hkc : (k : Int) ≤ (c3 : Int) := by omega
            have hkc2 : k ≤ c3 := by omega
            have hk0 : (0 : Int) ≤ (k : Int) := by omega
            have hkq : (k : Int) < (q : Int) := by omega
            have hw7 : IntKind.i64.wrap ((q : Int) - 1) = (k : Int) := by rw [IntWalk.i64_in _ (by omega)]; omega
            have HKR : Hid (k + 1 = (sufE (es.drop m)).length) := Lib.hid (by rw [HSN.out, hk]; rfl)
            have HIK : Hid (k ≤ 1099511627776) := Lib.hid (by omega)
            have hs1 : a.bs.size ≤ 10000 := by have h := HSZ.out; rw [bs_3, ByteArray.size_append'] at h; omega
            obtain ⟨tb, htb⟩ : ∃ tb, tb = (⟨#[104]⟩ : ByteArray) ++ a.bs := ⟨_, rfl⟩
            have HTB := Lib.hid htb
            have HST : Hid (strsY (sufE (es.drop m)).reverse = strsY (sufE r).reverse ++ [.string tb]) := Lib.hid (by rw [HSN.out, strsE_snoc, bs_3, htb])
            clear htb
            dsimp only at p0 p1
            clear he hd1 hg hka e1 hq ho hk hqk hlr hot hcap hw5 HQ HDD HSN HII HAT
            obtain ⟨us, hus⟩ : ∃ us, us = strsY (sufE r).reverse := ⟨_, rfl⟩
            rw [← hus] at HOT HST
            clear hus
            go_upto_region 13 with fail
            rw [← HTB.out]
            clear t0 hs1 HTB
            go_wp2_with (at_builtin; go_must (refine wpList_app1g eltStr rfl _ _ rfl wr w.heap.size (.slice (some ⟨g3, 0, none⟩) k c3) k us (by rfl) (by exact HOT.out) (.string tb) (by rfl) (by rfl) (by exact HB3.out.size) HIK.out ?_); rintro A6 c6 w6 ho6 hb6 hg6
                         have HO6 : Hid (w6.ownsRow w.heap.size 9 1 (.slice A6 (k + 1) c6) (k + 1) (strsY (sufE (es.drop m)).reverse)) := Lib.hid (by rw [HST.out]; exact ho6)
                         have HB6 : Hid (Below w.heap.size w w6) := Lib.hid (HB3.out.trans hb6)
                         clear ho6 hb6 hg6)
            go_roundw
            case rel => exact ⟨m, k + 1, _, A6, c6, by omega, rfl, rfl, Lib.hid (by first | rfl | (symm; exact IntWalk.i64_in _ (by omega)) | exact IntWalk.i64_in _ (by omega)), HKR, HO6, HB6⟩
            case measure => simp [intOf]
        · as_aux_lemma =>
            obtain ⟨he, hd1⟩ := drop_hd2 (e := ((4 : Int), (0 : Int))) (by have h := HDD.out; simpa [Ex.els] using h)
            have HSN : Hid (sufE (es.drop m) = .un (4, 0) a :: sufE r) := Lib.hid (by rw [HDD.out, sufE_app (.un (4, 0) a) ⟨by first | exact .inl rfl | exact .inr rfl, hka⟩])
            have e1 : sufE (es.drop (m + 1)) = a :: sufE r := by rw [hd1, sufE_app _ hka]
            have hq := HQ.out
            have ho := HO3.out
            rw [e1] at hq ho
            obtain ⟨g, off, rfl, hg, p0, p1⟩ := rdE (HR.out.below HB3.out (Nat.le_refl _)) (k := m) (x := ((4 : Int), (0 : Int))) he
            obtain ⟨k, hk⟩ : ∃ k, k = (sufE r).length := ⟨_, rfl⟩
            have hqk : q = k + 1 := by rw [hq, hk]; rfl
            rw [strsE_snoc] at ho
            have hlr : (strsY (sufE r).reverse).length = k := by simp [strsY, hk]
            obtain ⟨g3, rfl, _, _, t0, _⟩ := own_get ho (k := k) (u := .string a.bs) (by rw [List.getElem?_append_right (by omega), hlr]; simp)
            have hot := own_take ho (k := k) (by omega)
            rw [List.take_left' hlr] at hot
            have HOT := Lib.hid hot
            have hcap := ownN_cap ho
            have hkc : (k : Int) ≤ (c3 : Int) := by omega
            have hkc2 : k ≤ c3 := by omega
            have hk0 : (0 : Int) ≤ (k : Int) := by omega
            have hkq : (k : Int) < (q : Int) := by omega
            have hw7 : IntKind.i64.wrap ((q : Int) - 1) = (k : Int) := by rw [IntWalk.i64_in _ (by omega)]; omega
            have HKR : Hid (k + 1 = (sufE (es.drop m)).length) := Lib.hid (by rw [HSN.out, hk]; rfl)
            have HIK : Hid (k ≤ 1099511627776) := Lib.hid (by omega)
            have hs1 : a.bs.size ≤ 10000 := by have h := HSZ.out; rw [bs_4, ByteArray.size_append'] at h; omega
            obtain ⟨tb, htb⟩ : ∃ tb, tb = (⟨#[116]⟩ : ByteArray) ++ a.bs := ⟨_, rfl⟩
            have HTB := Lib.hid htb
            have HST : Hid (strsY (sufE (es.drop m)).reverse = strsY (sufE r).reverse ++ [.string tb]) := Lib.hid (by rw [HSN.out, strsE_snoc, bs_4, htb])
            clear htb
            dsimp only at p0 p1
            clear he hd1 hg hka e1 hq ho hk hqk hlr hot hcap hw5 HQ HDD HSN HII HAT
            obtain ⟨us, hus⟩ : ∃ us, us = strsY (sufE r).reverse := ⟨_, rfl⟩
            rw [← hus] at HOT HST
            clear hus
            go_upto_region 16 with fail
            rw [← HTB.out]
            clear t0 hs1 HTB
            go_wp2_with (at_builtin; go_must (refine wpList_app1g eltStr rfl _ _ rfl wr w.heap.size (.slice (some ⟨g3, 0, none⟩) k c3) k us (by rfl) (by exact HOT.out) (.string tb) (by rfl) (by rfl) (by exact HB3.out.size) HIK.out ?_); rintro A6 c6 w6 ho6 hb6 hg6
                         have HO6 : Hid (w6.ownsRow w.heap.size 9 1 (.slice A6 (k + 1) c6) (k + 1) (strsY (sufE (es.drop m)).reverse)) := Lib.hid (by rw [HST.out]; exact ho6)
                         have HB6 : Hid (Below w.heap.size w w6) := Lib.hid (HB3.out.trans hb6)
                         clear ho6 hb6 hg6)
            go_roundw
            case rel => exact ⟨m, k + 1, _, A6, c6, by omega, rfl, rfl, Lib.hid (by first | rfl | (symm; exact IntWalk.i64_in _ (by omega)) | exact IntWalk.i64_in _ (by omega)), HKR, HO6, HB6⟩
            case measure => simp [intOf]
      | bin ye a b =>
        obtain ⟨hk0, hka, hkb⟩ := hyk
        rcases hk0 with rfl | rfl
        · as_aux_lemma =>
            obtain ⟨he, hd1⟩ := drop_hd2 (e := ((2 : Int), (0 : Int))) (by have h := HDD.out; simpa [Ex.els] using h)
            have HSN : Hid (sufE (es.drop m) = .bin (2, 0) a b :: sufE r) := Lib.hid (by rw [HDD.out, sufE_app (.bin (2, 0) a b) ⟨by first | exact .inl rfl | exact .inr rfl, hka, hkb⟩])
            have e1 : sufE (es.drop (m + 1)) = a :: b :: sufE r := by first | rw [hd1, List.append_assoc, sufE_app _ hka, sufE_app _ hkb] | rw [hd1, sufE_app _ hka, sufE_app _ hkb]
            have hq := HQ.out
            have ho := HO3.out
            rw [e1] at hq ho
            obtain ⟨g, off, rfl, hg, p0, p1⟩ := rdE (HR.out.below HB3.out (Nat.le_refl _)) (k := m) (x := ((2 : Int), (0 : Int))) he
            obtain ⟨k, hk⟩ : ∃ k, k = (sufE r).length := ⟨_, rfl⟩
            obtain ⟨j, hj⟩ : ∃ j, j = k + 1 := ⟨_, rfl⟩
            have hqk : q = k + 2 := by rw [hq, hk]; rfl
            rw [strsE_two] at ho
            have hlr : (strsY (sufE r).reverse).length = k := by simp [strsY, hk]
            obtain ⟨g3, rfl, _, _, t0, _⟩ := own_get ho (k := k) (u := .string b.bs) (by rw [List.getElem?_append_right (by omega), hlr]; simp)
            obtain ⟨g4, hg4, _, _, t1, _⟩ := own_get ho (k := j) (u := .string a.bs) (by rw [List.getElem?_append_right (by omega), hlr, hj]; simp)
            injection hg4 with hg4
            injection hg4 with hg4
            subst hg4
            have hot := own_take ho (k := k) (by omega)
            rw [List.take_left' hlr] at hot
            have HOT := Lib.hid hot
            have hcap := ownN_cap ho
            have hkc : (k : Int) ≤ (c3 : Int) := by omega
            have hkc2 : k ≤ c3 := by omega
            have hk0 : (0 : Int) ≤ (k : Int) := by omega
            have hj0 : (0 : Int) ≤ (j : Int) := by omega
            have hkq : (k : Int) < (q : Int) := by omega
            have hjq : (j : Int) < (q : Int) := by omega
            have hw6 : IntKind.i64.wrap ((j : Int) - 1) = (k : Int) := by rw [IntWalk.i64_in _ (by omega)]; omega
            have hw7 : IntKind.i64.wrap ((q : Int) - 1) = (j : Int) := by rw [IntWalk.i64_in _ (by omega)]; omega
            have HKR : Hid (k + 1 = (sufE (es.drop m)).length) := Lib.hid (by rw [HSN.out, hk]; rfl)
            have HIK : Hid (k ≤ 1099511627776) := Lib.hid (by omega)
            have hs12 : a.bs.size ≤ 10000 ∧ b.bs.size ≤ 10000 := by have h := HSZ.out; rw [bs_2] at h; simp only [ByteArray.size_append'] at h; omega
            have hs1 := hs12.1
            have hs2 := hs12.2
            clear hs12
            obtain ⟨tb, htb⟩ : ∃ tb, tb = (((⟨#[40]⟩ ++ a.bs) ++ ⟨#[46]⟩) ++ b.bs) ++ ⟨#[41]⟩ := ⟨_, rfl⟩
            have HTB := Lib.hid htb
            have HST : Hid (strsY (sufE (es.drop m)).reverse = strsY (sufE r).reverse ++ [.string tb]) := Lib.hid (by rw [HSN.out, strsE_snoc, bs_2, htb])
            obtain ⟨us, hus⟩ : ∃ us, us = strsY (sufE r).reverse := ⟨_, rfl⟩
            rw [← hus] at HOT HST
            have HUS := Lib.hid hus
            dsimp only at p0 p1
            clear he hd1 hg hka hkb e1 hq ho hk hj hqk hlr hot hcap hw5 HQ HDD HSN HII HAT htb hus
            go_upto_region 18 with fail
            go_quiet (fail)
            rw [← HTB.out]
            have HB4 : Hid (Below w.heap.size w (wr.drewN nq)) := Lib.hid (below_drewN HB3.out)
            clear t0 t1 hjq hj0 HTB
            go_wp2_with (at_builtin; go_must (refine wpList_app1g eltStr rfl _ _ rfl (wr.drewN nq) w.heap.size (.slice (some ⟨g3, 0, none⟩) k c3) k us (by rfl) (by exact HOT.out) (.string tb) (by rfl) (by rfl) (by exact HB3.out.size) HIK.out ?_); rintro A6 c6 w6 ho6 hb6 hg6
                         have HO6 : Hid (w6.ownsRow w.heap.size 9 1 (.slice A6 (k + 1) c6) (k + 1) (strsY (sufE (es.drop m)).reverse)) := Lib.hid (by rw [HST.out]; exact ho6)
                         have HB6 : Hid (Below w.heap.size w w6) := Lib.hid (HB4.out.trans hb6)
                         clear ho6 hb6 hg6)
            go_roundw
            case rel => exact ⟨m, k + 1, _, A6, c6, by omega, rfl, rfl, Lib.hid (by first | rfl | (symm; exact IntWalk.i64_in _ (by omega)) | exact IntWalk.i64_in _ (by omega)), HKR, HO6, HB6⟩
            case measure => simp [intOf]
        · as_aux_lemma =>
            obtain ⟨he, hd1⟩ := drop_hd2 (e := ((5 : Int), (0 : Int))) (by have h := HDD.out; simpa [Ex.els] using h)
            have HSN : Hid (sufE (es.drop m) = .bin (5, 0) a b :: sufE r) := Lib.hid (by rw [HDD.out, sufE_app (.bin (5, 0) a b) ⟨by first | exact .inl rfl | exact .inr rfl, hka, hkb⟩])
            have e1 : sufE (es.drop (m + 1)) = a :: b :: sufE r := by first | rw [hd1, List.append_assoc, sufE_app _ hka, sufE_app _ hkb] | rw [hd1, sufE_app _ hka, sufE_app _ hkb]
            have hq := HQ.out
            have ho := HO3.out
            rw [e1] at hq ho
            obtain ⟨g, off, rfl, hg, p0, p1⟩ := rdE (HR.out.below HB3.out (Nat.le_refl _)) (k := m) (x := ((5 : Int), (0 : Int))) he
            obtain ⟨k, hk⟩ : ∃ k, k = (sufE r).length := ⟨_, rfl⟩
            obtain ⟨j, hj⟩ : ∃ j, j = k + 1 := ⟨_, rfl⟩
            have hqk : q = k + 2 := by rw [hq, hk]; rfl
            rw [strsE_two] at ho
            have hlr : (strsY (sufE r).reverse).length = k := by simp [strsY, hk]
            obtain ⟨g3, rfl, _, _, t0, _⟩ := own_get ho (k := k) (u := .string b.bs) (by rw [List.getElem?_append_right (by omega), hlr]; simp)
            obtain ⟨g4, hg4, _, _, t1, _⟩ := own_get ho (k := j) (u := .string a.bs) (by rw [List.getElem?_append_right (by omega), hlr, hj]; simp)
            injection hg4 with hg4
            injection hg4 with hg4
            subst hg4
            have hot := own_take ho (k := k) (by omega)
            rw [List.take_left' hlr] at hot
            have HOT := Lib.hid hot
            have hcap := ownN_cap ho
            have hkc : (k : Int) ≤ (c3 : Int) := by omega
            have hkc2 : k ≤ c3 := by omega
            have hk0 : (0 : Int) ≤ (k : Int) := by omega
            have hj0 : (0 : Int) ≤ (j : Int) := by omega
            have hkq : (k : Int) < (q : Int) := by omega
            have hjq : (j : Int) < (q : Int) := by omega
            have hw6 : IntKind.i64.wrap ((j : Int) - 1) = (k : Int) := by rw [IntWalk.i64_in _ (by omega)]; omega
            have hw7 : IntKind.i64.wrap ((q : Int) - 1) = (j : Int) := by rw [IntWalk.i64_in _ (by omega)]; omega
            have HKR : Hid (k + 1 = (sufE (es.drop m)).length) := Lib.hid (by rw [HSN.out, hk]; rfl)
            have HIK : Hid (k ≤ 1099511627776) := Lib.hid (by omega)
            have hs12 : a.bs.size ≤ 10000 ∧ b.bs.size ≤ 10000 := by have h := HSZ.out; rw [bs_5] at h; simp only [ByteArray.size_append'] at h; omega
            have hs1 := hs12.1
            have hs2 := hs12.2
            clear hs12
            obtain ⟨tb, htb⟩ : ∃ tb, tb = (((⟨#[40]⟩ ++ a.bs) ++ ⟨#[63]⟩) ++ b.bs) ++ ⟨#[41]⟩ := ⟨_, rfl⟩
            have HTB := Lib.hid htb
            have HST : Hid (strsY (sufE (es.drop m)).reverse = strsY (sufE r).reverse ++ [.string tb]) := Lib.hid (by rw [HSN.out, strsE_snoc, bs_5, htb])
            obtain ⟨us, hus⟩ : ∃ us, us = strsY (sufE r).reverse := ⟨_, rfl⟩
            rw [← hus] at HOT HST
            have HUS := Lib.hid hus
            dsimp only at p0 p1
            clear he hd1 hg hka hkb e1 hq ho hk hj hqk hlr hot hcap hw5 HQ HDD HSN HII HAT htb hus
            go_upto_region 21 with fail
            go_quiet (fail)
            rw [← HTB.out]
            have HB4 : Hid (Below w.heap.size w (wr.drewN nq)) := Lib.hid (below_drewN HB3.out)
            clear t0 t1 hjq hj0 HTB
            go_wp2_with (at_builtin; go_must (refine wpList_app1g eltStr rfl _ _ rfl (wr.drewN nq) w.heap.size (.slice (some ⟨g3, 0, none⟩) k c3) k us (by rfl) (by exact HOT.out) (.string tb) (by rfl) (by rfl) (by exact HB3.out.size) HIK.out ?_); rintro A6 c6 w6 ho6 hb6 hg6
                         have HO6 : Hid (w6.ownsRow w.heap.size 9 1 (.slice A6 (k + 1) c6) (k + 1) (strsY (sufE (es.drop m)).reverse)) := Lib.hid (by rw [HST.out]; exact ho6)
                         have HB6 : Hid (Below w.heap.size w w6) := Lib.hid (HB4.out.trans hb6)
                         clear ho6 hb6 hg6)
            go_roundw
            case rel => exact ⟨m, k + 1, _, A6, c6, by omega, rfl, rfl, Lib.hid (by first | rfl | (symm; exact IntWalk.i64_in _ (by omega)) | exact IntWalk.i64_in _ (by omega)), HKR, HO6, HB6⟩
            case measure => simp [intOf]
end Go.Proofs.YtadmbphefpfbmaaGreatDoor
