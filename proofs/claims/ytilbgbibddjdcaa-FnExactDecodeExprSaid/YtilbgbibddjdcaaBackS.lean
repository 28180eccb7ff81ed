/- Reading an expression back: the reference's function. Written by mk_backs.py. -/
import Derived.Test.YtilbgbibddjdcaaBackM
import Derived.Test.YtilbgbibddjdcaaAppN
namespace Go.Proofs.Ytilbgbibddjdcaa
open Go.RowKit
set_option linter.unusedVariables false
set_option linter.unusedSimpArgs false
theorem l23OpenN_any (w : World) (A : Option Addr) (n c : Nat) (a b : Tr) (hr : Rd w A n (bools (Tr.node a b).bits)) (hn : n ≤ 1000000000) (hnc : n ≤ c) : Calls Try.prog 126 #[.slice A n c] w (fun e w' => ∃ A n c, e = .returned (.tuple #[.int .i64 (tagI a), .slice A n c]) ∧ w'.ownsRow w.heap.size 4 1 (.slice A n c) n (bools b.bits) ∧ Below w.heap.size w w') := l23Open_any w A n c (.node a b) hr hn hnc
theorem l23OpenE_any (w : World) (A : Option Addr) (n c : Nat) (hr : Rd w A n (bools Tr.nil.bits)) (hn : n ≤ 1000000000) (hnc : n ≤ c) : Calls Try.prog 126 #[.slice A n c] w (fun e w' => ∃ A n c, e = .returned (.tuple #[.int .i64 (-1), .slice A n c]) ∧ w'.ownsRow w.heap.size 4 1 (.slice A n c) n (bools []) ∧ Below w.heap.size w w') := l23Open_any w A n c .nil hr hn hnc
theorem back_M {tg mk nn bo : Tr} (hM : ¬ (3 ≤ tagI mk ∧ tagI mk ≤ 6)) : backT (.node tg (.node (.node mk nn) bo)) = none := by
  match nn, bo with
  | .nil, .node a b =>
    simp only [backT]
    split
    · exact comb_no _ _ hM
    · rfl
  | .nil, .nil => simp [backT]
  | .node _ _, _ => simp [backT]
theorem isNil_no {xs : List El} (h : xs.length ≠ 1) : isNil1 xs = false := by
  match xs with
  | [] => rfl
  | [_] => simp at h
  | _ :: _ :: _ => rfl
theorem isNil_one {x : El} : isNil1 [x] = (x.1 == 0) := rfl
theorem cons_nums (k : Int) (xs : List El) : ints (eNums [(k, 0)]) ++ ints (eNums xs) = ints (eNums ((k, 0) :: xs)) := by simp [eNums]
theorem app_nums (xs ys : List El) : ints (eNums xs) ++ ints (eNums ys) = ints (eNums (xs ++ ys)) := by simp [eNums_append]
set_option maxHeartbeats 16000000 in
set_option maxRecDepth 100000 in
theorem l23Back_any : ∀ (N : Nat) (t : Tr), t.nodes ≤ N → ∀ (w : World) (A : Option Addr) (n c : Nat), Rd w A n (bools t.bits) → n ≤ 1000000 → n ≤ c → Calls Try.prog 84 #[.slice A n c] w (BackP w t.nodes (backT t)) := by
  intro N
  induction N with
  | zero => intro t ht; have := t.nodes_pos; omega
  | succ N ih =>
    intro t ht w A n c hr hn hnc
    cases t with
    | nil =>
      go_enter Try.func84, Try.ntmps84
      go_wp2_with fail
      refine (l23OpenE_any _ _ _ _ hr (by omega) hnc).mono ?_
      rintro e w2 ⟨A2, n2, c2, rfl, ho2, hb2⟩
      go_wp2_with fail
      go_ret2
      exact BackP.none_ rfl hb2
    | node tg rest =>
      have HIH := Lib.hid ih
      clear ih
      have hnn : n = (Tr.node tg rest).nodes := by have := hr.1; simp [Tr.bits_len] at this; exact this.symm
      have hrn : rest.nodes ≤ n := by rw [hnn]; simp only [Tr.nodes]; omega
      have HN : Hid ((Tr.node tg rest).nodes ≤ N + 1) := Lib.hid ht
      have hp1 : 1 ≤ (Tr.node tg rest).nodes := Tr.nodes_pos _
      clear ht hnn
      generalize hT : tagI tg = T
      have HT := Lib.hid hT
      by_cases h0 : T = 0
      · subst h0
        cases rest with
        | nil =>
          have HQ := Lib.hid (back_leaf0 hT)
          clear hT
          go_enter Try.func84, Try.ntmps84
          go_wp2_with fail
          refine (l23OpenN_any _ _ _ _ tg _ hr (by omega) hnc).mono ?_
          rw [HT.out]
          rintro e w2 ⟨A2, n2, c2, rfl, ho2, hb2⟩
          obtain ⟨g, rfl, hg1, hg2, hc, _⟩ := own_get ho2 (k := 0) (u := .bool false) rfl
          have hn2 : 0 < n2 := by have := ho2.1; simp [Tr.bits] at this; omega
          go_wp2_with fail
          go_ret2
          exact ⟨_, 1, 1, [(0, 0)], by rw [HQ.out]; rfl, ownN_base (lit_el w2 0) hb2.size, by rw [HQ.out]; intro z hz; injection hz, hp1, hb2.trans ((below_new _ _).mono hb2.size)⟩
        | node x y =>
          have HQ := Lib.hid (back_nd (x := x) (y := y) (tg := tg) (by rw [hT]; decide))
          clear hT
          go_enter Try.func84, Try.ntmps84
          go_wp2_with fail
          refine (l23OpenN_any _ _ _ _ tg _ hr (by omega) hnc).mono ?_
          rw [HT.out]
          rintro e w2 ⟨A2, n2, c2, rfl, ho2, hb2⟩
          obtain ⟨g, rfl, hg1, hg2, hc, _⟩ := own_get ho2 (k := 0) (u := .bool true) rfl
          have hn2 : 0 < n2 := by have := ho2.1; simp [Tr.bits] at this; omega
          go_wp2_with fail
          go_ret2
          exact BackP.none_ HQ.out hb2
      by_cases h1 : T = 1
      · subst h1
        cases rest with
        | nil =>
          have HQ := Lib.hid (back_leaf1 hT)
          clear hT
          go_enter Try.func84, Try.ntmps84
          go_wp2_with fail
          refine (l23OpenN_any _ _ _ _ tg _ hr (by omega) hnc).mono ?_
          rw [HT.out]
          rintro e w2 ⟨A2, n2, c2, rfl, ho2, hb2⟩
          obtain ⟨g, rfl, hg1, hg2, hc, _⟩ := own_get ho2 (k := 0) (u := .bool false) rfl
          have hn2 : 0 < n2 := by have := ho2.1; simp [Tr.bits] at this; omega
          go_wp2_with fail
          go_ret2
          exact ⟨_, 1, 1, [(1, 0)], by rw [HQ.out]; rfl, ownN_base (lit_el w2 1) hb2.size, by rw [HQ.out]; intro z hz; injection hz, hp1, hb2.trans ((below_new _ _).mono hb2.size)⟩
        | node x y =>
          have HQ := Lib.hid (back_nd (x := x) (y := y) (tg := tg) (by rw [hT]; decide))
          clear hT
          go_enter Try.func84, Try.ntmps84
          go_wp2_with fail
          refine (l23OpenN_any _ _ _ _ tg _ hr (by omega) hnc).mono ?_
          rw [HT.out]
          rintro e w2 ⟨A2, n2, c2, rfl, ho2, hb2⟩
          obtain ⟨g, rfl, hg1, hg2, hc, _⟩ := own_get ho2 (k := 0) (u := .bool true) rfl
          have hn2 : 0 < n2 := by have := ho2.1; simp [Tr.bits] at this; omega
          go_wp2_with fail
          go_ret2
          exact BackP.none_ HQ.out hb2
      by_cases h2 : T = 2
      · subst h2
        cases rest with
        | nil =>
          have HQ := Lib.hid (back_2nil hT)
          clear hT
          go_enter Try.func84, Try.ntmps84
          go_wp2_with fail
          refine (l23OpenN_any _ _ _ _ tg _ hr (by omega) hnc).mono ?_
          rw [HT.out]
          rintro e w2 ⟨A2, n2, c2, rfl, ho2, hb2⟩
          obtain ⟨g, rfl, hg1, hg2, hc, _⟩ := own_get ho2 (k := 0) (u := .bool false) rfl
          have hn2 : 0 < n2 := by have := ho2.1; simp [Tr.bits] at this; omega
          go_wp2_with fail
          go_ret2
          exact BackP.none_ HQ.out hb2
        | node m bo =>
          clear hT
          go_enter Try.func84, Try.ntmps84
          go_wp2_with fail
          refine (l23OpenN_any _ _ _ _ tg _ hr (by omega) hnc).mono ?_
          rw [HT.out]
          rintro e w2 ⟨A2, n2, c2, rfl, ho2, hb2⟩
          obtain ⟨g, rfl, hg1, hg2, hc, _⟩ := own_get ho2 (k := 0) (u := .bool true) rfl
          have hn2 : 0 < n2 := by have := ho2.1; simp [Tr.bits] at this; omega
          have hn2n : n2 ≤ n := by have h3 := ho2.1; simp only [List.length_map, Tr.bits_len] at h3; omega
          have hnc2 : n2 ≤ c2 := ownN_cap ho2
          have hmn : m.nodes ≤ n := by simp only [Tr.nodes] at hrn; omega
          have hbn : bo.nodes ≤ n := by simp only [Tr.nodes] at hrn; omega
          have HO2 := Lib.hid (own_rd ho2)
          have HB2 := Lib.hid hb2
          clear ho2 hb2
          go_wp2_with fail
          refine (l21Head_any _ _ _ _ (.node m bo) HO2.out (by omega) hnc2).mono ?_
          rintro e w3 ⟨A3, n3, c3, rfl, ho3, hb3⟩
          have hn3 : n3 ≤ n := by have h3 := ho3.1; simp only [List.length_map, Tr.bits_len, Tr.hd] at h3; omega
          have HO3 := Lib.hid (own_rd ho3)
          have HC3 := Lib.hid (ownN_cap ho3)
          have HB3 := Lib.hid (HB2.out.trans (hb3.mono HB2.out.size))
          have HO23 := Lib.hid (HO2.out.below hb3 (Nat.le_refl _))
          clear ho3 hb3 hc
          go_wp2_with fail
          cases m with
          | nil =>
            have HQ : Hid (backT (.node tg (.node .nil bo)) = none) := Lib.hid (by simp [backT])
            refine (l23OpenE_any _ _ _ _ HO3.out (by omega) HC3.out).mono ?_
            rintro e w4 ⟨A4, n4, c4, rfl, ho4, hb4⟩
            have hB4 := HB3.out.trans (hb4.mono HB3.out.size)
            go_wp2_with fail
            refine (l21Tail_any _ _ _ _ (.node .nil bo) (HO23.out.below hb4 (Nat.le_refl _)) (by omega) hnc2).mono ?_
            rintro e w5 ⟨A5, n5, c5, rfl, ho5, hb5⟩
            go_wp2_with (go_at_call 111; go_must (refine (l00In_any _ _ _ _).mono ?_; rw [show inB (-1) 3 6 = false from rfl]; rintro e w' ⟨rfl, rfl⟩))
            go_ret2
            exact BackP.none_ HQ.out (hB4.trans (hb5.mono hB4.size))
          | node mk nn =>
            generalize hM : tagI mk = M
            refine (l23OpenN_any _ _ _ _ mk nn HO3.out (by omega) HC3.out).mono ?_
            rw [hM]
            rintro e w4 ⟨A4, n4, c4, rfl, ho4, hb4⟩
            have HM := Lib.hid hM
            clear hM
            have hnn4 : nn.nodes ≤ n := by simp only [Tr.nodes] at hmn; omega
            have HB4 := Lib.hid (HB3.out.trans (hb4.mono HB3.out.size))
            go_wp2_with fail
            refine (l21Tail_any _ _ _ _ (.node (.node mk nn) bo) (HO23.out.below hb4 (Nat.le_refl _)) (by omega) hnc2).mono ?_
            rintro e w5 ⟨A5, n5, c5, rfl, ho5, hb5⟩
            have HB5 := Lib.hid (HB4.out.trans (hb5.mono HB4.out.size))
            have ho45 := own_below ho4 hb5 (Nat.le_refl _)
            clear ho4 hb4 hb5
            cases hin : inB M 3 6 with
            | false =>
              have HQ := Lib.hid (back_M (tg := tg) (mk := mk) (nn := nn) (bo := bo) (by rw [HM.out]; exact inB_false.1 hin))
              have HI := Lib.hid hin
              clear hin
              go_wp2_with (go_at_call 111; go_must (refine (l00In_any _ _ _ _).mono ?_; rw [HI.out]; rintro e w' ⟨rfl, rfl⟩))
              go_ret2
              exact BackP.none_ HQ.out HB5.out
            | true =>
              have HI := Lib.hid hin
              have hMb := inB_true.1 hin
              clear hin
              cases nn with
              | node n1 n2' =>
                have HQ : Hid (backT (.node tg (.node (.node mk (.node n1 n2')) bo)) = none) := Lib.hid (by simp [backT])
                obtain ⟨g4, rfl, _, _, hc4, _⟩ := own_get ho45 (k := 0) (u := .bool true) rfl
                have hn4 : 0 < n4 := by have := ho45.1; simp [Tr.bits] at this; omega
                go_wp2_with (go_at_call 111; go_must (refine (l00In_any _ _ _ _).mono ?_; rw [HI.out]; rintro e w' ⟨rfl, rfl⟩))
                go_ret2
                exact BackP.none_ HQ.out HB5.out
              | nil =>
                obtain ⟨g4, rfl, _, _, hc4, _⟩ := own_get ho45 (k := 0) (u := .bool false) rfl
                have hn4 : 0 < n4 := by have := ho45.1; simp [Tr.bits] at this; omega
                cases bo with
                | nil =>
                  have HQ : Hid (backT (.node tg (.node (.node mk .nil) .nil)) = none) := Lib.hid (by simp [backT])
                  obtain ⟨g5, rfl, _, _, hc5, _⟩ := own_get ho5 (k := 0) (u := .bool false) rfl
                  have hn5 : 0 < n5 := by have := ho5.1; simp [Tr.bits, Tr.tl] at this; omega
                  go_wp2_with (go_at_call 111; go_must (refine (l00In_any _ _ _ _).mono ?_; rw [HI.out]; rintro e w' ⟨rfl, rfl⟩))
                  go_ret2
                  exact BackP.none_ HQ.out HB5.out
                | node a b =>
                  obtain ⟨g5, rfl, _, _, hc5, _⟩ := own_get ho5 (k := 0) (u := .bool true) rfl
                  have hn5 : 0 < n5 := by have := ho5.1; simp [Tr.bits, Tr.tl] at this; omega
                  have hn5n : n5 ≤ n := by have h3 := ho5.1; simp only [List.length_map, Tr.bits_len, Tr.tl] at h3; omega
                  have HO5 := Lib.hid (own_rd ho5)
                  have HC5 := Lib.hid (ownN_cap ho5)
                  have hna : a.nodes ≤ n := by simp only [Tr.nodes] at hbn; omega
                  have hnb : b.nodes ≤ n := by simp only [Tr.nodes] at hbn; omega
                  have HNA : Hid (a.nodes ≤ N ∧ b.nodes ≤ N ∧ a.nodes + b.nodes + 1 ≤ (Tr.node tg (.node (.node mk .nil) (.node a b))).nodes) := Lib.hid (by have h3 := HN.out; simp only [Tr.nodes] at h3 ⊢; omega)
                  clear ho5 ho45 hrn hmn hbn
                  go_wp2_with (go_at_call 111; go_must (refine (l00In_any _ _ _ _).mono ?_; rw [HI.out]; rintro e w' ⟨rfl, rfl⟩))
                  have HBK : Hid (backT (.node tg (.node (.node mk .nil) (.node a b))) = comb mk (backT a) (backT b)) := Lib.hid (back_2 HT.out)
                  clear hc4 hc5
                  refine (l21Head_any _ _ _ _ (.node a b) (by exact HO5.out) (by omega) HC5.out).mono ?_
                  rintro e w6 ⟨A6, n6, c6, rfl, ho6, hb6⟩
                  have hn6 : n6 ≤ n := by have h3 := ho6.1; simp only [List.length_map, Tr.bits_len, Tr.hd] at h3; omega
                  have HB6 := Lib.hid (HB5.out.trans (hb6.mono HB5.out.size))
                  have HO56 := Lib.hid (HO5.out.below hb6 (Nat.le_refl _))
                  have hca := HIH.out a HNA.out.1 _ _ _ _ (own_rd ho6) (by omega) (ownN_cap ho6)
                  clear ho6 hb6
                  generalize hoa : backT a = oa at hca HBK
                  have HOA := Lib.hid hoa
                  clear hoa
                  go_wp2_with fail
                  refine hca.mono ?_
                  rintro e w7 ⟨A7, n7, c7, za, rfl, ho7, hz7, hn7, hb7⟩
                  have HB7 := Lib.hid (HB6.out.trans (hb7.mono HB6.out.size))
                  have HO57 := Lib.hid (HO56.out.below hb7 (Nat.le_refl _))
                  clear hca hb7
                  go_wp2_with fail
                  refine (l21Tail_any _ _ _ _ (.node a b) (by exact HO57.out) (by omega) HC5.out).mono ?_
                  rintro e w8 ⟨A8, n8, c8, rfl, ho8, hb8⟩
                  have hn8 : n8 ≤ n := by have h3 := ho8.1; simp only [List.length_map, Tr.bits_len, Tr.tl] at h3; omega
                  have HB8 := Lib.hid (HB7.out.trans (hb8.mono HB7.out.size))
                  have ho78 := ownN_below ho7 hb8 (Nat.le_refl _)
                  have hcb := HIH.out b HNA.out.2.1 _ _ _ _ (own_rd ho8) (by omega) (ownN_cap ho8)
                  clear ho8 hb8 ho7
                  generalize hob : backT b = ob at hcb HBK
                  have HOB := Lib.hid hob
                  clear hob
                  go_wp2_with fail
                  refine hcb.mono ?_
                  rintro e w9 ⟨A9, n9, c9, zb, rfl, ho9, hz9, hn9, hb9⟩
                  have HB9 := Lib.hid (HB8.out.trans (hb9.mono HB8.out.size))
                  have ho79 := ownN_below ho78 hb9 (Nat.le_refl _)
                  clear hcb hb9 ho78
                  cases oa with
                  | none =>
                    simp only [Option.isSome_none]
                    have HQ := Lib.hid (HBK.out.trans (comb_l _ _))
                    go_wp2_with fail
                    go_ret2
                    exact BackP.none_ HQ.out HB9.out
                  | some xa =>
                    cases ob with
                    | none =>
                      simp only [Option.isSome_none, Option.isSome_some]
                      have HQ := Lib.hid (HBK.out.trans (comb_r _ _))
                      go_wp2_with fail
                      go_ret2
                      exact BackP.none_ HQ.out HB9.out
                    | some xb =>
                      simp only [Option.isSome_some]
                      obtain rfl : za = xa := hz7 xa rfl
                      obtain rfl : zb = xb := hz9 xb rfl
                      have hN3 := HNA.out.2.2
                      have hna7 := hn7
                      have hnb9 := hn9
                      have hkb := below_new w9 (.cells #[.int .i64 2, .int .i64 3, .int .i64 4, .int .i64 5] 2)
                      have hkx := box_new w9 #[.int .i64 2, .int .i64 3, .int .i64 4, .int .i64 5] 2
                      have HA7 := Lib.hid (ownN_rd ho79)
                      have HA9 := Lib.hid (ownN_rd ho9)
                      have hL9 := eN_len ho9
                      clear ho79 ho9 hz7 hz9
                      obtain ⟨wk, hwk⟩ : ∃ wk, wk = w9.alloc (.cells #[.int .i64 2, .int .i64 3, .int .i64 4, .int .i64 5] 2) := ⟨_, rfl⟩
                      have HBk : Hid (Below w.heap.size w wk) := Lib.hid (by rw [hwk]; exact HB9.out.trans (hkb.mono HB9.out.size))
                      have HAk : Hid (Rd wk A7 (n7 * 2) (ints (eNums za)) ∧ Rd wk A9 (n9 * 2) (ints (eNums zb))) := Lib.hid (by rw [hwk]; exact ⟨HA7.out.below hkb (Nat.le_refl _), HA9.out.below hkb (Nat.le_refl _)⟩)
                      have hM4 : M = 3 ∨ M = 4 ∨ M = 5 ∨ M = 6 := by omega
                      clear hMb hkb HA7 HA9
                      rcases hM4 with rfl | hM4
                      · have kc := blk_cell hkx 0 rfl
                        rw [← hwk] at kc
                        clear hkx
                        have hsz : wk.heap.size = w9.heap.size + 1 := by rw [hwk]; simp
                        have hlt := lit_el wk 2
                        have hbl := below_new wk (.cells #[.int .i64 2, .int .i64 0] 89)
                        have HAl := Lib.hid (And.intro (HAk.out.1.below hbl (Nat.le_refl _)) (HAk.out.2.below hbl (Nat.le_refl _)))
                        have HQ := Lib.hid (HBK.out.trans (comb_3 (x := za) (y := zb) HM.out))
                        rw [hsz] at hlt hbl
                        have HBL := Lib.hid hbl
                        have HLT := Lib.hid hlt
                        clear hbl hlt hsz
                        subst hwk
                        go_wp2_with (first
                          | (at_builtin; refine wpList_appSN eltEl rfl _ _ rfl _ (w9.heap.size + 1) _ 1 _ (by rfl) (by exact HLT.out) _ n7 c7 (ints (eNums za)) (by rfl) (by exact HAl.out.1) (ints_one1 _) (by simp) (by omega) ?_; rintro A10 c10 w10 ho10 hb10 hg10; have hs10 := hb10.size; have HAm := Lib.hid (HAk.out.2.below (HBL.out.trans hb10) (by simp)))
                          | (at_builtin; go_must (refine wpList_appSN eltEl rfl _ _ rfl _ (w9.heap.size + 1) _ (1 + n7) _ (by rfl) ho10 _ n9 c9 (ints (eNums zb)) (by rfl) (by exact HAm.out) (ints_one1 _) (by simp at hs10; omega) (by omega) ?_); rintro A11 c11 w11 ho11 hb11 hg11))
                        go_ret2
                        rw [cons_nums, app_nums] at ho11
                        exact ⟨A11, 1 + n7 + n9, c11, (2, 0) :: (za ++ zb), by rw [HQ.out]; rfl, ownN_base ho11 (by have := HB9.out.size; omega), by rw [HQ.out]; intro z hz; injection hz, by omega, HBk.out.trans ((HBL.out.trans (hb10.trans hb11)).mono (by have := HB9.out.size; omega))⟩
                      rcases hM4 with rfl | hM4
                      · have kc := blk_cell hkx 1 rfl
                        rw [← hwk] at kc
                        clear hkx
                        have hsz : wk.heap.size = w9.heap.size + 1 := by rw [hwk]; simp
                        have hlt := lit_el wk 3
                        have hbl := below_new wk (.cells #[.int .i64 3, .int .i64 0] 89)
                        have HAl := Lib.hid (And.intro (HAk.out.1.below hbl (Nat.le_refl _)) (HAk.out.2.below hbl (Nat.le_refl _)))
                        have HQ := Lib.hid (HBK.out.trans (comb_4 (x := za) (y := zb) HM.out))
                        rw [hsz] at hlt hbl
                        have HBL := Lib.hid hbl
                        have HLT := Lib.hid hlt
                        clear hbl hlt hsz
                        subst hwk
                        go_wp2_with (at_builtin; go_must (refine wpList_appSN eltEl rfl _ _ rfl _ (w9.heap.size + 1) _ 1 _ (by rfl) (by exact HLT.out) _ n7 c7 (ints (eNums za)) (by rfl) (by exact HAl.out.1) (ints_one1 _) (by simp) (by omega) ?_); rintro A10 c10 w10 ho10 hb10 hg10; have HAm := Lib.hid (HAk.out.2.below (HBL.out.trans hb10) (by simp)))
                        rw [cons_nums] at ho10
                        have hNN : 1 + n7 ≤ (Tr.node tg (.node (.node mk .nil) (.node a b))).nodes := by omega
                        have hBB := HBk.out.trans ((HBL.out.trans hb10).mono (by have := HB9.out.size; omega))
                        have hOO := ownN_base ho10 (base' := w.heap.size) (by have := HB9.out.size; omega)
                        clear ho10 hb10 hg10 kc
                        by_cases h19 : n9 = 1
                        · subst h19
                          obtain ⟨y, hy⟩ := get_some (xs := zb) (k := 0) (by omega)
                          have hzb : zb = [y] := by
                            match zb, hL9, hy with
                            | [q], _, hy => simp at hy; rw [hy]
                          obtain ⟨bk, off, rfl, hbs, q0, q1⟩ := rdE HAm.out hy
                          simp only [Nat.zero_mul, Nat.add_zero] at q0
                          have HN1 : Hid (isNil1 zb = (y.1 == 0)) := Lib.hid (by rw [hzb]; rfl)
                          clear hy hzb hL9 q1
                          by_cases hy0 : y.1 = 0
                          · have HR : Hid (backT (.node tg (.node (.node mk .nil) (.node a b))) = some ((3, 0) :: za)) := Lib.hid (by rw [HQ.out, HN1.out, hy0]; rfl)
                            rw [hy0] at q0
                            clear hy0
                            go_quiet (fail)
                            go_wp2_with fail
                            go_ret2
                            exact ⟨A10, 1 + n7, c10, _, by rw [HR.out]; rfl, hOO, by rw [HR.out]; intro z hz; injection hz, hNN, below_drewN hBB⟩
                          · have HR : Hid (backT (.node tg (.node (.node mk .nil) (.node a b))) = none) := Lib.hid (by rw [HQ.out, HN1.out]; simp [hy0])
                            have y0 : (y.1 == 0) = false := by simpa using hy0
                            go_quiet (fail)
                            go_wp2_with fail
                            go_ret2
                            exact ⟨A10, 1 + n7, c10, _, by rw [HR.out]; rfl, hOO, (by rw [HR.out]; intro z hz; cases hz), hNN, below_drewN hBB⟩
                        · have HR : Hid (backT (.node tg (.node (.node mk .nil) (.node a b))) = none) := Lib.hid (by rw [HQ.out, isNil_no (by omega)]; rfl)
                          have y9 : ((n9 : Int) == 1) = false := by simp; omega
                          go_quiet (fail)
                          go_wp2_with fail
                          go_ret2
                          exact ⟨A10, 1 + n7, c10, _, by rw [HR.out]; rfl, hOO, (by rw [HR.out]; intro z hz; cases hz), hNN, below_drewN hBB⟩
                      rcases hM4 with rfl | rfl
                      · have kc := blk_cell hkx 2 rfl
                        rw [← hwk] at kc
                        clear hkx
                        have hsz : wk.heap.size = w9.heap.size + 1 := by rw [hwk]; simp
                        have hlt := lit_el wk 4
                        have hbl := below_new wk (.cells #[.int .i64 4, .int .i64 0] 89)
                        have HAl := Lib.hid (And.intro (HAk.out.1.below hbl (Nat.le_refl _)) (HAk.out.2.below hbl (Nat.le_refl _)))
                        have HQ := Lib.hid (HBK.out.trans (comb_5 (x := za) (y := zb) HM.out))
                        rw [hsz] at hlt hbl
                        have HBL := Lib.hid hbl
                        have HLT := Lib.hid hlt
                        clear hbl hlt hsz
                        subst hwk
                        go_wp2_with (at_builtin; go_must (refine wpList_appSN eltEl rfl _ _ rfl _ (w9.heap.size + 1) _ 1 _ (by rfl) (by exact HLT.out) _ n7 c7 (ints (eNums za)) (by rfl) (by exact HAl.out.1) (ints_one1 _) (by simp) (by omega) ?_); rintro A10 c10 w10 ho10 hb10 hg10; have HAm := Lib.hid (HAk.out.2.below (HBL.out.trans hb10) (by simp)))
                        rw [cons_nums] at ho10
                        have hNN : 1 + n7 ≤ (Tr.node tg (.node (.node mk .nil) (.node a b))).nodes := by omega
                        have hBB := HBk.out.trans ((HBL.out.trans hb10).mono (by have := HB9.out.size; omega))
                        have hOO := ownN_base ho10 (base' := w.heap.size) (by have := HB9.out.size; omega)
                        clear ho10 hb10 hg10 kc
                        by_cases h19 : n9 = 1
                        · subst h19
                          obtain ⟨y, hy⟩ := get_some (xs := zb) (k := 0) (by omega)
                          have hzb : zb = [y] := by
                            match zb, hL9, hy with
                            | [q], _, hy => simp at hy; rw [hy]
                          obtain ⟨bk, off, rfl, hbs, q0, q1⟩ := rdE HAm.out hy
                          simp only [Nat.zero_mul, Nat.add_zero] at q0
                          have HN1 : Hid (isNil1 zb = (y.1 == 0)) := Lib.hid (by rw [hzb]; rfl)
                          clear hy hzb hL9 q1
                          by_cases hy0 : y.1 = 0
                          · have HR : Hid (backT (.node tg (.node (.node mk .nil) (.node a b))) = some ((4, 0) :: za)) := Lib.hid (by rw [HQ.out, HN1.out, hy0]; rfl)
                            rw [hy0] at q0
                            clear hy0
                            go_quiet (fail)
                            go_wp2_with fail
                            go_ret2
                            exact ⟨A10, 1 + n7, c10, _, by rw [HR.out]; rfl, hOO, by rw [HR.out]; intro z hz; injection hz, hNN, below_drewN hBB⟩
                          · have HR : Hid (backT (.node tg (.node (.node mk .nil) (.node a b))) = none) := Lib.hid (by rw [HQ.out, HN1.out]; simp [hy0])
                            have y0 : (y.1 == 0) = false := by simpa using hy0
                            go_quiet (fail)
                            go_wp2_with fail
                            go_ret2
                            exact ⟨A10, 1 + n7, c10, _, by rw [HR.out]; rfl, hOO, (by rw [HR.out]; intro z hz; cases hz), hNN, below_drewN hBB⟩
                        · have HR : Hid (backT (.node tg (.node (.node mk .nil) (.node a b))) = none) := Lib.hid (by rw [HQ.out, isNil_no (by omega)]; rfl)
                          have y9 : ((n9 : Int) == 1) = false := by simp; omega
                          go_quiet (fail)
                          go_wp2_with fail
                          go_ret2
                          exact ⟨A10, 1 + n7, c10, _, by rw [HR.out]; rfl, hOO, (by rw [HR.out]; intro z hz; cases hz), hNN, below_drewN hBB⟩
                      · have kc := blk_cell hkx 3 rfl
                        rw [← hwk] at kc
                        clear hkx
                        have hsz : wk.heap.size = w9.heap.size + 1 := by rw [hwk]; simp
                        have hlt := lit_el wk 5
                        have hbl := below_new wk (.cells #[.int .i64 5, .int .i64 0] 89)
                        have HAl := Lib.hid (And.intro (HAk.out.1.below hbl (Nat.le_refl _)) (HAk.out.2.below hbl (Nat.le_refl _)))
                        have HQ := Lib.hid (HBK.out.trans (comb_6 (x := za) (y := zb) HM.out))
                        rw [hsz] at hlt hbl
                        have HBL := Lib.hid hbl
                        have HLT := Lib.hid hlt
                        clear hbl hlt hsz
                        subst hwk
                        go_wp2_with (first
                          | (at_builtin; refine wpList_appSN eltEl rfl _ _ rfl _ (w9.heap.size + 1) _ 1 _ (by rfl) (by exact HLT.out) _ n7 c7 (ints (eNums za)) (by rfl) (by exact HAl.out.1) (ints_one1 _) (by simp) (by omega) ?_; rintro A10 c10 w10 ho10 hb10 hg10; have hs10 := hb10.size; have HAm := Lib.hid (HAk.out.2.below (HBL.out.trans hb10) (by simp)))
                          | (at_builtin; go_must (refine wpList_appSN eltEl rfl _ _ rfl _ (w9.heap.size + 1) _ (1 + n7) _ (by rfl) ho10 _ n9 c9 (ints (eNums zb)) (by rfl) (by exact HAm.out) (ints_one1 _) (by simp at hs10; omega) (by omega) ?_); rintro A11 c11 w11 ho11 hb11 hg11))
                        go_ret2
                        rw [cons_nums, app_nums] at ho11
                        exact ⟨A11, 1 + n7 + n9, c11, (5, 0) :: (za ++ zb), by rw [HQ.out]; rfl, ownN_base ho11 (by have := HB9.out.size; omega), by rw [HQ.out]; intro z hz; injection hz, by omega, HBk.out.trans ((HBL.out.trans (hb10.trans hb11)).mono (by have := HB9.out.size; omega))⟩
      · have HQ := Lib.hid (back_no (tg := tg) rest (by rw [hT]; exact h0) (by rw [hT]; exact h1) (by rw [hT]; exact h2))
        have b0 : (T == 0) = false := by simpa using h0
        have b1 : (T == 1) = false := by simpa using h1
        have b2 : (T == 2) = false := by simpa using h2
        have b2' : (T != 2) = true := by simpa using h2
        clear hT
        go_enter Try.func84, Try.ntmps84
        go_wp2_with fail
        refine (l23OpenN_any _ _ _ _ tg _ hr (by omega) hnc).mono ?_
        rw [HT.out]
        rintro e w2 ⟨A2, n2, c2, rfl, ho2, hb2⟩
        go_wp2_with fail
        go_ret2
        exact BackP.none_ HQ.out hb2
end Go.Proofs.Ytilbgbibddjdcaa
