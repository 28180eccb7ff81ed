/- The code of an expression: the program's codeOfExpr. -/
import Derived.Test.YtilbgbibddjdcaaExC
namespace Go.Proofs.Ytilbgbibddjdcaa
open Go.RowKit
set_option linter.unusedVariables false
set_option linter.unusedSimpArgs false
set_option maxHeartbeats 800000 in
theorem markOf_any (w : World) (k : Int) : Calls Try.prog 125 #[.int .i64 k] w fun e w' => e = .returned (.int .i64 (markN k)) ∧ w = w' := by
  by_cases h2 : k = 2
  · subst h2
    go_enter Try.func125, Try.ntmps125
    go_wp2_with fail
    go_ret
    exact ⟨rfl, rfl⟩
  by_cases h3 : k = 3
  · subst h3
    go_enter Try.func125, Try.ntmps125
    go_wp2_with fail
    go_ret
    exact ⟨rfl, rfl⟩
  by_cases h4 : k = 4
  · subst h4
    go_enter Try.func125, Try.ntmps125
    go_wp2_with fail
    go_ret
    exact ⟨rfl, rfl⟩
  have HF : Hid (markN k = 6) := Lib.hid (by simp [markN, h2, h3, h4])
  have b2 : (k == 2) = false := by simpa using h2
  have b3 : (k == 3) = false := by simpa using h3
  have b4 : (k == 4) = false := by simpa using h4
  go_enter Try.func125, Try.ntmps125
  go_wp2_with fail
  go_ret
  exact ⟨by rw [HF.out]; rfl, rfl⟩
theorem kind_leaf {k v : Int} (ho : okEl (k, v) = true) (hf : fol (k, v) = 0) : k = 0 ∨ k = 1 := by
  simp only [okEl, Bool.and_eq_true, inB_true] at ho
  unfold fol at hf
  simp only at hf
  split at hf
  · omega
  · split at hf
    · omega
    · omega
theorem kind_un {k v : Int} (hf : fol (k, v) = 1) : k = 3 ∨ k = 4 := by
  unfold fol at hf
  simp only at hf
  split at hf
  · omega
  · split at hf <;> omega
theorem kind_bin {k v : Int} (hf : fol (k, v) = 2) : k = 2 ∨ k = 5 := by
  unfold fol at hf
  simp only at hf
  split at hf
  · omega
  · split at hf <;> omega
theorem nilT (w : World) (lo hi : Nat) : IsT w lo hi (.pointer none) .nil := rfl
set_option maxHeartbeats 2000000 in
theorem codeLeaf_any (w : World) (A : Option Addr) (n c : Nat) (k v : Int) (ho : okEl (k, v) = true) (hg : fol (k, v) = 0) (hr : RdE w A n [(k, v)]) : Calls Try.prog 82 #[.slice A n c] w (RetTr w w.heap.size (Ex.leaf (k, v)).code) := by
  have hL : n = 1 := by have := rdE_len hr; simpa using this.symm
  subst hL
  obtain ⟨b, off, rfl, hbs, q0, q1⟩ := rdE (k := 0) hr rfl
  simp only [Nat.zero_mul, Nat.add_zero] at q0 q1
  rcases kind_leaf ho hg with rfl | rfl
  · clear ho hg hr
    go_enter Try.func82, Try.ntmps82
    go_wp2_with fail
    refine (tagTree_any _ 0 (by omega) _ rfl).mono ?_
    rintro e w2 ⟨v2, rfl, h2, hb2⟩
    obtain ⟨o2, rfl⟩ := h2.isPtr
    go_wp2_with fail
    refine (pair_any _ w.heap.size _ _ _ _ h2 (nilT _ _ _) hb2.size (by have := tag_nodes 0; omega) (by simp [Tr.nodes])).mono ?_
    rintro e w3 ⟨v3, rfl, h3, hb3⟩
    obtain ⟨o3, rfl⟩ := h3.isPtr
    go_wp2_with fail
    go_ret
    exact ⟨_, rfl, h3, hb2.trans (hb3.mono hb2.size)⟩
  · clear ho hg hr
    go_enter Try.func82, Try.ntmps82
    go_wp2_with fail
    refine (tagTree_any _ 1 (by omega) _ rfl).mono ?_
    rintro e w2 ⟨v2, rfl, h2, hb2⟩
    obtain ⟨o2, rfl⟩ := h2.isPtr
    go_wp2_with fail
    refine (pair_any _ w.heap.size _ _ _ _ h2 (nilT _ _ _) hb2.size (by have := tag_nodes 1; omega) (by simp [Tr.nodes])).mono ?_
    rintro e w3 ⟨v3, rfl, h3, hb3⟩
    obtain ⟨o3, rfl⟩ := h3.isPtr
    go_wp2_with fail
    go_ret
    exact ⟨_, rfl, h3, hb2.trans (hb3.mono hb2.size)⟩
theorem lit_leaf (w : World) : RdE (w.alloc (.cells #[.int .i64 0, .int .i64 0] 89)) (some ⟨w.heap.size, 0, none⟩) 1 (Ex.leaf (0, 0)).els := by
  refine ⟨rfl, fun _ => ⟨w.heap.size, 0, rfl, by simp, fun j u hu => ?_⟩⟩
  rw [Nat.zero_add]
  exact blk_cell (box_new w _ _) j (by simpa [Ex.els, eNums] using hu)
theorem code_nd (x : Ex) (h : x.els.length ≤ 40) : x.code.nodes ≤ 1600 := by have := x.code_nodes; omega
set_option maxHeartbeats 8000000 in
set_option maxRecDepth 100000 in
theorem codeOfExpr_any : ∀ (x : Ex) (w : World) (A : Option Addr) (n c : Nat), x.good → x.els.all okEl = true → RdE w A n x.els → n ≤ 40 → n ≤ c → Calls Try.prog 82 #[.slice A n c] w (RetTr w w.heap.size x.code) := by
  intro x
  induction x with
  | leaf tp =>
    intro w A n c hg ho hr hn hnc
    obtain ⟨k, v⟩ := tp
    exact codeLeaf_any w A n c k v (by simpa [Ex.els] using ho) hg hr
  | un tp a ih =>
    intro w A n c hg ho hr hn hnc
    have hl := rdE_len hr
    obtain ⟨b, off, rfl, hbs, q0, q1⟩ := rdE (k := 0) hr rfl
    simp only [Nat.zero_mul, Nat.add_zero] at q0 q1
    obtain ⟨k, v⟩ := tp
    have hal : a.els.length ≤ 40 := by simp [Ex.els] at hl; omega
    have hao : a.els.all okEl = true := by simp only [Ex.els, List.all_cons, Bool.and_eq_true] at ho; exact ho.2
    have HIH := Lib.hid ih
    have HG := Lib.hid hg
    have HA := Lib.hid hao
    have HR := Lib.hid hr
    have hk := kind_un hg.1
    have hpos : 0 < n := by simp [Ex.els] at hl; omega
    clear ih hao hg ho hr hl
    have b0 : (k == 0) = false := by rcases hk with rfl | rfl <;> rfl
    have b1 : (k == 1) = false := by rcases hk with rfl | rfl <;> rfl
    have hm := markN_le k
    clear hk
    generalize hmk : markN k = mk at hm
    have HMK := Lib.hid hmk
    clear hmk
    go_enter Try.func82, Try.ntmps82
    go_wp2_with fail
    refine (operands_any _ _ _ _ (.un (k, v) a) HG.out HR.out (by omega) hnc).mono ?_
    rintro e w1 ⟨Ap, cp, vs, rfl, hop, hps, hb1⟩
    have hops : (Ex.un (k, v) a).ops.length = 1 := rfl
    rw [hops] at hop ⊢
    clear hops
    obtain ⟨u, hu⟩ := get_some (xs := vs) (k := 0) (by have := hps.1; simp [Ex.ops] at this; omega)
    obtain ⟨A1, n1, c1, rfl, hnc1, hr1⟩ := hps.2 0 u a hu rfl
    obtain ⟨G, rfl, hG1, hG2, hc0, _⟩ := own_get hop hu
    have hn1 : n1 ≤ 40 := by have := rdE_len hr1; omega
    have q0' := (hb1.cell (p := ⟨b, off, none⟩) hbs).trans q0
    have hbs1 := Nat.lt_of_lt_of_le hbs hb1.size
    have hr2 := lit_leaf w1
    have hbl := below_new w1 (.cells #[.int .i64 0, .int .i64 0] 89)
    clear hu hps hop q0 q1
    go_wp2_with (first
      | (go_at_call 125; go_must (refine (markOf_any _ _).mono ?_; rw [HMK.out]; rintro e w' ⟨rfl, rfl⟩))
      | (go_at_call 123; go_must (refine (tagTree_any _ mk (by omega) _ rfl).mono ?_; rintro e w2 ⟨v2, rfl, h2, hb2⟩; obtain ⟨o2, rfl⟩ := h2.isPtr; have h2s := hb2.size))
      | (go_at_call 105; go_must (refine (pair_any _ w.heap.size _ _ _ _ (h2.wide (by have := hb1.size; simp; omega) (Nat.le_refl _)) (nilT _ _ _) (by have := hb1.size; simp at h2s; omega) (by have := tag_nodes mk; omega) (by simp [Tr.nodes])).mono ?_; rintro e w3 ⟨v3, rfl, h3, hb3⟩; obtain ⟨o3, rfl⟩ := h3.isPtr)))
    have hnd1 : a.code.nodes ≤ 1000000000 := by have := code_nd a hal; omega
    have hnd2 : (Ex.leaf (0, 0)).code.nodes ≤ 1000000000 := by have := code_nd (.leaf (0, 0)) (by simp [Ex.els]); omega
    have hnd3 : (Tr.node (tagTr mk) .nil).nodes ≤ 1000000000 := by have := tag_nodes mk; simp only [Tr.nodes]; omega
    have hnd4 : (Tr.node a.code (Ex.leaf (0, 0)).code).nodes ≤ 1000000000 := by have := code_nd a hal; have := code_nd (.leaf (0, 0)) (by simp [Ex.els]); simp only [Tr.nodes]; omega
    have hnd5 : (tagTr 2).nodes ≤ 1000000000 := by have := tag_nodes 2; omega
    have hnd6 : (Tr.node (.node (tagTr mk) .nil) (.node a.code (Ex.leaf (0, 0)).code)).nodes ≤ 1000000000 := by have := tag_nodes mk; have := code_nd a hal; have := code_nd (.leaf (0, 0)) (by simp [Ex.els]); simp only [Tr.nodes] at *; omega
    have hz3 : w.heap.size ≤ w3.heap.size := by have := hb1.size; have := hb2.size; have := hb3.size; simp at *; omega
    have hz1 : w1.heap.size ≤ w3.heap.size := by have := hb2.size; have := hb3.size; simp at *; omega
    have hb13 : Below w1.heap.size w1 w3 := (hbl.trans (hb2.mono (by simp))).trans (hb3.mono (by have := hb2.size; simp at this; omega))
    have hc := (hb13.cell (p := ⟨G, 0, none⟩) hG2).trans hc0
    have hG3 : G < w3.heap.size := Nat.lt_of_lt_of_le hG2 hz1
    have HR1 := Lib.hid (hr1.below hb13 (Nat.le_refl _))
    have HR2 := Lib.hid ((hr2.below hb2 (Nat.le_refl _)).below hb3 (Nat.le_refl _))
    have HB3 := Lib.hid (hb1.trans (hb13.mono hb1.size))
    clear hr1 hr2 hb13 hbl hb1 hb2 hb3 h2 h2s hc0 q0' hz1
    go_region_held3 (fun w' => w'.cell? ⟨G, 0, none⟩ = some (.slice A1 n1 c1)) (exact hc) (first
      | (go_at_call 105
         refine (pair_any _ w.heap.size _ _ _ _ (by first | exact h48.drew | exact h48) (by first | exact h8.drew | exact h8) (by exact hz8) hnd5 hnd6).mono ?_
         rintro e w9 ⟨v9, rfl, h9, hb9⟩
         obtain ⟨o9, rfl⟩ := h9.isPtr
         (try replace hb9 := und1 hb9)
         have hc := (hb9.cell (p := ⟨G, 0, none⟩) hG8).trans hc
         have HB9 := Lib.hid (HB8.out.trans (hb9.mono HB8.out.size)))
      | (go_at_call 105
         refine (pair_any _ w.heap.size _ _ _ _ (by first | exact h37.drew | exact h37) (by first | exact h7.drew | exact h7) (by exact hz7) hnd3 hnd4).mono ?_
         rintro e w8 ⟨v8, rfl, h8, hb8⟩
         obtain ⟨o8, rfl⟩ := h8.isPtr
         (try replace hb8 := und1 hb8)
         have hc := (hb8.cell (p := ⟨G, 0, none⟩) hG7).trans hc
         have h48 := h47.up hb8
         have HB8 := Lib.hid (HB7.out.trans (hb8.mono HB7.out.size))
         have hG8 := Nat.lt_of_lt_of_le hG7 hb8.size
         have hz8 := HB8.out.size)
      | (go_at_call 105
         refine (pair_any _ w.heap.size _ _ _ _ (by first | exact h56.drew | exact h56) (by first | exact h6a.drew | exact h6a) (by exact hz6) hnd1 hnd2).mono ?_
         rintro e w7 ⟨v7, rfl, h7, hb7⟩
         obtain ⟨o7, rfl⟩ := h7.isPtr
         (try replace hb7 := und1 hb7)
         have hc := (hb7.cell (p := ⟨G, 0, none⟩) hG6).trans hc
         have h47 := h46.up hb7
         have h37 := h36.up hb7
         have HB7 := Lib.hid (HB6.out.trans (hb7.mono HB6.out.size))
         have hG7 := Nat.lt_of_lt_of_le hG6 hb7.size
         have hz7 := HB7.out.size)
      | (go_at_call 82
         refine (codeLeaf_any _ _ _ _ 0 0 rfl rfl (by exact HR25.out)).mono ?_
         rintro e w6 ⟨v6, rfl, h6, hb6⟩
         obtain ⟨o6, rfl⟩ := h6.isPtr
         (try replace hb6 := und1 hb6)
         have hc := (hb6.cell (p := ⟨G, 0, none⟩) hG5).trans hc
         have h6a := h6.wide (lo' := w.heap.size) hz5 (Nat.le_refl _)
         have h46 := h45.up hb6
         have h36 := h35.up hb6
         have h56 := h5a.up hb6
         have HB6 := Lib.hid (HB5.out.trans (hb6.mono HB5.out.size))
         have hG6 := Nat.lt_of_lt_of_le hG5 hb6.size
         have hz6 := HB6.out.size)
      | (go_at_call 82
         refine (HIH.out _ _ _ _ HG.out.2 HA.out (by exact HR14.out) (by omega) (by omega)).mono ?_
         rintro e w5 ⟨v5, rfl, h5, hb5⟩
         obtain ⟨o5, rfl⟩ := h5.isPtr
         (try replace hb5 := und1 hb5)
         have hc := (hb5.cell (p := ⟨G, 0, none⟩) hG4).trans hc
         have h5a := h5.wide (lo' := w.heap.size) hz4 (Nat.le_refl _)
         have h45 := h4a.up hb5
         have h35 := h34.up hb5
         have HR25 := Lib.hid (HR24.out.below hb5 (Nat.le_refl _))
         have HB5 := Lib.hid (HB4.out.trans (hb5.mono HB4.out.size))
         have hG5 := Nat.lt_of_lt_of_le hG4 hb5.size
         have hz5 := HB5.out.size)
      | (go_at_call 123
         refine (tagTree_any _ 2 (by omega) _ rfl).mono ?_
         rintro e w4 ⟨v4, rfl, h4, hb4⟩
         obtain ⟨o4, rfl⟩ := h4.isPtr
         (try replace hb4 := und1 hb4)
         have hc := (hb4.cell (p := ⟨G, 0, none⟩) hG3).trans hc
         have h4a := h4.wide (lo' := w.heap.size) hz3 (Nat.le_refl _)
         have h34 := h3.up hb4
         have HR14 := Lib.hid (HR1.out.below hb4 (Nat.le_refl _))
         have HR24 := Lib.hid (HR2.out.below hb4 (Nat.le_refl _))
         have HB4 := Lib.hid (HB3.out.trans (hb4.mono HB3.out.size))
         have hG4 := Nat.lt_of_lt_of_le hG3 hb4.size
         have hz4 := HB4.out.size))
    go_wp2_with fail
    go_ret
    exact ⟨_, rfl, by rw [show (Ex.un (k, v) a).code = .node (tagTr 2) (.node (.node (tagTr (markN k)) .nil) (.node a.code (Ex.leaf (0, 0)).code)) from rfl, HMK.out]; exact h9, HB9.out⟩
  | bin tp a b iha ihb =>
    intro w A n c hg ho hr hn hnc
    have hl := rdE_len hr
    obtain ⟨bk, off, rfl, hbs, q0, q1⟩ := rdE (k := 0) hr rfl
    simp only [Nat.zero_mul, Nat.add_zero] at q0 q1
    obtain ⟨k, v⟩ := tp
    have hal : a.els.length ≤ 40 := by simp [Ex.els] at hl; omega
    have hbl : b.els.length ≤ 40 := by simp [Ex.els] at hl; omega
    have hao : a.els.all okEl = true ∧ b.els.all okEl = true := by simpa only [Ex.els, List.all_cons, List.all_append, Bool.and_eq_true] using ((by simp only [Ex.els, List.all_cons, Bool.and_eq_true] at ho; exact ho.2) : (a.els ++ b.els).all okEl = true)
    have HIH := Lib.hid iha
    have HIB := Lib.hid ihb
    have HG := Lib.hid hg
    have HA := Lib.hid hao
    have HR := Lib.hid hr
    have hk := kind_bin hg.1
    have hpos : 0 < n := by simp [Ex.els] at hl; omega
    clear iha ihb hao hg ho hr hl
    have b0 : (k == 0) = false := by rcases hk with rfl | rfl <;> rfl
    have b1 : (k == 1) = false := by rcases hk with rfl | rfl <;> rfl
    have hm := markN_le k
    clear hk
    generalize hmk : markN k = mk at hm
    have HMK := Lib.hid hmk
    clear hmk
    go_enter Try.func82, Try.ntmps82
    go_wp2_with fail
    refine (operands_any _ _ _ _ (.bin (k, v) a b) HG.out HR.out (by omega) hnc).mono ?_
    rintro e w1 ⟨Ap, cp, vs, rfl, hop, hps, hb1⟩
    have hops : (Ex.bin (k, v) a b).ops.length = 2 := rfl
    rw [hops] at hop ⊢
    clear hops
    obtain ⟨u, hu⟩ := get_some (xs := vs) (k := 0) (by have := hps.1; simp [Ex.ops] at this; omega)
    obtain ⟨A1, n1, c1, rfl, hnc1, hr1⟩ := hps.2 0 u a hu rfl
    obtain ⟨u2, hu2⟩ := get_some (xs := vs) (k := 1) (by have := hps.1; simp [Ex.ops] at this; omega)
    obtain ⟨A2, n2, c2, rfl, hnc2, hr2⟩ := hps.2 1 u2 b hu2 rfl
    obtain ⟨G, rfl, hG1, hG2, hc0, _⟩ := own_get hop hu
    obtain ⟨G', hGe, _, _, hc1, _⟩ := own_get hop hu2
    obtain rfl : G = G' := by simpa using hGe
    have hn2 : n2 ≤ 40 := by have := rdE_len hr2; omega
    have hn1 : n1 ≤ 40 := by have := rdE_len hr1; omega
    have q0' := (hb1.cell (p := ⟨bk, off, none⟩) hbs).trans q0
    have hbs1 := Nat.lt_of_lt_of_le hbs hb1.size
    have hbw := below_new w1 (.cells #[.int .i64 0, .int .i64 0] 89)
    clear hu hu2 hps hop q0 q1 hGe
    go_wp2_with (first
      | (go_at_call 125; go_must (refine (markOf_any _ _).mono ?_; rw [HMK.out]; rintro e w' ⟨rfl, rfl⟩))
      | (go_at_call 123; go_must (refine (tagTree_any _ mk (by omega) _ rfl).mono ?_; rintro e w2 ⟨v2, rfl, h2, hb2⟩; obtain ⟨o2, rfl⟩ := h2.isPtr; have h2s := hb2.size))
      | (go_at_call 105; go_must (refine (pair_any _ w.heap.size _ _ _ _ (h2.wide (by have := hb1.size; simp; omega) (Nat.le_refl _)) (nilT _ _ _) (by have := hb1.size; simp at h2s; omega) (by have := tag_nodes mk; omega) (by simp [Tr.nodes])).mono ?_; rintro e w3 ⟨v3, rfl, h3, hb3⟩; obtain ⟨o3, rfl⟩ := h3.isPtr)))
    have hnd1 : a.code.nodes ≤ 1000000000 := by have := code_nd a hal; omega
    have hnd2 : b.code.nodes ≤ 1000000000 := by have := code_nd b hbl; omega
    have hnd3 : (Tr.node (tagTr mk) .nil).nodes ≤ 1000000000 := by have := tag_nodes mk; simp only [Tr.nodes]; omega
    have hnd4 : (Tr.node a.code b.code).nodes ≤ 1000000000 := by have := code_nd a hal; have := code_nd b hbl; simp only [Tr.nodes]; omega
    have hnd5 : (tagTr 2).nodes ≤ 1000000000 := by have := tag_nodes 2; omega
    have hnd6 : (Tr.node (.node (tagTr mk) .nil) (.node a.code b.code)).nodes ≤ 1000000000 := by have := tag_nodes mk; have := code_nd a hal; have := code_nd b hbl; simp only [Tr.nodes] at *; omega
    have hz3 : w.heap.size ≤ w3.heap.size := by have := hb1.size; have := hb2.size; have := hb3.size; simp at *; omega
    have hz1 : w1.heap.size ≤ w3.heap.size := by have := hb2.size; have := hb3.size; simp at *; omega
    have hb13 : Below w1.heap.size w1 w3 := (hbw.trans (hb2.mono (by simp))).trans (hb3.mono (by have := hb2.size; simp at this; omega))
    have hc := (hb13.cell (p := ⟨G, 0, none⟩) hG2).trans hc0
    have hG3 : G < w3.heap.size := Nat.lt_of_lt_of_le hG2 hz1
    have HR1 := Lib.hid (hr1.below hb13 (Nat.le_refl _))
    have HR2 := Lib.hid (hr2.below hb13 (Nat.le_refl _))
    have HB3 := Lib.hid (hb1.trans (hb13.mono hb1.size))
    clear hr1 hr2 hb13 hbw hb1 hc1 hb2 hb3 h2 h2s hc0 q0' hz1
    go_region_held3 (fun w' => w'.cell? ⟨G, 0, none⟩ = some (.slice A1 n1 c1)) (exact hc) (first
      | (go_at_call 105
         refine (pair_any _ w.heap.size _ _ _ _ (by first | exact h48.drew | exact h48) (by first | exact h8.drew | exact h8) (by exact hz8) hnd5 hnd6).mono ?_
         rintro e w9 ⟨v9, rfl, h9, hb9⟩
         obtain ⟨o9, rfl⟩ := h9.isPtr
         (try replace hb9 := und1 hb9)
         have hc := (hb9.cell (p := ⟨G, 0, none⟩) hG8).trans hc
         have HB9 := Lib.hid (HB8.out.trans (hb9.mono HB8.out.size)))
      | (go_at_call 105
         refine (pair_any _ w.heap.size _ _ _ _ (by first | exact h37.drew | exact h37) (by first | exact h7.drew | exact h7) (by exact hz7) hnd3 hnd4).mono ?_
         rintro e w8 ⟨v8, rfl, h8, hb8⟩
         obtain ⟨o8, rfl⟩ := h8.isPtr
         (try replace hb8 := und1 hb8)
         have hc := (hb8.cell (p := ⟨G, 0, none⟩) hG7).trans hc
         have h48 := h47.up hb8
         have HB8 := Lib.hid (HB7.out.trans (hb8.mono HB7.out.size))
         have hG8 := Nat.lt_of_lt_of_le hG7 hb8.size
         have hz8 := HB8.out.size)
      | (go_at_call 105
         refine (pair_any _ w.heap.size _ _ _ _ (by first | exact h56.drew | exact h56) (by first | exact h6a.drew | exact h6a) (by exact hz6) hnd1 hnd2).mono ?_
         rintro e w7 ⟨v7, rfl, h7, hb7⟩
         obtain ⟨o7, rfl⟩ := h7.isPtr
         (try replace hb7 := und1 hb7)
         have hc := (hb7.cell (p := ⟨G, 0, none⟩) hG6).trans hc
         have h47 := h46.up hb7
         have h37 := h36.up hb7
         have HB7 := Lib.hid (HB6.out.trans (hb7.mono HB6.out.size))
         have hG7 := Nat.lt_of_lt_of_le hG6 hb7.size
         have hz7 := HB7.out.size)
      | (go_at_call 82
         refine (HIB.out _ _ _ _ HG.out.2.2 HA.out.2 (by exact HR25.out) (by omega) (by omega)).mono ?_
         rintro e w6 ⟨v6, rfl, h6, hb6⟩
         obtain ⟨o6, rfl⟩ := h6.isPtr
         (try replace hb6 := und1 hb6)
         have hc := (hb6.cell (p := ⟨G, 0, none⟩) hG5).trans hc
         have h6a := h6.wide (lo' := w.heap.size) hz5 (Nat.le_refl _)
         have h46 := h45.up hb6
         have h36 := h35.up hb6
         have h56 := h5a.up hb6
         have HB6 := Lib.hid (HB5.out.trans (hb6.mono HB5.out.size))
         have hG6 := Nat.lt_of_lt_of_le hG5 hb6.size
         have hz6 := HB6.out.size)
      | (go_at_call 82
         refine (HIH.out _ _ _ _ HG.out.2.1 HA.out.1 (by exact HR14.out) (by omega) (by omega)).mono ?_
         rintro e w5 ⟨v5, rfl, h5, hb5⟩
         obtain ⟨o5, rfl⟩ := h5.isPtr
         (try replace hb5 := und1 hb5)
         have hc := (hb5.cell (p := ⟨G, 0, none⟩) hG4).trans hc
         have h5a := h5.wide (lo' := w.heap.size) hz4 (Nat.le_refl _)
         have h45 := h4a.up hb5
         have h35 := h34.up hb5
         have HR25 := Lib.hid (HR24.out.below hb5 (Nat.le_refl _))
         have HB5 := Lib.hid (HB4.out.trans (hb5.mono HB4.out.size))
         have hG5 := Nat.lt_of_lt_of_le hG4 hb5.size
         have hz5 := HB5.out.size)
      | (go_at_call 123
         refine (tagTree_any _ 2 (by omega) _ rfl).mono ?_
         rintro e w4 ⟨v4, rfl, h4, hb4⟩
         obtain ⟨o4, rfl⟩ := h4.isPtr
         (try replace hb4 := und1 hb4)
         have hc := (hb4.cell (p := ⟨G, 0, none⟩) hG3).trans hc
         have h4a := h4.wide (lo' := w.heap.size) hz3 (Nat.le_refl _)
         have h34 := h3.up hb4
         have HR14 := Lib.hid (HR1.out.below hb4 (Nat.le_refl _))
         have HR24 := Lib.hid (HR2.out.below hb4 (Nat.le_refl _))
         have HB4 := Lib.hid (HB3.out.trans (hb4.mono HB3.out.size))
         have hG4 := Nat.lt_of_lt_of_le hG3 hb4.size
         have hz4 := HB4.out.size))
    go_wp2_with fail
    go_ret
    exact ⟨_, rfl, by rw [show (Ex.bin (k, v) a b).code = .node (tagTr 2) (.node (.node (tagTr (markN k)) .nil) (.node a.code b.code)) from rfl, HMK.out]; exact h9, HB9.out⟩
end Go.Proofs.Ytilbgbibddjdcaa
