/- Texts in one file: BackI. -/
import Derived.Test.YtadmbphefpfbmaaGreatDoorGE
/- Reading an expression back: the program's function. Written by mk_backi.py. -/
namespace Go.Proofs.YtadmbphefpfbmaaGreatDoor
open Go.RowKit
set_option linter.unusedVariables false
set_option linter.unusedSimpArgs false
theorem IsT.hd' {w : World} {lo hi : Nat} {v : Value} {a b : Tr} (h : IsT w lo hi v (Tr.node a b).hd) : IsT w lo hi v a := h
theorem IsT.tl' {w : World} {lo hi : Nat} {v : Value} {a b : Tr} (h : IsT w lo hi v (Tr.node a b).tl) : IsT w lo hi v b := h
theorem beq_of {tg : Tr} {T : Int} (h : tagI tg = T) (k : Nat) (hk : k ≤ 11) : tg.beq (tagTr k) = (T == (k : Int)) := by rw [tg_eq tg k hk, h]
theorem kinds_get (i : Nat) (h : i < 4) : (#[Value.int .i64 2, Value.int .i64 3, Value.int .i64 4, Value.int .i64 5] : Array Value)[i]? = some (.int .i64 (2 + (i : Int))) := by
  have hi : i = 0 ∨ i = 1 ∨ i = 2 ∨ i = 3 := by omega
  rcases hi with rfl | rfl | rfl | rfl <;> rfl
theorem markN_k (i : Nat) (h : i < 4) : markN (2 + (i : Int)) = 3 + i := by
  have hi : i = 0 ∨ i = 1 ∨ i = 2 ∨ i = 3 := by omega
  rcases hi with rfl | rfl | rfl | rfl <;> rfl
theorem markOf_b (w : World) (k : Int) : Calls Tryz.prog 199 #[.int .i64 k] w fun e w' => e = .returned (.int .i64 (markN k)) ∧ Below w.heap.size w w' := (markOf_any w k).mono fun e w' ⟨h1, h2⟩ => ⟨h1, by rw [← h2]; exact Below.refl _ _⟩
theorem rdX3 {w : World} (k : Int) {A7 A9 : Option Addr} {n7 c7 n9 c9 : Nat} {za zb : List El} (h7 : RdE w A7 n7 za) (h9 : RdE w A9 n9 zb) :
    RdX ((w.alloc (.cells #[.int .i64 k, .int .i64 0] 110)).alloc (.cells #[.slice (some ⟨w.heap.size, 0, none⟩) 1 1, .slice A7 n7 c7, .slice A9 n9 c9] 42)) (some ⟨w.heap.size + 1, 0, none⟩) 3 [[(k, 0)], za, zb] := by
  have hb : Below w.heap.size w ((w.alloc (.cells #[.int .i64 k, .int .i64 0] 110)).alloc (.cells #[.slice (some ⟨w.heap.size, 0, none⟩) 1 1, .slice A7 n7 c7, .slice A9 n9 c9] 42)) := (below_new _ _).trans ((below_new _ _).mono (by simp))
  have hx := box_new (w.alloc (.cells #[.int .i64 k, .int .i64 0] 110)) #[.slice (some ⟨w.heap.size, 0, none⟩) 1 1, .slice A7 n7 c7, .slice A9 n9 c9] 42
  have hx' : ((w.alloc (.cells #[.int .i64 k, .int .i64 0] 110)).alloc (.cells #[.slice (some ⟨w.heap.size, 0, none⟩) 1 1, .slice A7 n7 c7, .slice A9 n9 c9] 42)).heap[w.heap.size + 1]? = some (.cells #[.slice (some ⟨w.heap.size, 0, none⟩) 1 1, .slice A7 n7 c7, .slice A9 n9 c9] 42 (0, 0)) := by simpa using hx
  have hl : RdE ((w.alloc (.cells #[.int .i64 k, .int .i64 0] 110)).alloc (.cells #[.slice (some ⟨w.heap.size, 0, none⟩) 1 1, .slice A7 n7 c7, .slice A9 n9 c9] 42)) (some ⟨w.heap.size, 0, none⟩) 1 [(k, 0)] := (ownN_rd (lit_el w k)).below (below_new _ _) (Nat.le_refl _)
  refine ⟨[.slice (some ⟨w.heap.size, 0, none⟩) 1 1, .slice A7 n7 c7, .slice A9 n9 c9], ⟨rfl, fun _ => ⟨w.heap.size + 1, 0, rfl, blk_lt hx', fun j u hu => ?_⟩⟩, rfl, ?_⟩
  · rw [Nat.zero_add]
    exact blk_cell hx' j (by simpa using hu)
  · intro j v ys hv hy
    match j, hv, hy with
    | 0, hv, hy => simp at hv hy; subst hv hy; exact ⟨_, 1, 1, rfl, hl⟩
    | 1, hv, hy => simp at hv hy; subst hv hy; exact ⟨_, _, _, rfl, h7.below hb (Nat.le_refl _)⟩
    | 2, hv, hy => simp at hv hy; subst hv hy; exact ⟨_, _, _, rfl, h9.below hb (Nat.le_refl _)⟩
    | j + 3, hv, _ => simp at hv
theorem below_re {B : Nat} {w w' w2 : World} (h : Below B w2 w') (he : w2.heap = w.heap := by rfl) (ho : w2.os = w.os := by rfl) (ht : w2.tape = w.tape := by rfl) (hp : w2.output = w.output := by rfl) : Below B w w' :=
  ⟨h.os.trans ho, h.tape.trans ht, h.output.trans hp, by rw [← he]; exact h.size, fun k hk => by rw [← he]; exact h.block k hk⟩
theorem comb_ends {mk : Tr} {x y : List El} {i : Nat} (hi : i = 0 ∨ i = 3) (h : mk.beq (tagTr (3 + i)) = true) : comb mk (some x) (some y) = some ((2 + (i : Int), 0) :: (x ++ y)) := by
  rcases hi with rfl | rfl
  · exact comb_3 (tagI_hit (k := 3) (by omega) h)
  · exact comb_6 (tagI_hit (k := 6) (by omega) h)
theorem comb_mid {mk : Tr} {x y : List El} {i : Nat} (hi : i = 1 ∨ i = 2) (h : mk.beq (tagTr (3 + i)) = true) : comb mk (some x) (some y) = if isNil1 y then some ((2 + (i : Int), 0) :: x) else none := by
  rcases hi with rfl | rfl
  · exact comb_4 (tagI_hit (k := 4) (by omega) h)
  · exact comb_5 (tagI_hit (k := 5) (by omega) h)
theorem fol_ends {i : Nat} (hi : i = 0 ∨ i = 3) : fol (2 + (i : Int), 0) = 2 := by rcases hi with rfl | rfl <;> rfl
theorem fol_mid {i : Nat} (hi : i = 1 ∨ i = 2) : fol (2 + (i : Int), 0) = 1 := by rcases hi with rfl | rfl <;> rfl
theorem comb_none {mk : Tr} {x y : Option (List El)} (h : ∀ j, j < 4 → mk.beq (tagTr (3 + j)) = false) : comb mk x y = none := by
  have h3 := h 0 (by omega)
  have h4 := h 1 (by omega)
  have h5 := h 2 (by omega)
  have h6 := h 3 (by omega)
  match x, y with
  | some x, some y => simp [comb, h3, h4, h5, h6]
  | none, _ => exact comb_l _ _
  | some _, none => rfl
theorem back_leaf_ret {w W : World} {N : Nat} {o : Option (List El)} (k : Int) (q : Bool) (hb : Below w.heap.size w W) (hN : 1 ≤ N) (hq : o.isSome = q) (ho : ∀ z, o = some z → [(k, 0)] = z) :
    BackP w N o (.returned (.tuple #[.slice (some ⟨W.heap.size, 0, none⟩) 1 1, .bool q])) (W.alloc (.cells #[.int .i64 k, .int .i64 0] 110)) :=
  ⟨_, 1, 1, [(k, 0)], by rw [hq], ownN_base (lit_el W k) hb.size, ho, hN, hb.trans ((below_new _ _).mono hb.size)⟩
set_option maxHeartbeats 16000000 in
set_option maxRecDepth 100000 in
theorem decodedExpr_any : ∀ (N : Nat) (t : Tr), t.nodes ≤ N → ∀ (w : World) (lo : Nat) (v : Value), IsT w lo w.heap.size v t → lo ≤ w.heap.size → t.nodes ≤ 1000000 → Calls Tryz.prog 194 #[v] w (BackP w t.nodes (backT t)) := by
  intro N
  induction N with
  | zero => intro t ht; have := t.nodes_pos; omega
  | succ N ih =>
    intro t ht w lo v h hlo hbig
    cases t with
    | nil =>
      obtain rfl : v = .pointer none := h
      go_enter Tryz.func194, Tryz.ntmps194
      go_wp2_with fail
      refine (headOf_any _ lo _ _ _ (nilT w lo w.heap.size)).mono ?_
      rintro e w' ⟨⟨vtag, rfl, htg⟩, rfl⟩
      obtain ⟨ptag, rfl⟩ := htg.isPtr
      go_wp2_with fail
      refine (tailOf_any _ lo _ _ _ (nilT w lo w.heap.size)).mono ?_
      rintro e w' ⟨⟨vrest, rfl, hrs⟩, rfl⟩
      obtain ⟨prest, rfl⟩ := hrs.isPtr
      go_wp2_with fail
      go_ret2
      exact BackP.none_ rfl (Below.refl _ _)
    | node tg rest =>
      have HIH := Lib.hid ih
      have HN : Hid ((Tr.node tg rest).nodes ≤ N + 1) := Lib.hid ht
      have hp1 : 1 ≤ (Tr.node tg rest).nodes := Tr.nodes_pos _
      clear ih ht
      generalize hT : tagI tg = T
      by_cases h0 : T = 0
      · subst h0
        have HF0 := Lib.hid (beq_of hT 0 (by omega))
        have HQ0 := Lib.hid (fun x y => back_nd (x := x) (y := y) (tg := tg) (by rw [hT]; decide))
        have HQ1 := Lib.hid (back_leaf0 hT)
        rcases h.ptr with ⟨_, hq0⟩ | ⟨bt, vh, vt, h', t', rfl, hq, hb1, hb2, c0, c1, c2, hh, ht2⟩
        · cases hq0
        cases hq
        clear c0 c1 c2 hh ht2
        have HT := Lib.hid hT
        clear hT
        go_enter Tryz.func194, Tryz.ntmps194
        go_wp2_with fail
        refine (headOf_any _ lo _ _ _ h).mono ?_
        rintro e w' ⟨⟨vtag, rfl, htg⟩, rfl⟩
        obtain ⟨ptag, rfl⟩ := htg.isPtr
        go_wp2_with fail
        refine (tailOf_any _ lo _ _ _ h).mono ?_
        rintro e w' ⟨⟨vrest, rfl, hrs⟩, rfl⟩
        replace htg : IsT w lo w.heap.size (.pointer ptag) tg := htg
        have HB : Hid (Below w.heap.size w w) := Lib.hid (Below.refl _ _)
        clear h
        obtain ⟨prest, hpr⟩ := hrs.isPtr
        subst hpr
        go_wp2_with fail
        refine (tagTree_any _ 0 (by omega) _ rfl).mono ?_
        rintro e u1 ⟨z1, rfl, hz1, hbz1⟩
        obtain ⟨p1, rfl⟩ := hz1.isPtr
        replace htg := htg.up hbz1
        replace hrs := hrs.up hbz1
        replace hz1 := hz1.wide (lo' := lo) hlo (Nat.le_refl _)
        replace HB := Lib.hid (HB.out.trans (hbz1.mono HB.out.size))
        replace hlo := Nat.le_trans hlo hbz1.size
        clear hbz1
        go_wp2_with fail
        refine (equal_any tg (tagTr 0) _ lo _ _ _ htg hz1 (Nat.le_refl _)).mono ?_
        rw [HF0.out]
        rintro e w1 ⟨rfl, hbz1⟩
        replace htg := htg.up hbz1
        replace hrs := hrs.up hbz1
        replace HB := Lib.hid (HB.out.trans (hbz1.mono HB.out.size))
        replace hlo := Nat.le_trans hlo hbz1.size
        clear hbz1 hz1
        cases rest with
        | nil =>
          obtain rfl : prest = none := by have h9 : Value.pointer prest = .pointer none := hrs; injection h9
          go_wp2_with fail
          go_ret2
          exact back_leaf_ret 0 true HB.out hp1 (by rw [HQ1.out]; rfl) (by rw [HQ1.out]; intro z hz; injection hz)
        | node x y =>
          obtain ⟨br, v1, v2, e9, _⟩ := hrs
          obtain rfl : prest = some ⟨br, 0, none⟩ := by injection e9
          go_wp2_with fail
          go_ret2
          exact back_leaf_ret 0 false HB.out hp1 (by rw [HQ0.out]; rfl) (by rw [HQ0.out]; intro z hz; cases hz)
      by_cases h1 : T = 1
      · subst h1
        have HF0 := Lib.hid (beq_of hT 0 (by omega))
        have HF1 := Lib.hid (beq_of hT 1 (by omega))
        have HQ0 := Lib.hid (fun x y => back_nd (x := x) (y := y) (tg := tg) (by rw [hT]; decide))
        have HQ1 := Lib.hid (back_leaf1 hT)
        rcases h.ptr with ⟨_, hq0⟩ | ⟨bt, vh, vt, h', t', rfl, hq, hb1, hb2, c0, c1, c2, hh, ht2⟩
        · cases hq0
        cases hq
        clear c0 c1 c2 hh ht2
        have HT := Lib.hid hT
        clear hT
        go_enter Tryz.func194, Tryz.ntmps194
        go_wp2_with fail
        refine (headOf_any _ lo _ _ _ h).mono ?_
        rintro e w' ⟨⟨vtag, rfl, htg⟩, rfl⟩
        obtain ⟨ptag, rfl⟩ := htg.isPtr
        go_wp2_with fail
        refine (tailOf_any _ lo _ _ _ h).mono ?_
        rintro e w' ⟨⟨vrest, rfl, hrs⟩, rfl⟩
        replace htg : IsT w lo w.heap.size (.pointer ptag) tg := htg
        have HB : Hid (Below w.heap.size w w) := Lib.hid (Below.refl _ _)
        clear h
        obtain ⟨prest, hpr⟩ := hrs.isPtr
        subst hpr
        go_wp2_with fail
        refine (tagTree_any _ 0 (by omega) _ rfl).mono ?_
        rintro e u1 ⟨z1, rfl, hz1, hbz1⟩
        obtain ⟨p1, rfl⟩ := hz1.isPtr
        replace htg := htg.up hbz1
        replace hrs := hrs.up hbz1
        replace hz1 := hz1.wide (lo' := lo) hlo (Nat.le_refl _)
        replace HB := Lib.hid (HB.out.trans (hbz1.mono HB.out.size))
        replace hlo := Nat.le_trans hlo hbz1.size
        clear hbz1
        go_wp2_with fail
        refine (equal_any tg (tagTr 0) _ lo _ _ _ htg hz1 (Nat.le_refl _)).mono ?_
        rw [HF0.out]
        rintro e w1 ⟨rfl, hbz1⟩
        replace htg := htg.up hbz1
        replace hrs := hrs.up hbz1
        replace HB := Lib.hid (HB.out.trans (hbz1.mono HB.out.size))
        replace hlo := Nat.le_trans hlo hbz1.size
        clear hbz1 hz1
        go_wp2_with fail
        refine (tagTree_any _ 1 (by omega) _ rfl).mono ?_
        rintro e u2 ⟨z2, rfl, hz2, hbz2⟩
        obtain ⟨p2, rfl⟩ := hz2.isPtr
        replace htg := htg.up hbz2
        replace hrs := hrs.up hbz2
        replace hz2 := hz2.wide (lo' := lo) hlo (Nat.le_refl _)
        replace HB := Lib.hid (HB.out.trans (hbz2.mono HB.out.size))
        replace hlo := Nat.le_trans hlo hbz2.size
        clear hbz2
        go_wp2_with fail
        refine (equal_any tg (tagTr 1) _ lo _ _ _ htg hz2 (Nat.le_refl _)).mono ?_
        rw [HF1.out]
        rintro e w2 ⟨rfl, hbz2⟩
        replace htg := htg.up hbz2
        replace hrs := hrs.up hbz2
        replace HB := Lib.hid (HB.out.trans (hbz2.mono HB.out.size))
        replace hlo := Nat.le_trans hlo hbz2.size
        clear hbz2 hz2
        cases rest with
        | nil =>
          obtain rfl : prest = none := by have h9 : Value.pointer prest = .pointer none := hrs; injection h9
          go_wp2_with fail
          go_ret2
          exact back_leaf_ret 1 true HB.out hp1 (by rw [HQ1.out]; rfl) (by rw [HQ1.out]; intro z hz; injection hz)
        | node x y =>
          obtain ⟨br, v1, v2, e9, _⟩ := hrs
          obtain rfl : prest = some ⟨br, 0, none⟩ := by injection e9
          go_wp2_with fail
          go_ret2
          exact back_leaf_ret 1 false HB.out hp1 (by rw [HQ0.out]; rfl) (by rw [HQ0.out]; intro z hz; cases hz)
      by_cases h2 : T = 2
      · subst h2
        have HF0 := Lib.hid (beq_of hT 0 (by omega))
        have HF1 := Lib.hid (beq_of hT 1 (by omega))
        have HF2 := Lib.hid (beq_of hT 2 (by omega))
        have HQ2 := Lib.hid (back_2nil hT)
        have HQB := Lib.hid (fun mk a b => back_2 (mk := mk) (a := a) (b := b) hT)
        rcases h.ptr with ⟨_, hq0⟩ | ⟨bt, vh, vt, h', t', rfl, hq, hb1, hb2, c0, c1, c2, hh, ht2⟩
        · cases hq0
        cases hq
        clear c0 c1 c2 hh ht2
        have HT := Lib.hid hT
        clear hT
        go_enter Tryz.func194, Tryz.ntmps194
        go_wp2_with fail
        refine (headOf_any _ lo _ _ _ h).mono ?_
        rintro e w' ⟨⟨vtag, rfl, htg⟩, rfl⟩
        obtain ⟨ptag, rfl⟩ := htg.isPtr
        go_wp2_with fail
        refine (tailOf_any _ lo _ _ _ h).mono ?_
        rintro e w' ⟨⟨vrest, rfl, hrs⟩, rfl⟩
        replace htg : IsT w lo w.heap.size (.pointer ptag) tg := htg
        have HB : Hid (Below w.heap.size w w) := Lib.hid (Below.refl _ _)
        clear h
        obtain ⟨prest, hpr⟩ := hrs.isPtr
        subst hpr
        go_wp2_with fail
        refine (tagTree_any _ 0 (by omega) _ rfl).mono ?_
        rintro e u1 ⟨z1, rfl, hz1, hbz1⟩
        obtain ⟨p1, rfl⟩ := hz1.isPtr
        replace htg := htg.up hbz1
        replace hrs := hrs.up hbz1
        replace hz1 := hz1.wide (lo' := lo) hlo (Nat.le_refl _)
        replace HB := Lib.hid (HB.out.trans (hbz1.mono HB.out.size))
        replace hlo := Nat.le_trans hlo hbz1.size
        clear hbz1
        go_wp2_with fail
        refine (equal_any tg (tagTr 0) _ lo _ _ _ htg hz1 (Nat.le_refl _)).mono ?_
        rw [HF0.out]
        rintro e w1 ⟨rfl, hbz1⟩
        replace htg := htg.up hbz1
        replace hrs := hrs.up hbz1
        replace HB := Lib.hid (HB.out.trans (hbz1.mono HB.out.size))
        replace hlo := Nat.le_trans hlo hbz1.size
        clear hbz1 hz1
        go_wp2_with fail
        refine (tagTree_any _ 1 (by omega) _ rfl).mono ?_
        rintro e u2 ⟨z2, rfl, hz2, hbz2⟩
        obtain ⟨p2, rfl⟩ := hz2.isPtr
        replace htg := htg.up hbz2
        replace hrs := hrs.up hbz2
        replace hz2 := hz2.wide (lo' := lo) hlo (Nat.le_refl _)
        replace HB := Lib.hid (HB.out.trans (hbz2.mono HB.out.size))
        replace hlo := Nat.le_trans hlo hbz2.size
        clear hbz2
        go_wp2_with fail
        refine (equal_any tg (tagTr 1) _ lo _ _ _ htg hz2 (Nat.le_refl _)).mono ?_
        rw [HF1.out]
        rintro e w2 ⟨rfl, hbz2⟩
        replace htg := htg.up hbz2
        replace hrs := hrs.up hbz2
        replace HB := Lib.hid (HB.out.trans (hbz2.mono HB.out.size))
        replace hlo := Nat.le_trans hlo hbz2.size
        clear hbz2 hz2
        go_wp2_with fail
        refine (tagTree_any _ 2 (by omega) _ rfl).mono ?_
        rintro e u3 ⟨z3, rfl, hz3, hbz3⟩
        obtain ⟨p3, rfl⟩ := hz3.isPtr
        replace htg := htg.up hbz3
        replace hrs := hrs.up hbz3
        replace hz3 := hz3.wide (lo' := lo) hlo (Nat.le_refl _)
        replace HB := Lib.hid (HB.out.trans (hbz3.mono HB.out.size))
        replace hlo := Nat.le_trans hlo hbz3.size
        clear hbz3
        go_wp2_with fail
        refine (equal_any tg (tagTr 2) _ lo _ _ _ htg hz3 (Nat.le_refl _)).mono ?_
        rw [HF2.out]
        rintro e w3 ⟨rfl, hbz3⟩
        replace htg := htg.up hbz3
        replace hrs := hrs.up hbz3
        replace HB := Lib.hid (HB.out.trans (hbz3.mono HB.out.size))
        replace hlo := Nat.le_trans hlo hbz3.size
        clear hbz3 hz3
        clear htg
        cases rest with
        | nil =>
          obtain rfl : prest = none := by have h9 : Value.pointer prest = .pointer none := hrs; injection h9
          go_wp2_with fail
          go_ret2
          exact BackP.none_ HQ2.out HB.out
        | node m bo =>
          obtain ⟨br, v1, v2, e9, hr1, hr2, hr3, hr4, hr5⟩ := hrs
          obtain rfl : prest = some ⟨br, 0, none⟩ := by injection e9
          obtain ⟨o1, rfl⟩ := hr4.isPtr
          obtain ⟨o2, rfl⟩ := hr5.isPtr
          have k0 := blk_cell hr3 0 rfl
          have k1 := blk_cell hr3 1 rfl
          cases m with
          | nil =>
            obtain rfl : o1 = none := by have h9 : Value.pointer o1 = .pointer none := hr4; injection h9
            have HQ : Hid (backT (.node tg (.node .nil bo)) = none) := Lib.hid (by simp [backT])
            clear hr4 hr5 hr3
            go_wp2_with fail
            go_ret2
            exact BackP.none_ HQ.out HB.out
          | node mk nn =>
            obtain ⟨bm, x1, x2, e8, hm1, hm2, hm3, hm4, hm5⟩ := hr4
            obtain rfl : o1 = some ⟨bm, 0, none⟩ := by injection e8
            obtain ⟨o3, rfl⟩ := hm4.isPtr
            obtain ⟨o4, rfl⟩ := hm5.isPtr
            have l0 := blk_cell hm3 0 rfl
            have l1 := blk_cell hm3 1 rfl
            cases nn with
            | node n1 n2 =>
              have HQ : Hid (backT (.node tg (.node (.node mk (.node n1 n2)) bo)) = none) := Lib.hid (by simp [backT])
              obtain ⟨bn, _, _, e7, _⟩ := hm5
              obtain rfl : o4 = some ⟨bn, 0, none⟩ := by injection e7
              clear hr5 hr3 hm3 hm4
              go_wp2_with fail
              go_ret2
              exact BackP.none_ HQ.out HB.out
            | nil =>
              obtain rfl : o4 = none := by have h9 : Value.pointer o4 = .pointer none := hm5; injection h9
              cases bo with
              | nil =>
                have HQ : Hid (backT (.node tg (.node (.node mk .nil) .nil)) = none) := Lib.hid (by simp [backT])
                obtain rfl : o2 = none := by have h9 : Value.pointer o2 = .pointer none := hr5; injection h9
                clear hr3 hm3 hm4
                go_wp2_with fail
                go_ret2
                exact BackP.none_ HQ.out HB.out
              | node a b =>
                obtain ⟨bb, y1, y2, e7, hn1, hn2, hn3, hn4, hn5⟩ := hr5
                obtain rfl : o2 = some ⟨bb, 0, none⟩ := by injection e7
                obtain ⟨o5, rfl⟩ := hn4.isPtr
                obtain ⟨o6, rfl⟩ := hn5.isPtr
                have m0 := blk_cell hn3 0 rfl
                have m1 := blk_cell hn3 1 rfl
                have HNA : Hid (a.nodes ≤ N ∧ b.nodes ≤ N ∧ a.nodes + b.nodes + 1 ≤ (Tr.node tg (.node (.node mk .nil) (.node a b))).nodes ∧ a.nodes ≤ 1000000 ∧ b.nodes ≤ 1000000) := Lib.hid (by have h3 := HN.out; simp only [Tr.nodes] at h3 hbig ⊢; omega)
                have hca := HIH.out a HNA.out.1 _ lo _ hn4 hlo HNA.out.2.2.2.1
                have HBK := Lib.hid (HQB.out mk a b)
                generalize hoa : backT a = oa at hca HBK
                have HOA := Lib.hid hoa
                have HMK := Lib.hid hm4
                have HBB := Lib.hid hn5
                clear hoa hm4 hn4 hn5 hbig
                go_wp2_with fail
                refine hca.mono ?_
                rintro e w7 ⟨A7, n7, c7, za, rfl, ho7, hz7, hn7, hb7⟩
                replace hr3 := blk_bel hr3 hb7
                replace hm3 := blk_bel hm3 hb7
                replace hn3 := blk_bel hn3 hb7
                have k0 := blk_cell hr3 0 rfl
                have k1 := blk_cell hr3 1 rfl
                have l0 := blk_cell hm3 0 rfl
                have m0 := blk_cell hn3 0 rfl
                have m1 := blk_cell hn3 1 rfl
                have HMK7 := Lib.hid (HMK.out.up hb7)
                have HB7 := Lib.hid (HB.out.trans (hb7.mono HB.out.size))
                have hlo7 := Nat.le_trans hlo hb7.size
                have hcb := HIH.out b HNA.out.2.1 _ lo _ (HBB.out.up hb7) hlo7 HNA.out.2.2.2.2
                clear hca hb7
                generalize hob : backT b = ob at hcb HBK
                have HOB := Lib.hid hob
                clear hob
                go_wp2_with fail
                refine hcb.mono ?_
                rintro e w9 ⟨A9, n9, c9, zb, rfl, ho9, hz9, hn9, hb9⟩
                replace hr3 := blk_bel hr3 hb9
                replace hm3 := blk_bel hm3 hb9
                have HMK9 := Lib.hid (HMK7.out.up hb9)
                have HB9 := Lib.hid (HB7.out.trans (hb9.mono HB7.out.size))
                have hlo9 := Nat.le_trans hlo7 hb9.size
                have ho79 := ownN_below ho7 hb9 (Nat.le_refl _)
                have hkx := box_new w9 #[.int .i64 2, .int .i64 3, .int .i64 4, .int .i64 5] 2
                have hkb := below_new w9 (.cells #[.int .i64 2, .int .i64 3, .int .i64 4, .int .i64 5] 2)
                clear hcb hb9 ho7 k0 k1 l0 m0 m1 hn3
                go_wp2_with fail
                obtain ⟨wk, hwk⟩ : ∃ wk, wk = w9.alloc (.cells #[.int .i64 2, .int .i64 3, .int .i64 4, .int .i64 5] 2) := ⟨_, rfl⟩
                rw [← hwk] at hkx hkb ⊢
                have HKX := Lib.hid hkx
                have HR3 := Lib.hid (blk_bel hr3 hkb)
                have HM3 := Lib.hid (blk_bel hm3 hkb)
                have HMKk := Lib.hid (HMK9.out.up hkb)
                have HBk := Lib.hid (HB9.out.trans (hkb.mono HB9.out.size))
                have HLO := Lib.hid (Nat.le_trans hlo9 hkb.size)
                have HO7 := Lib.hid (ownN_below ho79 hkb (Nat.le_refl _))
                have HO9 := Lib.hid (ownN_below ho9 hkb (Nat.le_refl _))
                have HGS : Hid (w9.heap.size < wk.heap.size) := Lib.hid (blk_lt hkx)
                generalize hgk : w9.heap.size = gk at *
                clear hr3 hm3 hkx hkb ho79 ho9 hwk hgk hlo hlo7 hlo9 hm1 hm2 hr1 hr2 hn1 hn2 hm5
                by_cases hboth : oa.isSome = true ∧ ob.isSome = true
                · obtain ⟨xa, rfl⟩ : ∃ x, oa = some x := Option.isSome_iff_exists.1 hboth.1
                  obtain ⟨xb, rfl⟩ : ∃ x, ob = some x := Option.isSome_iff_exists.1 hboth.2
                  obtain rfl : za = xa := hz7 xa rfl
                  obtain rfl : zb = xb := hz9 xb rfl
                  simp only [Option.isSome_some]
                  clear hboth hz7 hz9
                  have hl7 := eN_len HO7.out
                  have hl9 := eN_len HO9.out
                  have hN3 := HNA.out
                  go_loopw [92] (fun q wr => ∃ i : Nat, i ≤ 4 ∧ q = .int .i64 i ∧ Hid (∀ j, j < i → mk.beq (tagTr (3 + j)) = false) ∧ Below wk.heap.size wk wr) (fun q _ => 4 - (intOf q).toNat)
                  case atStart => exact ⟨0, by omega, rfl, Lib.hid (fun j hj => by omega), Below.refl _ _⟩
                  case round =>
                    obtain ⟨i, hi, rfl, HJ, hb⟩ := hrel
                    have HBW := Lib.hid (HBk.out.trans (hb.mono HBk.out.size))
                    by_cases hlt : i < 4
                    · have hlt' : (i : Int) < 4 := by omega
                      have kc := blk_cell (blk_bel HKX.out hb) i (kinds_get i hlt)
                      have hrr := blk_bel HR3.out hb
                      have hmm := blk_bel HM3.out hb
                      have k0 := blk_cell hrr 0 rfl
                      have l0 := blk_cell hmm 0 rfl
                      have hbr := blk_lt hrr
                      have hbm := blk_lt hmm
                      have hmk := HMKk.out.up hb
                      have hlo : lo ≤ wr.heap.size := Nat.le_trans HLO.out hb.size
                      have HKN := Lib.hid (markN_k i hlt)
                      have HA7 := Lib.hid ((ownN_rd HO7.out).below hb (Nat.le_refl _))
                      have HA9 := Lib.hid ((ownN_rd HO9.out).below hb (Nat.le_refl _))
                      clear hrr hmm
                      cases hq : mk.beq (tagTr (3 + i)) with
                      | false =>
                        have HQF := Lib.hid hq
                        have HJ2 : Hid (∀ j, j < i + 1 → mk.beq (tagTr (3 + j)) = false) := Lib.hid (fun j hj => by
                          rcases Nat.lt_succ_iff_lt_or_eq.1 hj with h | rfl
                          · exact HJ.out j h
                          · exact hq)
                        clear hq
                        go_wp2_with fail
                        go_region_held3 (fun w' => w'.cell? ⟨br, 0, none⟩ = some (.pointer (some ⟨bm, 0, none⟩)) ∧ w'.cell? ⟨bm, 0, none⟩ = some (.pointer o3)) (exact ⟨k0, l0⟩) (first
                          | (go_at_call 193
                             refine (equal_any mk (tagTr (3 + i)) _ lo _ _ _ (by first | exact hmk2 | exact hmk2.drew) (by first | exact hzz | exact hzz.drew) (by exact Nat.le_refl _)).mono ?_
                             rw [HQF.out]
                             rintro e w3 ⟨rfl, hb3⟩
                             (try replace hb3 := und1 hb3)
                             (try replace hb3 := undN hb3)
                             have k0 := (hb3.cell (p := ⟨br, 0, none⟩) (Nat.lt_of_lt_of_le hbr (Nat.le_trans hb1.size hb2.size))).trans k0
                             have l0 := (hb3.cell (p := ⟨bm, 0, none⟩) (Nat.lt_of_lt_of_le hbm (Nat.le_trans hb1.size hb2.size))).trans l0
                             have hbA := (hb1.trans (hb2.mono hb1.size)).trans (hb3.mono (Nat.le_trans hb1.size hb2.size)))
                          | (go_at_call 68
                             refine (tagTree_any _ (3 + i) (by omega) _ (by omega)).mono ?_
                             rintro e w2 ⟨zz, rfl, hz, hb2⟩
                             obtain ⟨pz, rfl⟩ := hz.isPtr
                             (try replace hb2 := und1 hb2)
                             (try replace hb2 := undN hb2)
                             have k0 := (hb2.cell (p := ⟨br, 0, none⟩) (Nat.lt_of_lt_of_le hbr hb1.size)).trans k0
                             have l0 := (hb2.cell (p := ⟨bm, 0, none⟩) (Nat.lt_of_lt_of_le hbm hb1.size)).trans l0
                             have hzz := hz.wide (lo' := lo) (Nat.le_trans hlo hb1.size) (Nat.le_refl _)
                             have hmk2 := hmk1.up hb2)
                          | (go_at_call 199
                             refine (markOf_b _ _).mono ?_
                             rw [HKN.out]
                             rintro e w1 ⟨rfl, hb1⟩
                             (try replace hb1 := und1 hb1)
                             (try replace hb1 := undN hb1)
                             have k0 := (hb1.cell (p := ⟨br, 0, none⟩) hbr).trans k0
                             have l0 := (hb1.cell (p := ⟨bm, 0, none⟩) hbm).trans l0
                             have hmk1 := hmk.up hb1))
                        go_wp2_with fail
                        go_roundw
                        case rel => exact ⟨i + 1, by omega, by go_num, HJ2, hb.trans (hbA.mono hb.size)⟩
                        case measure => simp [intOf]; omega
                      | true =>
                        have HQF := Lib.hid hq
                        by_cases hends : i = 0 ∨ i = 3
                        · have HFOL := Lib.hid (fol_ends hends)
                          have HQ := Lib.hid (HBK.out.trans (comb_ends (x := za) (y := zb) hends hq))
                          clear hq hends
                          go_wp2_with fail
                          go_region_held3 (fun w' => w'.cell? ⟨br, 0, none⟩ = some (.pointer (some ⟨bm, 0, none⟩)) ∧ w'.cell? ⟨bm, 0, none⟩ = some (.pointer o3)) (exact ⟨k0, l0⟩) (first
                            | (go_at_call 193
                               refine (equal_any mk (tagTr (3 + i)) _ lo _ _ _ (by first | exact hmk2 | exact hmk2.drew) (by first | exact hzz | exact hzz.drew) (by exact Nat.le_refl _)).mono ?_
                               rw [HQF.out]
                               rintro e w3 ⟨rfl, hb3⟩
                               (try replace hb3 := und1 hb3)
                               (try replace hb3 := undN hb3)
                               have k0 := (hb3.cell (p := ⟨br, 0, none⟩) (Nat.lt_of_lt_of_le hbr (Nat.le_trans hb1.size hb2.size))).trans k0
                               have l0 := (hb3.cell (p := ⟨bm, 0, none⟩) (Nat.lt_of_lt_of_le hbm (Nat.le_trans hb1.size hb2.size))).trans l0
                               have hbA := (hb1.trans (hb2.mono hb1.size)).trans (hb3.mono (Nat.le_trans hb1.size hb2.size)))
                            | (go_at_call 68
                               refine (tagTree_any _ (3 + i) (by omega) _ (by omega)).mono ?_
                               rintro e w2 ⟨zz, rfl, hz, hb2⟩
                               obtain ⟨pz, rfl⟩ := hz.isPtr
                               (try replace hb2 := und1 hb2)
                               (try replace hb2 := undN hb2)
                               have k0 := (hb2.cell (p := ⟨br, 0, none⟩) (Nat.lt_of_lt_of_le hbr hb1.size)).trans k0
                               have l0 := (hb2.cell (p := ⟨bm, 0, none⟩) (Nat.lt_of_lt_of_le hbm hb1.size)).trans l0
                               have hzz := hz.wide (lo' := lo) (Nat.le_trans hlo hb1.size) (Nat.le_refl _)
                               have hmk2 := hmk1.up hb2)
                            | (go_at_call 199
                               refine (markOf_b _ _).mono ?_
                               rw [HKN.out]
                               rintro e w1 ⟨rfl, hb1⟩
                               (try replace hb1 := und1 hb1)
                               (try replace hb1 := undN hb1)
                               have k0 := (hb1.cell (p := ⟨br, 0, none⟩) hbr).trans k0
                               have l0 := (hb1.cell (p := ⟨bm, 0, none⟩) hbm).trans l0
                               have hmk1 := hmk.up hb1))
                          go_wp2_with fail
                          refine (exprFollow_any _ _ _).mono ?_
                          rw [HFOL.out]
                          rintro e w4 ⟨rfl, hb4⟩
                          have hbB := hbA.trans (hb4.mono hbA.size)
                          have HX := Lib.hid (rdX3 (w := w4) (2 + (i : Int)) (c7 := c7) (c9 := c9) (HA7.out.below hbB (Nat.le_refl _)) (HA9.out.below hbB (Nat.le_refl _)))
                          have hsz := HBW.out.size
                          have hsB := hbB.size
                          clear hb3 hb2 hb1 hb4 k0 l0 kc hbA hmk hmk1 hmk2 hzz hz
                          go_wp2_with fail
                          refine (concatE_any _ _ 3 _ [[(2 + (i : Int), 0)], za, zb] (by exact HX.out) (by omega) (by simp [totX]; omega)).mono ?_
                          rintro e w5 ⟨A5, n5, c5, rfl, ho5, hb5⟩
                          go_wp2_with fail
                          go_ret2
                          have hfl : [[(2 + (i : Int), (0 : Int))], za, zb].flatten = (2 + (i : Int), 0) :: (za ++ zb) := by simp
                          rw [hfl] at ho5
                          have hn5 := eN_len ho5
                          exact ⟨A5, n5, c5, _, by rw [HQ.out]; rfl, ownN_base ho5 (by simp; omega), by rw [HQ.out]; intro z hz; injection hz, by simp at hn5; omega, (HBW.out.trans (hbB.mono hsz)).trans (((below_new _ _).trans ((below_new _ _).mono (by simp)) |>.mono (by omega)).trans (hb5.mono (by simp; omega)))⟩
                        · have hmid : i = 1 ∨ i = 2 := by omega
                          have HFOL := Lib.hid (fol_mid hmid)
                          have HQ := Lib.hid (HBK.out.trans (comb_mid (x := za) (y := zb) hmid hq))
                          clear hq hends hmid
                          go_wp2_with fail
                          go_region_held3 (fun w' => w'.cell? ⟨br, 0, none⟩ = some (.pointer (some ⟨bm, 0, none⟩)) ∧ w'.cell? ⟨bm, 0, none⟩ = some (.pointer o3)) (exact ⟨k0, l0⟩) (first
                            | (go_at_call 193
                               refine (equal_any mk (tagTr (3 + i)) _ lo _ _ _ (by first | exact hmk2 | exact hmk2.drew) (by first | exact hzz | exact hzz.drew) (by exact Nat.le_refl _)).mono ?_
                               rw [HQF.out]
                               rintro e w3 ⟨rfl, hb3⟩
                               (try replace hb3 := und1 hb3)
                               (try replace hb3 := undN hb3)
                               have k0 := (hb3.cell (p := ⟨br, 0, none⟩) (Nat.lt_of_lt_of_le hbr (Nat.le_trans hb1.size hb2.size))).trans k0
                               have l0 := (hb3.cell (p := ⟨bm, 0, none⟩) (Nat.lt_of_lt_of_le hbm (Nat.le_trans hb1.size hb2.size))).trans l0
                               have hbA := (hb1.trans (hb2.mono hb1.size)).trans (hb3.mono (Nat.le_trans hb1.size hb2.size)))
                            | (go_at_call 68
                               refine (tagTree_any _ (3 + i) (by omega) _ (by omega)).mono ?_
                               rintro e w2 ⟨zz, rfl, hz, hb2⟩
                               obtain ⟨pz, rfl⟩ := hz.isPtr
                               (try replace hb2 := und1 hb2)
                               (try replace hb2 := undN hb2)
                               have k0 := (hb2.cell (p := ⟨br, 0, none⟩) (Nat.lt_of_lt_of_le hbr hb1.size)).trans k0
                               have l0 := (hb2.cell (p := ⟨bm, 0, none⟩) (Nat.lt_of_lt_of_le hbm hb1.size)).trans l0
                               have hzz := hz.wide (lo' := lo) (Nat.le_trans hlo hb1.size) (Nat.le_refl _)
                               have hmk2 := hmk1.up hb2)
                            | (go_at_call 199
                               refine (markOf_b _ _).mono ?_
                               rw [HKN.out]
                               rintro e w1 ⟨rfl, hb1⟩
                               (try replace hb1 := und1 hb1)
                               (try replace hb1 := undN hb1)
                               have k0 := (hb1.cell (p := ⟨br, 0, none⟩) hbr).trans k0
                               have l0 := (hb1.cell (p := ⟨bm, 0, none⟩) hbm).trans l0
                               have hmk1 := hmk.up hb1))
                          go_wp2_with fail
                          refine (exprFollow_any _ _ _).mono ?_
                          rw [HFOL.out]
                          rintro e w4 ⟨rfl, hb4⟩
                          have hbB := hbA.trans (hb4.mono hbA.size)
                          have HL7 := Lib.hid (HA7.out.below hbB (Nat.le_refl _))
                          have HL9 := Lib.hid (HA9.out.below hbB (Nat.le_refl _))
                          have HB4 := Lib.hid (HBW.out.trans (hbB.mono HBW.out.size))
                          have hNN : 1 + n7 ≤ (Tr.node tg (.node (.node mk .nil) (.node a b))).nodes := by omega
                          clear hb3 hb2 hb1 hb4 k0 l0 kc hbA hmk hmk1 hmk2 hzz hz hbB
                          by_cases h19 : n9 = 1
                          · subst h19
                            obtain ⟨y, hy⟩ := get_some (xs := zb) (k := 0) (by omega)
                            have hzb : zb = [y] := by
                              match zb, hl9, hy with
                              | [q], _, hy => simp at hy; rw [hy]
                            obtain ⟨bk, off, rfl, hbs, q0, q1⟩ := rdE HL9.out hy
                            simp only [Nat.zero_mul, Nat.add_zero] at q0
                            have HN1 : Hid (isNil1 zb = (y.1 == 0)) := Lib.hid (by rw [hzb]; rfl)
                            clear hy hzb hl9 q1
                            by_cases hy0 : y.1 = 0
                            · have HR : Hid (backT (.node tg (.node (.node mk .nil) (.node a b))) = some ((2 + (i : Int), 0) :: za)) := Lib.hid (by rw [HQ.out, HN1.out, hy0]; rfl)
                              rw [hy0] at q0
                              clear hy0
                              go_wp2_with fail
                              (first | (go_region_law (first
                                | (refine step_appSN eltEl (by rfl) _ _ (by rfl) _ w4.heap.size _ 1 (ints (eNums [(2 + (i : Int), 0)])) (by rfl) (by exact lit_el w4 _) A7 n7 c7 (ints (eNums za)) (by rfl) (by have h := HL7.out.below (below_new w4 (.cells #[.int .i64 (2 + (i : Int)), .int .i64 0] 110)) (Nat.le_refl _); exact h) (ints_one1 _) (by simp) (by omega) ?_
                                   intro A10 c10 w10 ho10 hb10
                                   have hbX := (below_new w4 (.cells #[.int .i64 (2 + (i : Int)), .int .i64 0] 110)).trans (below_re hb10)
                                   have q0 := (hbX.cell (p := ⟨bk, off, none⟩) hbs).trans q0))) | fail)
                              all_goals
                                go_wp2_with fail
                                go_ret2
                                rw [cons_nums] at ho10
                                first
                                  | exact ⟨A10, 1 + n7, c10, _, by rw [HR.out]; rfl, ownN_base ho10 HB4.out.size, (by rw [HR.out]; intro z hz; injection hz), hNN, HB4.out.trans (hbX.mono HB4.out.size)⟩
                                  | exact ⟨A10, 1 + n7, c10, _, by rw [HR.out]; rfl, ownN_base ho10 HB4.out.size, (by rw [HR.out]; intro z hz; injection hz), hNN, below_drewN (HB4.out.trans (hbX.mono HB4.out.size))⟩
                                  | exact ⟨A10, 1 + n7, c10, _, by rw [HR.out]; rfl, ownN_base ho10 HB4.out.size, (by rw [HR.out]; intro z hz; injection hz), hNN, below_drew1 (HB4.out.trans (hbX.mono HB4.out.size))⟩
                            · have HR : Hid (backT (.node tg (.node (.node mk .nil) (.node a b))) = none) := Lib.hid (by rw [HQ.out, HN1.out]; simp [hy0])
                              have y0 : (y.1 == 0) = false := by simpa using hy0
                              go_wp2_with fail
                              (first | (go_region_law (first
                                | (refine step_appSN eltEl (by rfl) _ _ (by rfl) _ w4.heap.size _ 1 (ints (eNums [(2 + (i : Int), 0)])) (by rfl) (by exact lit_el w4 _) A7 n7 c7 (ints (eNums za)) (by rfl) (by have h := HL7.out.below (below_new w4 (.cells #[.int .i64 (2 + (i : Int)), .int .i64 0] 110)) (Nat.le_refl _); exact h) (ints_one1 _) (by simp) (by omega) ?_
                                   intro A10 c10 w10 ho10 hb10
                                   have hbX := (below_new w4 (.cells #[.int .i64 (2 + (i : Int)), .int .i64 0] 110)).trans (below_re hb10)
                                   have q0 := (hbX.cell (p := ⟨bk, off, none⟩) hbs).trans q0))) | fail)
                              all_goals
                                go_wp2_with fail
                                go_ret2
                                rw [cons_nums] at ho10
                                first
                                  | exact ⟨A10, 1 + n7, c10, _, by rw [HR.out]; rfl, ownN_base ho10 HB4.out.size, (by rw [HR.out]; intro z hz; cases hz), hNN, HB4.out.trans (hbX.mono HB4.out.size)⟩
                                  | exact ⟨A10, 1 + n7, c10, _, by rw [HR.out]; rfl, ownN_base ho10 HB4.out.size, (by rw [HR.out]; intro z hz; cases hz), hNN, below_drewN (HB4.out.trans (hbX.mono HB4.out.size))⟩
                                  | exact ⟨A10, 1 + n7, c10, _, by rw [HR.out]; rfl, ownN_base ho10 HB4.out.size, (by rw [HR.out]; intro z hz; cases hz), hNN, below_drew1 (HB4.out.trans (hbX.mono HB4.out.size))⟩
                          · have HR : Hid (backT (.node tg (.node (.node mk .nil) (.node a b))) = none) := Lib.hid (by rw [HQ.out, isNil_no (by omega)]; rfl)
                            have y9 : ((n9 : Int) == 1) = false := by simp; omega
                            go_wp2_with fail
                            (first | (go_region_law (first
                              | (refine step_appSN eltEl (by rfl) _ _ (by rfl) _ w4.heap.size _ 1 (ints (eNums [(2 + (i : Int), 0)])) (by rfl) (by exact lit_el w4 _) A7 n7 c7 (ints (eNums za)) (by rfl) (by have h := HL7.out.below (below_new w4 (.cells #[.int .i64 (2 + (i : Int)), .int .i64 0] 110)) (Nat.le_refl _); exact h) (ints_one1 _) (by simp) (by omega) ?_
                                 intro A10 c10 w10 ho10 hb10
                                 have hbX := (below_new w4 (.cells #[.int .i64 (2 + (i : Int)), .int .i64 0] 110)).trans (below_re hb10)))) | fail)
                            all_goals
                              go_wp2_with fail
                              go_ret2
                              rw [cons_nums] at ho10
                              first
                                | exact ⟨A10, 1 + n7, c10, _, by rw [HR.out]; rfl, ownN_base ho10 HB4.out.size, (by rw [HR.out]; intro z hz; cases hz), hNN, HB4.out.trans (hbX.mono HB4.out.size)⟩
                                | exact ⟨A10, 1 + n7, c10, _, by rw [HR.out]; rfl, ownN_base ho10 HB4.out.size, (by rw [HR.out]; intro z hz; cases hz), hNN, below_drewN (HB4.out.trans (hbX.mono HB4.out.size))⟩
                                | exact ⟨A10, 1 + n7, c10, _, by rw [HR.out]; rfl, ownN_base ho10 HB4.out.size, (by rw [HR.out]; intro z hz; cases hz), hNN, below_drew1 (HB4.out.trans (hbX.mono HB4.out.size))⟩
                    · obtain rfl : i = 4 := by omega
                      have HQ := Lib.hid (HBK.out.trans (comb_none HJ.out))
                      go_wp2_with fail
                      go_ret2
                      exact BackP.none_ HQ.out HBW.out
                · have HQ : Hid (backT (.node tg (.node (.node mk .nil) (.node a b))) = none) := Lib.hid (by
                    rw [HBK.out]
                    cases oa with
                    | none => exact comb_l _ _
                    | some x => cases ob with
                      | none => exact comb_r _ _
                      | some y => exact absurd ⟨rfl, rfl⟩ hboth)
                  have hnb : (oa = none) ∨ (∃ x, oa = some x ∧ ob = none) := by
                    cases oa with
                    | none => exact .inl rfl
                    | some x => cases ob with
                      | none => exact .inr ⟨x, rfl, rfl⟩
                      | some y => exact absurd ⟨rfl, rfl⟩ hboth
                  clear hboth hz7 hz9
                  rcases hnb with rfl | ⟨x, rfl, rfl⟩
                  all_goals
                    simp only [Option.isSome_none, Option.isSome_some]
                    go_loopw [92] (fun q wr => ∃ i : Nat, i ≤ 4 ∧ q = .int .i64 i ∧ wr.heap[gk]? = some (.cells #[.int .i64 2, .int .i64 3, .int .i64 4, .int .i64 5] 2 (0, 0)) ∧ Below w.heap.size w wr) (fun q _ => 4 - (intOf q).toNat)
                    case atStart => exact ⟨0, by omega, rfl, HKX.out, HBk.out⟩
                    case round =>
                      obtain ⟨i, hi, rfl, hkk, hb⟩ := hrel
                      by_cases hlt : i < 4
                      · have hlt' : (i : Int) < 4 := by omega
                        have kc := blk_cell hkk i (kinds_get i hlt)
                        go_wp2_with fail
                        go_quiet (fail)
                        go_wp2_with fail
                        go_roundw
                        case rel => exact ⟨i + 1, by omega, by go_num, hkk, below_drewN hb⟩
                        case measure => simp [intOf]; omega
                      · obtain rfl : i = 4 := by omega
                        go_wp2_with fail
                        go_ret2
                        exact BackP.none_ HQ.out hb
      · have HQ := Lib.hid (back_no (tg := tg) rest (by rw [hT]; exact h0) (by rw [hT]; exact h1) (by rw [hT]; exact h2))
        have HF0 : Hid (tg.beq (tagTr 0) = false) := Lib.hid (by rw [beq_of hT 0 (by omega)]; simpa using h0)
        have HF1 : Hid (tg.beq (tagTr 1) = false) := Lib.hid (by rw [beq_of hT 1 (by omega)]; simpa using h1)
        have HF2 : Hid (tg.beq (tagTr 2) = false) := Lib.hid (by rw [beq_of hT 2 (by omega)]; simpa using h2)
        rcases h.ptr with ⟨_, hq0⟩ | ⟨bt, vh, vt, h', t', rfl, hq, hb1, hb2, c0, c1, c2, hh, ht2⟩
        · cases hq0
        cases hq
        clear c0 c1 c2 hh ht2
        have HT := Lib.hid hT
        clear hT
        go_enter Tryz.func194, Tryz.ntmps194
        go_wp2_with fail
        refine (headOf_any _ lo _ _ _ h).mono ?_
        rintro e w' ⟨⟨vtag, rfl, htg⟩, rfl⟩
        obtain ⟨ptag, rfl⟩ := htg.isPtr
        go_wp2_with fail
        refine (tailOf_any _ lo _ _ _ h).mono ?_
        rintro e w' ⟨⟨vrest, rfl, hrs⟩, rfl⟩
        replace htg : IsT w lo w.heap.size (.pointer ptag) tg := htg
        have HB : Hid (Below w.heap.size w w) := Lib.hid (Below.refl _ _)
        clear h
        obtain ⟨prest, hpr⟩ := hrs.isPtr
        subst hpr
        go_wp2_with fail
        refine (tagTree_any _ 0 (by omega) _ rfl).mono ?_
        rintro e u1 ⟨z1, rfl, hz1, hbz1⟩
        obtain ⟨p1, rfl⟩ := hz1.isPtr
        replace htg := htg.up hbz1
        replace hrs := hrs.up hbz1
        replace hz1 := hz1.wide (lo' := lo) hlo (Nat.le_refl _)
        replace HB := Lib.hid (HB.out.trans (hbz1.mono HB.out.size))
        replace hlo := Nat.le_trans hlo hbz1.size
        clear hbz1
        go_wp2_with fail
        refine (equal_any tg (tagTr 0) _ lo _ _ _ htg hz1 (Nat.le_refl _)).mono ?_
        rw [HF0.out]
        rintro e w1 ⟨rfl, hbz1⟩
        replace htg := htg.up hbz1
        replace hrs := hrs.up hbz1
        replace HB := Lib.hid (HB.out.trans (hbz1.mono HB.out.size))
        replace hlo := Nat.le_trans hlo hbz1.size
        clear hbz1 hz1
        go_wp2_with fail
        refine (tagTree_any _ 1 (by omega) _ rfl).mono ?_
        rintro e u2 ⟨z2, rfl, hz2, hbz2⟩
        obtain ⟨p2, rfl⟩ := hz2.isPtr
        replace htg := htg.up hbz2
        replace hrs := hrs.up hbz2
        replace hz2 := hz2.wide (lo' := lo) hlo (Nat.le_refl _)
        replace HB := Lib.hid (HB.out.trans (hbz2.mono HB.out.size))
        replace hlo := Nat.le_trans hlo hbz2.size
        clear hbz2
        go_wp2_with fail
        refine (equal_any tg (tagTr 1) _ lo _ _ _ htg hz2 (Nat.le_refl _)).mono ?_
        rw [HF1.out]
        rintro e w2 ⟨rfl, hbz2⟩
        replace htg := htg.up hbz2
        replace hrs := hrs.up hbz2
        replace HB := Lib.hid (HB.out.trans (hbz2.mono HB.out.size))
        replace hlo := Nat.le_trans hlo hbz2.size
        clear hbz2 hz2
        go_wp2_with fail
        refine (tagTree_any _ 2 (by omega) _ rfl).mono ?_
        rintro e u3 ⟨z3, rfl, hz3, hbz3⟩
        obtain ⟨p3, rfl⟩ := hz3.isPtr
        replace htg := htg.up hbz3
        replace hrs := hrs.up hbz3
        replace hz3 := hz3.wide (lo' := lo) hlo (Nat.le_refl _)
        replace HB := Lib.hid (HB.out.trans (hbz3.mono HB.out.size))
        replace hlo := Nat.le_trans hlo hbz3.size
        clear hbz3
        go_wp2_with fail
        refine (equal_any tg (tagTr 2) _ lo _ _ _ htg hz3 (Nat.le_refl _)).mono ?_
        rw [HF2.out]
        rintro e w3 ⟨rfl, hbz3⟩
        replace htg := htg.up hbz3
        replace hrs := hrs.up hbz3
        replace HB := Lib.hid (HB.out.trans (hbz3.mono HB.out.size))
        replace hlo := Nat.le_trans hlo hbz3.size
        clear hbz3 hz3
        go_wp2_with fail
        go_ret2
        exact BackP.none_ HQ.out HB.out
end Go.Proofs.YtadmbphefpfbmaaGreatDoor
