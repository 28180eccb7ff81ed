/- Programs of registers one after the other (program): parts, joined programs. -/
import Derived.Test.YtgnboemmlohahaaRrA
namespace Go.Proofs.Ytgnboemmlohahaa
open Go.RowKit
set_option linter.unusedVariables false
set_option linter.unusedSimpArgs false
attribute [local go_sem ↓] Go.wp_at_zero Go.wp_at_succ
theorem run_appSG {P : Program} {t e : TypeId} {z : Value} {k : Nat} (hE : EltN P t e z k) (ty : TypeId) (W : World) (base : Nat) (v : Value) (n : Nat) (vs : List Value) (hown : W.ownsRow base e k v n vs)
    (A0 : Option Addr) (m c0 : Nat) (us : List Value) (hr : Rd W A0 (m * k) us) (hu : ∀ u ∈ us, u.oneCell' = true) (hbase : base ≤ W.heap.size) (hn : n + m ≤ 1099511627776) :
    ∃ A c w', (Builtin.append_ #[t, t] ty #[v, .slice A0 m c0]).run P W = .ok (.slice A (n + m) c) w' ∧ w'.ownsRow base e k (.slice A (n + m) c) (n + m) (vs ++ us) ∧ W.grownBy w' v.ownBlock := by
  obtain ⟨ht, hzc, hs0, i, hi, hz, hs1, hb⟩ := hE
  rcases Nat.eq_zero_or_pos m with hm | hm
  · subst hm
    have hus : us = [] := List.eq_nil_of_length_eq_zero (by simpa using hr.1)
    subst hus
    obtain ⟨A, c, rfl, hnc, _⟩ := ownN_form hown
    have hrun : (Builtin.append_ #[t, t] ty #[.slice A n c, .slice A0 0 c0]).run P W = .ok (.slice A n c) W := by
      rcases hown.2 with ⟨h', h0⟩ | ⟨g, cap, cur, h', _⟩
      · injection h' with h1 h2 h3
        subst h1 h2 h3
        cases A0 <;> simp [Builtin.append_, run_underlying ht, sizeOf, typeInfo, hi, Builtin.lenOf, Builtin.firstCells, loadCells, loadCellsFrom]
      · injection h' with h1 h2 h3
        subst h1 h3
        cases A0 <;> simp [Builtin.append_, run_underlying ht, sizeOf, typeInfo, hi, Builtin.lenOf, Builtin.firstCells, loadCells, loadCellsFrom, hnc, storeCells]
    exact ⟨A, c, W, hrun, by simpa using hown, ⟨rfl, rfl, rfl, Nat.le_refl _, fun _ _ _ => rfl⟩⟩
  · obtain ⟨b, off, rfl, hlt, hc⟩ := hr.2 (Nat.mul_pos hm hs0)
    have hbn : (n + m) * i.bytes ≤ (n + m) * 64 := Nat.mul_le_mul_left _ hb
    obtain ⟨v', w', hrun, ho', hgr, _⟩ := run_append_own (P := P) W base t ty e i z k i.bytes ht hi hz hs1 rfl hzc hs0 v n vs hown ⟨b, off, none⟩ m c0 us (by simpa using hr.1) (fun j u hj => by
      have := hc j u hj
      unfold Addr.add
      split
      · rename_i h0; subst h0; simpa using this
      · exact this) hu (by unfold maxLen; omega) (by omega) hbase
    obtain ⟨A, c, rfl, _, _⟩ := ownN_form ho'
    exact ⟨A, c, w', hrun, ho', hgr⟩
theorem step_appSG {P : Program} {ops : Array Oper} {o : Oper} {a : Act} {K : Act → World → Prop} {Q : Exit → Act → World → Prop} {E : Prop} {t e : TypeId} {z : Value} {k : Nat} (hE : EltN P t e z k) (hgd : o.guard = none) (l x : Operand)
    (ho : o.op = .call { callee := .builtin .append, args := #[l, x], argTypes := #[t, t] }) (W : World) (base : Nat) (v : Value) (n : Nat) (vs : List Value) (hs : a.eval l = v) (hown : W.ownsRow base e k v n vs)
    (A0 : Option Addr) (m c0 : Nat) (us : List Value) (hx : a.eval x = .slice A0 m c0) (hr : Rd W A0 (m * k) us) (hu : ∀ u ∈ us, u.oneCell' = true) (hbase : base ≤ W.heap.size) (hn : n + m ≤ 1099511627776)
    (h : ∀ A c w', w'.ownsRow base e k (.slice A (n + m) c) (n + m) (vs ++ us) → W.grownBy w' v.ownBlock → K (a.put o.dst (.slice A (n + m) c)) w') :
    if Region.wanted o (yielded ops a.tmps) = true then Oper.wp P o a W K Q else E := by
  obtain ⟨A, c, w', hrun, ho', hb⟩ := run_appSG hE o.type W base v n vs hown A0 m c0 us hr hu hbase hn
  have hw : Region.wanted o (yielded ops a.tmps) = true := by simp [Region.wanted, hgd]
  rw [if_pos hw]
  unfold Oper.wp
  simp [execOp, ho, resolve, invoke, builtin, hs, hx, hrun, Result.andThen]
  exact h A c w' ho' hb

theorem ow_not {w : World} {base e s n g T : Nat} {v : Value} {vs : List Value} {cs : Array Value} (hg : w.heap[g]? = some (.cells cs T (0, 0))) (hT : T ≠ e) (h : w.ownsRow base e s v n vs) : ¬ Fo v g := fun hf => by
  obtain ⟨ds, h1⟩ := own_fo h hf
  exact blk_ne hg h1 hT rfl
/-- A list that is being built. -/
structure BL (w : World) (lo g : Nat) (A : Option Addr) (n c : Nat) (ps : List Ins) : Prop where
  box : w.heap[g]? = some (.cells #[.slice A n c] 70 (0, 0))
  row : w.ownsRow lo 49 4 (.slice A n c) n (ints (flatI ps))
  l1 : lo ≤ g
theorem BL.below {w w' : World} {lo g n c : Nat} {A : Option Addr} {ps : List Ins} (h : BL w lo g A n c ps) (hb : Below w.heap.size w w') : BL w' lo g A n c ps := ⟨blk_bel h.box hb, ownN_below h.row hb (Nat.le_refl _), h.l1⟩
theorem three_bx (w : World) (c1 c2 c3 : Array Value) (T1 T2 T3 : Nat) : Below w.heap.size w (((w.alloc (.cells c1 T1)).alloc (.cells c2 T2)).alloc (.cells c3 T3)) ∧ (((w.alloc (.cells c1 T1)).alloc (.cells c2 T2)).alloc (.cells c3 T3)).heap[w.heap.size]? = some (.cells c1 T1 (0, 0)) ∧ (((w.alloc (.cells c1 T1)).alloc (.cells c2 T2)).alloc (.cells c3 T3)).heap[w.heap.size + 1]? = some (.cells c2 T2 (0, 0)) ∧ (((w.alloc (.cells c1 T1)).alloc (.cells c2 T2)).alloc (.cells c3 T3)).heap[w.heap.size + 2]? = some (.cells c3 T3 (0, 0)) := by
  refine ⟨bqa (bqa (bqa (Below.refl _ _))), blk_alloc (blk_alloc (box_new w _ _) _) _, blk_alloc ?_ _, ?_⟩
  · have h := box_new (w.alloc (.cells c1 T1)) c2 T2
    simpa using h
  · have h := box_new ((w.alloc (.cells c1 T1)).alloc (.cells c2 T2)) c3 T3
    simpa using h
set_option maxHeartbeats 4000000 in
set_option maxRecDepth 100000 in
theorem part_any (w0 w : World) (hb0 : Below w0.heap.size w0 w) (g : Nat) (A2 : Option Addr) (n2 c2 : Nat) (ps : List Ins) (hx : BL w w0.heap.size g A2 n2 c2 ps) (hn2 : n2 ≤ 400) (A : Option Addr) (n c : Nat) (q : List Ins) (hr : Rd w0 A (n * 4) (ints (flatI q))) (hok : okProg q = true) (h : Int) :
    Calls Try.prog 35 #[.pointer (some ⟨g, 0, none⟩), .slice A n c, .int .i64 h] w (fun e w' => ∃ A3 c3, e = .returned (.pointer (some ⟨g, 0, none⟩)) ∧ BL w' w0.heap.size g A3 (n2 + n) c3 (ps ++ q.map (redI n h n2)) ∧ Below w0.heap.size w0 w') := by
  have hpl : q.length = n := by have h3 := hr.1; simp only [List.length_map, flatI_len] at h3; omega
  have hn : n ≤ 400 := by have h3 := hok; simp only [okProg, Bool.and_eq_true, decide_eq_true_eq] at h3; omega
  have HN := Lib.hid hn; have HPL := Lib.hid hpl; have HOK := Lib.hid hok; have HB0 := Lib.hid hb0; have HR := Lib.hid hr; have HX := Lib.hid hx
  obtain ⟨w1, hw1⟩ : ∃ w1, w1 = (w.alloc (.cells #[.slice A n c] 24)).alloc (.cells #[.int .i64 h] 2) := ⟨_, rfl⟩
  obtain ⟨w3, hw3⟩ : ∃ w3, w3 = w1.alloc (.cells #[.int .i64 (n2 : Int)] 2) := ⟨_, rfl⟩
  obtain ⟨b3, k1, k2, k3⟩ := three_bx w #[.slice A n c] #[.int .i64 h] #[.int .i64 (n2 : Int)] 24 2 2
  rw [← hw1, ← hw3] at b3 k1 k2 k3
  have s1 : w1.heap.size = w.heap.size + 2 := by rw [hw1]; simp
  have b1 : Below w.heap.size w w1 := by rw [hw1]; exact bqa (bqa (Below.refl _ _))
  have HX3 := Lib.hid (HX.out.below b3)
  have HB3 : Hid (Below w0.heap.size w0 w3) := Lib.hid (hb0.trans (b3.mono hb0.size))
  have HCP : Hid (Cap3 w3 w.heap.size (w.heap.size + 1) w1.heap.size A n c h n2) := Lib.hid (by rw [s1]; exact ⟨k1, k2, k3⟩)
  have HS1 := Lib.hid s1
  have x0 := blk_cell (hx.below b1).box 0 rfl
  have HRD := Lib.hid (redirected_any w3.drew A n c q (hr.below (bqd HB3.out) (Nat.le_refl _)) hok _ _ _ h n2 (HCP.out.below (bqd (Below.refl _ _))) (by omega))
  clear hpl hn hok hb0 hr hx b3 k1 k2 k3 s1 b1
  go_enter Try.func35, Try.ntmps35
  go_upto_region 1 with fail
  rw [← hw1]
  clear hw1
  go_upto_region 2 with (go_at_call 21; refine (sizeInstr_any _ _ _ _ (by omega)).mono ?_; rintro e w' ⟨rfl, rfl⟩)
  rw [← hw3]
  clear hw3 x0
  have x0 := blk_cell HX3.out.box 0 rfl
  have f0 := blk_free HX3.out.box 0
  have p0 := blk_cell HCP.out.p 0 rfl
  go_wp2_with fail
  (first | (go_region_law (first
    | (go_simp; go_at_call 43
       refine HRD.out.mono ?_
       rintro e w4 ⟨A4, c4, rfl, ho4, hb4⟩
       replace hb4 : Below w3.heap.size w3 w4 := bqc hb4 (bqd (Below.refl _ _))
       have HO4 := Lib.hid (HX3.out.below hb4)
       have HR4 := Lib.hid (ownN_rd ho4)
       have HB4 : Hid (Below w0.heap.size w0 w4) := Lib.hid (HB3.out.trans (hb4.mono HB3.out.size))
       have hl4 := HB4.out.size
       have x0 := blk_cell HO4.out.box 0 rfl
       have f0 := blk_free HO4.out.box 0
       clear ho4 hb4)
    | (refine step_appSG eltIn (by rfl) _ _ (by rfl) w4 w0.heap.size _ n2 _ (by rfl) (by exact HO4.out.row) A4 n c4 _ (by rfl) (by exact HR4.out) (ints_one1 _) (by exact hl4) (by have := HN.out; omega) ?_
       intro A5 c5 w5 ho5 hg5
       have HO5 := Lib.hid ho5; have HG5 := Lib.hid hg5
       have HX5 := Lib.hid (blk_ch HO4.out.box (ch_row hg5) (ow_not HO4.out.box (by decide) HO4.out.row))
       have f0 := blk_free HX5.out 0
       have x0 := blk_cell HX5.out 0 rfl
       clear ho5 hg5))) | fail)
  all_goals
    as_aux_lemma =>
    go_wp2_with fail
    go_ret
    refine ⟨A5, c5, rfl, ⟨?_, ?_, HX.out.l1⟩, ?_⟩
    · simpa using blk_set HX5.out 0 (.slice A5 (n2 + n) c5)
    · have h6 := own_ch HO5.out (ch_set w5 g 0 (.slice A5 (n2 + n) c5)) (fun k hk e => ow_not HX5.out (by decide) HO5.out (by rw [← e]; exact hk))
      rwa [ints_two, ← flatI_app] at h6
    · exact below_ch (below_ch HB4.out (ch_row HG5.out) (fun k hk => (HO4.out.row.lt k hk).1) HB4.out.size) (ch_set w5 g 0 _) (fun k e => by rw [e]; exact HX.out.l1) (by have := HB4.out.size; have := HG5.out.size; omega)
end Go.Proofs.Ytgnboemmlohahaa
