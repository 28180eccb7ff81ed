/- Texts of programs of one assignment (program). -/
import Derived.Test.YtaadobggenbbdaaGreatDoorPkG
import Derived.Deep.RegionLaw
namespace Go.Proofs.YtaadobggenbbdaaGreatDoor
open Go.RowKit
set_option linter.unusedVariables false
set_option linter.unusedSimpArgs false
attribute [local go_sem ↓] Go.wp_at_zero Go.wp_at_succ
theorem step_app1S {P : Program} {ops : Array Oper} {o : Oper} {a : Act} {K : Act → World → Prop} {Q : Exit → Act → World → Prop} {E : Prop} {t e : TypeId} {z : Value} (hE : Elt P t e z) (hgd : o.guard = none) (s x : Operand)
    (ho : o.op = .call { callee := .builtin .append, args := #[s, x], argTypes := #[t, t] }) (W W' : World) (y : Value) (hW : W' = W.alloc (.cells #[y] e)) (base : Nat) (v : Value) (n : Nat) (vs : List Value) (hs : a.eval s = v) (hown : W.ownsRow base e 1 v n vs)
    (hy : y.oneCell' = true) (hx : a.eval x = .slice (some ⟨W.heap.size, 0, none⟩) 1 1) (hbase : base ≤ W.heap.size) (hn : n ≤ 1099511627776)
    (h : ∀ A c w', w'.ownsRow base e 1 (.slice A (n + 1) c) (n + 1) (vs ++ [y]) → W.grownBy w' v.ownBlock → K (a.put o.dst (.slice A (n + 1) c)) w') :
    if Region.wanted o (yielded ops a.tmps) = true then Oper.wp P o a W' K Q else E := by
  have hw : Region.wanted o (yielded ops a.tmps) = true := by simp [Region.wanted, hgd]
  rw [if_pos hw]
  subst hW
  obtain ⟨ht, hzc, i, hi, hz, hs1, hb⟩ := hE
  have hbn : (n + 1) * i.bytes ≤ (n + 1) * 24 := Nat.mul_le_mul_left _ hb
  obtain ⟨v', w', hrun, h2, h3, _⟩ := run_append_own (P := P) (W.alloc (.cells #[y] e)) base t o.type e i z 1 i.bytes ht hi hz hs1 rfl (by rw [hzc]; rfl) (by decide) v n vs (hown.alloc _) ⟨W.heap.size, 0, none⟩ 1 1 [y] rfl (cell_one_new _ _ _) (by simpa using hy) (by unfold maxLen; omega) (by omega) (by simp; omega)
  unfold Oper.wp
  obtain ⟨A, c, rfl, _, _⟩ := own_form h2
  simp [execOp, ho, resolve, invoke, builtin, hs, hx, hrun, Result.andThen]
  exact h A c w' h2 (grown_alloc_trans h3)
def Tx.line (x : Tx) : ByteArray := (⟨#[48]⟩ ++ ⟨#[61]⟩) ++ x.bs
/-- A list of texts in a variable's box. -/
def LsB (w : World) (lo B : Nat) (n : Nat) (vs : List Value) : Prop := ∃ A c, w.heap[B]? = some (.cells #[.slice A n c] 164 (0, 0)) ∧ w.ownsRow lo 9 1 (.slice A n c) n vs ∧ lo ≤ B
theorem LsB.below {w w' : World} {lo B n : Nat} {vs : List Value} (h : LsB w lo B n vs) (hb : Below w.heap.size w w') : LsB w' lo B n vs := by
  obtain ⟨A, c, h1, h2, h3⟩ := h
  exact ⟨A, c, blk_bel h1 hb, own_below h2 hb (Nat.le_refl _), h3⟩
set_option maxHeartbeats 4000000 in
set_option maxRecDepth 100000 in
theorem textClo_any (w : World) (lo B : Nat) (x : Tx) (Av : Option Addr) (m cv : Nat) (Ab : Value) (hls : LsB w lo B 0 []) (hr : RdE w Av m x.els) (hm : m ≤ 1000) (hmc : m ≤ cv) (hlo : lo ≤ w.heap.size) :
    Calls Tryz.prog 135 #[.agg #[.int .i64 0, .int .i64 0, .int .i64 0, .slice Av m cv], Ab, .pointer (some ⟨B, 0, none⟩)] w (fun e w' => e = .returned (.tuple #[]) ∧ LsB w' lo B 1 [.string x.line] ∧ Below lo w w') := by
  obtain ⟨A0, c0, hx, ho, hlB⟩ := hls
  have HS : Hid (x.bs.size ≤ 5000) := Lib.hid (by have h1 := x.bs_size; have h2 := rdE_len hr; omega)
  have hbb := below_new w (.cells #[.int .i64 0, .int .i64 0, .int .i64 0, .slice Av m cv] 53)
  have hbx := box_new w #[.int .i64 0, .int .i64 0, .int .i64 0, .slice Av m cv] 53
  obtain ⟨w1, hw1⟩ : ∃ w1, w1 = w.alloc (.cells #[.int .i64 0, .int .i64 0, .int .i64 0, .slice Av m cv] 53) := ⟨_, rfl⟩
  rw [← hw1] at hbb hbx
  have HX := Lib.hid (blk_bel hx hbb)
  have HO := Lib.hid (own_below ho hbb (Nat.le_refl _))
  have HBX := Lib.hid hbx
  have HBB : Hid (Below lo w w1) := Lib.hid (hbb.mono hlo)
  have HT := Lib.hid (exprText_any x w1.drew Av m cv (show RdE w1 Av m x.els from hr.below hbb (Nat.le_refl _)) hm hmc)
  have HLB := Lib.hid hlB
  have HLO : Hid (lo ≤ w1.heap.size) := Lib.hid (Nat.le_trans hlo hbb.size)
  clear hx ho hbx hbb hr hlB hlo hm hmc
  go_enter Tryz.func135, Tryz.ntmps135
  go_upto_region 1 with fail
  rw [← hw1]
  clear hw1
  have z0 := blk_cell HBX.out 0 rfl
  have z1 := blk_cell HBX.out 1 rfl
  have z3 := blk_cell HBX.out 3 rfl
  have b0 := blk_cell HX.out 0 rfl
  have f0 := blk_free HX.out 0
  have hs : ¬ (9223372036854775807 < 2 + x.bs.size) := by have := HS.out; omega
  go_wp2_with fail
  (first | (go_region_law (first
    | (go_simp; go_at_call 136
       refine (decimal0_any _).mono ?_
       rintro e w' ⟨rfl, rfl⟩)
    | (refine step_app1S eltStr (by rfl) _ _ (by rfl) w4 _ (.string x.line) (by rfl) lo (.slice A0 0 c0) 0 [] (by rfl) (by exact HO4.out) (by rfl) (by rfl) (by exact HL4.out) (by omega) ?_
       intro A9 c9 w9 ho9 hg9
       have HO9 := Lib.hid ho9
       have HX9 := Lib.hid (blk_ch HX4.out (ch_row hg9) (fun hf => by
         obtain ⟨cs, h1⟩ := own_foP HO4.out hf
         exact blk_ne HX4.out h1 (by decide) rfl))
       have HB9 : Hid (Below lo w w9) := Lib.hid (below_ch HB4.out (ch_row hg9) (fun q hq => (HO4.out.lt q hq).1) HL4.out)
       have HL9 : Hid (lo ≤ w9.heap.size) := Lib.hid (Nat.le_trans HL4.out hg9.size)
       have b0 := blk_cell HX9.out 0 rfl
       have f0 := blk_free HX9.out 0
       clear ho9 hg9)
    | (go_simp; go_at_call 137
       refine HT.out.mono ?_
       rintro e w4 ⟨rfl, hb4⟩
       replace hb4 : Below w1.heap.size w1 w4 := und1 hb4
       have HX4 := Lib.hid (blk_bel HX.out hb4)
       have HBX4 := Lib.hid (blk_bel HBX.out hb4)
       have HO4 := Lib.hid (own_below HO.out hb4 (Nat.le_refl _))
       have HB4 : Hid (Below lo w w4) := Lib.hid (HBB.out.trans (hb4.mono HLO.out))
       have HL4 : Hid (lo ≤ w4.heap.size) := Lib.hid (Nat.le_trans HLO.out hb4.size)
       have z0 := blk_cell HBX4.out 0 rfl
       have z1 := blk_cell HBX4.out 1 rfl
       have z3 := blk_cell HBX4.out 3 rfl
       have b0 := blk_cell HX4.out 0 rfl
       have f0 := blk_free HX4.out 0
       have b0a := blk_cell (blk_alloc HX4.out (.cells #[.string ((⟨#[48]⟩ ++ ⟨#[61]⟩) ++ x.bs)] 9)) 0 rfl
       have hl4 := blk_lt HX4.out
       clear hb4))) | fail)
  all_goals
    clear hs
    go_wp2_with fail
    go_end0
    refine ⟨rfl, ⟨A9, c9, ?_, ?_, HLB.out⟩, ?_⟩
    · simpa using blk_set HX9.out 0 (.slice A9 1 c9)
    · exact own_ch HO9.out (ch_set _ _ _ _) (fun q hq e => by
        obtain ⟨cs, h1⟩ := own_foP HO9.out hq
        have e2 : q = B := e
        subst e2
        exact blk_ne HX9.out h1 (by decide) rfl)
    · exact below_ch HB9.out (ch_set _ B 0 _) (fun q e => by rw [e]; exact HLB.out) HL9.out
end Go.Proofs.YtaadobggenbbdaaGreatDoor
