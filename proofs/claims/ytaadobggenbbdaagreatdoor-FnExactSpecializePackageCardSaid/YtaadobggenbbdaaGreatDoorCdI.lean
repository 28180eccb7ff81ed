/- The code of a program: the program's functions. Written by mk_cdi.py. -/
import Derived.Test.YtaadobggenbbdaaGreatDoorCdZ
import Derived.Test.YtaadobggenbbdaaGreatDoorGH
import Derived.Deep.RegionLaw
namespace Go.Proofs.YtaadobggenbbdaaGreatDoor
open Go.RowKit
set_option linter.unusedVariables false
set_option linter.unusedSimpArgs false
theorem step_app1P {P : Program} {ops : Array Oper} {o : Oper} {a : Act} {K : Act → World → Prop} {Q : Exit → Act → World → Prop} {E : Prop} {t e : TypeId} {z : Value} (hE : Elt P t e z) (hgd : o.guard = none) (s x : Operand)
    (ho : o.op = .call { callee := .builtin .append, args := #[s, x], argTypes := #[t, t] }) (W W' : World) (y : Value) (hW : W' = W.alloc (.cells #[y] e)) (base : Nat) (v : Value) (n : Nat) (vs : List Value) (hs : a.eval s = v) (hown : W.ownsRow base e 1 v n vs)
    (hy : y.oneCell' = true) (hx : a.eval x = .slice (some ⟨W.heap.size, 0, none⟩) 1 1) (hbase : base ≤ W.heap.size) (hn : n ≤ 1099511627776)
    (h : ∀ A c w', w'.ownsRow base e 1 (.slice A (n + 1) c) (n + 1) (vs ++ [y]) → W.grownBy w' v.ownBlock → K (a.put o.dst (.slice A (n + 1) c)) w') :
    if Region.wanted o (yielded ops a.tmps) = true then Oper.wp P o a W' K Q else E := by
  have hw : Region.wanted o (yielded ops a.tmps) = true := by simp [Region.wanted, hgd]
  rw [if_pos hw]
  subst hW
  obtain ⟨ht, hzc, i, hi, hz, hs1, hb⟩ := hE
  have hbn : (n + 1) * i.bytes ≤ (n + 1) * 24 := Nat.mul_le_mul_left _ hb
  obtain ⟨v', w', hrun, h2, h3, _⟩ := run_append_own (P := P) (W.alloc (.cells #[y] e)) base t o.type e i z 1 i.bytes ht hi hz hs1 rfl (by rw [hzc]; rfl) (by decide) v n vs (hown.alloc _) ⟨W.heap.size, 0, none⟩ 1 1 [y] rfl (cell_one_new _ _ _) (by simpa using hy) (by unfold maxLen; omega) (by omega) (by simp; omega)
  unfold Oper.wp
  obtain ⟨A, c, rfl, _, _⟩ := own_form h2
  simp [execOp, ho, resolve, invoke, builtin, hs, hx, hrun, Result.andThen]
  exact h A c w' h2 (grown_alloc_trans h3)
/-- Trees are left alone by what happens in blocks of other elements. -/
theorem IsT.chT {w w' : World} {G : Nat → Prop} {lo : Nat} (hc : Ch G w w') (hG : ∀ k cs, G k → w.heap[k]? = some (.cells cs 101 (0, 0)) → False) : ∀ {t : Tr} {u : Value}, IsT w lo w.heap.size u t → IsT w' lo w'.heap.size u t
  | .nil, _, h => h
  | .node _ _, _, ⟨b, vh, vt, e, h1, h2, h3, h4, h5⟩ =>
    ⟨b, vh, vt, e, h1, Nat.lt_of_lt_of_le h2 hc.size, (hc.block b h2 (fun g => hG b _ g h3)).trans h3, h4.chT hc hG, h5.chT hc hG⟩
theorem AreT.chT {w w' : World} {G : Nat → Prop} {lo : Nat} {us : List Value} {ts : List Tr} (h : AreT w lo w.heap.size us ts) (hc : Ch G w w') (hG : ∀ k cs, G k → w.heap[k]? = some (.cells cs 101 (0, 0)) → False) : AreT w' lo w'.heap.size us ts :=
  ⟨h.1, fun i u t hu ht => (h.2 i u t hu ht).chT hc hG⟩
theorem row_noT {w : World} {B e s n : Nat} {v : Value} {ws : List Value} (ho : w.ownsRow B e s v n ws) (hT : e ≠ 101) : ∀ k cs, Fo v k → w.heap[k]? = some (.cells cs 101 (0, 0)) → False := by
  intro k cs hk h
  rcases ho.2 with ⟨rfl, _⟩ | ⟨g, _, _, rfl, _, hg1, _⟩
  · simp [Fo, Value.ownBlock] at hk
  · obtain rfl : g = k := by simpa [Fo, Value.ownBlock] using hk
    exact blk_ne hg1 h hT rfl
theorem row_notB {w : World} {base e s n g T : Nat} {v : Value} {vs : List Value} {cs : Array Value} (hg : w.heap[g]? = some (.cells cs T (0, 0))) (hT : T ≠ e) (h : w.ownsRow base e s v n vs) : ¬ Fo v g := fun hf => by
  rcases h.2 with ⟨rfl, _⟩ | ⟨g', cap, cur, rfl, _, hgg, _⟩
  · simp [Fo, Value.ownBlock] at hf
  · obtain rfl : g' = g := by simpa [Fo, Value.ownBlock] using hf
    exact blk_ne hg hgg hT rfl
/-- The list that the closure fills, in its box. -/
def CB (w : World) (lo B : Nat) (ts : List Tr) : Prop :=
  ∃ A n c us, w.heap[B]? = some (.cells #[.slice A n c] 153 (0, 0)) ∧ w.ownsRow lo 59 1 (.slice A n c) n us ∧ AreT w lo w.heap.size us ts ∧ lo ≤ B
/-- What becomes of it when a tree is appended and the box is set. -/
theorem CB.put {w w5 : World} {lo B n c5 : Nat} {v : Value} {us : List Value} {ts : List Tr} {A5 : Option Addr} {p : Option Addr} {t : Tr} (hx : w.heap[B]? = some (.cells #[v] 153 (0, 0))) (ho : w.ownsRow lo 59 1 v n us) (ha : AreT w lo w.heap.size us ts) (hlo : lo ≤ B)
    (ht : IsT w lo w.heap.size (.pointer p) t) (ho5 : w5.ownsRow lo 59 1 (.slice A5 (n + 1) c5) (n + 1) (us ++ [.pointer p])) (hg : w.grownBy w5 v.ownBlock) :
    CB (w5.setCell ⟨B, 0, none⟩ (.slice A5 (n + 1) c5)) lo B (ts ++ [t]) ∧ w5.cell? ⟨B, 0, none⟩ = some v ∧ w5.frozen? ⟨B, 0, none⟩ = false := by
  have hx5 := blk_ch hx (ch_row hg) (row_notB hx (by decide) ho)
  have ha5 := ha.chT (ch_row hg) (row_noT ho (by decide))
  have ht5 := IsT.chT (ch_row hg) (row_noT ho (by decide)) ht
  have hnb := row_notB hx5 (by decide) ho5
  refine ⟨⟨A5, n + 1, c5, us ++ [.pointer p], by simpa using blk_set hx5 0 (.slice A5 (n + 1) c5), own_ch ho5 (ch_set w5 B 0 _) (fun k h1 h2 => by subst h2; exact hnb h1), ?_, hlo⟩, blk_cell hx5 0 rfl, blk_free hx5 0⟩
  have hG : ∀ k cs, k = B → w5.heap[k]? = some (.cells cs 101 (0, 0)) → False := fun k cs hk h => by subst hk; exact blk_ne hx5 h (by decide) rfl
  exact (ha5.snoc ht5).chT (ch_set w5 B 0 _) hG
def itemT (x : Cmd) (body : List Cmd) : Tr := if x.k = 0 then .node (tagTr 7) (codeE x.e) else .node (tagTr 9) (.node (codeE x.e) (codeC body))
def ClP (w : World) (lo B : Nat) (ts : List Tr) (e : Ending) (w' : World) : Prop := e = .returned (.tuple #[]) ∧ CB w' lo B ts ∧ Below lo w w'
set_option maxHeartbeats 8000000 in
set_option maxRecDepth 100000 in
theorem codeClo_set (w : World) (lo B : Nat) (x : Cmd) (A : Option Addr) (n c : Nat) (Ab : Option Addr) (nb cb : Nat) (ts : List Tr) (hr : RdE w A n x.e) (hwf : wfE x.e = true) (hnc : n ≤ c) (hk : x.k = 0) (hcb : CB w lo B ts) (hlo : lo ≤ w.heap.size) (hts : ts.length ≤ 1000000) :
    Calls Tryz.prog 125 #[.agg #[.int .i64 x.k, .int .i64 x.v, .int .i64 x.l, .slice A n c], .slice Ab nb cb, .pointer (some ⟨B, 0, none⟩)] w (ClP w lo B (ts ++ [.node (tagTr 7) (codeE x.e)])) := by
  obtain ⟨xk, xv, xl, xe⟩ := x
  simp only at hr hwf hk ⊢
  subst hk
  obtain ⟨y, rfl, hg, hl, ho⟩ := wfE_ex hwf
  have hn40 : n ≤ 40 := by have := rdE_len hr; omega
  have HCE : Hid (codeE y.els = y.code) := Lib.hid (codeE_els hg)
  rw [HCE.out]
  have hcn := y.code_nodes
  have htn := tag_nodes 7
  have hbb := below_new w (.cells #[.int .i64 0, .int .i64 xv, .int .i64 xl, .slice A n c] 53)
  have hbx := box_new w #[.int .i64 0, .int .i64 xv, .int .i64 xl, .slice A n c] 53
  have z0 := blk_cell hbx 0 rfl
  have z3 := blk_cell hbx 3 rfl
  have hr1 := hr.below hbb (Nat.le_refl _)
  obtain ⟨A1, m, c1, us, hx, hro, ha, hlB⟩ := hcb
  have hm : m ≤ 1000000 := by have h1 := hro.1; have h2 := ha.1; simp at h1; omega
  have hBw := blk_lt hx
  have HX := Lib.hid (blk_bel hx hbb)
  have HO := Lib.hid (own_below hro hbb (Nat.le_refl _))
  have HA := Lib.hid (ha.up hbb)
  have HBX := Lib.hid hbx
  have HBB := Lib.hid hbb
  clear hx hro ha hbx hbb hr
  go_enter Tryz.func125, Tryz.ntmps125
  go_wp2_with fail
  refine (codeOfExpr_any y _ _ _ _ hg ho hr1 hn40 hnc).mono ?_
  rintro e w2 ⟨v2, rfl, hv2, hb2⟩
  obtain ⟨p2, rfl⟩ := hv2.isPtr
  have hz2 := blk_bel HBX.out hb2
  clear z0 z3
  have z0 := blk_cell hz2 0 rfl
  have q2 := blk_cell (blk_bel HX.out hb2) 0 rfl
  have HX2 := Lib.hid (blk_bel HX.out hb2)
  have HO2 := Lib.hid (own_below HO.out hb2 (Nat.le_refl _))
  have HA2 := Lib.hid (HA.out.up hb2)
  have HB2 := Lib.hid (HBB.out.trans (hb2.mono HBB.out.size))
  have hl2 : lo ≤ w2.heap.size := Nat.le_trans hlo HB2.out.size
  have hv2' : IsT w2 lo w2.heap.size (.pointer p2) y.code := hv2.wide (Nat.le_trans hlo HBB.out.size) (Nat.le_refl _)
  clear hz2 hb2 hv2
  go_wp2_with fail
  (first | (go_region_law (first
    | (refine step_app1P eltP (by rfl) _ _ (by rfl) w4 _ (.pointer p4) (by rfl) lo _ m us (by rfl) (by exact HO4.out) (by rfl) (by rfl) (by exact hl4) (by omega) ?_
       intro A5 c5 w5 ho5 hg5
       have hput := CB.put HX4.out HO4.out HA4.out hlB hv4 ho5 hg5
       have HP := Lib.hid hput.1
       have q5 := hput.2.1
       have f5 := hput.2.2
       have HG5 := Lib.hid hg5
       clear hput)
    | (go_simp; go_at_call 46
       refine (pair_any _ lo _ _ (tagTr 7) y.code (by exact hv3) (by exact hv23) (by exact hl3) (by omega) (by omega)).mono ?_
       rintro e w4 ⟨v4, rfl, hv4, hb4⟩
       obtain ⟨p4, rfl⟩ := hv4.isPtr
       have q4 := blk_cell (blk_bel HX3.out hb4) 0 rfl
       have HX4 := Lib.hid (blk_bel HX3.out hb4)
       have HO4 := Lib.hid (own_below HO3.out hb4 (Nat.le_refl _))
       have HA4 := Lib.hid (HA3.out.up hb4)
       have HB4 := Lib.hid (HB3.out.trans (hb4.mono HB3.out.size))
       have hl4 : lo ≤ w4.heap.size := Nat.le_trans hlo HB4.out.size
       have hB4 : B < w4.heap.size := blk_lt HX4.out
       clear hb4)
    | (go_simp; go_at_call 127
       refine (tagTree_any _ 7 (by omega) _ rfl).mono ?_
       rintro e w3 ⟨v3, rfl, hv3, hb3⟩
       obtain ⟨p3, rfl⟩ := hv3.isPtr
       (try replace hb3 := below_undrew hb3)
       replace hv3 := hv3.wide (lo' := lo) hl2 (Nat.le_refl _)
       have q3 := blk_cell (blk_bel HX2.out hb3) 0 rfl
       have HX3 := Lib.hid (blk_bel HX2.out hb3)
       have HO3 := Lib.hid (own_below HO2.out hb3 (Nat.le_refl _))
       have HA3 := Lib.hid (HA2.out.up hb3)
       have hv23 := hv2'.up hb3
       have HB3 := Lib.hid (HB2.out.trans (hb3.mono HB2.out.size))
       have hl3 : lo ≤ w3.heap.size := Nat.le_trans hlo HB3.out.size
       clear hb3))) | fail)
  all_goals
    go_wp2_with fail
    go_end0
    exact ⟨rfl, HP.out, (below_ch (HB4.out.mono hlo) (ch_row HG5.out) (fun k hk => (HO4.out.lt k hk).1) hl4).setCell hlB _⟩
end Go.Proofs.YtaadobggenbbdaaGreatDoor
