/- The code of a program: the program's functions, on. Written by mk_cdi2.py. -/
import Derived.Test.YtaadobggenbbdaaGreatDoorCdI
namespace Go.Proofs.YtaadobggenbbdaaGreatDoor
open Go.RowKit
set_option linter.unusedVariables false
set_option linter.unusedSimpArgs false
set_option maxHeartbeats 8000000 in
set_option maxRecDepth 100000 in
theorem codeClo_wh (w : World) (lo B : Nat) (x : Cmd) (A : Option Addr) (n c : Nat) (Ab : Option Addr) (nb cb : Nat) (ts : List Tr) (hr : RdE w A n x.e) (hwf : wfE x.e = true) (hnc : n ≤ c) (hk : x.k = 1) (body : List Cmd) (hbn : (codeC body).nodes ≤ 1000000) (hbody : ∀ w2, Below w.heap.size w w2 → Calls Tryz.prog 100 #[.slice Ab nb cb] w2 (RetTr w2 w2.heap.size (codeC body))) (hcb : CB w lo B ts) (hlo : lo ≤ w.heap.size) (hts : ts.length ≤ 1000000) :
    Calls Tryz.prog 125 #[.agg #[.int .i64 x.k, .int .i64 x.v, .int .i64 x.l, .slice A n c], .slice Ab nb cb, .pointer (some ⟨B, 0, none⟩)] w (ClP w lo B (ts ++ [.node (tagTr 9) (.node (codeE x.e) (codeC body))])) := by
  obtain ⟨xk, xv, xl, xe⟩ := x
  simp only at hr hwf hk ⊢
  have HBODY := Lib.hid hbody
  clear hbody
  subst hk
  obtain ⟨y, rfl, hg, hl, ho⟩ := wfE_ex hwf
  have hn40 : n ≤ 40 := by have := rdE_len hr; omega
  have HCE : Hid (codeE y.els = y.code) := Lib.hid (codeE_els hg)
  rw [HCE.out]
  have hcn := y.code_nodes
  have htn := tag_nodes 9
  have hbb := below_new w (.cells #[.int .i64 1, .int .i64 xv, .int .i64 xl, .slice A n c] 53)
  have hbx := box_new w #[.int .i64 1, .int .i64 xv, .int .i64 xl, .slice A n c] 53
  have z0 := blk_cell hbx 0 rfl
  have z3 := blk_cell hbx 3 rfl
  have hr1 := hr.below hbb (Nat.le_refl _)
  obtain ⟨A1, m, c1, us, hx, hro, ha, hlB⟩ := hcb
  have hm : m ≤ 1000000 := by have h1 := hro.1; have h2 := ha.1; simp at h1; omega
  have hBw := blk_lt hx
  have HX := Lib.hid (blk_bel hx hbb)
  have HO := Lib.hid (own_below hro hbb (Nat.le_refl _))
  have HA := Lib.hid (ha.up hbb)
  have HBX := Lib.hid hbx
  have HBB := Lib.hid hbb
  clear hx hro ha hbx hbb hr
  go_enter Tryz.func125, Tryz.ntmps125
  go_wp2_with fail
  refine (codeOfExpr_any y _ _ _ _ hg ho hr1 hn40 hnc).mono ?_
  rintro e w2 ⟨v2, rfl, hv2, hb2⟩
  obtain ⟨p2, rfl⟩ := hv2.isPtr
  have hz2 := blk_bel HBX.out hb2
  clear z0 z3
  have z0 := blk_cell hz2 0 rfl
  have q2 := blk_cell (blk_bel HX.out hb2) 0 rfl
  have HX2 := Lib.hid (blk_bel HX.out hb2)
  have HO2 := Lib.hid (own_below HO.out hb2 (Nat.le_refl _))
  have HA2 := Lib.hid (HA.out.up hb2)
  have HB2 := Lib.hid (HBB.out.trans (hb2.mono HBB.out.size))
  have hl2 : lo ≤ w2.heap.size := Nat.le_trans hlo HB2.out.size
  have hv2' : IsT w2 lo w2.heap.size (.pointer p2) y.code := hv2.wide (Nat.le_trans hlo HBB.out.size) (Nat.le_refl _)
  clear hz2 hb2 hv2
  go_wp2_with fail
  (first | (go_region_law (first
    | (refine step_app1P eltP (by rfl) _ _ (by rfl) w4 _ (.pointer p4) (by rfl) lo _ m us (by rfl) (by exact HO4.out) (by rfl) (by rfl) (by exact hl4) (by omega) ?_
       intro A9 c9 w9 ho9 hg9
       have hput := CB.put HX4.out HO4.out HA4.out hlB hv4 ho9 hg9
       have HP := Lib.hid hput.1
       have q9 := hput.2.1
       have f9 := hput.2.2
       have HG9 := Lib.hid hg9
       clear hput)
    | (go_simp; go_at_call 46
       refine (pair_any _ lo _ _ (tagTr 9) (.node y.code (codeC body)) (by exact hv36) (by exact hv6) (by exact hl6) (by omega) (by simp only [Tr.nodes]; omega)).mono ?_
       rintro e w4 ⟨v4, rfl, hv4, hb4⟩
       obtain ⟨p4, rfl⟩ := hv4.isPtr
       have q4 := blk_cell (blk_bel HX6.out hb4) 0 rfl
       have HX4 := Lib.hid (blk_bel HX6.out hb4)
       have HO4 := Lib.hid (own_below HO6.out hb4 (Nat.le_refl _))
       have HA4 := Lib.hid (HA6.out.up hb4)
       have HB4 := Lib.hid (HB6.out.trans (hb4.mono HB6.out.size))
       have hl4 : lo ≤ w4.heap.size := Nat.le_trans hlo HB4.out.size
       have hB4 : B < w4.heap.size := blk_lt HX4.out
       clear hb4)
    | (go_simp; go_at_call 46
       refine (pair_any _ lo _ _ y.code (codeC body) (by exact hv25) (by exact hv5) (by exact hl5) (by omega) (by omega)).mono ?_
       rintro e w6 ⟨v6, rfl, hv6, hb6⟩
       obtain ⟨p6, rfl⟩ := hv6.isPtr
       have q6 := blk_cell (blk_bel HX5.out hb6) 0 rfl
       have HX6 := Lib.hid (blk_bel HX5.out hb6)
       have HO6 := Lib.hid (own_below HO5.out hb6 (Nat.le_refl _))
       have HA6 := Lib.hid (HA5.out.up hb6)
       have hv36 := hv35.up hb6
       have HB6 := Lib.hid (HB5.out.trans (hb6.mono HB5.out.size))
       have hl6 : lo ≤ w6.heap.size := Nat.le_trans hlo HB6.out.size
       clear hb6)
    | (go_simp; go_at_call 100
       refine (HBODY.out _ (by exact HB3.out)).mono ?_
       rintro e w5 ⟨v5, rfl, hv5, hb5⟩
       obtain ⟨p5, rfl⟩ := hv5.isPtr
       replace hv5 := hv5.wide (lo' := lo) hl3 (Nat.le_refl _)
       have q5 := blk_cell (blk_bel HX3.out hb5) 0 rfl
       have HX5 := Lib.hid (blk_bel HX3.out hb5)
       have HO5 := Lib.hid (own_below HO3.out hb5 (Nat.le_refl _))
       have HA5 := Lib.hid (HA3.out.up hb5)
       have hv25 := hv23.up hb5
       have hv35 := hv3.up hb5
       have HB5 := Lib.hid (HB3.out.trans (hb5.mono HB3.out.size))
       have hl5 : lo ≤ w5.heap.size := Nat.le_trans hlo HB5.out.size
       clear hb5)
    | (go_simp; go_at_call 127
       refine (tagTree_any _ 9 (by omega) _ rfl).mono ?_
       rintro e w3 ⟨v3, rfl, hv3, hb3⟩
       obtain ⟨p3, rfl⟩ := hv3.isPtr
       (try replace hb3 := below_undrew hb3)
       replace hv3 := hv3.wide (lo' := lo) hl2 (Nat.le_refl _)
       have q3 := blk_cell (blk_bel HX2.out hb3) 0 rfl
       have HX3 := Lib.hid (blk_bel HX2.out hb3)
       have HO3 := Lib.hid (own_below HO2.out hb3 (Nat.le_refl _))
       have HA3 := Lib.hid (HA2.out.up hb3)
       have hv23 := hv2'.up hb3
       have HB3 := Lib.hid (HB2.out.trans (hb3.mono HB2.out.size))
       have hl3 : lo ≤ w3.heap.size := Nat.le_trans hlo HB3.out.size
       clear hb3))) | fail)
  all_goals
    go_wp2_with fail
    go_end0
    exact ⟨rfl, HP.out, (below_ch (HB4.out.mono hlo) (ch_row HG9.out) (fun k hk => (HO4.out.lt k hk).1) hl4).setCell hlB _⟩
end Go.Proofs.YtaadobggenbbdaaGreatDoor
