/- The code of a program: blocks, codeOfWhile, codedWhile, CodeWhile of the program. -/
import Derived.Test.YtaadobggenbbdaaGreatDoorCdJ
namespace Go.Proofs.YtaadobggenbbdaaGreatDoor
open Go.RowKit
set_option linter.unusedVariables false
set_option linter.unusedSimpArgs false
set_option maxHeartbeats 1600000 in
theorem treeOfListA_any (w : World) (lo : Nat) (A : Option Addr) (n c : Nat) (us : List Value) (ts : List Tr) (hr : Rd w A n us) (ha : AreT w lo w.heap.size us ts) (hlo : lo ≤ w.heap.size) (hnn : (lstA ts .nil).nodes ≤ 1000000) :
    Calls Tryz.prog 128 #[.slice A n c] w (RetTr w lo (lstA ts .nil)) := by
  have HL : Hid (ts.length = n) := Lib.hid (by rw [← ha.1]; exact hr.1)
  have HLU : Hid (us.length = n) := Lib.hid hr.1
  have hn : n ≤ 1000000 := by have h1 := lstA_len ts; have h2 := HL.out; omega
  go_enter Tryz.func128, Tryz.ntmps128
  go_wp2_with fail
  go_loopw [3, 4] (fun v i wr => ∃ j : Nat, i = .int .i64 ((j : Int) - 1) ∧ j ≤ n ∧ IsT wr lo wr.heap.size v (lstA (ts.drop j) .nil) ∧ Below w.heap.size w wr) (fun _ i _ => (intOf i + 1).toNat)
  case atStart => exact ⟨n, rfl, Nat.le_refl _, by rw [List.drop_of_length_le (by rw [HL.out]; omega)]; rfl, Below.refl _ _⟩
  case round =>
    obtain ⟨j, rfl, hj, hi, hb⟩ := hrel
    obtain ⟨o, rfl⟩ := hi.isPtr
    rcases Nat.eq_zero_or_pos j with h0 | h0
    · subst h0
      rw [List.drop_zero] at hi
      go_wp2_with fail
      go_ret
      exact ⟨_, rfl, hi, hb⟩
    · obtain ⟨k, rfl⟩ : ∃ k, j = k + 1 := ⟨j - 1, by omega⟩
      have ek : (((k + 1 : Nat) : Int) - 1) = (k : Int) := by omega
      rw [ek]
      clear ek
      obtain ⟨t, ht⟩ := get_some (xs := ts) (k := k) (by rw [HL.out]; omega)
      obtain ⟨u, hu⟩ := get_some (xs := us) (k := k) (by rw [HLU.out]; omega)
      have hit := ha.2 k u t hu ht
      obtain ⟨ou, rfl⟩ := hit.isPtr
      obtain ⟨b, off, rfl, hbs, hc⟩ := hr.at_ hu
      have hc1 := (hb.cell (p := ⟨b, off + k, none⟩) hbs).trans hc
      have hit1 := (hit.below hb (Nat.le_refl _)).wide (Nat.le_refl _) hb.size
      have HD : Hid (lstA (ts.drop k) .nil = .node t (lstA (ts.drop (k + 1)) .nil)) := Lib.hid (by rw [drop_get ht]; rfl)
      have htn : t.nodes ≤ 1000000 := Nat.le_trans (lstA_mem (List.mem_of_getElem? ht)) hnn
      have hln : (lstA (ts.drop (k + 1)) .nil).nodes ≤ 1000000 := Nat.le_trans (lstA_part ts (k + 1)) hnn
      have hkn : k < n := by omega
      clear hc ht hu hit
      go_wp2_with fail
      refine (pair_any _ lo _ _ _ _ hit1 hi (Nat.le_trans hlo hb.size) (by omega) (by omega)).mono ?_
      rintro e w4 ⟨v4, rfl, h4, hb4⟩
      obtain ⟨o4, rfl⟩ := h4.isPtr
      rw [← HD.out] at h4
      go_wp2_with fail
      go_roundw
      case rel => exact ⟨k, by go_num, by omega, h4, hb.trans (hb4.mono hb.size)⟩
      case measure => simp [intOf] <;> omega
def BlkP (w0 : World) (B : Nat) (cs : List Cmd) (e : Ending) (w' : World) : Prop := e = .returned (.tuple #[]) ∧ (∃ ts, codeC cs = lstA ts .nil ∧ CB w' w0.heap.size B ts) ∧ Below w0.heap.size w0 w'
theorem drop_wh {cs : List Cmd} {k l : Nat} {x : Cmd} (hx : cs[k]? = some x) (h1 : x.k = 1) (hl : x.l = (l : Int)) : codeC (cs.drop k) = .node (.node (tagTr 9) (.node (codeE x.e) (codeC ((cs.drop (k + 1)).take l)))) (codeC (cs.drop (k + l + 1))) := by
  rw [drop_get hx, codeC_wh h1, hl, List.drop_drop, show k + 1 + (l : Int).toNat = k + l + 1 by omega]; rfl
set_option maxHeartbeats 8000000 in
set_option maxRecDepth 100000 in
theorem blocks_any (n : Nat) (w0 : World) (A : Option Addr) (c : Nat) (cs : List Cmd) (hr : RdC w0 A n cs) (hn : n ≤ 80) (hnc : n ≤ c) (hok : okC cs = true)
    (HR : Hid (∀ m, m < n → ∀ (w : World) (A : Option Addr) (c : Nat) (bs : List Cmd), RdC w A m bs → m ≤ c → okC bs = true → Calls Tryz.prog 100 #[.slice A m c] w (RetTr w w.heap.size (codeC bs))))
    (w : World) (B : Nat) (hb0 : Below w0.heap.size w0 w) (hcb : CB w w0.heap.size B []) :
    Calls Tryz.prog 124 #[.slice A n c, .func (.func 125) #[] #[.pointer (some ⟨B, 0, none⟩)]] w (BlkP w0 B cs) := by
  have HL : Hid (cs.length = n) := Lib.hid hr.len
  have HOK := Lib.hid hok
  clear hok
  go_enter Tryz.func124, Tryz.ntmps124
  go_wp2_with fail
  go_loopw [4] (fun q wr => ∃ (k : Nat) (ts : List Tr), k ≤ n ∧ q = .int .i64 k ∧ CB wr w0.heap.size B ts ∧ Hid (codeC cs = lstA ts (codeC (cs.drop k))) ∧ Hid (okC (cs.drop k) = true) ∧ ts.length ≤ k ∧ Below w0.heap.size w0 wr) (fun q _ => n - (intOf q).toNat)
  case atStart => exact ⟨0, [], by omega, rfl, hcb, Lib.hid rfl, HOK, by simp, hb0⟩
  case round =>
    clear hcb hb0
    obtain ⟨k, ts, hk, rfl, hcb, HK, HD, htk, hb⟩ := hrel
    by_cases hlt : k < n
    · have hlt' : (k : Int) < (n : Int) := by omega
      obtain ⟨x, hx⟩ := get_some (xs := cs) (k := k) (by rw [HL.out]; exact hlt)
      obtain ⟨b, off, A', n', c', hA, hbs, q0, q1, q2, q3, hn', hc', hre⟩ := hr.at_ hx
      subst hA
      replace q0 := (hb.cell (p := ⟨b, off + k * 4, none⟩) hbs).trans q0
      replace q1 := (hb.cell (p := ⟨b, off + k * 4 + 1, none⟩) hbs).trans q1
      replace q2 := (hb.cell (p := ⟨b, off + k * 4 + 2, none⟩) hbs).trans q2
      replace q3 := (hb.cell (p := ⟨b, off + k * 4 + 3, none⟩) hbs).trans q3
      replace hre := hre.below hb (Nat.le_refl _)
      have HX := Lib.hid hx
      have hsp := okC_split (x := x) (r := cs.drop (k + 1)) (by rw [← drop_get hx]; exact HD.out)
      clear hx
      obtain ⟨hwf, hcase⟩ := hsp
      have HWF := Lib.hid hwf
      have g0 : (0 : Int) ≤ (k : Int) + 1 := by omega
      clear hwf
      rcases hcase with ⟨hk0, hl0, hrest⟩ | ⟨hk1, hl0, hl1, hbod, hrest⟩
      · have HQ : Hid (codeC cs = lstA (ts ++ [.node (tagTr 7) (codeE x.e)]) (codeC (cs.drop (k + 1)))) := Lib.hid (by rw [lstA_snoc, HK.out, drop_get HX.out, codeC_set hk0])
        have HRS := Lib.hid hrest
        clear hrest
        obtain ⟨xk, xv, xl, xe⟩ := x
        simp only at q0 q1 q2 hre hk0 hl0
        subst hk0 hl0
        have hclo := fun (Ab : Option Addr) (cb : Nat) => codeClo_set wr w0.heap.size B ⟨0, xv, 0, xe⟩ A' n' c' Ab 0 cb ts hre HWF.out hc' rfl hcb hb.size (by omega)
        have HCLO := Lib.hid hclo
        clear hclo hcb hre
        have g2 : (k : Int) + 1 ≤ (c : Int) := by omega
        by_cases hck : c = k + 1
        · subst hck
          go_wp2_with fail
          refine (HCLO.out _ _).mono ?_
          rintro e w2 ⟨rfl, hcb2, hb2⟩
          go_wp2_with fail
          go_roundw
          case rel => exact ⟨k + 1, _, by omega, by go_num, hcb2, HQ, HRS, by simp; omega, hb.trans hb2⟩
          case measure => simp [intOf]; omega
        · go_wp2_with fail
          refine (HCLO.out _ _).mono ?_
          rintro e w2 ⟨rfl, hcb2, hb2⟩
          go_wp2_with fail
          go_roundw
          case rel => exact ⟨k + 1, _, by omega, by go_num, hcb2, HQ, HRS, by simp; omega, hb.trans hb2⟩
          case measure => simp [intOf]; omega
      · obtain ⟨l, hl⟩ : ∃ l : Nat, x.l = (l : Int) := ⟨x.l.toNat, by omega⟩
        have hln : k + 1 + l ≤ n := by have := HL.out; rw [List.length_drop] at hl1; omega
        have hlt2 : x.l.toNat = l := by omega
        rw [hlt2] at hbod hrest
        have HQ : Hid (codeC cs = lstA (ts ++ [.node (tagTr 9) (.node (codeE x.e) (codeC ((cs.drop (k + 1)).take l)))]) (codeC (cs.drop (k + l + 1)))) := Lib.hid (by rw [lstA_snoc, HK.out, drop_wh HX.out hk1 hl])
        have HRS : Hid (okC (cs.drop (k + l + 1)) = true) := Lib.hid (by rw [List.drop_drop, show k + 1 + l = k + l + 1 by omega] at hrest; exact hrest)
        have HBD := Lib.hid hbod
        have hbn : (codeC ((cs.drop (k + 1)).take l)).nodes ≤ 1000000 := by
          have h1 := codeC_nodes _ _ (Nat.le_refl _) hbod
          have h2 : ((cs.drop (k + 1)).take l).length ≤ 80 := by rw [List.length_take]; omega
          omega
        have HCT : Hid (RdC w0 (some ⟨b, off + (k + 1) * 4, none⟩) l ((cs.drop (k + 1)).take l)) := Lib.hid (by
          have h := hr.cut (i := k + 1) (j := k + 1 + l) (by omega) (by omega)
          rwa [Nat.add_sub_cancel_left] at h)
        clear hrest hbod hl0 hl1 hlt2
        obtain ⟨xk, xv, xl, xe⟩ := x
        simp only at q0 q1 q2 hre hk1 hl
        subst hk1 hl
        have g1 : (k : Int) + 1 ≤ (k : Int) + 1 + (l : Int) := by omega
        have g2 : (k : Int) + 1 + (l : Int) ≤ (c : Int) := by omega
        by_cases hck : c = k + 1
        · have hl0 : l = 0 := by omega
          subst hl0 hck
          have hclo := fun (Ab : Option Addr) (cb : Nat) => codeClo_wh wr w0.heap.size B ⟨1, xv, 0, xe⟩ A' n' c' Ab 0 cb ts hre HWF.out hc' rfl ((cs.drop (k + 1)).take 0) hbn (fun w2 _ => HR.out 0 (by omega) w2 Ab cb _ (RdC.nil _ _) (by omega) HBD.out) hcb hb.size (by omega)
          have HCLO := Lib.hid hclo
          clear hclo hcb hre
          simp only [Nat.add_zero] at HQ HRS
          go_wp2_with fail
          refine (HCLO.out _ _).mono ?_
          rintro e w2 ⟨rfl, hcb2, hb2⟩
          go_wp2_with fail
          go_roundw
          case rel => exact ⟨k + 1, _, by omega, by go_num, hcb2, HQ, HRS, by simp; omega, hb.trans hb2⟩
          case measure => simp [intOf]; omega
        · have hclo := codeClo_wh wr w0.heap.size B ⟨1, xv, (l : Int), xe⟩ A' n' c' (some ⟨b, off + (k + 1) * 4, none⟩) l (c - (k + 1)) ts hre HWF.out hc' rfl ((cs.drop (k + 1)).take l) hbn (fun w2 hb2 => HR.out l (by omega) w2 _ _ _ ((HCT.out.below hb (Nat.le_refl _)).below hb2 (Nat.le_refl _)) (by omega) HBD.out) hcb hb.size (by omega)
          have HCLO := Lib.hid hclo
          clear hclo hcb hre
          go_wp2_with fail
          refine HCLO.out.mono ?_
          rintro e w2 ⟨rfl, hcb2, hb2⟩
          go_wp2_with fail
          go_roundw
          case rel => exact ⟨k + l + 1, _, by omega, by go_num, hcb2, HQ, HRS, by simp; omega, hb.trans hb2⟩
          case measure => simp [intOf]; omega
    · obtain rfl : k = n := by omega
      have HQ : Hid (codeC cs = lstA ts .nil) := Lib.hid (by rw [HK.out, List.drop_of_length_le (by rw [HL.out]; omega)]; rfl)
      go_wp2_with fail
      go_end0
      exact ⟨rfl, ⟨ts, HQ.out, hcb⟩, hb⟩
set_option maxHeartbeats 4000000 in
theorem codeOfWhile_any : ∀ (n : Nat) (w : World) (A : Option Addr) (c : Nat) (cs : List Cmd), RdC w A n cs → n ≤ c → okC cs = true → n ≤ 80 → Calls Tryz.prog 100 #[.slice A n c] w (RetTr w w.heap.size (codeC cs)) := by
  intro n
  induction n using Nat.strongRecOn with
  | _ n ih =>
  intro w A c cs hr hnc hok hn
  have HR : Hid (∀ m, m < n → ∀ (w : World) (A : Option Addr) (c : Nat) (bs : List Cmd), RdC w A m bs → m ≤ c → okC bs = true → Calls Tryz.prog 100 #[.slice A m c] w (RetTr w w.heap.size (codeC bs))) := Lib.hid (fun m hm w A c bs h1 h2 h3 => ih m hm w A c bs h1 h2 h3 (by omega))
  clear ih
  have HL : Hid (cs.length = n) := Lib.hid hr.len
  have hnd : (codeC cs).nodes ≤ 1000000 := by
    have h1 := codeC_nodes _ _ (Nat.le_refl _) hok
    have h2 := HL.out
    omega
  have hown := (own_lit w #[] 0 59 rfl (by omega)).alloc (.cells #[.slice (some ⟨w.heap.size, 0, none⟩) 0 0] 153)
  have hbx := box_new (w.alloc (.cells #[] 59)) #[.slice (some ⟨w.heap.size, 0, none⟩) 0 0] 153
  simp only [World.size_alloc] at hbx
  have hbb := (below_new w (.cells #[] 59)).trans ((below_new (w.alloc (.cells #[] 59)) (.cells #[.slice (some ⟨w.heap.size, 0, none⟩) 0 0] 153)).mono (by simp))
  have hcb : CB ((w.alloc (.cells #[] 59)).alloc (.cells #[.slice (some ⟨w.heap.size, 0, none⟩) 0 0] 153)) w.heap.size (w.heap.size + 1) [] := ⟨_, 0, 0, [], hbx, hown, AreT.nil _ _ _, by omega⟩
  have HBK := Lib.hid (blocks_any n w A c cs hr hn hnc hok HR _ (w.heap.size + 1) hbb hcb)
  clear hown hbx hbb hcb hok hr
  go_enter Tryz.func100, Tryz.ntmps100
  go_wp2_with fail
  refine HBK.out.mono ?_
  rintro e w2 ⟨rfl, ⟨ts, hts, A2, n2, c2, us, hx, ho, ha, _⟩, hb2⟩
  have q := blk_cell hx 0 rfl
  have HTS := Lib.hid hts
  rw [hts] at hnd
  clear hts hx
  go_wp2_with fail
  refine (treeOfListA_any _ w.heap.size _ _ _ us ts (own_rd ho) ha hb2.size hnd).mono ?_
  rintro e w3 ⟨v3, rfl, h3, hb3⟩
  obtain ⟨o3, rfl⟩ := h3.isPtr
  go_wp2_with fail
  go_ret
  exact ⟨_, rfl, by rw [HTS.out]; exact h3, hb2.trans (hb3.mono hb2.size)⟩
def CdP (w : World) (cs : List Cmd) (e : Ending) (w' : World) : Prop :=
  ∃ p, e = .returned (.tuple #[.pointer p, .int .i64 (cdwP cs).2]) ∧ ((cdwP cs).2 = 0 → IsT w' w.heap.size w'.heap.size (.pointer p) (codeC cs)) ∧ Below w.heap.size w w'
theorem CdP.none_ {w w' : World} {cs : List Cmd} {k : Int} (h : cdwP cs = ([], k)) (hk : k ≠ 0) (hb : Below w.heap.size w w') : CdP w cs (.returned (.tuple #[.pointer none, .int .i64 k])) w' :=
  ⟨none, by rw [h], fun h0 => by rw [h] at h0; exact absurd h0 hk, hb⟩
set_option maxHeartbeats 1000000 in
theorem ValidWhileX_any (w : World) (A : Option Addr) (n c : Nat) (cs : List Cmd) (hr : RdC w A n cs) (hn : n ≤ 1099511627776) (hnc : n ≤ c) : Calls Tryz.prog 39 #[.slice A n c] w (RetV w (.bool (isW cs))) := by
  have hl := hr.len
  by_cases h80 : n ≤ 80
  · exact ValidWhile_any w A n c cs hr (by omega) hnc
  · have HW : Hid (isW cs = false) := Lib.hid (by simp [isW, hl, h80])
    clear hl
    go_enter Tryz.func39, Tryz.ntmps39
    go_wp2_with fail
    go_ret
    exact ⟨by rw [HW.out]; rfl, Below.refl _ _⟩
set_option maxHeartbeats 1000000 in
theorem l22IsX_any (w : World) (A : Option Addr) (n c : Nat) (cs : List Cmd) (hr : RdC w A n cs) (hn : n ≤ 1099511627776) : Calls Tryz.prog 33 #[.slice A n c] w (RetV w (.bool (isW cs))) := by
  have hl := hr.len
  by_cases h80 : n ≤ 80
  · exact l22Is_any w A n c cs hr (by omega)
  · have HW : Hid (isW cs = false) := Lib.hid (by simp [isW, hl, h80])
    clear hl
    go_enter Tryz.func33, Tryz.ntmps33
    go_wp2_with fail
    go_ret
    exact ⟨by rw [HW.out]; rfl, Below.refl _ _⟩
set_option maxHeartbeats 4000000 in
theorem codedWhile_any (w : World) (A : Option Addr) (n c : Nat) (cs : List Cmd) (hr : RdC w A n cs) (hn : n ≤ 1099511627776) (hnc : n ≤ c) : Calls Tryz.prog 72 #[.slice A n c] w (CdP w cs) := by
  cases hv : isW cs with
  | false =>
    have HV := Lib.hid hv
    have HQ := Lib.hid (cdw_bad hv)
    clear hv
    go_enter Tryz.func72, Tryz.ntmps72
    go_wp2_with (go_at_call 39; go_must (refine (ValidWhileX_any _ _ _ _ _ hr hn hnc).mono ?_; rw [HV.out]; rintro e w2 ⟨rfl, hb2⟩))
    go_ret2
    exact CdP.none_ HQ.out (by decide) hb2
  | true =>
    have HV := Lib.hid hv
    obtain ⟨h80, hok⟩ := isW_ok hv
    have hn80 : n ≤ 80 := by have := hr.len; omega
    cases hz : ozW cs with
    | false =>
      have HQ := Lib.hid (cdw_var hv hz)
      have HZ : Hid ((if ozW cs then (0 : Int) else 2) = 2) := Lib.hid (by rw [hz]; rfl)
      clear hv hz
      go_enter Tryz.func72, Tryz.ntmps72
      go_wp2_with (first
        | (go_at_call 39; go_must (refine (ValidWhileX_any _ _ _ _ _ hr hn hnc).mono ?_; rw [HV.out]; rintro e w2 ⟨rfl, hb2⟩))
        | (go_at_call 40; go_must (refine (zeroCode_any _ _ _ _ _ (hr.below hb2 (Nat.le_refl _)) (by omega)).mono ?_; rw [HZ.out]; rintro e w3 ⟨rfl, hb3⟩)))
      go_ret2
      exact CdP.none_ HQ.out (by decide) (hb2.trans (hb3.mono hb2.size))
    | true =>
      have HZ : Hid ((if ozW cs then (0 : Int) else 2) = 0) := Lib.hid (by rw [hz]; rfl)
      have HOK := Lib.hid hok
      have hnd : (codeC cs).nodes ≤ 1000000 := by have h1 := codeC_nodes _ _ (Nat.le_refl _) hok; omega
      by_cases hf : (codeC cs).nodes ≤ 2000
      · have HQ := Lib.hid (cdw_ok hv hz hf)
        clear hv hz hok h80
        go_enter Tryz.func72, Tryz.ntmps72
        go_wp2_with (first
          | (go_at_call 39; go_must (refine (ValidWhileX_any _ _ _ _ _ hr hn hnc).mono ?_; rw [HV.out]; rintro e w2 ⟨rfl, hb2⟩))
          | (go_at_call 40; go_must (refine (zeroCode_any _ _ _ _ _ (hr.below hb2 (Nat.le_refl _)) (by omega)).mono ?_; rw [HZ.out]; rintro e w3 ⟨rfl, hb3⟩)))
        refine (codeOfWhile_any n _ _ _ _ ((hr.below hb2 (Nat.le_refl _)).below hb3 (Nat.le_refl _)) hnc HOK.out hn80).mono ?_
        rintro e w4 ⟨v4, rfl, h4, hb4⟩
        obtain ⟨o4, rfl⟩ := h4.isPtr
        have HB4 := Lib.hid ((hb2.trans (hb3.mono hb2.size)).trans (hb4.mono (Nat.le_trans hb2.size hb3.size)))
        have H4 := Lib.hid (h4.wide (lo' := w.heap.size) (Nat.le_trans hb2.size hb3.size) (Nat.le_refl _))
        go_wp2_with fail
        refine (nodesOf_any _ _ _ _ _ h4).mono ?_
        rintro e w' ⟨rfl, rfl⟩
        go_wp2_with fail
        go_ret2
        exact ⟨o4, by rw [HQ.out]; rfl, fun _ => H4.out, HB4.out⟩
      · have HQ := Lib.hid (cdw_full hv hz hf)
        clear hv hz hok h80
        go_enter Tryz.func72, Tryz.ntmps72
        go_wp2_with (first
          | (go_at_call 39; go_must (refine (ValidWhileX_any _ _ _ _ _ hr hn hnc).mono ?_; rw [HV.out]; rintro e w2 ⟨rfl, hb2⟩))
          | (go_at_call 40; go_must (refine (zeroCode_any _ _ _ _ _ (hr.below hb2 (Nat.le_refl _)) (by omega)).mono ?_; rw [HZ.out]; rintro e w3 ⟨rfl, hb3⟩)))
        refine (codeOfWhile_any n _ _ _ _ ((hr.below hb2 (Nat.le_refl _)).below hb3 (Nat.le_refl _)) hnc HOK.out hn80).mono ?_
        rintro e w4 ⟨v4, rfl, h4, hb4⟩
        obtain ⟨o4, rfl⟩ := h4.isPtr
        have HB4 := Lib.hid ((hb2.trans (hb3.mono hb2.size)).trans (hb4.mono (Nat.le_trans hb2.size hb3.size)))
        go_wp2_with fail
        refine (nodesOf_any _ _ _ _ _ h4).mono ?_
        rintro e w' ⟨rfl, rfl⟩
        go_wp2_with fail
        go_ret2
        exact CdP.none_ HQ.out (by decide) HB4.out
theorem cdw_zero {cs : List Cmd} (h : (cdwP cs).2 = 0) : cdwP cs = ((codeC cs).bits, 0) ∧ (codeC cs).nodes ≤ 2000 := by
  unfold cdwP at h ⊢
  split at h
  · rename_i hw
    simp only [hw, if_true]
    split at h
    · rename_i hz
      simp only [hz, if_true]
      split at h
      · rename_i hf
        simp only [hf, if_true]
        exact ⟨trivial, trivial⟩
      · simp at h
    · simp at h
  · simp at h
theorem cdw_some {cs : List Cmd} (h : (cdwP cs).2 ≠ 0) : (cdwP cs).1 = [] := by
  unfold cdwP at h ⊢
  split at h
  · rename_i hw
    simp only [hw, if_true]
    split at h
    · rename_i hz
      simp only [hz, if_true]
      split at h
      · simp at h
      · rename_i hf
        simp only [if_neg hf]
    · rename_i hz; simp [hz]
  · rename_i hw; simp [hw]
end Go.Proofs.YtaadobggenbbdaaGreatDoor
