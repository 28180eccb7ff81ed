/- The code of a program: the reference's functions. -/
import Derived.Test.YtaadobggenbbdaaGreatDoorCdZ
import Derived.Test.YtaadobggenbbdaaGreatDoorGH
namespace Go.Proofs.YtaadobggenbbdaaGreatDoor
open Go.RowKit
set_option linter.unusedVariables false
set_option linter.unusedSimpArgs false
def headsB (ts : List Tr) : List Bool := ts.flatMap fun t => true :: t.bits
theorem headsB_step {ts : List Tr} {k : Nat} {t : Tr} (h : ts[k]? = some t) : headsB (ts.take (k + 1)) = headsB (ts.take k) ++ [true] ++ t.bits := by
  rw [List.take_add_one, h]; simp [headsB]
theorem headsB_len (ts : List Tr) (k : Nat) : (headsB (ts.take k)).length + 1 ≤ (lstA ts .nil).nodes := by
  have h1 : (lstA ts .nil).nodes = (headsB ts).length + 1 := by rw [← Tr.bits_len, lstA_bits]; simp [headsB]
  have h2 : headsB ts = headsB (ts.take k) ++ headsB (ts.drop k) := by rw [headsB, headsB, headsB, ← List.flatMap_append, List.take_append_drop]
  rw [h1, h2, List.length_append]
  omega
theorem Stk.rdb {w : World} {lo n : Nat} {A : Option Addr} {us : List Value} {ts : List Tr} (h : Stk w lo us (ts.map Tr.bits)) (hr : Rd w A n us) (hb : ∀ t ∈ ts, t.nodes ≤ 1000000000) : RdB w A n (ts.map Tr.bits) := by
  refine ⟨us, hr, h.1, fun i v xs hv hx => ?_⟩
  obtain ⟨A', n', c', rfl, ho⟩ := h.2 i v xs hv hx
  refine ⟨A', n', c', rfl, ?_, own_rd ho⟩
  obtain ⟨t, ht, rfl⟩ : ∃ t, ts[i]? = some t ∧ xs = t.bits := by
    simp only [List.getElem?_map, Option.map_eq_some_iff] at hx
    obtain ⟨t, h1, h2⟩ := hx; exact ⟨t, h1, h2.symm⟩
  have h1 := ho.1
  have h2 := hb t (List.mem_of_getElem? ht)
  simp [Tr.bits_len] at h1
  omega
set_option maxHeartbeats 1600000 in
theorem l21ListA_any (w : World) (A : Option Addr) (n c : Nat) (ts : List Tr) (hr : RdB w A n (ts.map Tr.bits)) (hnn : (lstA ts .nil).nodes ≤ 1000000) :
    Calls Tryz.prog 145 #[.slice A n c] w (RetS w 4 (bools (lstA ts .nil).bits)) := by
  have HL : Hid (ts.length = n) := Lib.hid (by have := hr.len; simpa using this)
  have hn : n ≤ 1000000 := by have h1 := lstA_len ts; have h2 := HL.out; omega
  have hlit := own_lit w #[] 0 4 rfl (by omega)
  go_enter Tryz.func145, Tryz.ntmps145
  go_wp2_with fail
  go_loopw [3, 4] (fun v i wr => ∃ k m : Nat, k ≤ n ∧ i = .int .i64 k ∧ wr.ownsRow w.heap.size 4 1 v m (bools (headsB (ts.take k))) ∧ Below w.heap.size w wr) (fun _ i _ => n - (intOf i).toNat)
  case atStart => exact ⟨0, 0, Nat.zero_le _, rfl, by simpa [headsB] using hlit, below_new _ _⟩
  case round =>
    obtain ⟨k, m, hk, rfl, hown, hb⟩ := hrel
    clear hlit
    have hm : m ≤ 1000000 := by have h1 := hown.1; have h2 := headsB_len ts k; simp at h1; omega
    obtain ⟨Ao, co, rfl, hco, hul⟩ := own_form hown
    by_cases hlt : k < n
    · obtain ⟨xs, hx⟩ := get_some (xs := ts.map Tr.bits) (k := k) (by simp; rw [HL.out]; exact hlt)
      obtain ⟨b, off, A', n', c', rfl, hbs, hc, hn', hr'⟩ := hr.at_ hx
      have hc1 := (hb.cell (p := ⟨b, off + k, none⟩) hbs).trans hc
      obtain ⟨t, ht, rfl⟩ : ∃ t, ts[k]? = some t ∧ xs = t.bits := by
        simp only [List.getElem?_map, Option.map_eq_some_iff] at hx
        obtain ⟨t, h1, h2⟩ := hx; exact ⟨t, h1, h2.symm⟩
      have hn'2 : n' ≤ 1000000 := by
        have q1 := hr'.1; have q2 := lstA_mem (List.mem_of_getElem? ht)
        simp [Tr.bits_len] at q1; omega
      have HST := Lib.hid (headsB_step ht)
      clear hx hc ht
      go_wp2_with (first
        | (at_builtin; refine wpList_app1 eltB rfl _ _ rfl wr w.heap.size _ m _ (by rfl) hown (.bool true) (by rfl) (by rfl) hb.size (by omega) ?_; rintro A2 c2 w2 hown2 hb2; have hc1 := (hb2.cell (p := ⟨b, off + k, none⟩) hbs).trans hc1; have HB2 := Lib.hid (hb.trans hb2))
        | (at_builtin; go_must (refine wpList_appS eltB rfl _ _ rfl w2 w.heap.size _ (m + 1) _ (by rfl) hown2 _ n' c' (bools t.bits) (by rfl) (hr'.below HB2.out (Nat.le_refl _)) (bools_one _) HB2.out.size (by omega) ?_; rintro A3 c3 w3 hown3 hb3)))
      go_roundw
      case rel =>
        refine ⟨k + 1, m + 1 + n', by omega, by go_num, ?_, HB2.out.trans hb3⟩
        rw [HST.out]
        simpa using hown3
      case measure => simp [intOf]; omega
    · obtain rfl : k = n := by omega
      rw [List.take_of_length_le (by rw [HL.out]; omega)] at hown
      go_wp2_with (at_builtin; go_must (refine wpList_app1 eltB rfl _ _ rfl wr w.heap.size _ m _ (by rfl) hown (.bool false) (by rfl) (by rfl) hb.size (by omega) ?_; rintro A2 c2 w2 hown2 hb2))
      go_ret
      refine ⟨A2, _, c2, rfl, ?_, hb.trans hb2⟩
      rw [lstA_bits]
      simpa [headsB] using hown2
/-- The commands between two places. -/
def seg (cs : List Cmd) (i j : Nat) : List Cmd := (cs.drop i).take (j - i)
theorem seg_at {cs : List Cmd} {i j : Nat} {x : Cmd} (hx : cs[i]? = some x) (h : i < j) : seg cs i j = x :: seg cs (i + 1) j := seg_cons hx h
theorem seg_len {cs : List Cmd} {i j n : Nat} (hn : cs.length = n) (hj : j ≤ n) : (seg cs i j).length = j - i := by
  rw [seg, List.length_take, List.length_drop]; omega
theorem seg_take {cs : List Cmd} {i j l : Nat} (h : i + l ≤ j) : (seg cs i j).take l = seg cs i (i + l) := by
  rw [seg, seg, List.take_take]; congr 1; omega
theorem seg_drop {cs : List Cmd} {i j l : Nat} : (seg cs i j).drop l = seg cs (i + l) j := by
  rw [seg, seg, List.drop_take, List.drop_drop]; congr 1; omega
theorem seg_nil (cs : List Cmd) (i : Nat) : seg cs i i = [] := by simp [seg]
theorem seg_all (cs : List Cmd) : seg cs 0 cs.length = cs := by simp [seg]
theorem mem_bound {ts : List Tr} {t : Tr} {N : Nat} (hn : (lstA ts .nil).nodes ≤ N) (h : t ∈ ts) : t.nodes ≤ N := Nat.le_trans (lstA_mem h) hn
set_option maxHeartbeats 16000000 in
set_option maxRecDepth 100000 in
theorem l23List_any : ∀ (d : Nat) (w : World) (A : Option Addr) (n c : Nat) (cs : List Cmd) (i j : Nat), RdC w A n cs → n ≤ 80 → j - i = d → i ≤ j → j ≤ n → okC (seg cs i j) = true → Calls Tryz.prog 131 #[.slice A n c, .int .i64 i, .int .i64 j] w (RetS w 4 (bools (codeC (seg cs i j)).bits)) := by
  intro d
  induction d using Nat.strongRecOn with
  | _ d ih =>
  intro w A n c cs i j hr hn hd hij hjn hok
  have HIH := Lib.hid ih
  have HL : Hid (cs.length = n) := Lib.hid hr.len
  have HNB : Hid ((codeC (seg cs i j)).nodes ≤ 200000) := Lib.hid (by
    have h1 := codeC_nodes _ _ (Nat.le_refl _) hok
    have h2 := seg_len (i := i) HL.out hjn
    omega)
  have HOK := Lib.hid hok
  have HDD := Lib.hid hd
  clear ih hok hd
  have hlit := own_lit w #[] 0 22 rfl (by omega)
  have hbb := below_new w (.cells #[] 22)
  go_enter Tryz.func131, Tryz.ntmps131
  go_wp2_with fail
  go_loopw [7, 8] (fun p q wr => ∃ (k : Nat) (ts : List Tr) (A : Option Addr) (m c : Nat) (us : List Value), i ≤ k ∧ k ≤ j ∧ q = .int .i64 k ∧ p = .slice A m c ∧ wr.ownsRow w.heap.size 22 1 (.slice A m c) m us ∧ Stk wr w.heap.size us (ts.map Tr.bits) ∧ Hid (codeC (seg cs i j) = lstA ts (codeC (seg cs k j))) ∧ Hid (okC (seg cs k j) = true) ∧ m ≤ k ∧ Below w.heap.size w wr) (fun _ q _ => n - (intOf q).toNat)
  case atStart => exact ⟨i, [], _, 0, 0, [], Nat.le_refl _, hij, rfl, rfl, hlit, ⟨rfl, by simp⟩, Lib.hid rfl, HOK, by omega, hbb⟩
  case round =>
    clear hlit hbb
    obtain ⟨k, ts, A1, m, c1, us, hik, hkj, rfl, rfl, hown, hst, HK, HD, hmk, hb⟩ := hrel
    by_cases hlt : k < j
    · have hlt' : (k : Int) < (j : Int) := by omega
      obtain ⟨x, hx⟩ := get_some (xs := cs) (k := k) (by rw [HL.out]; omega)
      obtain ⟨b, off, A', n', c', hA, hbs, q0, q1, q2, q3, hn', hc', hre⟩ := hr.at_ hx
      subst hA
      replace q0 := (hb.cell (p := ⟨b, off + k * 4, none⟩) hbs).trans q0
      replace q1 := (hb.cell (p := ⟨b, off + k * 4 + 1, none⟩) hbs).trans q1
      replace q2 := (hb.cell (p := ⟨b, off + k * 4 + 2, none⟩) hbs).trans q2
      replace q3 := (hb.cell (p := ⟨b, off + k * 4 + 3, none⟩) hbs).trans q3
      replace hre := hre.below hb (Nat.le_refl _)
      have HX := Lib.hid hx
      obtain ⟨hwf, hcase⟩ := okC_split (x := x) (r := seg cs (k + 1) j) (by rw [← seg_at hx hlt]; exact HD.out)
      obtain ⟨y, hy, hg, hl40, ho⟩ := wfE_ex hwf
      have HCE : Hid (codeE x.e = y.code) := Lib.hid (by rw [hy, codeE_els hg])
      rw [hy] at hre hl40 ho
      have hcn : y.code.nodes ≤ 1600 := by have := y.code_nodes; omega
      have hn40 : n' ≤ 40 := by have := rdE_len hre; omega
      have HG := Lib.hid hg
      have HO := Lib.hid ho
      clear hx hwf hg ho hl40
      obtain ⟨xk, xv, xl, xe⟩ := x
      simp only at q0 q1 q2 hy hcase
      subst hy
      have HB1 := Lib.hid (hb.trans ((below_new wr (.cells #[.int .i64 xk, .int .i64 xv, .int .i64 xl, .slice A' n' c'] 53)).mono hb.size))
      have hbx := box_new wr #[.int .i64 xk, .int .i64 xv, .int .i64 xl, .slice A' n' c'] 53
      have hbw := below_new wr (.cells #[.int .i64 xk, .int .i64 xv, .int .i64 xl, .slice A' n' c'] 53)
      have hre1 := hre.below hbw (Nat.le_refl _)
      have HOW := Lib.hid (own_below hown hbw (Nat.le_refl _))
      have HST := Lib.hid (hst.below hbw (Nat.le_refl _))
      have z0 := blk_cell hbx 0 rfl
      have z2 := blk_cell hbx 2 rfl
      have z3 := blk_cell hbx 3 rfl
      have HBX := Lib.hid hbx
      clear hbx hbw hre hown hst
      rcases hcase with ⟨hk0, hl0, hrest⟩ | ⟨hk1, hl0, hl1, hbod, hrest⟩
      · have HQ : Hid (codeC (seg cs i j) = lstA (ts ++ [.node (tagTr 7) y.code]) (codeC (seg cs (k + 1) j))) := Lib.hid (by rw [lstA_snoc, HK.out, seg_at HX.out hlt, codeC_set hk0, HCE.out])
        have HRS := Lib.hid hrest
        subst hk0 hl0
        clear hrest
        go_wp2_with fail
        refine (l23Code_any _ _ _ _ y HG.out HO.out hre1 hn40).mono ?_
        rintro e w2 ⟨A2, n2, c2, rfl, ho2, hb2⟩
        have hn2 : n2 ≤ 2000 := by have h1 := ho2.1; simp [Tr.bits_len] at h1; omega
        have HB2 := Lib.hid (HB1.out.trans (hb2.mono HB1.out.size))
        have HOW2 := Lib.hid (own_below HOW.out hb2 (Nat.le_refl _))
        have HST2 := Lib.hid (HST.out.below hb2 (Nat.le_refl _))
        have hr2 := own_rd ho2
        clear hb2 ho2 z0 z2 z3
        go_wp2_with fail
        refine (l23Item_any _ 7 (by omega) _ rfl _ _ _ y.code hr2 (by omega)).mono ?_
        rintro e w3 ⟨A3, n3, c3, rfl, ho3, hb3⟩
        have HB3 := Lib.hid (HB2.out.trans (hb3.mono HB2.out.size))
        have hown3 := own_below HOW2.out hb3 (Nat.le_refl _)
        have HST3 := Lib.hid ((HST2.out.below hb3 (Nat.le_refl _)).snoc ho3 HB2.out.size)
        clear hb3 ho3 hr2
        go_wp2_with (at_builtin; go_must (refine wpList_app1g eltSB rfl _ _ rfl w3 w.heap.size _ m _ (by rfl) hown3 _ (by rfl) (by rfl) HB3.out.size (by omega) ?_; rintro A4 c4 w4 hown4 hb4 hg4))
        have hst4 := HST3.out.grown hown3 (by decide) hg4
        go_roundw
        case rel => exact ⟨k + 1, ts ++ [.node (tagTr 7) y.code], A4, m + 1, c4, _, by omega, by omega, by go_num, rfl, hown4, by simpa using hst4, HQ, HRS, by omega, HB3.out.trans hb4⟩
        case measure => simp [intOf]; omega
      · obtain ⟨l, hl⟩ : ∃ l : Nat, xl = (l : Int) := ⟨xl.toNat, by omega⟩
        have hsl := seg_len (i := k + 1) HL.out hjn
        have hln : k + 1 + l ≤ j := by omega
        have hlt2 : xl.toNat = l := by omega
        rw [hlt2, seg_take (by omega)] at hbod
        rw [hlt2, seg_drop] at hrest
        have HQ : Hid (codeC (seg cs i j) = lstA (ts ++ [.node (tagTr 9) (.node y.code (codeC (seg cs (k + 1) (k + 1 + l))))]) (codeC (seg cs (k + 1 + l) j))) := Lib.hid (by
          rw [lstA_snoc, HK.out, seg_at HX.out hlt, codeC_wh hk1]
          simp only [hlt2]
          rw [seg_take (by omega), seg_drop, HCE.out])
        have HRS := Lib.hid hrest
        have HBD := Lib.hid hbod
        have hbn : (codeC (seg cs (k + 1) (k + 1 + l))).nodes ≤ 200000 := by
          have h1 := codeC_nodes _ _ (Nat.le_refl _) hbod
          have h2 := seg_len (i := k + 1) (j := k + 1 + l) HL.out (by omega)
          omega
        subst hk1 hl
        clear hrest hbod hl0 hl1 hlt2 hsl
        have e1 : ((k : Int) + 1) = ((k + 1 : Nat) : Int) := by omega
        have e2 : ((k : Int) + 1 + (l : Int)) = ((k + 1 + l : Nat) : Int) := by omega
        have HE1 := Lib.hid e1
        have HE2 := Lib.hid e2
        clear e1 e2
        go_wp2_with fail
        refine (l23Code_any _ _ _ _ y HG.out HO.out hre1 hn40).mono ?_
        rintro e w2 ⟨A2, n2, c2, rfl, ho2, hb2⟩
        have hn2 : n2 ≤ 2000 := by have h1 := ho2.1; simp [Tr.bits_len] at h1; omega
        have HB2 := Lib.hid (HB1.out.trans (hb2.mono HB1.out.size))
        have HOW2 := Lib.hid (own_below HOW.out hb2 (Nat.le_refl _))
        have HST2 := Lib.hid (HST.out.below hb2 (Nat.le_refl _))
        have HHR2 := Lib.hid (own_rd ho2)
        clear hb2 ho2 z0 z2 z3
        go_wp2_with fail
        have hrec := HIH.out l (by have := HDD.out; omega) w2 (some ⟨b, off, none⟩) n c cs (k + 1) (k + 1 + l) (hr.below HB2.out (Nat.le_refl _)) hn (by omega) (by omega) (by omega) HBD.out
        rw [← HE1.out, ← HE2.out] at hrec
        refine hrec.mono ?_
        rintro e w5 ⟨A5, n5, c5, rfl, ho5, hb5⟩
        have hn5 : n5 ≤ 200000 := by have h1 := ho5.1; simp [Tr.bits_len] at h1; omega
        have HB5 := Lib.hid (HB2.out.trans (hb5.mono HB2.out.size))
        have HOW5 := Lib.hid (own_below HOW2.out hb5 (Nat.le_refl _))
        have HST5 := Lib.hid (HST2.out.below hb5 (Nat.le_refl _))
        have hr25 := HHR2.out.below hb5 (Nat.le_refl _)
        have hr5 := own_rd ho5
        clear hb5 ho5 hrec
        go_wp2_with fail
        refine (l21PairT_any _ _ _ _ y.code hr25 (by omega) _ _ _ (codeC (seg cs (k + 1) (k + 1 + l))) hr5 (by omega)).mono ?_
        rintro e w6 ⟨A6, n6, c6, rfl, ho6, hb6⟩
        have hn6 : n6 ≤ 300000 := by have h1 := ho6.1; simp only [ints, bools, List.length_map, Tr.bits_len, Tr.nodes] at h1; omega
        have HB6 := Lib.hid (HB5.out.trans (hb6.mono HB5.out.size))
        have HOW6 := Lib.hid (own_below HOW5.out hb6 (Nat.le_refl _))
        have HST6 := Lib.hid (HST5.out.below hb6 (Nat.le_refl _))
        have hr6 := own_rd ho6
        clear hb6 ho6 hr25 hr5
        go_wp2_with fail
        refine (l23Item_any _ 9 (by omega) _ rfl _ _ _ (.node y.code (codeC (seg cs (k + 1) (k + 1 + l)))) hr6 (by omega)).mono ?_
        rintro e w3 ⟨A3, n3, c3, rfl, ho3, hb3⟩
        have HB3 := Lib.hid (HB6.out.trans (hb3.mono HB6.out.size))
        have hown3 := own_below HOW6.out hb3 (Nat.le_refl _)
        have HST3 := Lib.hid ((HST6.out.below hb3 (Nat.le_refl _)).snoc ho3 HB6.out.size)
        clear hb3 ho3 hr6
        go_wp2_with (at_builtin; go_must (refine wpList_app1g eltSB rfl _ _ rfl w3 w.heap.size _ m _ (by rfl) hown3 _ (by rfl) (by rfl) HB3.out.size (by omega) ?_; rintro A4 c4 w4 hown4 hb4 hg4))
        have hst4 := HST3.out.grown hown3 (by decide) hg4
        go_roundw
        case rel => exact ⟨k + 1 + l, ts ++ [.node (tagTr 9) (.node y.code (codeC (seg cs (k + 1) (k + 1 + l))))], A4, m + 1, c4, _, by omega, by omega, by go_num, rfl, hown4, by simpa using hst4, HQ, HRS, by omega, HB3.out.trans hb4⟩
        case measure => simp [intOf]; omega
    · obtain rfl : k = j := by omega
      have HQ : Hid (codeC (seg cs i k) = lstA ts .nil) := Lib.hid (by rw [HK.out, seg_nil]; rfl)
      have hnn : (lstA ts .nil).nodes ≤ 1000000 := by rw [← HQ.out]; have := HNB.out; omega
      go_wp2_with fail
      refine (l21ListA_any _ _ _ _ ts (hst.rdb (own_rd hown) (fun t ht => Nat.le_trans (mem_bound hnn ht) (by omega))) hnn).mono ?_
      rintro e w2 ⟨A2, n2, c2, rfl, ho2, hb2⟩
      go_wp2_with fail
      go_ret
      exact ⟨A2, n2, c2, rfl, by rw [HQ.out]; exact own_base ho2 hb.size, hb.trans (hb2.mono hb.size)⟩
end Go.Proofs.YtaadobggenbbdaaGreatDoor
