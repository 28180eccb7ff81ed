/- Opened packages: parcelsOf; OpenPackage of both. -/
import Derived.Test.YtaadobggenbbdaaGreatDoorPkg
import Derived.Test.YtaadobggenbbdaaGreatDoorCdI
namespace Go.Proofs.YtaadobggenbbdaaGreatDoor
open Go.RowKit
set_option linter.unusedVariables false
set_option linter.unusedSimpArgs false
theorem infoPc : (Tryz.prog.info? 73).map (fun i => (i.zero, i.size, i.bytes)) = some (some (.agg #[.slice none 0 0, .pointer none]), 2, 32) := by kernel_rfl
theorem eltPc : EltN Tryz.prog 69 73 (.agg #[.slice none 0 0, .pointer none]) 2 := EltN.mk_ Tryz.underlying69 infoPc rfl (by decide) (by decide)
def flatP : List (Value × Value) → List Value
  | [] => []
  | q :: r => q.1 :: q.2 :: flatP r
theorem flatP_len (ps : List (Value × Value)) : (flatP ps).length = ps.length * 2 := by
  induction ps with
  | nil => rfl
  | cons q r ih => simp only [flatP, List.length_cons, ih]; omega
theorem flatP_app (ps : List (Value × Value)) (q : Value × Value) : flatP (ps ++ [q]) = flatP ps ++ [q.1, q.2] := by
  induction ps with
  | nil => rfl
  | cons p r ih => simp [flatP, ih]
theorem flatP_get : ∀ {ps : List (Value × Value)} {k : Nat} {q : Value × Value}, ps[k]? = some q → (flatP ps)[k * 2]? = some q.1 ∧ (flatP ps)[k * 2 + 1]? = some q.2
  | [], k, q, h => by simp at h
  | p :: r, 0, q, h => by
    obtain rfl : p = q := by simpa using h
    exact ⟨rfl, rfl⟩
  | p :: r, k + 1, q, h => by
    have := flatP_get (ps := r) (k := k) (q := q) (by simpa using h)
    rw [show (k + 1) * 2 = k * 2 + 1 + 1 by omega]
    exact this
theorem OwnC.grownP {w w' : World} {F : Nat → Prop} {n c B m e s : Nat} {A : Option Addr} {cs : List Cmd} {v : Value} {ws : List Value} (h : OwnC w F A n c cs) (ho : w.ownsRow B e s v m ws) (he1 : 53 ≠ e) (he2 : 98 ≠ e) (hg : w.grownBy w' v.ownBlock) : OwnC w' F A n c cs := by
  obtain ⟨us, h1, h2, h3, h4⟩ := h
  refine ⟨us, own_ch h1 (ch_row hg) (own_types h1 ho he1), h2, h3.apart (ch_row hg) (fun i u hu => ?_), fun k hk => Nat.lt_of_lt_of_le (h4 k hk) hg.size⟩
  obtain ⟨x, hx⟩ := get_some (xs := cs) (k := i) (by rw [← h3.1]; exact (List.getElem?_eq_some_iff.1 hu).1)
  obtain ⟨_, _, _, rfl, _, hew, _⟩ := h3.2.1 i u x hu hx
  exact own_types hew ho he2
/-- What an opened package is in memory. -/
def PcOk1 (w : World) (B : Nat) (q : Value × Value) (t : Tr) : Prop :=
  ∃ A n c F p, q = (.slice A n c, .pointer p) ∧ OwnC w F A n c (opProg t) ∧ (∀ k, F k → B ≤ k ∧ k < w.heap.size) ∧ IsT w B w.heap.size (.pointer p) t.tl
def PcOk (w : World) (B : Nat) (ps : List (Value × Value)) (ts : List Tr) : Prop :=
  ps.length = ts.length ∧ ∀ (i : Nat) (q : Value × Value) (t : Tr), ps[i]? = some q → ts[i]? = some t → PcOk1 w B q t
theorem PcOk1.below {w w' : World} {B : Nat} {q : Value × Value} {t : Tr} (h : PcOk1 w B q t) (hb : Below w.heap.size w w') : PcOk1 w' B q t := by
  obtain ⟨A, n, c, F, p, e, h1, h2, h3⟩ := h
  exact ⟨A, n, c, F, p, e, h1.below hb, fun k hk => ⟨(h2 k hk).1, Nat.lt_of_lt_of_le (h2 k hk).2 hb.size⟩, h3.up hb⟩
theorem PcOk.below {w w' : World} {B : Nat} {ps : List (Value × Value)} {ts : List Tr} (h : PcOk w B ps ts) (hb : Below w.heap.size w w') : PcOk w' B ps ts := ⟨h.1, fun i q t hq ht => (h.2 i q t hq ht).below hb⟩
theorem PcOk1.grown {w w' : World} {B B' n : Nat} {v : Value} {ws : List Value} {q : Value × Value} {t : Tr} (h : PcOk1 w B q t) (ho : w.ownsRow B' 73 2 v n ws) (hg : w.grownBy w' v.ownBlock) : PcOk1 w' B q t := by
  obtain ⟨A, n, c, F, p, e, h1, h2, h3⟩ := h
  exact ⟨A, n, c, F, p, e, h1.grownP ho (by decide) (by decide) hg, fun k hk => ⟨(h2 k hk).1, Nat.lt_of_lt_of_le (h2 k hk).2 hg.size⟩, IsT.chT (ch_row hg) (row_noT ho (by decide)) h3⟩
theorem PcOk.grown {w w' : World} {B B' n : Nat} {v : Value} {ws : List Value} {ps : List (Value × Value)} {ts : List Tr} (h : PcOk w B ps ts) (ho : w.ownsRow B' 73 2 v n ws) (hg : w.grownBy w' v.ownBlock) : PcOk w' B ps ts := ⟨h.1, fun i q t hq ht => (h.2 i q t hq ht).grown ho hg⟩
theorem PcOk.snoc {w : World} {B : Nat} {ps : List (Value × Value)} {ts : List Tr} {q : Value × Value} {t : Tr} (h : PcOk w B ps ts) (h1 : PcOk1 w B q t) : PcOk w B (ps ++ [q]) (ts ++ [t]) := by
  refine ⟨by simp [h.1], fun i p s hp hs => ?_⟩
  have hl := h.1
  by_cases hi : i < ps.length
  · rw [List.getElem?_append_left hi] at hp
    rw [List.getElem?_append_left (by omega)] at hs
    exact h.2 i p s hp hs
  · rw [List.getElem?_append_right (by omega)] at hp hs
    have hi0 : i - ps.length = 0 := by
      rcases Nat.eq_zero_or_pos (i - ps.length) with h | h
      · exact h
      · rw [List.getElem?_eq_none (by simp; omega)] at hp; cases hp
    rw [hi0] at hp
    rw [show i - ts.length = 0 by omega] at hs
    simp at hp hs
    subst hp hs
    exact h1
def prcC (code : Int) (xss : List (List Bool)) : Int := if allTr xss then (if code = 0 then (if (xss.map treeB).all opOk then 0 else 9) else code) else 1
theorem prc_bad {code : Int} {xss : List (List Bool)} (h : allTr xss = false) : prcC code xss = 1 := by simp [prcC, h]
theorem prc_code {code : Int} {xss : List (List Bool)} (h : allTr xss = true) (hc : code ≠ 0) : prcC code xss = code := by simp only [prcC, h, if_true, if_neg hc]
theorem prc_no {xss : List (List Bool)} (h : allTr xss = true) (hc : (xss.map treeB).all opOk = false) : prcC 0 xss = 9 := by simp [prcC, h, hc]
theorem prc_ok {xss : List (List Bool)} (h : allTr xss = true) (hc : (xss.map treeB).all opOk = true) : prcC 0 xss = 0 := by simp only [prcC, h, hc, if_true]
theorem allTr_at {xss : List (List Bool)} {k : Nat} {xs : List Bool} (h : allTr xss = true) (hx : xss[k]? = some xs) : ∃ t : Tr, xs = t.bits ∧ t.nodes ≤ 2000 := by
  simp only [allTr, List.all_eq_true] at h
  exact isTr_tree (h xs (List.mem_of_getElem? hx))
def PrcP (w : World) (code : Int) (xss : List (List Bool)) (e : Ending) (w' : World) : Prop :=
  ∃ A n c, e = .returned (.tuple #[.slice A n c, .int .i64 (prcC code xss)]) ∧ (prcC code xss = 0 → ∃ ps, w'.ownsRow w.heap.size 73 2 (.slice A n c) n (flatP ps) ∧ PcOk w' w.heap.size ps (xss.map treeB)) ∧ Below w.heap.size w w'
theorem PrcP.none_ {w w' : World} {code k : Int} {xss : List (List Bool)} (h : prcC code xss = k) (hk : k ≠ 0) (hb : Below w.heap.size w w') : PrcP w code xss (.returned (.tuple #[.slice none 0 0, .int .i64 k])) w' :=
  ⟨none, 0, 0, by rw [h], fun h0 => by rw [h] at h0; exact absurd h0 hk, hb⟩
set_option maxHeartbeats 4000000 in
set_option maxRecDepth 100000 in
theorem parcelsOf_any (w : World) (code : Int) (A : Option Addr) (m c : Nat) (xss : List (List Bool)) (hr : RdB w A m xss) (hm : m ≤ 1000000) : Calls Tryz.prog 53 #[.int .i64 code, .slice A m c] w (PrcP w code xss) := by
  cases hv : allTr xss with
  | false =>
    have HQ := Lib.hid (prc_bad (code := code) hv)
    have HV := Lib.hid hv
    clear hv
    go_enter Tryz.func53, Tryz.ntmps53
    go_wp2_with (go_at_call 52; go_must (refine (areTrees_any _ _ _ _ _ hr (by omega)).mono ?_; rw [HV.out]; rintro e w' ⟨rfl, rfl⟩))
    go_ret2
    exact PrcP.none_ HQ.out (by decide) (Below.refl _ _)
  | true =>
    have HV := Lib.hid hv
    by_cases hc : code = 0
    · subst hc
      have HL : Hid (xss.length = m) := Lib.hid hr.len
      have hlit := ownN_lit w #[] 0 2 73 rfl (by omega)
      have hbb := below_new w (.cells #[] 73)
      clear hv
      go_enter Tryz.func53, Tryz.ntmps53
      go_wp2_with (go_at_call 52; go_must (refine (areTrees_any _ _ _ _ _ hr (by omega)).mono ?_; rw [HV.out]; rintro e w' ⟨rfl, rfl⟩))
      go_loopw [6, 21] (fun p q wr => ∃ (k : Nat) (A : Option Addr) (n c : Nat) (ps : List (Value × Value)), k ≤ m ∧ q = .int .i64 k ∧ p = .slice A n c ∧ wr.ownsRow w.heap.size 73 2 (.slice A n c) n (flatP ps) ∧ PcOk wr w.heap.size ps ((xss.map treeB).take k) ∧ Hid (((xss.map treeB).take k).all opOk = true) ∧ n ≤ k ∧ Below w.heap.size w wr) (fun _ q _ => m - (intOf q).toNat)
      case atStart => exact ⟨0, _, 0, 0, [], by omega, rfl, rfl, hlit, ⟨by simp, by simp⟩, Lib.hid (by simp), by omega, hbb⟩
      case round =>
        clear hlit hbb
        obtain ⟨k, A1, n1, c1, ps, hk, rfl, rfl, hown, hpc, HA, hnk, hb⟩ := hrel
        by_cases hlt : k < m
        · have hlt' : (k : Int) < (m : Int) := by omega
          obtain ⟨xs, hx⟩ := get_some (xs := xss) (k := k) (by rw [HL.out]; exact hlt)
          obtain ⟨b, off, A', n', c', hAA, hbs, q0, hn', hrx⟩ := hr.at_ hx
          subst hAA
          replace q0 := (hb.cell (p := ⟨b, off + k, none⟩) hbs).trans q0
          replace hrx := hrx.below hb (Nat.le_refl _)
          obtain ⟨t, rfl, htn⟩ := allTr_at HV.out hx
          have HT : Hid ((xss.map treeB)[k]? = some t) := Lib.hid (by simp [hx, treeB_bits])
          have hn2 : n' ≤ 2000 := by have := hrx.1; simp [Tr.bits_len] at this; omega
          have HOW := Lib.hid hown
          have HPC := Lib.hid hpc
          have HB := Lib.hid hb
          clear hx hown hpc hb
          go_wp2_with fail
          refine (treeOf_any _ _ _ _ t hrx (by omega)).mono ?_
          rintro e w2 ⟨v2, rfl, h2, hb2⟩
          obtain ⟨p2, rfl⟩ := h2.isPtr
          have HOW2 := Lib.hid (ownN_below HOW.out hb2 (Nat.le_refl _))
          have HPC2 := Lib.hid (HPC.out.below hb2)
          have HB2 := Lib.hid (HB.out.trans (hb2.mono HB.out.size))
          have h22 := h2.wide (lo' := w.heap.size) HB.out.size (Nat.le_refl _)
          clear hb2 h2 hrx
          go_wp2_with fail
          refine (opened_any _ w.heap.size _ t h22 HB2.out.size (by omega)).mono ?_
          rintro e w3 ⟨A3, n3, c3, F3, p3, rfl, ho3, hF3, ht3, hb3⟩
          have HOW3 := Lib.hid (ownN_below HOW2.out hb3 (Nat.le_refl _))
          have HPC3 := Lib.hid (HPC2.out.below hb3)
          have HB3 := Lib.hid (HB2.out.trans (hb3.mono HB2.out.size))
          have HP1 : Hid (PcOk1 w3 w.heap.size (.slice A3 n3 c3, .pointer p3) t) := Lib.hid ⟨A3, n3, c3, F3, p3, rfl, ho3, fun k hk => ⟨Nat.le_trans HB2.out.size (hF3 k hk).1, (hF3 k hk).2⟩, ht3⟩
          clear ho3 hF3 ht3 hb3 h22
          cases hop : opOk t with
          | false =>
            have HQ := Lib.hid (prc_no HV.out (all_out HT.out hop))
            clear hop
            go_wp2_with fail
            go_ret2
            exact PrcP.none_ HQ.out (by decide) HB3.out
          | true =>
            have HA2 := Lib.hid (all_step HA.out HT.out hop)
            clear hop
            have hH := HOW3.out
            go_wp2_with (at_builtin; go_must (refine wpList_app1N eltPc (by rfl) _ _ (by rfl) w3 w.heap.size _ n1 _ (by rfl) hH _ (by rfl) (by intro y hy; simp at hy; rcases hy with rfl | rfl <;> rfl) (by rfl) HB3.out.size (by omega) ?_; rintro A4 c4 w4 ho4 hb4 hg4))
            have HPN := Lib.hid ((HPC3.out.grown HOW3.out hg4).snoc (HP1.out.grown HOW3.out hg4))
            have HTK : Hid ((xss.map treeB).take (k + 1) = (xss.map treeB).take k ++ [t]) := Lib.hid (by rw [List.take_add_one, HT.out]; rfl)
            have HO4 : Hid (w4.ownsRow w.heap.size 73 2 (.slice A4 (n1 + 1) c4) (n1 + 1) (flatP (ps ++ [(.slice A3 n3 c3, .pointer p3)]))) := Lib.hid (by rw [flatP_app]; exact ho4)
            go_roundw
            case rel => exact ⟨k + 1, A4, n1 + 1, c4, _, by omega, by go_num, rfl, HO4.out, by rw [HTK.out]; exact HPN.out, HA2, by omega, HB3.out.trans hb4⟩
            case measure => simp [intOf]; omega
        · obtain rfl : k = m := by omega
          have hall : (xss.map treeB).take k = xss.map treeB := List.take_of_length_le (by rw [List.length_map, HL.out]; omega)
          have HQ := Lib.hid (prc_ok HV.out (by have h := HA.out; rw [hall] at h; exact h))
          rw [hall] at hpc
          clear hall
          go_wp2_with fail
          go_ret2
          exact ⟨A1, n1, c1, by rw [HQ.out]; rfl, fun _ => ⟨ps, hown, hpc⟩, hb⟩
    · have HQ := Lib.hid (prc_code hv hc)
      have HC := Lib.hid hc
      have b0 : (code == 0) = false := by simpa using hc
      have b1 : (code != 0) = true := by simpa using hc
      clear hv
      go_enter Tryz.func53, Tryz.ntmps53
      go_wp2_with (go_at_call 52; go_must (refine (areTrees_any _ _ _ _ _ hr (by omega)).mono ?_; rw [HV.out]; rintro e w' ⟨rfl, rfl⟩))
      go_ret2
      exact PrcP.none_ HQ.out HC.out (Below.refl _ _)
theorem RdB.lit1 {w : World} {A : Option Addr} {n c : Nat} {xs : List Bool} (h : Rd w A n (bools xs)) (hn : n ≤ 1000000000) : RdB (w.alloc (.cells #[.slice A n c] 22)) (some ⟨w.heap.size, 0, none⟩) 1 [xs] := by
  refine ⟨[.slice A n c], own_rd (own_lit w #[.slice A n c] 1 22 rfl (by omega)), rfl, fun i v ys hv hy => ?_⟩
  cases i with
  | zero => simp at hv hy; subst hv hy; exact ⟨A, n, c, rfl, hn, h.alloc _⟩
  | succ i => simp at hv
def opkC (bs : List Bool) : Int := if isTr bs then (if opOk (treeB bs) then 0 else 9) else 1
def opkL (bs : List Bool) : List Cmd := if opkC bs = 0 then opProg (treeB bs) else []
def opkB (bs : List Bool) : List Bool := if opkC bs = 0 then opData (treeB bs) else []
theorem prc_one (bs : List Bool) : prcC 0 [bs] = opkC bs := by
  simp only [prcC, opkC, allTr, List.all_cons, List.all_nil, Bool.and_true, List.map_cons, List.map_nil, if_true]
def OpkP (w : World) (bs : List Bool) (e : Ending) (w' : World) : Prop :=
  ∃ A n c F A' n' c', e = .returned (.tuple #[.slice A n c, .slice A' n' c', .int .i64 (opkC bs)]) ∧ OwnC w' F A n c (opkL bs) ∧ (∀ k, F k → w.heap.size ≤ k ∧ k < w'.heap.size) ∧ w'.ownsRow w.heap.size 4 1 (.slice A' n' c') n' (bools (opkB bs)) ∧ (∀ k, F k → Fo (.slice A' n' c') k → False) ∧ Below w.heap.size w w'
theorem OpkP.none_ {w w' : World} {bs : List Bool} {k : Int} (h : opkC bs = k) (hk : k ≠ 0) (hb : Below w.heap.size w w') : OpkP w bs (.returned (.tuple #[.slice none 0 0, .slice none 0 0, .int .i64 k])) w' := by
  have h0 : ¬ opkC bs = 0 := by rw [h]; exact hk
  exact ⟨none, 0, 0, fun _ => False, none, 0, 0, by rw [h], by rw [opkL, if_neg h0]; exact OwnC.nil _, by simp, by rw [opkB, if_neg h0]; exact own_nil _ _ _, by simp, hb⟩
theorem opk_data {t : Tr} (h : opOk t = true) : opData t = t.tl.bits := by
  cases t with
  | nil => simp [opOk] at h
  | node a b => rfl
theorem opk_zero {bs : List Bool} (h : opkC bs = 0) : ∃ t : Tr, bs = t.bits ∧ t.nodes ≤ 2000 ∧ opOk t = true := by
  unfold opkC at h
  split at h
  · rename_i ht
    obtain ⟨t, rfl, htn⟩ := isTr_tree ht
    rw [treeB_bits] at h
    split at h
    · exact ⟨t, rfl, htn, by assumption⟩
    · simp at h
  · simp at h
theorem opk_tr {t : Tr} (h : t.nodes ≤ 2000) : opkC t.bits = if opOk t then 0 else 9 := by simp [opkC, isTr_bits h, treeB_bits]
end Go.Proofs.YtaadobggenbbdaaGreatDoor
