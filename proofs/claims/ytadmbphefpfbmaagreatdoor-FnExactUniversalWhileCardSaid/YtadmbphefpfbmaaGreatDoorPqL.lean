/- Programs behind texts (both sides). -/
import Derived.Test.YtadmbphefpfbmaaGreatDoorPqK
namespace Go.Proofs.YtadmbphefpfbmaaGreatDoor
open Go.RowKit
set_option linter.unusedVariables false
set_option linter.unusedSimpArgs false
attribute [local go_sem ↓] Go.wp_at_zero Go.wp_at_succ
/-- Commands that read, in a slice of enough room. -/
def CatP (w : World) (n : Nat) (cs : List Cmd) (e : Ending) (w' : World) : Prop := ∃ A c, e = .returned (.slice A n c) ∧ RdC w' A n cs ∧ n ≤ c ∧ Below w.heap.size w w'
set_option maxHeartbeats 2000000 in
set_option maxRecDepth 100000 in
theorem behindY_any (p : Pg) (s : ByteArray) (hs : TxOk p s) (w : World) (A : Option Addr) (n c : Nat) (cs : List Cmd) (hr : RdC w A n cs) (hn : n ≤ 1000000) :
    Calls Tryz.prog 29 #[.string s, .slice A n c] w (CatP w (p.sz + n) (p.cmds ++ cs)) := by
  have HW := Lib.hid (whileOfY_any p s hs w)
  have HR := Lib.hid hr
  have HN : Hid (p.sz + n ≤ 1000000 + 80) := Lib.hid (by have := hs.s2; omega)
  obtain ⟨k, hk⟩ : ∃ k, k = p.sz := ⟨_, rfl⟩
  unfold WhQ at HW
  rw [← hk] at HN HW ⊢
  clear hs hr hn hk
  go_enter Tryz.func29, Tryz.ntmps29
  go_wp2_with (first
    | (go_at_call 32
       refine HW.out.mono ?_
       rintro e w2 ⟨A2, c2, rfl, hoc, hb2⟩
       have HRC := Lib.hid hoc.rdc; have HB2 := Lib.hid hb2
       have HR2 := Lib.hid (HR.out.below hb2 (Nat.le_refl _))
       clear hoc hb2)
    | (go_at_call 28
       obtain ⟨w3, hw3⟩ : ∃ w3, w3 = w2.alloc (.cells #[.slice A2 k c2, .slice A n c] 28) := ⟨_, rfl⟩
       have hb3 : Below w2.heap.size w2 w3 := by rw [hw3]; exact below_new _ _
       obtain ⟨ss, p1, p2, p3, p4⟩ := rdc_parts (HRC.out.below hb3 (Nat.le_refl _))
       obtain ⟨ts, q1, q2, q3, q4⟩ := rdc_parts (HR2.out.below hb3 (Nat.le_refl _))
       have hv : RdV w3 (some ⟨w2.heap.size, 0, none⟩) 2 [(k, flatC p.cmds ss), (n, flatC cs ts)] := by
         refine ⟨[.slice A2 k c2, .slice A n c], by rw [hw3]; exact own_rd (own_lit w2 #[.slice A2 k c2, .slice A n c] 2 28 rfl (by omega)), rfl, ?_⟩
         intro j v ys hj hy
         match j, hj, hy with
         | 0, hj, hy => injection hj with hj; injection hy with hy; subst hj hy; exact ⟨_, _, rfl, p1, flatC_one _ _ p3⟩
         | 1, hj, hy => injection hj with hj; injection hy with hy; subst hj hy; exact ⟨_, _, rfl, q1, flatC_one _ _ q3⟩
         | j + 2, hj, hy => simp at hj
       have hh := concatC_any w3 _ 2 2 _ hv (by omega) (by have := HN.out; simp only [sumN]; omega)
       rw [← hw3]
       refine hh.mono ?_
       rintro e w4 ⟨A4, c4, rfl, ho4, hb4⟩
       simp only [sumN, Nat.add_zero, catV, List.map_cons, List.map_nil, List.flatten_cons, List.flatten_nil, List.append_nil] at ho4 ⊢
       have HC4 : Hid (k + n ≤ c4) := Lib.hid (ownN_cap ho4)
       have HJ : Hid (RdC w4 A4 (k + n) (p.cmds ++ cs)) := Lib.hid (rdc_join (ownN_rd ho4) p2 q2 (fun i s y hs hy => by
         obtain ⟨A', n', c', e, k1, k2, k3⟩ := p4 i s y hs hy
         exact ⟨A', n', c', e, k1, k2, k3.below hb4 (Nat.le_refl _)⟩) (fun i s y hs hy => by
         obtain ⟨A', n', c', e, k1, k2, k3⟩ := q4 i s y hs hy
         exact ⟨A', n', c', e, k1, k2, k3.below hb4 (Nat.le_refl _)⟩))
       have HB4 : Hid (Below w.heap.size w w4) := Lib.hid (bqcP hb4 (bqcP hb3 HB2.out))
       clear hh hv p1 p2 p3 p4 q1 q2 q3 q4 ho4 hb4 hb3 hw3))
  go_ret
  exact ⟨A4, c4, rfl, HJ.out, HC4.out, HB4.out⟩
set_option maxHeartbeats 400000 in
theorem l24TextY_any (p : Pg) (s : ByteArray) (hs : TxOk p s) (hdp : p.dp ≤ 80) (w : World) : Calls Tryz.prog 30 #[.string s] w (fun e w' => ∃ A1 c1, e = .returned (.slice A1 p.sz c1) ∧ OutC w' w.heap.size A1 p.sz c1 p.cmds ∧ Below w.heap.size w w') := by
  have hlen : p.tx.length = s.size := by rw [← hs.bs, nm_size]
  have H := Lib.hid (readAllY_any p.sz p (Nat.le_refl _) hs.s2 hs.ok w s 0 p.tx.length 80 (bsAt_of hs.bs) (by omega) (.inl hlen) (by omega) (by omega) (by have := hs.len; omega))
  clear hs hlen
  go_enter Tryz.func30, Tryz.ntmps30
  go_wp2_with (go_at_call 62
               refine H.out.mono ?_
               rintro e w2 ⟨A2, c2, rfl, hcm, hb⟩
               have HC := Lib.hid hcm; have HB := Lib.hid hb
               clear hcm hb)
  go_ret
  exact ⟨A2, c2, rfl, HC.out, HB.out⟩
set_option maxHeartbeats 2000000 in
set_option maxRecDepth 100000 in
theorem l24BeforeY_any (p : Pg) (s : ByteArray) (hs : TxOk p s) (hdp : p.dp ≤ 80) (w : World) (A : Option Addr) (n c : Nat) (cs : List Cmd) (hr : RdC w A n cs) (hn : n ≤ 1000000) :
    Calls Tryz.prog 24 #[.string s, .slice A n c] w (fun e w' => ∃ A' c', e = .returned (.slice A' (p.sz + n) c') ∧ OutC w' w.heap.size A' (p.sz + n) c' (p.cmds ++ cs) ∧ Below w.heap.size w w') := by
  have HT := Lib.hid (l24TextY_any p s hs hdp w)
  have HOW := Lib.hid (fun (w2 : World) (hb : Below w.heap.size w w2) => l22Own_any w2 A n c cs (hr.below hb (Nat.le_refl _)) hn)
  have HN : Hid (p.sz + n ≤ 1099511627776) := Lib.hid (by have := hs.s2; omega)
  obtain ⟨k, hk⟩ : ∃ k, k = p.sz := ⟨_, rfl⟩
  rw [← hk] at HT HN ⊢
  clear hs hr hn hk
  go_enter Tryz.func24, Tryz.ntmps24
  go_wp2_with (first
    | (go_at_call 30
       refine HT.out.mono ?_
       rintro e w2 ⟨A2, c2, rfl, hcm, hb2⟩
       have HCM := Lib.hid hcm; have HB2 := Lib.hid hb2
       clear hcm hb2)
    | (go_at_call 55
       refine (HOW.out w2 HB2.out).mono ?_
       rintro e w3 ⟨A3, c3, us, rfl, ho3, hi3, hb3⟩
       have HO3 := Lib.hid ho3; have HI3 := Lib.hid hi3
       obtain ⟨vs, hc1, hc2⟩ := HCM.out.below hb3
       have HV3 := Lib.hid hc1; have HVI3 := Lib.hid hc2
       have HB3 : Hid (Below w.heap.size w w3) := Lib.hid (bqcP hb3 HB2.out)
       clear ho3 hi3 hb3 hc1 hc2)
    | (at_builtin
       refine wpList_appSN eltCm rfl _ _ rfl w3 w.heap.size (.slice A2 k c2) k _ (by rfl) HV3.out A3 n c3 _ (by rfl) (ownN_rd HO3.out) (flatC_one _ _ HI3.out.one4) HB3.out.size HN.out ?_
       rintro A4 c4 w4 ho4 hb4 hg4
       have HB4 : Hid (Below w.heap.size w w4) := Lib.hid (HB3.out.trans hb4)
       have HJ : Hid (OutC w4 w.heap.size A4 (k + n) c4 (p.cmds ++ cs)) := Lib.hid (OutC.appS HV3.out HVI3.out HI3.out ho4 hg4)
       clear ho4 hb4 hg4))
  go_ret
  exact ⟨A4, c4, rfl, HJ.out, HB4.out⟩
/-- Texts of the packages of two programs. -/
def pgComp1 : Pg := .set 1 (.un (4, 0) (.un (3, 0) (.leaf (1, 0)))) (.set 0 (.bin (2, 0) (.un (3, 0) (.un (3, 0) (.leaf (1, 0)))) (.un (4, 0) (.leaf (1, 0)))) .nil)
def pgComp2 : Pg := .set 0 (.bin (2, 0) (.leaf (1, 1)) (.leaf (1, 0))) .nil
def pgPair1 : Pg := .set 1 (.bin (2, 0) (.un (4, 0) (.un (3, 0) (.leaf (1, 0)))) (.un (4, 0) (.leaf (1, 0)))) (.set 0 (.bin (2, 0) (.un (3, 0) (.un (3, 0) (.leaf (1, 0)))) (.un (4, 0) (.leaf (1, 0)))) .nil)
def pgPair2 : Pg := .set 1 (.bin (2, 0) (.leaf (1, 0)) (.leaf (1, 1))) (.set 0 (.un (4, 0) (.leaf (1, 1))) .nil)
def pgPair3 : Pg := .set 0 (.bin (2, 0) (.un (3, 0) (.leaf (1, 1))) (.leaf (1, 0))) .nil
def txComp1 : ByteArray := ⟨#[49, 61, 116, 104, 48, 59, 48, 61, 40, 104, 104, 48, 46, 116, 48, 41]⟩
def txComp2 : ByteArray := ⟨#[48, 61, 40, 49, 46, 48, 41]⟩
def txPair1 : ByteArray := ⟨#[49, 61, 40, 116, 104, 48, 46, 116, 48, 41, 59, 48, 61, 40, 104, 104, 48, 46, 116, 48, 41]⟩
def txPair2 : ByteArray := ⟨#[49, 61, 40, 48, 46, 49, 41, 59, 48, 61, 116, 49]⟩
def txPair3 : ByteArray := ⟨#[48, 61, 40, 104, 49, 46, 48, 41]⟩
theorem v0_ok : (Ex.leaf (1, 0)).ok := .inr ⟨0, by omega, rfl⟩
theorem v1_ok : (Ex.leaf (1, 1)).ok := .inr ⟨1, by omega, rfl⟩
theorem ok_comp1 : TxOk pgComp1 txComp1 := ⟨by kernel_rfl, by kernel_rfl, ⟨by omega, ⟨.inr rfl, .inl rfl, v0_ok⟩, by decide, by omega, ⟨.inl rfl, ⟨.inl rfl, .inl rfl, v0_ok⟩, .inr rfl, v0_ok⟩, by decide, trivial⟩, by decide, by decide, by decide, by decide⟩
theorem ok_comp2 : TxOk pgComp2 txComp2 := ⟨by kernel_rfl, by kernel_rfl, ⟨by omega, ⟨.inl rfl, v1_ok, v0_ok⟩, by decide, trivial⟩, by decide, by decide, by decide, by decide⟩
theorem ok_pair1 : TxOk pgPair1 txPair1 := ⟨by kernel_rfl, by kernel_rfl, ⟨by omega, ⟨.inl rfl, ⟨.inr rfl, .inl rfl, v0_ok⟩, .inr rfl, v0_ok⟩, by decide, by omega, ⟨.inl rfl, ⟨.inl rfl, .inl rfl, v0_ok⟩, .inr rfl, v0_ok⟩, by decide, trivial⟩, by decide, by decide, by decide, by decide⟩
theorem ok_pair2 : TxOk pgPair2 txPair2 := ⟨by kernel_rfl, by kernel_rfl, ⟨by omega, ⟨.inl rfl, v0_ok, v1_ok⟩, by decide, by omega, ⟨.inr rfl, v1_ok⟩, by decide, trivial⟩, by decide, by decide, by decide, by decide⟩
theorem ok_pair3 : TxOk pgPair3 txPair3 := ⟨by kernel_rfl, by kernel_rfl, ⟨by omega, ⟨.inl rfl, ⟨.inl rfl, v1_ok⟩, v0_ok⟩, by decide, trivial⟩, by decide, by decide, by decide, by decide⟩
end Go.Proofs.YtadmbphefpfbmaaGreatDoor
