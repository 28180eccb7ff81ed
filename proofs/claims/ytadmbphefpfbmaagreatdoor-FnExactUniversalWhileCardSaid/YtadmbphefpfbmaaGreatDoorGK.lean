/- Texts in one file: PkL, PkM, PkV, PkW, PkN, PkP. -/
import Derived.Test.YtadmbphefpfbmaaGreatDoorGJ
import Derived.Test.YtadmbphefpfbmaaGreatDoorGI
/- Programs behind texts, codes of them (program). -/
namespace Go.Proofs.YtadmbphefpfbmaaGreatDoor
open Go.RowKit
set_option linter.unusedVariables false
set_option linter.unusedSimpArgs false
attribute [local go_sem ↓] Go.wp_at_zero Go.wp_at_succ
/-- A text that the program reads as an assignment. -/
structure TxtOk (x : Tx) (s : ByteArray) : Prop where
  ru : Conv.runesFrom s s.size 0 #[] = (runesV (48 :: 61 :: x.rn)).toArray
  li : x.line = s
  l1 : x.els.length ≤ 40
  l2 : x.rn.length ≤ 1000
theorem ok_tQuine : TxtOk tQuine ⟨#[48, 61, 104, 48]⟩ := ⟨by kernel_rfl, by kernel_rfl, by decide, by decide⟩
theorem ok_tFix : TxtOk tFix ⟨#[48, 61, 40, 40, 104, 48, 46, 104, 48, 41, 46, 116, 48, 41]⟩ := ⟨by kernel_rfl, by kernel_rfl, by decide, by decide⟩
theorem ok_tPlain : TxtOk tPlain ⟨#[48, 61, 116, 48]⟩ := ⟨by kernel_rfl, by kernel_rfl, by decide, by decide⟩
theorem ok_tPad : TxtOk tPad ⟨#[48, 61, 48]⟩ := ⟨by kernel_rfl, by kernel_rfl, by decide, by decide⟩
theorem rdc_parts {w : World} {A : Option Addr} {n : Nat} {cs : List Cmd} (h : RdC w A n cs) : ∃ ss : List Value, Rd w A (n * 4) (flatC cs ss) ∧ ss.length = cs.length ∧ (∀ s ∈ ss, s.oneCell' = true) ∧ ∀ (i : Nat) (s : Value) (x : Cmd), ss[i]? = some s → cs[i]? = some x → ∃ A' n' c', s = .slice A' n' c' ∧ n' ≤ 1000000000 ∧ n' ≤ c' ∧ RdE w A' n' x.e := by
  obtain ⟨ss, h1, h2, h3⟩ := h
  refine ⟨ss, h1, h2, fun s hs => ?_, h3⟩
  obtain ⟨i, hi, rfl⟩ := List.mem_iff_getElem.1 hs
  obtain ⟨x, hx⟩ := get_some (xs := cs) (k := i) (by rw [← h2]; exact hi)
  obtain ⟨A', n', c', e, _⟩ := h3 i _ x (List.getElem?_eq_getElem hi) hx
  rw [e]; rfl
theorem rdc_join {w : World} {A : Option Addr} {n m : Nat} {cs ds : List Cmd} {ss ts : List Value} (h : Rd w A ((n + m) * 4) (flatC cs ss ++ flatC ds ts)) (h1 : ss.length = cs.length) (h2 : ts.length = ds.length)
    (k1 : ∀ (i : Nat) (s : Value) (x : Cmd), ss[i]? = some s → cs[i]? = some x → ∃ A' n' c', s = .slice A' n' c' ∧ n' ≤ 1000000000 ∧ n' ≤ c' ∧ RdE w A' n' x.e)
    (k2 : ∀ (i : Nat) (s : Value) (x : Cmd), ts[i]? = some s → ds[i]? = some x → ∃ A' n' c', s = .slice A' n' c' ∧ n' ≤ 1000000000 ∧ n' ≤ c' ∧ RdE w A' n' x.e) : RdC w A (n + m) (cs ++ ds) := by
  refine ⟨ss ++ ts, by rw [flatC_append cs ss ds ts h1]; exact h, by simp [h1, h2], fun i s x hs hx => ?_⟩
  by_cases hi : i < ss.length
  · rw [List.getElem?_append_left hi] at hs
    rw [List.getElem?_append_left (by omega)] at hx
    exact k1 i s x hs hx
  · rw [List.getElem?_append_right (by omega)] at hs
    rw [List.getElem?_append_right (by omega)] at hx
    exact k2 _ s x hs (by rw [h1]; exact hx)
def BehP (w : World) (x : Tx) (n : Nat) (cs : List Cmd) (e : Ending) (w' : World) : Prop := ∃ A c, e = .returned (.slice A (1 + n) c) ∧ RdC w' A (1 + n) (x.cmd :: cs) ∧ 1 + n ≤ c ∧ Below w.heap.size w w'
set_option maxHeartbeats 2000000 in
set_option maxRecDepth 100000 in
theorem behind_any (x : Tx) (s : ByteArray) (hs : TxtOk x s) (w : World) (A : Option Addr) (n c : Nat) (cs : List Cmd) (hr : RdC w A n cs) (hn : n ≤ 1000000) :
    Calls Tryz.prog 29 #[.string s, .slice A n c] w (BehP w x n cs) := by
  have HW := Lib.hid (whileOf_any x s hs.ru hs.li hs.l1 hs.l2 w)
  have HR := Lib.hid hr
  have HN := Lib.hid hn
  clear hs hr hn
  go_enter Tryz.func29, Tryz.ntmps29
  go_wp2_with (first
    | (go_at_call 32
       refine HW.out.mono ?_
       rintro e w2 ⟨A2, c2, rfl, hrc, hc2, hb2⟩
       have HRC := Lib.hid hrc; have HB2 := Lib.hid hb2
       have HR2 := Lib.hid (HR.out.below hb2 (Nat.le_refl _))
       clear hrc hc2 hb2)
    | (go_at_call 28
       obtain ⟨w3, hw3⟩ : ∃ w3, w3 = w2.alloc (.cells #[.slice A2 1 c2, .slice A n c] 28) := ⟨_, rfl⟩
       have hb3 : Below w2.heap.size w2 w3 := by rw [hw3]; exact below_new _ _
       obtain ⟨ss, p1, p2, p3, p4⟩ := rdc_parts (HRC.out.below hb3 (Nat.le_refl _))
       obtain ⟨ts, q1, q2, q3, q4⟩ := rdc_parts (HR2.out.below hb3 (Nat.le_refl _))
       have hv : RdV w3 (some ⟨w2.heap.size, 0, none⟩) 2 [(1, flatC [x.cmd] ss), (n, flatC cs ts)] := by
         refine ⟨[.slice A2 1 c2, .slice A n c], by rw [hw3]; exact own_rd (own_lit w2 #[.slice A2 1 c2, .slice A n c] 2 28 rfl (by omega)), rfl, ?_⟩
         intro j v ys hj hy
         match j, hj, hy with
         | 0, hj, hy => injection hj with hj; injection hy with hy; subst hj hy; exact ⟨_, _, rfl, p1, flatC_one _ _ p3⟩
         | 1, hj, hy => injection hj with hj; injection hy with hy; subst hj hy; exact ⟨_, _, rfl, q1, flatC_one _ _ q3⟩
         | j + 2, hj, hy => simp at hj
       have hh := concatC_any w3 _ 2 2 _ hv (by omega) (by have := HN.out; simp only [sumN]; omega)
       rw [← hw3]
       refine hh.mono ?_
       rintro e w4 ⟨A4, c4, rfl, ho4, hb4⟩
       simp only [sumN, Nat.add_zero, catV, List.map_cons, List.map_nil, List.flatten_cons, List.flatten_nil, List.append_nil] at ho4 ⊢
       have HC4 : Hid (1 + n ≤ c4) := Lib.hid (ownN_cap ho4)
       have HJ : Hid (RdC w4 A4 (1 + n) (x.cmd :: cs)) := Lib.hid (rdc_join (ownN_rd ho4) p2 q2 (fun i s y hs hy => by
         obtain ⟨A', n', c', e, k1, k2, k3⟩ := p4 i s y hs hy
         exact ⟨A', n', c', e, k1, k2, k3.below hb4 (Nat.le_refl _)⟩) (fun i s y hs hy => by
         obtain ⟨A', n', c', e, k1, k2, k3⟩ := q4 i s y hs hy
         exact ⟨A', n', c', e, k1, k2, k3.below hb4 (Nat.le_refl _)⟩))
       have HB4 : Hid (Below w.heap.size w w4) := Lib.hid (bqcP hb4 (bqcP hb3 HB2.out))
       clear hh hv p1 p2 p3 p4 q1 q2 q3 q4 ho4 hb4 hb3 hw3))
  go_ret
  exact ⟨A4, c4, rfl, HJ.out, HC4.out, HB4.out⟩
end Go.Proofs.YtadmbphefpfbmaaGreatDoor
/- Packages of the recursion theorem, plain packages (program). -/
namespace Go.Proofs.YtadmbphefpfbmaaGreatDoor
open Go.RowKit
set_option linter.unusedVariables false
set_option linter.unusedSimpArgs false
attribute [local go_sem ↓] Go.wp_at_zero Go.wp_at_succ
def scP (cs : List Cmd) : Int := if cs.length ≤ 80 then (cdwP cs).2 else 5
def ScP (w : World) (cs : List Cmd) (e : Ending) (w' : World) : Prop :=
  ∃ p, e = .returned (.tuple #[.pointer p, .int .i64 (scP cs)]) ∧ (scP cs = 0 → IsT w' w.heap.size w'.heap.size (.pointer p) (codeC cs)) ∧ Below w.heap.size w w'
theorem sc_nodes {cs : List Cmd} (h : scP cs = 0) : (codeC cs).nodes ≤ 2000 := by
  unfold scP at h
  split at h
  · exact (cdw_zero h).2
  · cases h
def fixP (cs : List Cmd) : List Bool × Int := if isW cs then (if ozW cs then (if scP (tFix.cmd :: cs) = 0 then fit2 (.node (codeC (tFix.cmd :: cs)) (codeC (tFix.cmd :: cs))) else ([], scP (tFix.cmd :: cs))) else ([], 2)) else ([], 1)
theorem fix_1 {cs : List Cmd} (h : isW cs = false) : fixP cs = ([], 1) := by simp [fixP, h]
theorem fix_2 {cs : List Cmd} (h : isW cs = true) (h2 : ozW cs = false) : fixP cs = ([], 2) := by simp [fixP, h, h2]
theorem fix_3 {cs : List Cmd} (h : isW cs = true) (h2 : ozW cs = true) (h3 : scP (tFix.cmd :: cs) ≠ 0) : fixP cs = ([], scP (tFix.cmd :: cs)) := by simp [fixP, h, h2, h3]
theorem fix_4 {cs : List Cmd} (h : isW cs = true) (h2 : ozW cs = true) (h3 : scP (tFix.cmd :: cs) = 0) : fixP cs = fit2 (.node (codeC (tFix.cmd :: cs)) (codeC (tFix.cmd :: cs))) := by simp [fixP, h, h2, h3]
theorem fix_len (cs : List Cmd) : (fixP cs).1.length ≤ 1000000 := by
  unfold fixP
  split
  · split
    · split
      · exact fit2_len _
      · simp
    · simp
  · simp
end Go.Proofs.YtadmbphefpfbmaaGreatDoor
/- Copies of programs, programs behind texts (reference). -/
namespace Go.Proofs.YtadmbphefpfbmaaGreatDoor
open Go.RowKit
set_option linter.unusedVariables false
set_option linter.unusedSimpArgs false
attribute [local go_sem ↓] Go.wp_at_zero Go.wp_at_succ
/-- The expressions of commands, each in a row of its own. -/
def InnR (w : World) (us : List Value) (cs : List Cmd) : Prop := us.length = cs.length ∧ ∀ (i : Nat) (u : Value) (x : Cmd), us[i]? = some u → cs[i]? = some x → ∃ A n c, u = .slice A n c ∧ n ≤ 1000000000 ∧ n ≤ c ∧ w.ownsRow 0 110 2 (.slice A n c) n (ints (eNums x.e))
theorem InnR.ch {w w' : World} {us : List Value} {cs : List Cmd} {F : Nat → Prop} (h : InnR w us cs) (hc : Ch F w w') (hF : ∀ q, F q → ∀ ds, w.heap[q]? = some (.cells ds 110 (0, 0)) → False) : InnR w' us cs := by
  refine ⟨h.1, fun i u x hu hx => ?_⟩
  obtain ⟨A, n, c, e, h1, h2, h3⟩ := h.2 i u x hu hx
  refine ⟨A, n, c, e, h1, h2, own_ch h3 hc (fun q hq hf => ?_)⟩
  obtain ⟨ds, hd⟩ := own_foP h3 hq
  exact hF q hf ds hd
theorem InnR.below {w w' : World} {us : List Value} {cs : List Cmd} (h : InnR w us cs) (hb : Below w.heap.size w w') : InnR w' us cs := h.ch (F := fun _ => False) (ch_below hb) (fun _ hf => hf.elim)
theorem InnR.snoc {w : World} {us : List Value} {cs : List Cmd} {A : Option Addr} {n c : Nat} {x : Cmd} (h : InnR w us cs) (hn : n ≤ 1000000000) (hc : n ≤ c) (ho : w.ownsRow 0 110 2 (.slice A n c) n (ints (eNums x.e))) : InnR w (us ++ [.slice A n c]) (cs ++ [x]) := by
  refine ⟨by simp [h.1], fun i u y hu hy => ?_⟩
  by_cases hi : i < us.length
  · rw [List.getElem?_append_left hi] at hu
    rw [List.getElem?_append_left (by rw [← h.1]; exact hi)] at hy
    exact h.2 i u y hu hy
  · rw [List.getElem?_append_right (by omega)] at hu
    rw [List.getElem?_append_right (by rw [← h.1]; omega), ← h.1] at hy
    have h0 : i - us.length = 0 := by
      have h1 := (List.getElem?_eq_some_iff.1 hu).1
      simp at h1; omega
    rw [h0] at hu hy
    injection hu with hu
    injection hy with hy
    subst hu hy
    exact ⟨A, n, c, rfl, hn, hc, ho⟩
theorem InnR.rdc {w : World} {A : Option Addr} {n : Nat} {us : List Value} {cs : List Cmd} (h : InnR w us cs) (hr : Rd w A (n * 4) (flatC cs us)) : RdC w A n cs :=
  ⟨us, hr, h.1, fun i u x hu hx => by
    obtain ⟨A', n', c', e, h1, h2, h3⟩ := h.2 i u x hu hx
    exact ⟨A', n', c', e, h1, h2, ownN_rd h3⟩⟩
def OwnP2 (w : World) (n : Nat) (cs : List Cmd) (e : Ending) (w' : World) : Prop := ∃ A c us, e = .returned (.slice A n c) ∧ w'.ownsRow w.heap.size 44 4 (.slice A n c) n (flatC cs us) ∧ InnR w' us cs ∧ Below w.heap.size w w'
theorem InnR.one4 {w : World} {us : List Value} {cs : List Cmd} (h : InnR w us cs) : ∀ s ∈ us, s.oneCell' = true := fun s hs => by
  obtain ⟨i, hi, rfl⟩ := List.mem_iff_getElem.1 hs
  obtain ⟨x, hx⟩ := get_some (xs := cs) (k := i) (by rw [← h.1]; exact hi)
  obtain ⟨A', n', c', e, _⟩ := h.2 i _ x (List.getElem?_eq_getElem hi) hx
  rw [e]; rfl
set_option maxHeartbeats 8000000 in
set_option maxRecDepth 100000 in
theorem l22Own_any (w : World) (A : Option Addr) (n c : Nat) (cs : List Cmd) (hr : RdC w A n cs) (hn : n ≤ 1000000) : Calls Tryz.prog 55 #[.slice A n c] w (OwnP2 w n cs) := by
  have HL : Hid (cs.length = n) := Lib.hid hr.len
  have HR := Lib.hid hr; have HN := Lib.hid hn
  obtain ⟨w1, hw1⟩ : ∃ w1, w1 = w.alloc (.cells #[] 44) := ⟨_, rfl⟩
  have hb1 : Below w.heap.size w w1 := by rw [hw1]; exact below_new _ _
  have HB1 := Lib.hid hb1
  have HO1 : Hid (w1.ownsRow w.heap.size 44 4 (.slice (some ⟨w.heap.size, 0, none⟩) 0 0) 0 []) := Lib.hid (by rw [hw1]; exact ownN_lit w #[] 0 4 44 rfl (by omega))
  clear hr hb1
  go_enter Tryz.func55, Tryz.ntmps55
  go_upto_region 2 with fail
  rw [← hw1]
  clear hw1
  go_wp2_with fail
  go_loopw [3, 4] (fun v q wr => ∃ (k : Nat) (A1 : Option Addr) (c1 : Nat) (us : List Value), k ≤ n ∧ q = .int .i64 k ∧ v = .slice A1 k c1 ∧ Hid (wr.ownsRow w.heap.size 44 4 (.slice A1 k c1) k (flatC (cs.take k) us)) ∧ Hid (InnR wr us (cs.take k)) ∧ Hid (Below w.heap.size w wr)) (fun _ q _ => n - (intOf q).toNat)
  case atStart => exact ⟨0, _, _, [], Nat.zero_le _, by go_num, rfl, Lib.hid (by simpa [flatC] using HO1.out), Lib.hid ⟨by simp, by simp⟩, HB1⟩
  case round =>
    clear HO1 HB1
    obtain ⟨k, A1, c1, us, hk, rfl, rfl, HO, HI, HB⟩ := hrel
    by_cases hlt : k < n
    · skip
      obtain ⟨x, hx⟩ := get_some (xs := cs) (k := k) (by rw [HL.out]; exact hlt)
      obtain ⟨b, off, A', n', c', rfl, hbl, q0, q1, q2, q3, hn', hc', hre⟩ := (HR.out.below HB.out (Nat.le_refl _)).at_ hx
      have HT : Hid (cs.take (k + 1) = cs.take k ++ [x]) := Lib.hid (by rw [List.take_add_one, hx]; rfl)
      have HRE := Lib.hid hre; have HN' := Lib.hid hn'; have HC' := Lib.hid hc'
      obtain ⟨xk, xv, xl, xe⟩ := x
      simp only at q0 q1 q2 hre HRE
      obtain ⟨w2, hw2⟩ : ∃ w2, w2 = wr.alloc (.cells #[.int .i64 xk, .int .i64 xv, .int .i64 xl, .slice A' n' c'] 44) := ⟨_, rfl⟩
      have hb2 : Below wr.heap.size wr w2 := by rw [hw2]; exact below_new _ _
      have HX2 : Hid (w2.heap[wr.heap.size]? = some (.cells #[.int .i64 xk, .int .i64 xv, .int .i64 xl, .slice A' n' c'] 44 (0, 0))) := Lib.hid (by rw [hw2]; exact box_new _ _ _)
      have HO2 := Lib.hid (ownN_below HO.out hb2 (Nat.le_refl _))
      have HI2 := Lib.hid (HI.out.below hb2)
      have HB2 : Hid (Below w.heap.size w w2) := Lib.hid (bqcP hb2 HB.out)
      have HRE2 := Lib.hid (HRE.out.below hb2 (Nat.le_refl _))
      have HLT : Hid (∀ q, Fo (.slice A1 k c1) q → q ≠ wr.heap.size) := Lib.hid (fun q hq => by have := (HO.out.lt q hq).2; omega)
      have q3' : w2.cell? ⟨b, off + k * 4 + 3, none⟩ = some (.slice A' n' c') := (hb2.cell (p := ⟨b, off + k * 4 + 3, none⟩) hbl).trans q3
      have q3a : (w2.alloc (.cells #[] 110)).cell? ⟨b, off + k * 4 + 3, none⟩ = some (.slice A' n' c') := ((below_new w2 (.cells #[] 110)).cell (p := ⟨b, off + k * 4 + 3, none⟩) (Nat.lt_of_lt_of_le hbl hb2.size)).trans q3'
      clear hx hn' hc' hre hb2
      have hk0 : (0 : Int) ≤ (k : Int) := by omega
      have hk1 : (k : Int) < (n : Int) := by omega
      go_upto_region 6 with fail
      rw [← hw2]
      clear hw2 q0 q1 q2 q3
      have b3 := blk_cell HX2.out 3 rfl
      go_upto_region 7 with (at_builtin; go_must (refine wpList_appSN eltEl rfl _ _ rfl (w2.alloc (.cells #[] 110)) w2.heap.size (.slice (some ⟨w2.heap.size, 0, none⟩) 0 0) 0 [] (by rfl) (ownN_lit w2 #[] 0 2 110 rfl (by omega)) A' n' c' (ints (eNums xe)) (by rfl) (HRE2.out.alloc _) (ints_one1 _) (by simp) (by have := HN'.out; omega) ?_); rintro A4 c4 w4 ho4 hb4 hg4
                             have HO4 : Hid (w4.ownsRow w2.heap.size 110 2 (.slice A4 (0 + n') c4) (0 + n') (ints (eNums xe))) := Lib.hid (by simpa using ho4)
                             have HB24 : Hid (Below w2.heap.size w2 w4) := Lib.hid ((below_new w2 (.cells #[] 110)).trans hb4)
                             have b3 := blk_cell (blk_bel HX2.out HB24.out) 3 rfl
                             have f3 := blk_free (blk_bel HX2.out HB24.out) 3
                             rw [Nat.zero_add]
                             clear ho4 hb4 hg4)
      have HX4 := Lib.hid (blk_bel HX2.out HB24.out)
      obtain ⟨w5, hw5⟩ : ∃ w5, w5 = w4.setCell ⟨wr.heap.size, 3, none⟩ (.slice A4 n' c4) := ⟨_, rfl⟩
      have hc5 : Ch (· = wr.heap.size) w4 w5 := by rw [hw5]; exact ch_set _ _ _ _
      have HX5 : Hid (w5.heap[wr.heap.size]? = some (.cells #[.int .i64 xk, .int .i64 xv, .int .i64 xl, .slice A4 n' c4] 44 (0, 0))) := Lib.hid (by rw [hw5]; simpa using blk_set HX4.out 3 (.slice A4 n' c4))
      have HO5 := Lib.hid (own_ch (ownN_below HO2.out HB24.out (Nat.le_refl _)) hc5 (fun q hq e => HLT.out q hq e))
      have hty : ∀ q, q = wr.heap.size → ∀ ds, w4.heap[q]? = some (.cells ds 110 (0, 0)) → False := fun q e ds h => by subst e; exact blk_ne HX4.out h (by decide) rfl
      have HI5 := Lib.hid ((HI2.out.below HB24.out).ch hc5 hty)
      have HV5 : Hid (w5.ownsRow 0 110 2 (.slice A4 n' c4) n' (ints (eNums xe))) := Lib.hid (by
        have h7 := HO4.out
        rw [Nat.zero_add] at h7
        exact ownN_base (own_ch h7 hc5 (fun q hq e => by
          obtain ⟨ds, hd⟩ := own_foP h7 hq
          exact hty q e ds hd)) (Nat.zero_le _))
      have HB5 : Hid (Below w.heap.size w w5) := Lib.hid (below_ch (bqcP HB24.out HB2.out) hc5 (fun q e => by rw [show q = wr.heap.size from e]; exact HB.out.size) (by have h1 := HB2.out.size; have h2 := HB24.out.size; omega))
      rw [← hw5]
      clear hw5 hc5 hty
      have b0 := blk_cell HX5.out 0 rfl
      have b1 := blk_cell HX5.out 1 rfl
      have b2 := blk_cell HX5.out 2 rfl
      have b3' := blk_cell HX5.out 3 rfl
      clear b3 f3 q3' q3a
      have HKN : Hid (k ≤ 1099511627776) := Lib.hid (by have := HN.out; omega)
      have hnn := HN.out
      go_wp2_with (at_builtin; go_must (refine wpList_app1N eltCm rfl _ _ rfl w5 w.heap.size (.slice A1 k c1) k _ (by rfl) HO5.out #[.int .i64 xk, .int .i64 xv, .int .i64 xl, .slice A4 n' c4] rfl (by intro y hy; simp at hy; rcases hy with rfl | rfl | rfl | rfl <;> rfl) (by rfl) HB5.out.size HKN.out ?_); rintro A7 c7 w7 ho7 hb7 hg7
                   have HO7 := Lib.hid ho7
                   have hty : ∀ q, (Value.slice A1 k c1).ownBlock = some q → ∀ ds, w5.heap[q]? = some (.cells ds 110 (0, 0)) → False := fun q e ds h => by
                     obtain ⟨es, h1⟩ := own_foP HO5.out (show Fo _ q from e)
                     exact blk_ne h1 h (by decide) rfl
                   have HI7 := Lib.hid (HI5.out.ch (ch_row hg7) (fun q e ds h => hty q e ds h))
                   have HV7 := Lib.hid (own_ch HV5.out (ch_row hg7) (fun q hq e => by
                     obtain ⟨ds, hd⟩ := own_foP HV5.out hq
                     exact hty q e ds hd))
                   have HB7 : Hid (Below w.heap.size w w7) := Lib.hid (HB5.out.trans hb7)
                   clear ho7 hb7 hg7 hty)
      have HIS : Hid (InnR w7 (us ++ [.slice A4 n' c4]) (cs.take (k + 1))) := Lib.hid (by rw [HT.out]; exact HI7.out.snoc HN'.out (ownN_cap HV7.out) HV7.out)
      have HOS : Hid (w7.ownsRow w.heap.size 44 4 (.slice A7 (k + 1) c7) (k + 1) (flatC (cs.take (k + 1)) (us ++ [.slice A4 n' c4]))) := Lib.hid (by
        have h7 := HO7.out
        rw [HT.out, flatC_append _ _ _ _ HI7.out.1]
        exact h7)
      go_roundw
      case rel => exact ⟨k + 1, A7, c7, _, by omega, by go_num, rfl, HOS, HIS, HB7⟩
      case measure => simp [intOf]; omega
    · skip
      have hkn : k = n := by omega
      subst hkn
      have HE : Hid (cs.take k = cs) := Lib.hid (List.take_of_length_le (by rw [HL.out]; omega))
      go_wp2_with fail
      go_ret
      have h1 := HO.out
      have h2 := HI.out
      rw [HE.out] at h1 h2
      exact ⟨A1, c1, us, rfl, h1, h2, HB.out⟩
end Go.Proofs.YtadmbphefpfbmaaGreatDoor
/- Packages of the recursion theorem (reference). -/
namespace Go.Proofs.YtadmbphefpfbmaaGreatDoor
open Go.RowKit
set_option linter.unusedVariables false
set_option linter.unusedSimpArgs false
attribute [local go_sem ↓] Go.wp_at_zero Go.wp_at_succ
set_option maxHeartbeats 2000000 in
set_option maxRecDepth 100000 in
theorem l24Before_any (x : Tx) (s : ByteArray) (hs : SrcOk x s) (w : World) (A : Option Addr) (n c : Nat) (cs : List Cmd) (hr : RdC w A n cs) (hn : n ≤ 1000000) :
    Calls Tryz.prog 24 #[.string s, .slice A n c] w (fun e w' => ∃ A' c', e = .returned (.slice A' (1 + n) c') ∧ RdC w' A' (1 + n) (x.cmd :: cs) ∧ 1 + n ≤ c' ∧ Below w.heap.size w w') := by
  have HT := Lib.hid (l24Text_any x s hs w)
  have HXL : Hid (x.els.length ≤ 1000000000) := Lib.hid (by have h1 := x.els_rn; have h2 := hs.l2; omega)
  have HOW := Lib.hid (fun (w2 : World) (hb : Below w.heap.size w w2) => l22Own_any w2 A n c cs (hr.below hb (Nat.le_refl _)) hn)
  have HN : Hid (1 + n ≤ 1099511627776) := Lib.hid (by omega)
  clear hs hr hn
  go_enter Tryz.func24, Tryz.ntmps24
  go_wp2_with (first
    | (go_at_call 30
       refine HT.out.mono ?_
       rintro e w2 ⟨A2, c2, rfl, hcm, hb2⟩
       have HCM := Lib.hid hcm; have HB2 := Lib.hid hb2
       clear hcm hb2)
    | (go_at_call 55
       refine (HOW.out w2 HB2.out).mono ?_
       rintro e w3 ⟨A3, c3, us, rfl, ho3, hi3, hb3⟩
       have HO3 := Lib.hid ho3; have HI3 := Lib.hid hi3
       have HCM3 := Lib.hid (HCM.out.below hb3)
       have HB3 : Hid (Below w.heap.size w w3) := Lib.hid (bqcP hb3 HB2.out)
       clear ho3 hi3 hb3)
    | (at_builtin
       obtain ⟨Av, cv, hc1, hc2⟩ := HCM3.out
       refine wpList_appSN eltCm rfl _ _ rfl w3 w.heap.size (.slice A2 1 c2) 1 _ (by rfl) hc1 A3 n c3 _ (by rfl) (ownN_rd HO3.out) (flatC_one _ _ HI3.out.one4) HB3.out.size HN.out ?_
       rintro A4 c4 w4 ho4 hb4 hg4
       have HB4 : Hid (Below w.heap.size w w4) := Lib.hid (HB3.out.trans hb4)
       have HC4 : Hid (1 + n ≤ c4) := Lib.hid (ownN_cap ho4)
       have HJ : Hid (RdC w4 A4 (1 + n) (x.cmd :: cs)) := Lib.hid (by
         have hi4 : InnR w4 us cs := HI3.out.ch (ch_row hg4) (fun q e ds h => by
           obtain ⟨es, h1⟩ := own_foP hc1 (show Fo _ q from e)
           exact blk_ne h1 h (by decide) rfl)
         have hv4 := own_ch hc2 (ch_row hg4) (fun q h1 h2 => own_types hc2 hc1 (by decide) q h1 h2)
         refine rdc_join (cs := [x.cmd]) (ds := cs) (ss := [.slice Av x.els.length cv]) (ts := us) (ownN_rd ho4) rfl hi4.1 (fun i u y hu hy => ?_) (fun i u y hu hy => ?_)
         · match i, hu, hy with
           | 0, hu, hy => injection hu with hu; injection hy with hy; subst hu hy; exact ⟨_, _, _, rfl, HXL.out, ownN_cap hv4, ownN_rd hv4⟩
           | i + 1, hu, hy => simp at hu
         · obtain ⟨A', n', c', e, k1, k2, k3⟩ := hi4.2 i u y hu hy
           exact ⟨A', n', c', e, k1, k2, ownN_rd k3⟩)
       clear ho4 hb4 hg4 hc1 hc2))
  go_ret
  exact ⟨A4, c4, rfl, HJ.out, HC4.out, HB4.out⟩
def l24P (cs : List Cmd) : List Bool × Int := if isW cs then cdwP cs else ([], 5)
theorem l24_len (cs : List Cmd) : (l24P cs).1.length ≤ 1000000 := by
  unfold l24P
  split
  · exact cdw_len cs
  · simp
set_option maxHeartbeats 1000000 in
theorem l24Code_any (w : World) (A : Option Addr) (n c : Nat) (cs : List Cmd) (hr : RdC w A n cs) (hn : n ≤ 1099511627776) :
    Calls Tryz.prog 73 #[.slice A n c] w (RetSI w 4 (bools (l24P cs).1) (l24P cs).2) := by
  have HV := l22IsX_any w A n c cs hr hn
  cases hW : isW cs with
  | false =>
    rw [hW] at HV
    have HO : Hid (l24P cs = ([], 5)) := Lib.hid (by simp [l24P, hW])
    clear hr hW
    go_enter Tryz.func73, Tryz.ntmps73
    go_wp2_with (go_at_call 56; refine HV.mono ?_; rintro e w2 ⟨rfl, hb2⟩)
    go_ret2
    rw [HO.out]
    exact ⟨none, 0, 0, rfl, own_nil _ _ _, hb2⟩
  | true =>
    rw [hW] at HV
    have HO : Hid (l24P cs = cdwP cs) := Lib.hid (by simp [l24P, hW])
    replace HV := Lib.hid HV
    have HC := Lib.hid (fun (w2 : World) (hb : Below w.heap.size w w2) => specCodeWhile_any w2 A n c cs (hr.below hb (Nat.le_refl _)) hn)
    clear hr hW
    go_enter Tryz.func73, Tryz.ntmps73
    go_wp2_with (first
      | (go_at_call 56; refine HV.out.mono ?_; rintro e w2 ⟨rfl, hb2⟩; have HB2 := Lib.hid hb2; clear hb2)
      | (go_at_call 112
         refine (HC.out w2 HB2.out).mono ?_
         rintro e w3 ⟨A3, n3, c3, rfl, ho3, hb3⟩
         have HO3 := Lib.hid ho3
         have HB3 := Lib.hid (bqcP hb3 HB2.out)
         clear ho3 hb3))
    go_ret2
    rw [HO.out]
    exact ⟨A3, n3, c3, rfl, own_base HO3.out HB2.out.size, HB3.out⟩
def sfixP (cs : List Cmd) : List Bool × Int := if (l24P (tFix.cmd :: cs)).2 = 0 then fit2 (.node (codeC (tFix.cmd :: cs)) (codeC (tFix.cmd :: cs))) else ([], (l24P (tFix.cmd :: cs)).2)
theorem l24_zero {cs : List Cmd} (h : (l24P cs).2 = 0) : (l24P cs).1 = (codeC cs).bits ∧ (codeC cs).nodes ≤ 2000 := by
  unfold l24P at h ⊢
  split at h
  · rename_i hw
    rw [if_pos hw]
    have h2 := cdw_zero h
    exact ⟨by rw [h2.1], h2.2⟩
  · cases h
theorem sfix_eq {cs : List Cmd} (h : isW cs = true) (h2 : ozW cs = true) : sfixP cs = fixP cs := by
  have h3 : (l24P (tFix.cmd :: cs)).2 = scP (tFix.cmd :: cs) := by
    have hok : okC (tFix.cmd :: cs) = true := by
      simp [isW] at h
      rw [okC_set (Tx.wf (by decide)) rfl, h.2]; rfl
    unfold l24P scP isW
    rw [hok]
    by_cases hl : (tFix.cmd :: cs).length ≤ 80
    · rw [if_pos (by simp only [decide_eq_true hl, Bool.and_self]), if_pos hl]
    · rw [if_neg (by simp only [decide_eq_false hl, Bool.false_and]; decide), if_neg hl]
  unfold sfixP
  by_cases h0 : scP (tFix.cmd :: cs) = 0
  · rw [fix_4 h h2 h0, if_pos (by rw [h3]; exact h0)]
  · rw [fix_3 h h2 h0, if_neg (by rw [h3]; exact h0), h3]
end Go.Proofs.YtadmbphefpfbmaaGreatDoor
/- PlainPackage: the program and the reference. -/
namespace Go.Proofs.YtadmbphefpfbmaaGreatDoor
open Go.RowKit
set_option linter.unusedVariables false
set_option linter.unusedSimpArgs false
attribute [local go_sem ↓] Go.wp_at_zero Go.wp_at_succ
def plainP (cs : List Cmd) : List Bool × Int := if isW cs then (if ozW cs then pkP (tPlain.cmd :: cs) .nil else ([], 2)) else ([], 1)
theorem plain_1 {cs : List Cmd} (h : isW cs = false) : plainP cs = ([], 1) := by simp [plainP, h]
theorem plain_2 {cs : List Cmd} (h : isW cs = true) (h2 : ozW cs = false) : plainP cs = ([], 2) := by simp [plainP, h, h2]
theorem plain_3 {cs : List Cmd} (h : isW cs = true) (h2 : ozW cs = true) : plainP cs = pkP (tPlain.cmd :: cs) .nil := by simp [plainP, h, h2]
theorem plain_len (cs : List Cmd) : (plainP cs).1.length ≤ 1000000 := by
  unfold plainP
  split
  · split
    · exact pk_len _ _
    · simp
  · simp
set_option maxHeartbeats 1000000 in
theorem l24Make_no (w : World) (A : Option Addr) (n c : Nat) (cs : List Cmd) (hr : RdC w A n cs) (hn : n ≤ 1099511627776) (hv : isW cs = false) (d : Value) : Calls Tryz.prog 45 #[.slice A n c, d] w (RetSI w 4 [] 5) := by
  have HC := Lib.hid (l24Code_any w A n c cs hr hn)
  have HO : Hid (l24P cs = ([], 5)) := Lib.hid (by simp [l24P, hv])
  clear hr hv
  go_enter Tryz.func45, Tryz.ntmps45
  go_wp2_with (go_at_call 73; refine HC.out.mono ?_; rw [HO.out]; rintro e w2 ⟨A2, n2, c2, rfl, ho2, hb2⟩; have HB2 := Lib.hid hb2; clear ho2 hb2)
  go_ret2
  exact ⟨none, 0, 0, rfl, own_nil _ _ _, HB2.out⟩
theorem isW_long {x : Tx} {cs : List Cmd} (hx : x.els.length ≤ 40) (h : isW cs = true) : isW (x.cmd :: cs) = decide ((x.cmd :: cs).length ≤ 80) := by
  have hok : okC (x.cmd :: cs) = true := by
    have h2 := (isW_ok h).2
    rw [okC_set (Tx.wf hx) rfl, h2]; rfl
  unfold isW
  rw [hok, Bool.and_true]
set_option maxHeartbeats 4000000 in
set_option maxRecDepth 100000 in
theorem makeAny_any (w : World) (A : Option Addr) (n c : Nat) (x : Tx) (cs : List Cmd) (hx : x.els.length ≤ 40) (hr : RdC w A n (x.cmd :: cs)) (hn : n ≤ 1000000) (hv : isW cs = true) (A1 : Option Addr) (n1 c1 : Nat) (d : Tr) (hd : Rd w A1 n1 (bools d.bits)) (hdn : d.nodes ≤ 900000) :
    Calls Tryz.prog 45 #[.slice A n c, .slice A1 n1 c1] w (RetSI w 4 (bools (pkP (x.cmd :: cs) d).1) (pkP (x.cmd :: cs) d).2) := by
  have hl := isW_long hx hv
  by_cases h80 : (x.cmd :: cs).length ≤ 80
  · exact l24Make_any w A n c _ hr (by omega) (by rw [hl]; exact decide_eq_true h80) A1 n1 c1 d hd hdn
  · rw [pk_long h80]
    exact l24Make_no w A n c _ hr (by omega) (by rw [hl]; exact decide_eq_false h80) _
end Go.Proofs.YtadmbphefpfbmaaGreatDoor
/- SpecializePackage: the program and the reference. -/
namespace Go.Proofs.YtadmbphefpfbmaaGreatDoor
open Go.RowKit
set_option linter.unusedVariables false
set_option linter.unusedSimpArgs false
attribute [local go_sem ↓] Go.wp_at_zero Go.wp_at_succ
theorem ok_tSpec : TxtOk tSpec ⟨#[48, 61, 40, 104, 104, 48, 46, 40, 116, 104, 48, 46, 116, 48, 41, 41]⟩ := ⟨by kernel_rfl, by kernel_rfl, by decide, by decide⟩
theorem src_tSpec : SrcOk tSpec ⟨#[48, 61, 40, 104, 104, 48, 46, 40, 116, 104, 48, 46, 116, 48, 41, 41]⟩ := ⟨by kernel_rfl, by decide, by decide⟩
theorem op_isW {t : Tr} (h : opOk t = true) : isW (opProg t) = true := by
  cases t with
  | nil => simp [opOk] at h
  | node a b =>
    simp only [opOk, decide_eq_true_eq] at h
    simp only [opProg]
    unfold pot at h ⊢
    split
    · rename_i hz; rw [hz] at h; simp at h
    · rename_i z hz
      rw [hz] at h
      simp only at h
      split
      · assumption
      · rename_i hw; rw [if_neg hw] at h; simp at h
theorem tl_nodes {t : Tr} (h : t.nodes ≤ 2000) : t.tl.nodes ≤ 2000 := by
  cases t with
  | nil => simp [Tr.tl, Tr.nodes]
  | node a b => simp only [Tr.tl, Tr.nodes] at h ⊢; omega
theorem opd_tl {t : Tr} (h : opOk t = true) : opData t = t.tl.bits := by
  cases t with
  | nil => simp [opOk] at h
  | node a b => rfl
theorem prc1 (bs : List Bool) : prcC 0 [bs] = if isTr bs then (if opOk (treeB bs) then 0 else 9) else 1 := by
  simp only [prcC, allTr, List.all_cons, List.all_nil, Bool.and_true, List.map_cons, List.map_nil, if_true]
theorem RdB.lit2 {w : World} {A A' : Option Addr} {n c n' c' : Nat} {xs ys : List Bool} (h : Rd w A n (bools xs)) (hn : n ≤ 1000000000) (h' : Rd w A' n' (bools ys)) (hn' : n' ≤ 1000000000) : RdB (w.alloc (.cells #[.slice A n c, .slice A' n' c'] 22)) (some ⟨w.heap.size, 0, none⟩) 2 [xs, ys] := by
  refine ⟨[.slice A n c, .slice A' n' c'], own_rd (own_lit w #[.slice A n c, .slice A' n' c'] 2 22 rfl (by omega)), rfl, fun i v zs hv hy => ?_⟩
  match i, hv, hy with
  | 0, hv, hy => simp at hv hy; subst hv hy; exact ⟨A, n, c, rfl, hn, h.alloc _⟩
  | 1, hv, hy => simp at hv hy; subst hv hy; exact ⟨A', n', c', rfl, hn', h'.alloc _⟩
  | i + 2, hv, hy => simp at hv
theorem RdC.drew {w : World} {A : Option Addr} {n : Nat} {cs : List Cmd} (h : RdC w A n cs) : RdC w.drew A n cs := h.below (below_drew1 (Below.refl w.heap.size w)) (Nat.le_refl _)
def speP (bs ds : List Bool) : List Bool × Int := if isTr bs && isTr ds then (if opOk (treeB bs) then pkP (tSpec.cmd :: opProg (treeB bs)) (.node (treeB bs).tl (treeB ds)) else ([], 9)) else ([], 1)
theorem spe_1 {bs ds : List Bool} (h : (isTr bs && isTr ds) = false) : speP bs ds = ([], 1) := by unfold speP; rw [h]; rfl
theorem spe_9 {t d : Tr} (h : t.nodes ≤ 2000) (h2 : d.nodes ≤ 2000) (ho : opOk t = false) : speP t.bits d.bits = ([], 9) := by unfold speP; rw [isTr_bits h, isTr_bits h2, treeB_bits, ho]; rfl
theorem spe_0 {t d : Tr} (h : t.nodes ≤ 2000) (h2 : d.nodes ≤ 2000) (ho : opOk t = true) : speP t.bits d.bits = pkP (tSpec.cmd :: opProg t) (.node t.tl d) := by unfold speP; rw [isTr_bits h, isTr_bits h2, treeB_bits, treeB_bits, ho]; rfl
theorem spe_len (bs ds : List Bool) : (speP bs ds).1.length ≤ 1000000 := by
  unfold speP
  split
  · split
    · exact pk_len _ _
    · simp
  · simp
end Go.Proofs.YtadmbphefpfbmaaGreatDoor
