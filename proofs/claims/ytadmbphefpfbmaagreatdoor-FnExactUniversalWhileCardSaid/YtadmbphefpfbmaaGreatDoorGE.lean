/- Texts in one file: EqT, HdS, TagO, BackM, AppN, AppN2, Cat, BackS. -/
import Derived.Test.YtadmbphefpfbmaaGreatDoorGD
import Derived.LaidEqlPtr
import Derived.Test.YtadmbphefpfbmaaGreatDoorGA
import Derived.Deep.RegionLaw
import Derived.Lib.AppendZerosOnto
import Derived.Lib.SliceRun
/- Whether two trees of pointers are equal; head and tail. -/
namespace Go.Proofs.YtadmbphefpfbmaaGreatDoor
open Go.RowKit
set_option linter.unusedVariables false
set_option linter.unusedSimpArgs false
theorem IsT.det {w : World} {lo hi lo2 hi2 : Nat} : ∀ {t u : Tr} {v : Value}, IsT w lo hi v t → IsT w lo2 hi2 v u → t = u
  | .nil, .nil, _, _, _ => rfl
  | .nil, .node _ _, _, h, ⟨b, vh, vt, e, _⟩ => by
    have h' : _ = Value.pointer none := h
    rw [h'] at e
    simp at e
  | .node _ _, .nil, _, ⟨b, vh, vt, e, _⟩, h => by
    have h' : _ = Value.pointer none := h
    rw [h'] at e
    simp at e
  | .node a b, .node c d, _, ⟨g, vh, vt, e, _, _, h3, h4, h5⟩, ⟨g', vh', vt', e', _, _, h3', h4', h5'⟩ => by
    rw [e] at e'
    obtain rfl : g = g' := by simpa using e'
    rw [h3] at h3'
    have e1 : vh = vh' := by simp at h3'; exact h3'.1
    have e2 : vt = vt' := by simp at h3'; exact h3'.2.1
    subst e1 e2
    rw [h4.det h4', h5.det h5']
def Tr.hd : Tr → Tr
  | .nil => .nil
  | .node a _ => a
def Tr.tl : Tr → Tr
  | .nil => .nil
  | .node _ a => a
theorem infoTree : ∃ j, Tryz.prog.info? 141 = some j ∧ j.size ≠ 0 := by
  have h : (Tryz.prog.info? 141).map (fun i => i.size) = some 3 := by kernel_rfl
  cases hq : Tryz.prog.info? 141 with
  | none => rw [hq] at h; cases h
  | some j => rw [hq] at h; exact ⟨j, rfl, by simp at h; omega⟩
theorem eqp_nil (w : World) (a : Addr) : (binOp .eql 72 (.pointer none) (.pointer (some a))).run Tryz.prog w = .ok (.bool false) w := by
  have h : ∀ d : Nat, (Op.equalIn (d + 1) 72 (.pointer none) (.pointer (some a))).run Tryz.prog w = .ok false w := fun d => by
    simp [Op.equalIn, run_underlying Tryz.underlying72]
  simp only [binOp]
  simp [Op.equal, Op.maxDepth, h 9999]
theorem eqp_same (w : World) (a : Addr) : (binOp .eql 72 (.pointer (some a)) (.pointer (some a))).run Tryz.prog w = .ok (.bool true) w := by
  obtain ⟨j, hj, _⟩ := infoTree
  exact run_eql_ptr_same w a Tryz.underlying72 hj
theorem eqp_other (w : World) (b b' : Nat) {ca cb : Array Value} {ta tb : TypeId} (hne : b ≠ b') (ha : w.heap[b]? = some (.cells ca ta (0, 0))) (hb : w.heap[b']? = some (.cells cb tb (0, 0))) : (binOp .eql 72 (.pointer (some ⟨b, 0, none⟩)) (.pointer (some ⟨b', 0, none⟩))).run Tryz.prog w = .ok (.bool false) w := by
  obtain ⟨j, hj, hs⟩ := infoTree
  exact run_eql_ptr_other w Tryz.underlying72 hj hs (by intro e; cases e; exact hne rfl) ha hb
theorem IsT.blk {w : World} {lo hi b : Nat} {l r : Tr} (h : IsT w lo hi (.pointer (some ⟨b, 0, none⟩)) (.node l r)) : ∃ cs, w.heap[b]? = some (.cells cs 141 (0, 0)) := by
  obtain ⟨b', vh, vt, e, _, _, h3, _⟩ := h
  obtain rfl : b = b' := by simpa using e
  exact ⟨_, h3⟩
theorem Tr.beq_self (t : Tr) : t.beq t = true := (Tr.beq_iff t t).2 rfl
theorem Tr.beq_nodes {t u : Tr} (h : t.nodes ≠ u.nodes) : t.beq u = false := by
  cases hb : t.beq u with
  | false => rfl
  | true => exact absurd (by rw [(Tr.beq_iff t u).1 hb]) h
set_option maxHeartbeats 2000000 in
theorem headOf_any (w : World) (lo hi : Nat) (v : Value) (t : Tr) (h : IsT w lo hi v t) : Calls Tryz.prog 191 #[v] w fun e w' => (∃ v', e = .returned v' ∧ IsT w lo hi v' t.hd) ∧ w = w' := by
  rcases h.ptr with ⟨rfl, rfl⟩ | ⟨b, vh, vt, h', t', rfl, rfl, _, _, c0, c1, c2, hh, ht⟩
  · go_enter Tryz.func191, Tryz.ntmps191
    go_wp2_with fail
    go_ret
    exact ⟨⟨_, rfl, rfl⟩, rfl⟩
  · obtain ⟨o1, rfl⟩ := hh.isPtr
    obtain ⟨o2, rfl⟩ := ht.isPtr
    clear c2 h
    go_enter Tryz.func191, Tryz.ntmps191
    go_wp2_with fail
    go_ret
    exact ⟨⟨_, rfl, hh⟩, rfl⟩
set_option maxHeartbeats 2000000 in
theorem tailOf_any (w : World) (lo hi : Nat) (v : Value) (t : Tr) (h : IsT w lo hi v t) : Calls Tryz.prog 192 #[v] w fun e w' => (∃ v', e = .returned v' ∧ IsT w lo hi v' t.tl) ∧ w = w' := by
  rcases h.ptr with ⟨rfl, rfl⟩ | ⟨b, vh, vt, h', t', rfl, rfl, _, _, c0, c1, c2, hh, ht⟩
  · go_enter Tryz.func192, Tryz.ntmps192
    go_wp2_with fail
    go_ret
    exact ⟨⟨_, rfl, rfl⟩, rfl⟩
  · obtain ⟨o1, rfl⟩ := hh.isPtr
    obtain ⟨o2, rfl⟩ := ht.isPtr
    clear c2 h
    go_enter Tryz.func192, Tryz.ntmps192
    go_wp2_with fail
    go_ret
    exact ⟨⟨_, rfl, ht⟩, rfl⟩
def EqP (w : World) (q : Bool) (e : Ending) (w' : World) : Prop := e = .returned (.bool q) ∧ ∃ m, w' = w.drewN m
set_option maxHeartbeats 4000000 in
set_option maxRecDepth 100000 in
theorem equal_q : ∀ (t u : Tr) (w : World) (lo hi : Nat) (v v' : Value), IsT w lo hi v t → IsT w lo hi v' u → hi ≤ w.heap.size → Calls Tryz.prog 193 #[v, v'] w (EqP w (t.beq u)) := by
  intro t
  induction t with
  | nil =>
    intro u w lo hi v v' h h' hhi
    obtain rfl : v = .pointer none := h
    rcases h'.ptr with ⟨rfl, rfl⟩ | ⟨b, vh, vt, a, a', rfl, rfl, _, hb2, c0, c1, c2, hh, ht⟩
    · go_enter Tryz.func193, Tryz.ntmps193
      go_wp2_with fail
      go_ret
      exact ⟨rfl, 0, rfl⟩
    · have hrun := eqp_nil w ⟨b, 0, none⟩
      clear h' c0 c1 c2
      go_enter Tryz.func193, Tryz.ntmps193
      go_wp2_with fail
      go_quiet (fail)
      go_wp2_with fail
      go_ret
      exact ⟨rfl, _, rfl⟩
  | node l r ihl ihr =>
    intro u w lo hi v v' h h' hhi
    rcases h.ptr with ⟨_, h0⟩ | ⟨b, vh, vt, a1, a2, rfl, hq, hb1, hb2, c0, c1, c2, hh, ht⟩
    · cases h0
    cases hq
    rcases h'.ptr with ⟨rfl, rfl⟩ | ⟨b', vh', vt', a, a', rfl, rfl, hb1', hb2', d0, d1, d2, hh', ht'⟩
    · clear h h' c0 c1 c2
      go_enter Tryz.func193, Tryz.ntmps193
      go_wp2_with fail
      go_quiet (fail)
      go_wp2_with fail
      go_ret
      exact ⟨rfl, _, rfl⟩
    · by_cases hbb : b = b'
      · subst hbb
        have HQ : Hid ((Tr.node l r).beq (.node a a') = true) := Lib.hid ((Tr.beq_iff _ _).2 (h.det h'))
        have hrun := eqp_same w ⟨b, 0, none⟩
        clear c0 c1 c2 d0 d1 d2 h h'
        go_enter Tryz.func193, Tryz.ntmps193
        go_wp2_with fail
        go_ret
        exact ⟨by rw [HQ.out]; rfl, 0, rfl⟩
      · obtain ⟨o1, rfl⟩ := hh.isPtr
        obtain ⟨o2, rfl⟩ := ht.isPtr
        obtain ⟨o3, rfl⟩ := hh'.isPtr
        obtain ⟨o4, rfl⟩ := ht'.isPtr
        obtain ⟨cs1, hk1⟩ := h.blk
        obtain ⟨cs2, hk2⟩ := h'.blk
        have hrun := eqp_other w b b' hbb hk1 hk2
        clear hk1 hk2
        by_cases hN : (Tr.node l r).nodes = (Tr.node a a').nodes
        · rw [← hN] at d2
          generalize (Tr.node l r).nodes = N at c2 d2
          have HC1 : Hid (∀ w0, (∃ k, w0 = w.drewN k) → ∀ n, Calls Tryz.prog 193 #[.pointer o1, .pointer o3] (w0.drewN n) (EqP (w0.drewN n) (l.beq a))) := Lib.hid (by
            rintro _ ⟨k, rfl⟩ n
            exact ihl a _ lo hi _ _ (IsT.keep (w := w) (w' := (w.drewN k).drewN n) (fun _ _ _ => rfl) hh) (IsT.keep (w := w) (w' := (w.drewN k).drewN n) (fun _ _ _ => rfl) hh') hhi)
          have HC2 : Hid (∀ w0, (∃ k, w0 = w.drewN k) → ∀ n, Calls Tryz.prog 193 #[.pointer o2, .pointer o4] (w0.drewN n) (EqP (w0.drewN n) (r.beq a'))) := Lib.hid (by
            rintro _ ⟨k, rfl⟩ n
            exact ihr a' _ lo hi _ _ (IsT.keep (w := w) (w' := (w.drewN k).drewN n) (fun _ _ _ => rfl) ht) (IsT.keep (w := w) (w' := (w.drewN k).drewN n) (fun _ _ _ => rfl) ht') hhi)
          have HQ : Hid ((Tr.node l r).beq (.node a a') = (l.beq a && r.beq a')) := Lib.hid rfl
          clear ihl ihr hN h h' hh hh' ht ht'
          generalize r.beq a' = q2 at HC2 HQ
          generalize l.beq a = q1 at HC1 HQ
          cases q1
          all_goals
            go_enter Tryz.func193, Tryz.ntmps193
            go_wp2_with fail
            go_quiet (fail)
            go_wp2_with fail
            have k0 : (w.drewN nq).cell? ⟨b, 0, none⟩ = some (.pointer o1) := c0
            have k1 : (w.drewN nq).cell? ⟨b, 1, none⟩ = some (.pointer o2) := c1
            have l0 : (w.drewN nq).cell? ⟨b', 0, none⟩ = some (.pointer o3) := d0
            have l1 : (w.drewN nq).cell? ⟨b', 1, none⟩ = some (.pointer o4) := d1
            clear c0 c1 d0 d1 c2 d2 hrun
            obtain ⟨w0, hw0⟩ : ∃ w0, w0 = w.drewN nq := ⟨_, rfl⟩
            rw [← hw0] at k0 k1 l0 l1 ⊢
            have HK1 := Lib.hid (fun n => Calls.quiet_of (HC1.out w0 ⟨nq, hw0⟩ n))
            have HK2 := Lib.hid (fun n => Calls.quiet_of (HC2.out w0 ⟨nq, hw0⟩ n))
            clear HC1 HC2
            have HW := Lib.hid hw0
            clear hw0
            go_quiet (first
              | (go_at_call 193; with_reducible exact HK1.out _)
              | (go_at_call 193; with_reducible exact HK2.out _))
            go_wp2_with fail
            go_ret
            exact ⟨by rw [HQ.out]; rfl, by rw [HW.out, World.drewN_drewN]; exact ⟨_, rfl⟩⟩
        · have HQ : Hid ((Tr.node l r).beq (.node a a') = false) := Lib.hid (Tr.beq_nodes hN)
          have hN' : ((((Tr.node l r).nodes : Nat) : Int) != (((Tr.node a a').nodes : Nat) : Int)) = true := by simp; omega
          have hN2 : ¬ (((Tr.node l r).nodes : Nat) : Int) = (((Tr.node a a').nodes : Nat) : Int) := by omega
          generalize (Tr.node l r).nodes = N1 at *
          generalize (Tr.node a a').nodes = N2 at *
          clear h h'
          go_enter Tryz.func193, Tryz.ntmps193
          go_wp2_with fail
          go_quiet (fail)
          go_wp2_with fail
          go_ret
          exact ⟨by rw [HQ.out]; rfl, _, rfl⟩
theorem equal_any (t u : Tr) (w : World) (lo hi : Nat) (v v' : Value) (h : IsT w lo hi v t) (h' : IsT w lo hi v' u) (hhi : hi ≤ w.heap.size) : Calls Tryz.prog 193 #[v, v'] w (RetV w (.bool (t.beq u))) :=
  (equal_q t u w lo hi v v' h h' hhi).mono fun e w' ⟨h1, m, h2⟩ => ⟨h1, by rw [h2]; exact below_drewN (Below.refl _ _)⟩
end Go.Proofs.YtadmbphefpfbmaaGreatDoor
/- The reference's head, tail, comparison, tag of a tree of bits. -/
namespace Go.Proofs.YtadmbphefpfbmaaGreatDoor
open Go.RowKit
set_option linter.unusedVariables false
set_option linter.unusedSimpArgs false
theorem endAt_part {bs : List Bool} {k : Nat} {s : Tr} {r : List Bool} (h : bs.drop k = s.bits ++ r) (hk : k ≤ bs.length) : endAt bs k = (k + s.nodes, true) ∧ k + s.nodes ≤ bs.length := by
  have hd : bs.drop (k + s.nodes) = r := by rw [← List.drop_drop, h, ← s.bits_len]; simp
  have hl : (bs.drop k).length = s.nodes + r.length := by rw [h]; simp [Tr.bits_len]
  simp only [List.length_drop] at hl
  refine ⟨endAt_some ?_ (by omega), by omega⟩
  rw [h, scan_bits, hd]
  cases r <;> rfl
/-- A part of a slice that is read. -/
theorem rd_part {w : World} {b off n i j : Nat} {vs : List Value} (hr : Rd w (some ⟨b, off, none⟩) n vs) (hij : i ≤ j) (hj : j ≤ n) : Rd w (some ⟨b, off + i, none⟩) (j - i) ((vs.drop i).take (j - i)) := by
  have hl := hr.1
  refine ⟨by simp; omega, fun hn => ?_⟩
  obtain ⟨b', off', e, hb, hc⟩ := hr.2 (by omega)
  obtain ⟨rfl, rfl⟩ : b = b' ∧ off = off' := by simpa using e
  refine ⟨b, off + i, rfl, hb, fun k u hu => ?_⟩
  have h1 : vs[i + k]? = some u := by
    rw [List.getElem?_take] at hu
    split at hu
    · rwa [List.getElem?_drop] at hu
    · cases hu
  have := hc _ _ h1
  rwa [← Nat.add_assoc] at this
theorem node_cut (a b : Tr) : ((bools (Tr.node a b).bits).drop 1).take a.nodes = bools a.bits ∧ ((bools (Tr.node a b).bits).drop (1 + a.nodes)).take b.nodes = bools b.bits := by
  have e : bools (Tr.node a b).bits = .bool true :: (bools a.bits ++ bools b.bits) := by simp [Tr.bits]
  have l1 : (bools a.bits).length = a.nodes := by simp [Tr.bits_len]
  have l2 : (bools b.bits).length = b.nodes := by simp [Tr.bits_len]
  rw [e]
  constructor
  · rw [List.drop_succ_cons, List.drop_zero, List.take_append_of_le_length (by omega), List.take_of_length_le (by omega)]
  · rw [Nat.add_comm, List.drop_succ_cons, ← l1, List.drop_left, List.take_of_length_le (by omega)]
set_option maxHeartbeats 400000 in
theorem l21Own_any (w : World) (A : Option Addr) (n c : Nat) (xs : List Bool) (hr : Rd w A n (bools xs)) (hn : n ≤ 1000000000) :
    Calls Tryz.prog 53 #[.slice A n c] w (RetS w 4 (bools xs)) := by
  have hown := own_lit w #[] 0 4 rfl (by omega)
  go_enter Tryz.func53, Tryz.ntmps53
  go_wp2_with (at_builtin; go_must (refine wpList_appS eltB rfl _ _ rfl (w.alloc (.cells #[] 4)) w.heap.size _ 0 _ (by rfl) hown _ n c (bools xs) (by rfl) (hr.alloc _) (bools_one _) (by simp) (by omega) ?_); rintro A1 c1 w1 hown1 hb1)
  go_ret
  simp only [Nat.zero_add, List.nil_append] at hown1
  exact ⟨A1, n, c1, rfl, hown1, (below_new _ _).trans hb1⟩
set_option maxHeartbeats 1600000 in
theorem l21Head_any (w : World) (A : Option Addr) (n c : Nat) (t : Tr) (hr : Rd w A n (bools t.bits)) (hn : n ≤ 1000000000) (hnc : n ≤ c) : Calls Tryz.prog 52 #[.slice A n c] w (RetS w 4 (bools t.hd.bits)) := by
  have hl : n = t.nodes := by have := hr.1; simp [Tr.bits_len] at this; exact this.symm
  have hpos := t.nodes_pos
  cases t with
  | nil =>
    obtain ⟨blk, off, rfl, hbs, hc⟩ := hr.at_ (k := 0) (u := .bool false) rfl
    simp only [Nat.add_zero] at hc
    have hn0 : 0 < n := by omega
    clear hl hpos
    go_enter Tryz.func52, Tryz.ntmps52
    go_wp2_with fail
    refine (l21Nil_any _).mono ?_
    rintro e w2 ⟨A2, n2, c2, rfl, ho2, hb2⟩
    go_wp2_with fail
    go_ret
    exact ⟨A2, n2, c2, rfl, ho2, hb2⟩
  | node a b =>
    obtain ⟨blk, off, rfl, hbs, hc⟩ := hr.at_ (k := 0) (u := .bool true) rfl
    simp only [Nat.add_zero] at hc
    have hn0 : 0 < n := by omega
    obtain ⟨he, hle⟩ := endAt_part (bs := (Tr.node a b).bits) (k := 1) (s := a) (r := b.bits) rfl (by rw [Tr.bits_len]; exact hpos)
    have HE := Lib.hid he
    rw [Tr.bits_len, ← hl] at hle
    have hcut := rd_part hr (i := 1) (j := 1 + a.nodes) (by omega) hle
    rw [Nat.add_sub_cancel_left, (node_cut a b).1] at hcut
    have hap := a.nodes_pos
    have hbp := b.nodes_pos
    have hlt : 1 + a.nodes < n := by rw [hl]; simp only [Tr.nodes]; omega
    have HA : Hid ((Tr.node a b).hd = a) := Lib.hid rfl
    clear he hl hpos hle
    generalize a.nodes = m at *
    have z1 : (1 : Int) ≤ ((1 + m : Nat) : Int) := by omega
    have z2 : ((1 + m : Nat) : Int) ≤ (c : Int) := by omega
    have z3 : 1 ≤ 1 + m := by omega
    have z4 : ¬ c = 1 := by omega
    go_enter Tryz.func52, Tryz.ntmps52
    go_wp2_with (go_at_call 80; go_must (refine (l21End_any _ _ _ _ _ hr (by omega) 1 (by omega)).mono ?_; rw [HE.out]; rintro e w' ⟨rfl, rfl⟩))
    refine (l21Own_any _ _ _ _ a.bits (by first | exact hcut | (simp only [Nat.add_sub_cancel_left]; exact hcut)) (by omega)).mono ?_
    rintro e w2 ⟨A2, n2, c2, rfl, ho2, hb2⟩
    go_wp2_with fail
    go_ret
    exact ⟨A2, n2, c2, rfl, by rw [HA.out]; exact ho2, hb2⟩
set_option maxHeartbeats 1600000 in
theorem l21Tail_any (w : World) (A : Option Addr) (n c : Nat) (t : Tr) (hr : Rd w A n (bools t.bits)) (hn : n ≤ 1000000000) (hnc : n ≤ c) : Calls Tryz.prog 54 #[.slice A n c] w (RetS w 4 (bools t.tl.bits)) := by
  have hl : n = t.nodes := by have := hr.1; simp [Tr.bits_len] at this; exact this.symm
  have hpos := t.nodes_pos
  cases t with
  | nil =>
    obtain ⟨blk, off, rfl, hbs, hc⟩ := hr.at_ (k := 0) (u := .bool false) rfl
    simp only [Nat.add_zero] at hc
    have hn0 : 0 < n := by omega
    clear hl hpos
    go_enter Tryz.func54, Tryz.ntmps54
    go_wp2_with fail
    refine (l21Nil_any _).mono ?_
    rintro e w2 ⟨A2, n2, c2, rfl, ho2, hb2⟩
    go_wp2_with fail
    go_ret
    exact ⟨A2, n2, c2, rfl, ho2, hb2⟩
  | node a b =>
    obtain ⟨blk, off, rfl, hbs, hc⟩ := hr.at_ (k := 0) (u := .bool true) rfl
    simp only [Nat.add_zero] at hc
    have hn0 : 0 < n := by omega
    obtain ⟨he, hle⟩ := endAt_part (bs := (Tr.node a b).bits) (k := 1) (s := a) (r := b.bits) rfl (by rw [Tr.bits_len]; exact hpos)
    have HE := Lib.hid he
    rw [Tr.bits_len, ← hl] at hle
    have hcut := rd_part hr (i := 1 + a.nodes) (j := n) hle (Nat.le_refl _)
    have hnb : n - (1 + a.nodes) = b.nodes := by rw [hl]; simp only [Tr.nodes]; omega
    have hcut2 : Rd w (some ⟨blk, off + (1 + a.nodes), none⟩) (n - (1 + a.nodes)) (bools b.bits) := by
      rw [hnb] at hcut ⊢
      rw [(node_cut a b).2] at hcut
      exact hcut
    have hap := a.nodes_pos
    have hbp := b.nodes_pos
    have hlt : 1 + a.nodes < n := by omega
    have HA : Hid ((Tr.node a b).tl = b) := Lib.hid rfl
    clear he hl hpos hle hcut hnb
    generalize a.nodes = m at *
    have z2 : ((1 + m : Nat) : Int) ≤ (n : Int) := by omega
    have z4 : ¬ c = 1 + m := by omega
    go_enter Tryz.func54, Tryz.ntmps54
    go_wp2_with (go_at_call 80; go_must (refine (l21End_any _ _ _ _ _ hr (by omega) 1 (by omega)).mono ?_; rw [HE.out]; rintro e w' ⟨rfl, rfl⟩))
    refine (l21Own_any _ _ _ _ b.bits (by exact hcut2) (by omega)).mono ?_
    rintro e w2 ⟨A2, n2, c2, rfl, ho2, hb2⟩
    go_wp2_with fail
    go_ret
    exact ⟨A2, n2, c2, rfl, by rw [HA.out]; exact ho2, hb2⟩
def CmpP (w : World) (q : Bool) (e : Ending) (w' : World) : Prop := ∃ r : Int, e = .returned (.int .i64 r) ∧ (r == 0) = q ∧ Below w.heap.size w w'
theorem take_ext {α : Type} {xs ys : List α} {k : Nat} {x : α} (h : xs.take k = ys.take k) (hx : xs[k]? = some x) (hy : ys[k]? = some x) : xs.take (k + 1) = ys.take (k + 1) := by
  rw [List.take_add_one, List.take_add_one, h, hx, hy]
theorem ne_at {xs ys : List Bool} {k : Nat} {x y : Bool} (hx : xs[k]? = some x) (hy : ys[k]? = some y) (h : x ≠ y) : (decide (xs = ys)) = false := by
  simp only [decide_eq_false_iff_not]
  intro e
  rw [e, hy] at hx
  simp at hx
  exact h hx.symm
set_option maxHeartbeats 2000000 in
theorem l21Compare_any (w : World) (A : Option Addr) (n c : Nat) (xs : List Bool) (hr : Rd w A n (bools xs)) (hn : n ≤ 1000000000) (A' : Option Addr) (n' c' : Nat) (ys : List Bool) (hr' : Rd w A' n' (bools ys)) (hn' : n' ≤ 1000000000) :
    Calls Tryz.prog 255 #[.slice A n c, .slice A' n' c'] w (CmpP w (decide (xs = ys))) := by
  have HL : Hid (xs.length = n) := Lib.hid (by simpa using hr.1)
  have HL' : Hid (ys.length = n') := Lib.hid (by simpa using hr'.1)
  by_cases h1 : n < n'
  · have HQ : Hid (decide (xs = ys) = false) := Lib.hid (by simp only [decide_eq_false_iff_not]; rintro rfl; have := HL.out; have := HL'.out; omega)
    go_enter Tryz.func255, Tryz.ntmps255
    go_wp2_with fail
    go_ret
    exact ⟨-1, rfl, by rw [HQ.out]; rfl, Below.refl _ _⟩
  · by_cases h2 : n' < n
    · have HQ : Hid (decide (xs = ys) = false) := Lib.hid (by simp only [decide_eq_false_iff_not]; rintro rfl; have := HL.out; have := HL'.out; omega)
      go_enter Tryz.func255, Tryz.ntmps255
      go_wp2_with fail
      go_ret
      exact ⟨1, rfl, by rw [HQ.out]; rfl, Below.refl _ _⟩
    · obtain rfl : n = n' := by omega
      clear h1 h2
      go_enter Tryz.func255, Tryz.ntmps255
      go_wp2_with fail
      go_loopw [5] (fun q wr => ∃ k : Nat, k ≤ n ∧ q = .int .i64 k ∧ Hid (xs.take k = ys.take k) ∧ Below w.heap.size w wr) (fun q _ => n - (intOf q).toNat)
      case atStart => exact ⟨0, by omega, rfl, Lib.hid (by simp), Below.refl _ _⟩
      case round =>
        obtain ⟨k, hk, rfl, HT, hb⟩ := hrel
        by_cases hlt : k < n
        · have hlt' : (k : Int) < (n : Int) := by omega
          have hk0 : (0 : Int) ≤ (k : Int) := by omega
          obtain ⟨x, hx⟩ := get_some (xs := xs) (k := k) (by rw [HL.out]; exact hlt)
          obtain ⟨y, hy⟩ := get_some (xs := ys) (k := k) (by rw [HL'.out]; exact hlt)
          obtain ⟨b1, off1, rfl, hbs1, q1⟩ := hr.at_ (k := k) (u := .bool x) (by simp [hx])
          obtain ⟨b2, off2, rfl, hbs2, q2⟩ := hr'.at_ (k := k) (u := .bool y) (by simp [hy])
          replace q1 := (hb.cell (p := ⟨b1, off1 + k, none⟩) hbs1).trans q1
          replace q2 := (hb.cell (p := ⟨b2, off2 + k, none⟩) hbs2).trans q2
          have HX := Lib.hid hx
          have HY := Lib.hid hy
          clear hx hy
          cases x <;> cases y
          case false.false =>
            go_wp2_with fail
            go_quiet (fail)
            go_wp2_with fail
            go_roundw
            case rel => exact ⟨k + 1, by omega, by go_num, Lib.hid (take_ext HT.out HX.out HY.out), below_drewN hb⟩
            case measure => simp [intOf]; omega
          case true.true =>
            go_wp2_with fail
            go_quiet (fail)
            go_wp2_with fail
            go_roundw
            case rel => exact ⟨k + 1, by omega, by go_num, Lib.hid (take_ext HT.out HX.out HY.out), below_drewN hb⟩
            case measure => simp [intOf]; omega
          case false.true =>
            have HQ := Lib.hid (ne_at HX.out HY.out (by decide))
            go_wp2_with fail
            go_quiet (fail)
            have q3 : (wr.drewN nq).cell? ⟨b2, off2 + k, none⟩ = some (.bool true) := q2
            go_wp2_with fail
            go_ret
            exact ⟨-1, rfl, by rw [HQ.out]; rfl, below_drewN hb⟩
          case true.false =>
            have HQ := Lib.hid (ne_at HX.out HY.out (by decide))
            go_wp2_with fail
            go_quiet (fail)
            have q3 : (wr.drewN nq).cell? ⟨b2, off2 + k, none⟩ = some (.bool false) := q2
            go_wp2_with fail
            go_ret
            exact ⟨1, rfl, by rw [HQ.out]; rfl, below_drewN hb⟩
        · have HQ : Hid (decide (xs = ys) = true) := Lib.hid (by
            have h := HT.out
            rw [List.take_of_length_le (by rw [HL.out]; omega), List.take_of_length_le (by rw [HL'.out]; omega)] at h
            simp [h])
          go_wp2_with fail
          go_ret
          exact ⟨0, rfl, by rw [HQ.out]; rfl, hb⟩
set_option maxHeartbeats 400000 in
theorem l21Same_any (w : World) (A : Option Addr) (n c : Nat) (xs : List Bool) (hr : Rd w A n (bools xs)) (hn : n ≤ 1000000000) (A' : Option Addr) (n' c' : Nat) (ys : List Bool) (hr' : Rd w A' n' (bools ys)) (hn' : n' ≤ 1000000000) :
    Calls Tryz.prog 234 #[.slice A n c, .slice A' n' c'] w (RetV w (.bool (decide (xs = ys)))) := by
  go_enter Tryz.func234, Tryz.ntmps234
  go_wp2_with fail
  refine (l21Compare_any _ _ _ _ _ hr hn _ _ _ _ hr' hn').mono ?_
  rintro e w2 ⟨r, rfl, hq, hb2⟩
  have HQ := Lib.hid hq
  clear hq
  go_wp2_with fail
  go_ret
  exact ⟨by rw [← HQ.out]; rfl, hb2⟩
end Go.Proofs.YtadmbphefpfbmaaGreatDoor
/- The reference's tag of a tree, and an item's two parts. -/
namespace Go.Proofs.YtadmbphefpfbmaaGreatDoor
open Go.RowKit
set_option linter.unusedVariables false
set_option linter.unusedSimpArgs false
def tagI (t : Tr) : Int := match (List.range 12).find? (fun k => t.beq (tagTr k)) with
  | some k => k
  | none => -1
theorem tagI_hit {t : Tr} {k : Nat} (hk : k ≤ 11) (h : t.beq (tagTr k) = true) : tagI t = k := by
  unfold tagI
  cases hf : (List.range 12).find? (fun k => t.beq (tagTr k)) with
  | none =>
    rw [List.find?_eq_none] at hf
    exact absurd h (hf k (List.mem_range.2 (by omega)))
  | some j =>
    have h1 := List.find?_some hf
    have h2 := List.mem_range.1 (List.mem_of_find?_eq_some hf)
    have e1 := (Tr.beq_iff _ _).1 h
    have e2 := (Tr.beq_iff _ _).1 h1
    have := tag_inj (j := j) (k := k) (by omega) hk (e2.symm.trans e1)
    subst this
    rfl
theorem tagI_miss {t : Tr} (h : ∀ k, k ≤ 11 → t.beq (tagTr k) = false) : tagI t = -1 := by
  unfold tagI
  cases hf : (List.range 12).find? (fun k => t.beq (tagTr k)) with
  | none => rfl
  | some j =>
    have h1 := List.find?_some hf
    have h2 := List.mem_range.1 (List.mem_of_find?_eq_some hf)
    rw [h j (by omega)] at h1
    cases h1
theorem tagI_eq {t : Tr} {k : Nat} (hk : k ≤ 11) : (tagI t == (k : Int)) = t.beq (tagTr k) := by
  cases h : t.beq (tagTr k) with
  | true => rw [tagI_hit hk h]; simp
  | false =>
    cases hq : (tagI t == (k : Int)) with
    | false => rfl
    | true =>
      have e : tagI t = (k : Int) := by simpa using hq
      unfold tagI at e
      cases hf : (List.range 12).find? (fun k => t.beq (tagTr k)) with
      | none => rw [hf] at e; exact absurd e (by show ¬ (-1 : Int) = (k : Int); omega)
      | some j =>
        rw [hf] at e
        have h1 := List.find?_some hf
        have : j = k := by simp at e; omega
        subst this
        rw [h] at h1
        cases h1
theorem tagI_bd (t : Tr) : -1 ≤ tagI t ∧ tagI t ≤ 11 := by
  unfold tagI
  cases hf : (List.range 12).find? (fun k => t.beq (tagTr k)) with
  | none => simp
  | some j =>
    have h2 := List.mem_range.1 (List.mem_of_find?_eq_some hf)
    simp only
    omega
theorem bits_beq (t u : Tr) : decide (t.bits = u.bits) = t.beq u := by
  cases h : t.beq u with
  | true => rw [(Tr.beq_iff _ _).1 h]; simp
  | false =>
    simp only [decide_eq_false_iff_not]
    intro e
    rw [bits_inj e, Tr.beq_self] at h
    cases h
set_option maxHeartbeats 1600000 in
theorem l23TagOf_any (w : World) (A : Option Addr) (n c : Nat) (t : Tr) (hr : Rd w A n (bools t.bits)) (hn : n ≤ 1000000000) : Calls Tryz.prog 200 #[.slice A n c] w (RetV w (.int .i64 (tagI t))) := by
  go_enter Tryz.func200, Tryz.ntmps200
  go_wp2_with fail
  go_loopw [3] (fun q wr => ∃ k : Nat, k ≤ 12 ∧ q = .int .i64 k ∧ Hid (∀ j, j < k → t.beq (tagTr j) = false) ∧ Below w.heap.size w wr) (fun q _ => 12 - (intOf q).toNat)
  case atStart => exact ⟨0, by omega, rfl, Lib.hid (fun j hj => by omega), Below.refl _ _⟩
  case round =>
    obtain ⟨k, hk, rfl, HM, hb⟩ := hrel
    by_cases hlt : k < 12
    · have hlt' : (k : Int) ≤ 11 := by omega
      have hr2 := hr.below hb (Nat.le_refl _)
      cases hq : t.beq (tagTr k) with
      | true =>
        have HQ : Hid (decide (t.bits = (tagTr k).bits) = true) := Lib.hid (by rw [bits_beq, hq])
        have HT := Lib.hid (tagI_hit (by omega) hq)
        clear hq
        go_wp2_with fail
        refine (l23Tag_any _ k (by omega) _ rfl).mono ?_
        rintro e w2 ⟨A2, n2, c2, rfl, ho2, hb2⟩
        have hn2 : n2 ≤ 9 := by have h1 := ho2.1; have h2 := tag_nodes k; simp [Tr.bits_len] at h1; omega
        go_wp2_with fail
        refine (l21Same_any _ _ _ _ _ (hr2.below hb2 (Nat.le_refl _)) hn _ _ _ _ (own_rd ho2) (by omega)).mono ?_
        rw [HQ.out]
        rintro e w3 ⟨rfl, hb3⟩
        go_wp2_with fail
        go_ret
        exact ⟨by rw [HT.out]; rfl, (hb.trans (hb2.mono hb.size)).trans (hb3.mono (Nat.le_trans hb.size hb2.size))⟩
      | false =>
        have HQ : Hid (decide (t.bits = (tagTr k).bits) = false) := Lib.hid (by rw [bits_beq, hq])
        have HM2 : Hid (∀ j, j < k + 1 → t.beq (tagTr j) = false) := Lib.hid (fun j hj => by
          rcases Nat.lt_succ_iff_lt_or_eq.1 hj with h | rfl
          · exact HM.out j h
          · exact hq)
        clear hq
        go_wp2_with fail
        refine (l23Tag_any _ k (by omega) _ rfl).mono ?_
        rintro e w2 ⟨A2, n2, c2, rfl, ho2, hb2⟩
        have hn2 : n2 ≤ 9 := by have h1 := ho2.1; have h2 := tag_nodes k; simp [Tr.bits_len] at h1; omega
        go_wp2_with fail
        refine (l21Same_any _ _ _ _ _ (hr2.below hb2 (Nat.le_refl _)) hn _ _ _ _ (own_rd ho2) (by omega)).mono ?_
        rw [HQ.out]
        rintro e w3 ⟨rfl, hb3⟩
        go_wp2_with fail
        go_roundw
        case rel => exact ⟨k + 1, by omega, by go_num, HM2, (hb.trans (hb2.mono hb.size)).trans (hb3.mono (Nat.le_trans hb.size hb2.size))⟩
        case measure => simp [intOf]; omega
    · obtain rfl : k = 12 := by omega
      have HT := Lib.hid (tagI_miss (t := t) (fun j hj => HM.out j (by omega)))
      go_wp2_with fail
      go_ret
      exact ⟨by rw [HT.out]; rfl, hb⟩
def opTag : Tr → Int
  | .nil => -1
  | .node a _ => tagI a
def opRest : Tr → List Bool
  | .nil => []
  | .node _ b => b.bits
def OpnP (w : World) (t : Tr) (e : Ending) (w' : World) : Prop := ∃ A n c, e = .returned (.tuple #[.int .i64 (opTag t), .slice A n c]) ∧ w'.ownsRow w.heap.size 4 1 (.slice A n c) n (bools (opRest t)) ∧ Below w.heap.size w w'
set_option maxHeartbeats 1600000 in
theorem l23Open_any (w : World) (A : Option Addr) (n c : Nat) (t : Tr) (hr : Rd w A n (bools t.bits)) (hn : n ≤ 1000000000) (hnc : n ≤ c) : Calls Tryz.prog 169 #[.slice A n c] w (OpnP w t) := by
  have hl : n = t.nodes := by have := hr.1; simp [Tr.bits_len] at this; exact this.symm
  have hpos := t.nodes_pos
  cases t with
  | nil =>
    obtain ⟨blk, off, rfl, hbs, hc⟩ := hr.at_ (k := 0) (u := .bool false) rfl
    simp only [Nat.add_zero] at hc
    have hn0 : 0 < n := by omega
    clear hl hpos
    go_enter Tryz.func169, Tryz.ntmps169
    go_wp2_with fail
    go_ret2
    exact ⟨none, 0, 0, rfl, own_nil _ _ _, Below.refl _ _⟩
  | node a b =>
    obtain ⟨blk, off, rfl, hbs, hc⟩ := hr.at_ (k := 0) (u := .bool true) rfl
    simp only [Nat.add_zero] at hc
    have hn0 : 0 < n := by omega
    have hna : a.nodes ≤ n := by rw [hl]; simp only [Tr.nodes]; omega
    have HT : Hid (opTag (.node a b) = tagI a) := Lib.hid rfl
    clear hl hpos
    go_enter Tryz.func169, Tryz.ntmps169
    go_wp2_with fail
    refine (l21Head_any _ _ _ _ _ hr hn hnc).mono ?_
    rintro e w2 ⟨A2, n2, c2, rfl, ho2, hb2⟩
    have hn2 : n2 ≤ n := by have h1 := ho2.1; simp [Tr.bits_len, Tr.hd] at h1; omega
    go_wp2_with fail
    refine (l23TagOf_any _ _ _ _ a (own_rd ho2) (by omega)).mono ?_
    rintro e w3 ⟨rfl, hb3⟩
    have hb23 := hb2.trans (hb3.mono hb2.size)
    rw [← HT.out]
    go_wp2_with fail
    refine (l21Tail_any _ _ _ _ _ (hr.below hb23 (Nat.le_refl _)) hn hnc).mono ?_
    rintro e w4 ⟨A4, n4, c4, rfl, ho4, hb4⟩
    go_wp2_with fail
    go_ret2
    exact ⟨A4, n4, c4, rfl, own_base ho4 hb23.size, hb23.trans (hb4.mono hb23.size)⟩
end Go.Proofs.YtadmbphefpfbmaaGreatDoor
/- Reading an expression back: the cases of the plain function; what a call leaves. -/
namespace Go.Proofs.YtadmbphefpfbmaaGreatDoor
open Go.RowKit
set_option linter.unusedVariables false
set_option linter.unusedSimpArgs false
theorem tg_eq (t : Tr) (k : Nat) (hk : k ≤ 11) : t.beq (tagTr k) = (tagI t == (k : Int)) := (tagI_eq hk).symm
theorem back_leaf0 {tg : Tr} (h : tagI tg = 0) : backT (.node tg .nil) = some [(0, 0)] := by
  have h0 := tg_eq tg 0 (by omega)
  rw [h] at h0
  simp [backT, h0]
theorem back_leaf1 {tg : Tr} (h : tagI tg = 1) : backT (.node tg .nil) = some [(1, 0)] := by
  have h0 := tg_eq tg 0 (by omega)
  have h1 := tg_eq tg 1 (by omega)
  rw [h] at h0 h1
  simp [backT, h0, h1]
theorem back_no {tg : Tr} (r : Tr) (h0 : tagI tg ≠ 0) (h1 : tagI tg ≠ 1) (h2 : tagI tg ≠ 2) : backT (.node tg r) = none := by
  have e0 := tg_eq tg 0 (by omega)
  have e1 := tg_eq tg 1 (by omega)
  have e2 := tg_eq tg 2 (by omega)
  have f0 : tg.beq (tagTr 0) = false := by rw [e0]; simpa using h0
  have f1 : tg.beq (tagTr 1) = false := by rw [e1]; simpa using h1
  have f2 : tg.beq (tagTr 2) = false := by rw [e2]; simpa using h2
  match r with
  | .nil => simp [backT, f0, f1]
  | .node (.node mk .nil) (.node a b) => simp [backT, f2]
  | .node .nil _ => simp [backT]
  | .node (.node _ (.node _ _)) _ => simp [backT]
  | .node (.node _ .nil) .nil => simp [backT]
theorem back_nd {tg x y : Tr} (h2 : tagI tg ≠ 2) : backT (.node tg (.node x y)) = none := by
  have e2 := tg_eq tg 2 (by omega)
  have f2 : tg.beq (tagTr 2) = false := by rw [e2]; simpa using h2
  match x, y with
  | .node mk .nil, .node a b => simp [backT, f2]
  | .nil, _ => simp [backT]
  | .node _ (.node _ _), _ => simp [backT]
  | .node _ .nil, .nil => simp [backT]
theorem back_2nil {tg : Tr} (h : tagI tg = 2) : backT (.node tg .nil) = none := by
  have e0 := tg_eq tg 0 (by omega)
  have e1 := tg_eq tg 1 (by omega)
  rw [h] at e0 e1
  simp [backT, e0, e1]
theorem back_2 {tg mk a b : Tr} (h : tagI tg = 2) : backT (.node tg (.node (.node mk .nil) (.node a b))) = comb mk (backT a) (backT b) := by
  have e2 := tg_eq tg 2 (by omega)
  rw [h] at e2
  simp [backT, e2]
theorem comb_no {mk : Tr} (x y : Option (List El)) (h : ¬ (3 ≤ tagI mk ∧ tagI mk ≤ 6)) : comb mk x y = none := by
  have e3 := tg_eq mk 3 (by omega)
  have e4 := tg_eq mk 4 (by omega)
  have e5 := tg_eq mk 5 (by omega)
  have e6 := tg_eq mk 6 (by omega)
  have f3 : mk.beq (tagTr 3) = false := by rw [e3]; simp; omega
  have f4 : mk.beq (tagTr 4) = false := by rw [e4]; simp; omega
  have f5 : mk.beq (tagTr 5) = false := by rw [e5]; simp; omega
  have f6 : mk.beq (tagTr 6) = false := by rw [e6]; simp; omega
  match x, y with
  | some x, some y => simp [comb, f3, f4, f5, f6]
  | none, _ => simp [comb]
  | some _, none => simp [comb]
theorem comb_l (mk : Tr) (y : Option (List El)) : comb mk none y = none := by cases y <;> rfl
theorem comb_r (mk : Tr) (x : Option (List El)) : comb mk x none = none := by cases x <;> rfl
theorem comb_3 {mk : Tr} {x y : List El} (h : tagI mk = 3) : comb mk (some x) (some y) = some ((2, 0) :: (x ++ y)) := by
  have e3 := tg_eq mk 3 (by omega)
  rw [h] at e3
  simp [comb, e3]
theorem comb_4 {mk : Tr} {x y : List El} (h : tagI mk = 4) : comb mk (some x) (some y) = if isNil1 y then some ((3, 0) :: x) else none := by
  have e3 := tg_eq mk 3 (by omega)
  have e4 := tg_eq mk 4 (by omega)
  rw [h] at e3 e4
  simp [comb, e3, e4]
theorem comb_5 {mk : Tr} {x y : List El} (h : tagI mk = 5) : comb mk (some x) (some y) = if isNil1 y then some ((4, 0) :: x) else none := by
  have e3 := tg_eq mk 3 (by omega)
  have e4 := tg_eq mk 4 (by omega)
  have e5 := tg_eq mk 5 (by omega)
  rw [h] at e3 e4 e5
  simp [comb, e3, e4, e5]
theorem comb_6 {mk : Tr} {x y : List El} (h : tagI mk = 6) : comb mk (some x) (some y) = some ((5, 0) :: (x ++ y)) := by
  have e3 := tg_eq mk 3 (by omega)
  have e4 := tg_eq mk 4 (by omega)
  have e5 := tg_eq mk 5 (by omega)
  have e6 := tg_eq mk 6 (by omega)
  rw [h] at e3 e4 e5 e6
  simp [comb, e3, e4, e5, e6]
/-- A list of elements, and whether there is one. -/
def BackP (w : World) (N : Nat) (o : Option (List El)) (e : Ending) (w' : World) : Prop :=
  ∃ A n c zs, e = .returned (.tuple #[.slice A n c, .bool o.isSome]) ∧ w'.ownsRow w.heap.size 110 2 (.slice A n c) n (ints (eNums zs)) ∧ (∀ z, o = some z → zs = z) ∧ n ≤ N ∧ Below w.heap.size w w'
theorem BackP.none_ {w w' : World} {N : Nat} {o : Option (List El)} (h : o = none) (hb : Below w.heap.size w w') : BackP w N o (.returned (.tuple #[.slice none 0 0, .bool false])) w' := by
  subst h
  exact ⟨none, 0, 0, [], rfl, ownN_nil _ _ _ _, fun z hz => by simp at hz, by omega, hb⟩
theorem eN_len {w : World} {base n c : Nat} {A : Option Addr} {zs : List El} (h : w.ownsRow base 110 2 (.slice A n c) n (ints (eNums zs))) : zs.length = n := by
  have := h.1
  simp [eNums_len] at this
  omega
theorem infoEl : (Tryz.prog.info? 110).map (fun i => (i.zero, i.size, i.bytes)) = some (some (.agg #[.int .i64 0, .int .i64 0]), 2, 16) := by kernel_rfl
theorem eltEl : EltN Tryz.prog 42 110 (.agg #[.int .i64 0, .int .i64 0]) 2 := EltN.mk_ Tryz.underlying42 infoEl rfl (by decide) (by decide)
theorem lit_el (w : World) (k : Int) : (w.alloc (.cells #[.int .i64 k, .int .i64 0] 110)).ownsRow w.heap.size 110 2 (.slice (some ⟨w.heap.size, 0, none⟩) 1 1) 1 (ints (eNums [(k, 0)])) :=
  ownN_lit w #[.int .i64 k, .int .i64 0] 1 2 _ rfl (by omega)
end Go.Proofs.YtadmbphefpfbmaaGreatDoor
/- Append of a slice of structs: 'append(s, t...)', elements of s cells. -/
namespace Go.Proofs.YtadmbphefpfbmaaGreatDoor
open Go.RowKit
set_option linter.unusedVariables false
set_option linter.unusedSimpArgs false
theorem wpList_appSN {P : Program} {ops : Array Oper} {rest : List Oper} {o : Oper} {a : Act} {Q : Exit → Act → World → Prop} {t e : TypeId} {z : Value} {k : Nat} (hE : EltN P t e z k) (hgd : o.guard = none) (s x : Operand)
    (ho : o.op = .call { callee := .builtin .append, args := #[s, x], argTypes := #[t, t] }) (W : World) (base : Nat) (v : Value) (n : Nat) (vs : List Value) (hs : a.eval s = v) (hown : W.ownsRow base e k v n vs)
    (A0 : Option Addr) (m c0 : Nat) (us : List Value) (hx : a.eval x = .slice A0 m c0) (hr : Rd W A0 (m * k) us) (hu : ∀ u ∈ us, u.oneCell' = true) (hbase : base ≤ W.heap.size) (hn : n + m ≤ 1099511627776)
    (h : ∀ A c w', w'.ownsRow base e k (.slice A (n + m) c) (n + m) (vs ++ us) → Below base W w' → W.grownBy w' v.ownBlock → wpList P ops Q rest (a.put o.dst (.slice A (n + m) c)) w') :
    wpList P ops Q (o :: rest) a W := by
  obtain ⟨ht, hzc, hs0, i, hi, hz, hs1, hb⟩ := hE
  rcases Nat.eq_zero_or_pos m with hm | hm
  · subst hm
    have hus : us = [] := List.eq_nil_of_length_eq_zero (by simpa using hr.1)
    subst hus
    obtain ⟨A, c, rfl, hnc, _⟩ := ownN_form hown
    have hrun : (Builtin.append_ #[t, t] o.type #[.slice A n c, .slice A0 0 c0]).run P W = .ok (.slice A n c) W := by
      rcases hown.2 with ⟨h', h0⟩ | ⟨g, cap, cur, h', _⟩
      · injection h' with h1 h2 h3
        subst h1 h2 h3
        cases A0 <;> simp [Builtin.append_, run_underlying ht, sizeOf, typeInfo, hi, Builtin.lenOf, Builtin.firstCells, loadCells, loadCellsFrom]
      · injection h' with h1 h2 h3
        subst h1 h3
        cases A0 <;> simp [Builtin.append_, run_underlying ht, sizeOf, typeInfo, hi, Builtin.lenOf, Builtin.firstCells, loadCells, loadCellsFrom, hnc, storeCells]
    refine wpList_plain hgd fun K hK => ?_
    unfold Oper.wp execOp
    simp only [ho, resolve, invoke, builtin, Sem.run_bind, Sem.run_pure, Result.andThen_ok, List.map_toArray, List.map_cons, List.map_nil, hs, hx, hrun]
    exact hK _ _ (h A c W (by simpa using hown) (Below.refl _ _) ⟨rfl, rfl, rfl, Nat.le_refl _, fun _ _ _ => rfl⟩)
  · obtain ⟨b, off, rfl, hlt, hc⟩ := hr.2 (Nat.mul_pos hm hs0)
    refine wpList_append_own _ hgd s x t ho base e i z k i.bytes ht hi hz hs1 rfl hzc hs0 v n vs hs hown ⟨b, off, none⟩ m c0 us hx (by simpa using hr.1) ?_ hu (by unfold maxLen; omega) ?_ hbase ?_
    · intro j u hj
      have := hc j u hj
      unfold Addr.add
      split
      · rename_i h0; subst h0; simpa using this
      · exact this
    · have : (n + m) * i.bytes ≤ (n + m) * 64 := Nat.mul_le_mul_left _ hb
      omega
    · intro v' w' ho' hg _
      obtain ⟨A, c, rfl, _, _⟩ := ownN_form ho'
      exact h A c w' ho' (below_grown hg hbase (fun k hk => (hown.lt k hk).1)) hg
theorem ints_one1 (xs : List Int) : ∀ u ∈ ints xs, u.oneCell' = true := by
  intro u hu
  obtain ⟨x, _, rfl⟩ := List.mem_map.1 hu
  rfl
end Go.Proofs.YtadmbphefpfbmaaGreatDoor
/- Append of a slice of structs, as a run and as a step of a drawn region. -/
namespace Go.Proofs.YtadmbphefpfbmaaGreatDoor
open Go.RowKit
set_option linter.unusedVariables false
set_option linter.unusedSimpArgs false
theorem run_appSN {P : Program} {t e : TypeId} {z : Value} {k : Nat} (hE : EltN P t e z k) (ty : TypeId) (W : World) (base : Nat) (v : Value) (n : Nat) (vs : List Value) (hown : W.ownsRow base e k v n vs)
    (A0 : Option Addr) (m c0 : Nat) (us : List Value) (hr : Rd W A0 (m * k) us) (hu : ∀ u ∈ us, u.oneCell' = true) (hbase : base ≤ W.heap.size) (hn : n + m ≤ 1099511627776) :
    ∃ A c w', (Builtin.append_ #[t, t] ty #[v, .slice A0 m c0]).run P W = .ok (.slice A (n + m) c) w' ∧ w'.ownsRow base e k (.slice A (n + m) c) (n + m) (vs ++ us) ∧ Below base W w' := by
  obtain ⟨ht, hzc, hs0, i, hi, hz, hs1, hb⟩ := hE
  rcases Nat.eq_zero_or_pos m with hm | hm
  · subst hm
    have hus : us = [] := List.eq_nil_of_length_eq_zero (by simpa using hr.1)
    subst hus
    obtain ⟨A, c, rfl, hnc, _⟩ := ownN_form hown
    have hrun : (Builtin.append_ #[t, t] ty #[.slice A n c, .slice A0 0 c0]).run P W = .ok (.slice A n c) W := by
      rcases hown.2 with ⟨h', h0⟩ | ⟨g, cap, cur, h', _⟩
      · injection h' with h1 h2 h3
        subst h1 h2 h3
        cases A0 <;> simp [Builtin.append_, run_underlying ht, sizeOf, typeInfo, hi, Builtin.lenOf, Builtin.firstCells, loadCells, loadCellsFrom]
      · injection h' with h1 h2 h3
        subst h1 h3
        cases A0 <;> simp [Builtin.append_, run_underlying ht, sizeOf, typeInfo, hi, Builtin.lenOf, Builtin.firstCells, loadCells, loadCellsFrom, hnc, storeCells]
    exact ⟨A, c, W, hrun, by simpa using hown, Below.refl _ _⟩
  · obtain ⟨b, off, rfl, hlt, hc⟩ := hr.2 (Nat.mul_pos hm hs0)
    have hbn : (n + m) * i.bytes ≤ (n + m) * 64 := Nat.mul_le_mul_left _ hb
    obtain ⟨v', w', hrun, ho', hgr, _⟩ := run_append_own (P := P) W base t ty e i z k i.bytes ht hi hz hs1 rfl hzc hs0 v n vs hown ⟨b, off, none⟩ m c0 us (by simpa using hr.1) (fun j u hj => by
      have := hc j u hj
      unfold Addr.add
      split
      · rename_i h0; subst h0; simpa using this
      · exact this) hu (by unfold maxLen; omega) (by omega) hbase
    obtain ⟨A, c, rfl, _, _⟩ := ownN_form ho'
    exact ⟨A, c, w', hrun, ho', below_grown hgr hbase (fun k hk => (hown.lt k hk).1)⟩
theorem step_appSN {P : Program} {ops : Array Oper} {o : Oper} {a : Act} {K : Act → World → Prop} {Q : Exit → Act → World → Prop} {E : Prop} {t e : TypeId} {z : Value} {k : Nat} (hE : EltN P t e z k) (hgd : o.guard = none) (l x : Operand)
    (ho : o.op = .call { callee := .builtin .append, args := #[l, x], argTypes := #[t, t] }) (W : World) (base : Nat) (v : Value) (n : Nat) (vs : List Value) (hs : a.eval l = v) (hown : W.ownsRow base e k v n vs)
    (A0 : Option Addr) (m c0 : Nat) (us : List Value) (hx : a.eval x = .slice A0 m c0) (hr : Rd W A0 (m * k) us) (hu : ∀ u ∈ us, u.oneCell' = true) (hbase : base ≤ W.heap.size) (hn : n + m ≤ 1099511627776)
    (h : ∀ A c w', w'.ownsRow base e k (.slice A (n + m) c) (n + m) (vs ++ us) → Below base W w' → K (a.put o.dst (.slice A (n + m) c)) w') :
    if Region.wanted o (yielded ops a.tmps) = true then Oper.wp P o a W K Q else E := by
  obtain ⟨A, c, w', hrun, ho', hb⟩ := run_appSN hE o.type W base v n vs hown A0 m c0 us hr hu hbase hn
  have hw : Region.wanted o (yielded ops a.tmps) = true := by simp [Region.wanted, hgd]
  rw [if_pos hw]
  unfold Oper.wp
  simp [execOp, ho, resolve, invoke, builtin, hs, hx, hrun, Result.andThen]
  exact h A c w' ho' hb
end Go.Proofs.YtadmbphefpfbmaaGreatDoor
/- slices.Grow of nil and slices.Concat on slices of elements. -/
namespace Go.Proofs.YtadmbphefpfbmaaGreatDoor
open Go.RowKit
set_option linter.unusedVariables false
set_option linter.unusedSimpArgs false
def GrP (w : World) (e : Ending) (w' : World) : Prop := ∃ A c, e = .returned (.slice A 0 c) ∧ w'.ownsRow w.heap.size 110 2 (.slice A 0 c) 0 [] ∧ Below w.heap.size w w'
set_option maxHeartbeats 4000000 in
set_option maxRecDepth 100000 in
theorem growE_any (w : World) (n : Nat) (hn : n ≤ 1000000000) : Calls Tryz.prog 174 #[.slice none 0 0, .int .i64 n] w (GrP w) := by
  rcases Nat.eq_zero_or_pos n with h0 | h0
  · subst h0
    go_enter Tryz.func174, Tryz.ntmps174
    go_wp2_with fail
    go_ret
    exact ⟨none, 0, rfl, ownN_nil _ _ _ _, Below.refl _ _⟩
  · have h1 : ¬ ((n : Int) < 0) := by omega
    have h4 : (0 : Int) < (n : Int) := by omega
    obtain ⟨i, hi, hz, hs, hb⟩ := info_parts infoEl
    have hrz : ∀ ty, (Builtin.append_ #[42, 3] ty #[.slice none 0 0, .int .i64 (n : Int)]).run Tryz.prog w = .ok (.slice (some ⟨w.heap.size, 0, none⟩) n (grownCap w n 0 110)) (w.drew.alloc (.cells (Builtin.zeroCells (Value.agg #[.int .i64 0, .int .i64 0]).cells n ++ Builtin.zeroCells (Value.agg #[.int .i64 0, .int .i64 0]).cells (grownCap w n 0 110 - n)) 110)) := fun ty =>
      Lib.run_append_nil_zeros w 42 3 ty 110 i _ .i64 .i64 Tryz.underlying42 Tryz.underlying3 hi hz n h0 (by rw [hs]; decide) (by omega) (by rw [hb]; omega)
    have hge : n ≤ grownCap w n 0 110 := grownCap_ge w _ _ _
    have hmx := grownCap_le_maxLen w n 0 110 (by unfold maxLen; omega)
    have HZ : Hid ((Builtin.zeroCells (Value.agg #[.int .i64 0, .int .i64 0]).cells n ++ Builtin.zeroCells (Value.agg #[.int .i64 0, .int .i64 0]).cells (grownCap w n 0 110 - n)).size = grownCap w n 0 110 * 2) := Lib.hid (by
      rw [Array.size_append, size_zeroCells, size_zeroCells]
      show n * 2 + (grownCap w n 0 110 - n) * 2 = _
      omega)
    generalize grownCap w n 0 110 = G at *
    generalize Builtin.zeroCells (Value.agg #[.int .i64 0, .int .i64 0]).cells n ++ Builtin.zeroCells (Value.agg #[.int .i64 0, .int .i64 0]).cells (G - n) = cs at *
    have HH : Hid ((w.drew.alloc (.cells cs 110)).heap[w.heap.size]? = some (.cells cs 110 (0, 0))) := Lib.hid (box_new w.drew cs _)
    have HBW : Hid (Below w.heap.size w (w.drew.alloc (.cells cs 110))) := Lib.hid (below_undrew (below_new w.drew (.cells cs 110)))
    have HMX := Lib.hid hmx
    have hG9 : G ≤ 9223372036854775807 := by unfold maxLen at hmx; omega
    clear hi hz hs hb hmx
    go_enter Tryz.func174, Tryz.ntmps174
    go_wp2_with (at_builtin; go_must (refine Lib.wpList_append_run _ rfl _ _ _ _ rfl _ _ (by rfl) (by rfl) _ _ (hrz _) ?_))
    go_ret
    exact ⟨_, G, rfl, ⟨rfl, .inr ⟨w.heap.size, G, cs, rfl, Nat.le_refl _, HH.out, Nat.zero_le _, HMX.out, HZ.out, by simp⟩⟩, HBW.out⟩
theorem app_nums' (xs ys : List El) : ints (eNums xs) ++ ints (eNums ys) = ints (eNums (xs ++ ys)) := by simp [eNums_append]
/-- A slice of slices of elements that reads as lists. -/
def RdX (w : World) (A : Option Addr) (n : Nat) (pss : List (List El)) : Prop :=
  ∃ vs : List Value, Rd w A n vs ∧ vs.length = pss.length ∧ ∀ (j : Nat) (v : Value) (ys : List El), vs[j]? = some v → pss[j]? = some ys → ∃ A' m c', v = .slice A' m c' ∧ RdE w A' m ys
theorem RdX.len {w : World} {A : Option Addr} {n : Nat} {pss : List (List El)} (h : RdX w A n pss) : pss.length = n := by
  obtain ⟨vs, h1, h2, _⟩ := h; rw [← h2, h1.1]
theorem RdX.at_ {w : World} {A : Option Addr} {n k : Nat} {pss : List (List El)} {ys : List El} (h : RdX w A n pss) (hx : pss[k]? = some ys) :
    ∃ b off A' n' c', A = some ⟨b, off, none⟩ ∧ b < w.heap.size ∧ w.cell? ⟨b, off + k, none⟩ = some (.slice A' n' c') ∧ RdE w A' n' ys := by
  obtain ⟨vs, h1, h2, h3⟩ := h
  have hk : k < vs.length := by rw [h2]; exact (List.getElem?_eq_some_iff.1 hx).1
  obtain ⟨v, hv⟩ := get_some hk
  obtain ⟨A', n', c', rfl, hr'⟩ := h3 k v ys hv hx
  obtain ⟨b, off, e, hb, hc⟩ := h1.at_ hv
  exact ⟨b, off, A', n', c', e, hb, hc, hr'⟩
def totX (pss : List (List El)) : Nat := pss.flatten.length
theorem totX_step {pss : List (List El)} {k : Nat} {ys : List El} (h : pss[k]? = some ys) : (pss.take (k + 1)).flatten = (pss.take k).flatten ++ ys := by
  rw [List.take_add_one, h]; simp
theorem totX_le (pss : List (List El)) (k : Nat) : (pss.take k).flatten.length ≤ totX pss := by
  have h : (pss.take k ++ pss.drop k).flatten.length = (pss.take k).flatten.length + (pss.drop k).flatten.length := by rw [List.flatten_append, List.length_append]
  rw [List.take_append_drop] at h
  unfold totX
  omega
set_option maxHeartbeats 4000000 in
set_option maxRecDepth 100000 in
theorem concatE_any (w : World) (A : Option Addr) (n c : Nat) (pss : List (List El)) (hr : RdX w A n pss) (hn : n ≤ 1000000) (ht : totX pss ≤ 1000000000) : Calls Tryz.prog 133 #[.slice A n c] w (RetN w 110 2 (ints (eNums pss.flatten))) := by
  have HL : Hid (pss.length = n) := Lib.hid hr.len
  go_enter Tryz.func133, Tryz.ntmps133
  go_wp2_with fail
  go_loop [3, 11] (fun q i => ∃ k : Nat, k ≤ n ∧ i = .int .i64 k ∧ q = .int .i64 (((pss.take k).flatten.length : Nat) : Int)) (fun _ i => n - (intOf i).toNat)
  case atStart => exact ⟨0, by omega, rfl, rfl⟩
  case round =>
    obtain ⟨k, hk, rfl, rfl⟩ := hrel
    by_cases hlt : k < n
    · have hlt' : (k : Int) < (n : Int) := by omega
      obtain ⟨ys, hy⟩ := get_some (xs := pss) (k := k) (by rw [HL.out]; exact hlt)
      obtain ⟨b, off, A', n', c', rfl, hbs, hc, hrr⟩ := hr.at_ hy
      have hn' := rdE_len hrr
      have HS : Hid ((pss.take (k + 1)).flatten.length = (pss.take k).flatten.length + n') := Lib.hid (by rw [totX_step hy, List.length_append, hn'])
      have hle := totX_le pss (k + 1)
      rw [HS.out] at hle
      clear hy hn' hrr
      generalize (pss.take k).flatten.length = S at *
      have hS : ¬ (((S : Int) + (n' : Int)) < 0) := by omega
      go_wp2_with fail
      go_round
      case rel => exact ⟨k + 1, by omega, by go_num, by rw [HS.out]; go_num⟩
      case measure => simp [intOf]; omega
    · obtain rfl : k = n := by omega
      have HT : Hid ((pss.take k).flatten.length = totX pss) := Lib.hid (by rw [List.take_of_length_le (by rw [HL.out]; omega)]; rfl)
      rw [HT.out]
      generalize totX pss = TT at *
      go_wp2_with fail
      refine (growE_any _ TT ht).mono ?_
      rintro e w2 ⟨A2, c2, rfl, ho2, hb2⟩
      go_wp2_with fail
      go_loopw [6, 27] (fun q i wr => ∃ (j : Nat) (A3 : Option Addr) (c3 m : Nat), j ≤ k ∧ i = .int .i64 j ∧ q = .slice A3 m c3 ∧ Hid (m = (pss.take j).flatten.length) ∧ wr.ownsRow w.heap.size 110 2 (.slice A3 m c3) m (ints (eNums (pss.take j).flatten)) ∧ Below w.heap.size w wr) (fun _ i _ => k - (intOf i).toNat)
      case atStart => exact ⟨0, A2, c2, 0, by omega, rfl, rfl, Lib.hid rfl, ho2, hb2⟩
      case round =>
        clear ho2 hb2
        obtain ⟨j, A3, c3, m, hj, rfl, rfl, HM, ho3, hb3⟩ := hrel
        by_cases hlt : j < k
        · have hlt' : (j : Int) < (k : Int) := by omega
          obtain ⟨ys, hy⟩ := get_some (xs := pss) (k := j) (by rw [HL.out]; exact hlt)
          obtain ⟨b, off, A', n', c', rfl, hbs, hc, hrr⟩ := hr.at_ hy
          have hc' := (hb3.cell (p := ⟨b, off + j, none⟩) hbs).trans hc
          have HS : Hid ((pss.take (j + 1)).flatten = (pss.take j).flatten ++ ys) := Lib.hid (totX_step hy)
          have hle := totX_le pss (j + 1)
          have hn' := rdE_len hrr
          rw [HS.out, List.length_append, ← HM.out, hn'] at hle
          have HLE : Hid (totX pss = TT) := Lib.hid (by rw [← HT.out, List.take_of_length_le (by rw [HL.out]; omega)]; rfl)
          rw [HLE.out] at hle
          have HR := Lib.hid (hrr.below hb3 (Nat.le_refl _))
          have HN := Lib.hid hn'
          clear hy hc hrr hn'
          go_wp2_with (at_builtin; go_must (refine wpList_appSN eltEl rfl _ _ rfl wr w.heap.size _ m _ (by rfl) ho3 A' n' c' (ints (eNums ys)) (by rfl) (by exact HR.out) (ints_one1 _) hb3.size (by omega) ?_); rintro A4 c4 w4 ho4 hb4 hg4)
          rw [app_nums', ← HS.out] at ho4
          go_roundw
          case rel => exact ⟨j + 1, A4, c4, m + n', by omega, by go_num, rfl, Lib.hid (by rw [HS.out, List.length_append, ← HM.out, HN.out]), ho4, hb3.trans hb4⟩
          case measure => simp [intOf]; omega
        · obtain rfl : j = k := by omega
          have HE : Hid (pss.take j = pss) := Lib.hid (List.take_of_length_le (by rw [HL.out]; omega))
          go_wp2_with fail
          go_ret
          rw [HE.out] at ho3
          exact ⟨A3, m, c3, rfl, ho3, hb3⟩
end Go.Proofs.YtadmbphefpfbmaaGreatDoor
/- Reading an expression back: the reference's function. Written by mk_backs.py. -/
namespace Go.Proofs.YtadmbphefpfbmaaGreatDoor
open Go.RowKit
set_option linter.unusedVariables false
set_option linter.unusedSimpArgs false
theorem l23OpenN_any (w : World) (A : Option Addr) (n c : Nat) (a b : Tr) (hr : Rd w A n (bools (Tr.node a b).bits)) (hn : n ≤ 1000000000) (hnc : n ≤ c) : Calls Tryz.prog 169 #[.slice A n c] w (fun e w' => ∃ A n c, e = .returned (.tuple #[.int .i64 (tagI a), .slice A n c]) ∧ w'.ownsRow w.heap.size 4 1 (.slice A n c) n (bools b.bits) ∧ Below w.heap.size w w') := l23Open_any w A n c (.node a b) hr hn hnc
theorem l23OpenE_any (w : World) (A : Option Addr) (n c : Nat) (hr : Rd w A n (bools Tr.nil.bits)) (hn : n ≤ 1000000000) (hnc : n ≤ c) : Calls Tryz.prog 169 #[.slice A n c] w (fun e w' => ∃ A n c, e = .returned (.tuple #[.int .i64 (-1), .slice A n c]) ∧ w'.ownsRow w.heap.size 4 1 (.slice A n c) n (bools []) ∧ Below w.heap.size w w') := l23Open_any w A n c .nil hr hn hnc
theorem back_M {tg mk nn bo : Tr} (hM : ¬ (3 ≤ tagI mk ∧ tagI mk ≤ 6)) : backT (.node tg (.node (.node mk nn) bo)) = none := by
  match nn, bo with
  | .nil, .node a b =>
    simp only [backT]
    split
    · exact comb_no _ _ hM
    · rfl
  | .nil, .nil => simp [backT]
  | .node _ _, _ => simp [backT]
theorem isNil_no {xs : List El} (h : xs.length ≠ 1) : isNil1 xs = false := by
  match xs with
  | [] => rfl
  | [_] => simp at h
  | _ :: _ :: _ => rfl
theorem isNil_one {x : El} : isNil1 [x] = (x.1 == 0) := rfl
theorem cons_nums (k : Int) (xs : List El) : ints (eNums [(k, 0)]) ++ ints (eNums xs) = ints (eNums ((k, 0) :: xs)) := by simp [eNums]
theorem app_nums (xs ys : List El) : ints (eNums xs) ++ ints (eNums ys) = ints (eNums (xs ++ ys)) := by simp [eNums_append]
set_option maxHeartbeats 16000000 in
set_option maxRecDepth 100000 in
theorem l23Back_any : ∀ (N : Nat) (t : Tr), t.nodes ≤ N → ∀ (w : World) (A : Option Addr) (n c : Nat), Rd w A n (bools t.bits) → n ≤ 1000000 → n ≤ c → Calls Tryz.prog 170 #[.slice A n c] w (BackP w t.nodes (backT t)) := by
  intro N
  induction N with
  | zero => intro t ht; have := t.nodes_pos; omega
  | succ N ih =>
    intro t ht w A n c hr hn hnc
    cases t with
    | nil =>
      go_enter Tryz.func170, Tryz.ntmps170
      go_wp2_with fail
      refine (l23OpenE_any _ _ _ _ hr (by omega) hnc).mono ?_
      rintro e w2 ⟨A2, n2, c2, rfl, ho2, hb2⟩
      go_wp2_with fail
      go_ret2
      exact BackP.none_ rfl hb2
    | node tg rest =>
      have HIH := Lib.hid ih
      clear ih
      have hnn : n = (Tr.node tg rest).nodes := by have := hr.1; simp [Tr.bits_len] at this; exact this.symm
      have hrn : rest.nodes ≤ n := by rw [hnn]; simp only [Tr.nodes]; omega
      have HN : Hid ((Tr.node tg rest).nodes ≤ N + 1) := Lib.hid ht
      have hp1 : 1 ≤ (Tr.node tg rest).nodes := Tr.nodes_pos _
      clear ht hnn
      generalize hT : tagI tg = T
      have HT := Lib.hid hT
      by_cases h0 : T = 0
      · subst h0
        cases rest with
        | nil =>
          have HQ := Lib.hid (back_leaf0 hT)
          clear hT
          go_enter Tryz.func170, Tryz.ntmps170
          go_wp2_with fail
          refine (l23OpenN_any _ _ _ _ tg _ hr (by omega) hnc).mono ?_
          rw [HT.out]
          rintro e w2 ⟨A2, n2, c2, rfl, ho2, hb2⟩
          obtain ⟨g, rfl, hg1, hg2, hc, _⟩ := own_get ho2 (k := 0) (u := .bool false) rfl
          have hn2 : 0 < n2 := by have := ho2.1; simp [Tr.bits] at this; omega
          go_wp2_with fail
          go_ret2
          exact ⟨_, 1, 1, [(0, 0)], by rw [HQ.out]; rfl, ownN_base (lit_el w2 0) hb2.size, by rw [HQ.out]; intro z hz; injection hz, hp1, hb2.trans ((below_new _ _).mono hb2.size)⟩
        | node x y =>
          have HQ := Lib.hid (back_nd (x := x) (y := y) (tg := tg) (by rw [hT]; decide))
          clear hT
          go_enter Tryz.func170, Tryz.ntmps170
          go_wp2_with fail
          refine (l23OpenN_any _ _ _ _ tg _ hr (by omega) hnc).mono ?_
          rw [HT.out]
          rintro e w2 ⟨A2, n2, c2, rfl, ho2, hb2⟩
          obtain ⟨g, rfl, hg1, hg2, hc, _⟩ := own_get ho2 (k := 0) (u := .bool true) rfl
          have hn2 : 0 < n2 := by have := ho2.1; simp [Tr.bits] at this; omega
          go_wp2_with fail
          go_ret2
          exact BackP.none_ HQ.out hb2
      by_cases h1 : T = 1
      · subst h1
        cases rest with
        | nil =>
          have HQ := Lib.hid (back_leaf1 hT)
          clear hT
          go_enter Tryz.func170, Tryz.ntmps170
          go_wp2_with fail
          refine (l23OpenN_any _ _ _ _ tg _ hr (by omega) hnc).mono ?_
          rw [HT.out]
          rintro e w2 ⟨A2, n2, c2, rfl, ho2, hb2⟩
          obtain ⟨g, rfl, hg1, hg2, hc, _⟩ := own_get ho2 (k := 0) (u := .bool false) rfl
          have hn2 : 0 < n2 := by have := ho2.1; simp [Tr.bits] at this; omega
          go_wp2_with fail
          go_ret2
          exact ⟨_, 1, 1, [(1, 0)], by rw [HQ.out]; rfl, ownN_base (lit_el w2 1) hb2.size, by rw [HQ.out]; intro z hz; injection hz, hp1, hb2.trans ((below_new _ _).mono hb2.size)⟩
        | node x y =>
          have HQ := Lib.hid (back_nd (x := x) (y := y) (tg := tg) (by rw [hT]; decide))
          clear hT
          go_enter Tryz.func170, Tryz.ntmps170
          go_wp2_with fail
          refine (l23OpenN_any _ _ _ _ tg _ hr (by omega) hnc).mono ?_
          rw [HT.out]
          rintro e w2 ⟨A2, n2, c2, rfl, ho2, hb2⟩
          obtain ⟨g, rfl, hg1, hg2, hc, _⟩ := own_get ho2 (k := 0) (u := .bool true) rfl
          have hn2 : 0 < n2 := by have := ho2.1; simp [Tr.bits] at this; omega
          go_wp2_with fail
          go_ret2
          exact BackP.none_ HQ.out hb2
      by_cases h2 : T = 2
      · subst h2
        cases rest with
        | nil =>
          have HQ := Lib.hid (back_2nil hT)
          clear hT
          go_enter Tryz.func170, Tryz.ntmps170
          go_wp2_with fail
          refine (l23OpenN_any _ _ _ _ tg _ hr (by omega) hnc).mono ?_
          rw [HT.out]
          rintro e w2 ⟨A2, n2, c2, rfl, ho2, hb2⟩
          obtain ⟨g, rfl, hg1, hg2, hc, _⟩ := own_get ho2 (k := 0) (u := .bool false) rfl
          have hn2 : 0 < n2 := by have := ho2.1; simp [Tr.bits] at this; omega
          go_wp2_with fail
          go_ret2
          exact BackP.none_ HQ.out hb2
        | node m bo =>
          clear hT
          go_enter Tryz.func170, Tryz.ntmps170
          go_wp2_with fail
          refine (l23OpenN_any _ _ _ _ tg _ hr (by omega) hnc).mono ?_
          rw [HT.out]
          rintro e w2 ⟨A2, n2, c2, rfl, ho2, hb2⟩
          obtain ⟨g, rfl, hg1, hg2, hc, _⟩ := own_get ho2 (k := 0) (u := .bool true) rfl
          have hn2 : 0 < n2 := by have := ho2.1; simp [Tr.bits] at this; omega
          have hn2n : n2 ≤ n := by have h3 := ho2.1; simp only [List.length_map, Tr.bits_len] at h3; omega
          have hnc2 : n2 ≤ c2 := ownN_cap ho2
          have hmn : m.nodes ≤ n := by simp only [Tr.nodes] at hrn; omega
          have hbn : bo.nodes ≤ n := by simp only [Tr.nodes] at hrn; omega
          have HO2 := Lib.hid (own_rd ho2)
          have HB2 := Lib.hid hb2
          clear ho2 hb2
          go_wp2_with fail
          refine (l21Head_any _ _ _ _ (.node m bo) HO2.out (by omega) hnc2).mono ?_
          rintro e w3 ⟨A3, n3, c3, rfl, ho3, hb3⟩
          have hn3 : n3 ≤ n := by have h3 := ho3.1; simp only [List.length_map, Tr.bits_len, Tr.hd] at h3; omega
          have HO3 := Lib.hid (own_rd ho3)
          have HC3 := Lib.hid (ownN_cap ho3)
          have HB3 := Lib.hid (HB2.out.trans (hb3.mono HB2.out.size))
          have HO23 := Lib.hid (HO2.out.below hb3 (Nat.le_refl _))
          clear ho3 hb3 hc
          go_wp2_with fail
          cases m with
          | nil =>
            have HQ : Hid (backT (.node tg (.node .nil bo)) = none) := Lib.hid (by simp [backT])
            refine (l23OpenE_any _ _ _ _ HO3.out (by omega) HC3.out).mono ?_
            rintro e w4 ⟨A4, n4, c4, rfl, ho4, hb4⟩
            have hB4 := HB3.out.trans (hb4.mono HB3.out.size)
            go_wp2_with fail
            refine (l21Tail_any _ _ _ _ (.node .nil bo) (HO23.out.below hb4 (Nat.le_refl _)) (by omega) hnc2).mono ?_
            rintro e w5 ⟨A5, n5, c5, rfl, ho5, hb5⟩
            go_wp2_with (go_at_call 42; go_must (refine (l00In_any _ _ _ _).mono ?_; rw [show inB (-1) 3 6 = false from rfl]; rintro e w' ⟨rfl, rfl⟩))
            go_ret2
            exact BackP.none_ HQ.out (hB4.trans (hb5.mono hB4.size))
          | node mk nn =>
            generalize hM : tagI mk = M
            refine (l23OpenN_any _ _ _ _ mk nn HO3.out (by omega) HC3.out).mono ?_
            rw [hM]
            rintro e w4 ⟨A4, n4, c4, rfl, ho4, hb4⟩
            have HM := Lib.hid hM
            clear hM
            have hnn4 : nn.nodes ≤ n := by simp only [Tr.nodes] at hmn; omega
            have HB4 := Lib.hid (HB3.out.trans (hb4.mono HB3.out.size))
            go_wp2_with fail
            refine (l21Tail_any _ _ _ _ (.node (.node mk nn) bo) (HO23.out.below hb4 (Nat.le_refl _)) (by omega) hnc2).mono ?_
            rintro e w5 ⟨A5, n5, c5, rfl, ho5, hb5⟩
            have HB5 := Lib.hid (HB4.out.trans (hb5.mono HB4.out.size))
            have ho45 := own_below ho4 hb5 (Nat.le_refl _)
            clear ho4 hb4 hb5
            cases hin : inB M 3 6 with
            | false =>
              have HQ := Lib.hid (back_M (tg := tg) (mk := mk) (nn := nn) (bo := bo) (by rw [HM.out]; exact inB_false.1 hin))
              have HI := Lib.hid hin
              clear hin
              go_wp2_with (go_at_call 42; go_must (refine (l00In_any _ _ _ _).mono ?_; rw [HI.out]; rintro e w' ⟨rfl, rfl⟩))
              go_ret2
              exact BackP.none_ HQ.out HB5.out
            | true =>
              have HI := Lib.hid hin
              have hMb := inB_true.1 hin
              clear hin
              cases nn with
              | node n1 n2' =>
                have HQ : Hid (backT (.node tg (.node (.node mk (.node n1 n2')) bo)) = none) := Lib.hid (by simp [backT])
                obtain ⟨g4, rfl, _, _, hc4, _⟩ := own_get ho45 (k := 0) (u := .bool true) rfl
                have hn4 : 0 < n4 := by have := ho45.1; simp [Tr.bits] at this; omega
                go_wp2_with (go_at_call 42; go_must (refine (l00In_any _ _ _ _).mono ?_; rw [HI.out]; rintro e w' ⟨rfl, rfl⟩))
                go_ret2
                exact BackP.none_ HQ.out HB5.out
              | nil =>
                obtain ⟨g4, rfl, _, _, hc4, _⟩ := own_get ho45 (k := 0) (u := .bool false) rfl
                have hn4 : 0 < n4 := by have := ho45.1; simp [Tr.bits] at this; omega
                cases bo with
                | nil =>
                  have HQ : Hid (backT (.node tg (.node (.node mk .nil) .nil)) = none) := Lib.hid (by simp [backT])
                  obtain ⟨g5, rfl, _, _, hc5, _⟩ := own_get ho5 (k := 0) (u := .bool false) rfl
                  have hn5 : 0 < n5 := by have := ho5.1; simp [Tr.bits, Tr.tl] at this; omega
                  go_wp2_with (go_at_call 42; go_must (refine (l00In_any _ _ _ _).mono ?_; rw [HI.out]; rintro e w' ⟨rfl, rfl⟩))
                  go_ret2
                  exact BackP.none_ HQ.out HB5.out
                | node a b =>
                  obtain ⟨g5, rfl, _, _, hc5, _⟩ := own_get ho5 (k := 0) (u := .bool true) rfl
                  have hn5 : 0 < n5 := by have := ho5.1; simp [Tr.bits, Tr.tl] at this; omega
                  have hn5n : n5 ≤ n := by have h3 := ho5.1; simp only [List.length_map, Tr.bits_len, Tr.tl] at h3; omega
                  have HO5 := Lib.hid (own_rd ho5)
                  have HC5 := Lib.hid (ownN_cap ho5)
                  have hna : a.nodes ≤ n := by simp only [Tr.nodes] at hbn; omega
                  have hnb : b.nodes ≤ n := by simp only [Tr.nodes] at hbn; omega
                  have HNA : Hid (a.nodes ≤ N ∧ b.nodes ≤ N ∧ a.nodes + b.nodes + 1 ≤ (Tr.node tg (.node (.node mk .nil) (.node a b))).nodes) := Lib.hid (by have h3 := HN.out; simp only [Tr.nodes] at h3 ⊢; omega)
                  clear ho5 ho45 hrn hmn hbn
                  go_wp2_with (go_at_call 42; go_must (refine (l00In_any _ _ _ _).mono ?_; rw [HI.out]; rintro e w' ⟨rfl, rfl⟩))
                  have HBK : Hid (backT (.node tg (.node (.node mk .nil) (.node a b))) = comb mk (backT a) (backT b)) := Lib.hid (back_2 HT.out)
                  clear hc4 hc5
                  refine (l21Head_any _ _ _ _ (.node a b) (by exact HO5.out) (by omega) HC5.out).mono ?_
                  rintro e w6 ⟨A6, n6, c6, rfl, ho6, hb6⟩
                  have hn6 : n6 ≤ n := by have h3 := ho6.1; simp only [List.length_map, Tr.bits_len, Tr.hd] at h3; omega
                  have HB6 := Lib.hid (HB5.out.trans (hb6.mono HB5.out.size))
                  have HO56 := Lib.hid (HO5.out.below hb6 (Nat.le_refl _))
                  have hca := HIH.out a HNA.out.1 _ _ _ _ (own_rd ho6) (by omega) (ownN_cap ho6)
                  clear ho6 hb6
                  generalize hoa : backT a = oa at hca HBK
                  have HOA := Lib.hid hoa
                  clear hoa
                  go_wp2_with fail
                  refine hca.mono ?_
                  rintro e w7 ⟨A7, n7, c7, za, rfl, ho7, hz7, hn7, hb7⟩
                  have HB7 := Lib.hid (HB6.out.trans (hb7.mono HB6.out.size))
                  have HO57 := Lib.hid (HO56.out.below hb7 (Nat.le_refl _))
                  clear hca hb7
                  go_wp2_with fail
                  refine (l21Tail_any _ _ _ _ (.node a b) (by exact HO57.out) (by omega) HC5.out).mono ?_
                  rintro e w8 ⟨A8, n8, c8, rfl, ho8, hb8⟩
                  have hn8 : n8 ≤ n := by have h3 := ho8.1; simp only [List.length_map, Tr.bits_len, Tr.tl] at h3; omega
                  have HB8 := Lib.hid (HB7.out.trans (hb8.mono HB7.out.size))
                  have ho78 := ownN_below ho7 hb8 (Nat.le_refl _)
                  have hcb := HIH.out b HNA.out.2.1 _ _ _ _ (own_rd ho8) (by omega) (ownN_cap ho8)
                  clear ho8 hb8 ho7
                  generalize hob : backT b = ob at hcb HBK
                  have HOB := Lib.hid hob
                  clear hob
                  go_wp2_with fail
                  refine hcb.mono ?_
                  rintro e w9 ⟨A9, n9, c9, zb, rfl, ho9, hz9, hn9, hb9⟩
                  have HB9 := Lib.hid (HB8.out.trans (hb9.mono HB8.out.size))
                  have ho79 := ownN_below ho78 hb9 (Nat.le_refl _)
                  clear hcb hb9 ho78
                  cases oa with
                  | none =>
                    simp only [Option.isSome_none]
                    have HQ := Lib.hid (HBK.out.trans (comb_l _ _))
                    go_wp2_with fail
                    go_ret2
                    exact BackP.none_ HQ.out HB9.out
                  | some xa =>
                    cases ob with
                    | none =>
                      simp only [Option.isSome_none, Option.isSome_some]
                      have HQ := Lib.hid (HBK.out.trans (comb_r _ _))
                      go_wp2_with fail
                      go_ret2
                      exact BackP.none_ HQ.out HB9.out
                    | some xb =>
                      simp only [Option.isSome_some]
                      obtain rfl : za = xa := hz7 xa rfl
                      obtain rfl : zb = xb := hz9 xb rfl
                      have hN3 := HNA.out.2.2
                      have hna7 := hn7
                      have hnb9 := hn9
                      have hkb := below_new w9 (.cells #[.int .i64 2, .int .i64 3, .int .i64 4, .int .i64 5] 2)
                      have hkx := box_new w9 #[.int .i64 2, .int .i64 3, .int .i64 4, .int .i64 5] 2
                      have HA7 := Lib.hid (ownN_rd ho79)
                      have HA9 := Lib.hid (ownN_rd ho9)
                      have hL9 := eN_len ho9
                      clear ho79 ho9 hz7 hz9
                      obtain ⟨wk, hwk⟩ : ∃ wk, wk = w9.alloc (.cells #[.int .i64 2, .int .i64 3, .int .i64 4, .int .i64 5] 2) := ⟨_, rfl⟩
                      have HBk : Hid (Below w.heap.size w wk) := Lib.hid (by rw [hwk]; exact HB9.out.trans (hkb.mono HB9.out.size))
                      have HAk : Hid (Rd wk A7 (n7 * 2) (ints (eNums za)) ∧ Rd wk A9 (n9 * 2) (ints (eNums zb))) := Lib.hid (by rw [hwk]; exact ⟨HA7.out.below hkb (Nat.le_refl _), HA9.out.below hkb (Nat.le_refl _)⟩)
                      have hM4 : M = 3 ∨ M = 4 ∨ M = 5 ∨ M = 6 := by omega
                      clear hMb hkb HA7 HA9
                      rcases hM4 with rfl | hM4
                      · have kc := blk_cell hkx 0 rfl
                        rw [← hwk] at kc
                        clear hkx
                        have hsz : wk.heap.size = w9.heap.size + 1 := by rw [hwk]; simp
                        have hlt := lit_el wk 2
                        have hbl := below_new wk (.cells #[.int .i64 2, .int .i64 0] 110)
                        have HAl := Lib.hid (And.intro (HAk.out.1.below hbl (Nat.le_refl _)) (HAk.out.2.below hbl (Nat.le_refl _)))
                        have HQ := Lib.hid (HBK.out.trans (comb_3 (x := za) (y := zb) HM.out))
                        rw [hsz] at hlt hbl
                        have HBL := Lib.hid hbl
                        have HLT := Lib.hid hlt
                        clear hbl hlt hsz
                        subst hwk
                        go_wp2_with (first
                          | (at_builtin; refine wpList_appSN eltEl rfl _ _ rfl _ (w9.heap.size + 1) _ 1 _ (by rfl) (by exact HLT.out) _ n7 c7 (ints (eNums za)) (by rfl) (by exact HAl.out.1) (ints_one1 _) (by simp) (by omega) ?_; rintro A10 c10 w10 ho10 hb10 hg10; have hs10 := hb10.size; have HAm := Lib.hid (HAk.out.2.below (HBL.out.trans hb10) (by simp)))
                          | (at_builtin; go_must (refine wpList_appSN eltEl rfl _ _ rfl _ (w9.heap.size + 1) _ (1 + n7) _ (by rfl) ho10 _ n9 c9 (ints (eNums zb)) (by rfl) (by exact HAm.out) (ints_one1 _) (by simp at hs10; omega) (by omega) ?_); rintro A11 c11 w11 ho11 hb11 hg11))
                        go_ret2
                        rw [cons_nums, app_nums] at ho11
                        exact ⟨A11, 1 + n7 + n9, c11, (2, 0) :: (za ++ zb), by rw [HQ.out]; rfl, ownN_base ho11 (by have := HB9.out.size; omega), by rw [HQ.out]; intro z hz; injection hz, by omega, HBk.out.trans ((HBL.out.trans (hb10.trans hb11)).mono (by have := HB9.out.size; omega))⟩
                      rcases hM4 with rfl | hM4
                      · have kc := blk_cell hkx 1 rfl
                        rw [← hwk] at kc
                        clear hkx
                        have hsz : wk.heap.size = w9.heap.size + 1 := by rw [hwk]; simp
                        have hlt := lit_el wk 3
                        have hbl := below_new wk (.cells #[.int .i64 3, .int .i64 0] 110)
                        have HAl := Lib.hid (And.intro (HAk.out.1.below hbl (Nat.le_refl _)) (HAk.out.2.below hbl (Nat.le_refl _)))
                        have HQ := Lib.hid (HBK.out.trans (comb_4 (x := za) (y := zb) HM.out))
                        rw [hsz] at hlt hbl
                        have HBL := Lib.hid hbl
                        have HLT := Lib.hid hlt
                        clear hbl hlt hsz
                        subst hwk
                        go_wp2_with (at_builtin; go_must (refine wpList_appSN eltEl rfl _ _ rfl _ (w9.heap.size + 1) _ 1 _ (by rfl) (by exact HLT.out) _ n7 c7 (ints (eNums za)) (by rfl) (by exact HAl.out.1) (ints_one1 _) (by simp) (by omega) ?_); rintro A10 c10 w10 ho10 hb10 hg10; have HAm := Lib.hid (HAk.out.2.below (HBL.out.trans hb10) (by simp)))
                        rw [cons_nums] at ho10
                        have hNN : 1 + n7 ≤ (Tr.node tg (.node (.node mk .nil) (.node a b))).nodes := by omega
                        have hBB := HBk.out.trans ((HBL.out.trans hb10).mono (by have := HB9.out.size; omega))
                        have hOO := ownN_base ho10 (base' := w.heap.size) (by have := HB9.out.size; omega)
                        clear ho10 hb10 hg10 kc
                        by_cases h19 : n9 = 1
                        · subst h19
                          obtain ⟨y, hy⟩ := get_some (xs := zb) (k := 0) (by omega)
                          have hzb : zb = [y] := by
                            match zb, hL9, hy with
                            | [q], _, hy => simp at hy; rw [hy]
                          obtain ⟨bk, off, rfl, hbs, q0, q1⟩ := rdE HAm.out hy
                          simp only [Nat.zero_mul, Nat.add_zero] at q0
                          have HN1 : Hid (isNil1 zb = (y.1 == 0)) := Lib.hid (by rw [hzb]; rfl)
                          clear hy hzb hL9 q1
                          by_cases hy0 : y.1 = 0
                          · have HR : Hid (backT (.node tg (.node (.node mk .nil) (.node a b))) = some ((3, 0) :: za)) := Lib.hid (by rw [HQ.out, HN1.out, hy0]; rfl)
                            rw [hy0] at q0
                            clear hy0
                            go_quiet (fail)
                            go_wp2_with fail
                            go_ret2
                            exact ⟨A10, 1 + n7, c10, _, by rw [HR.out]; rfl, hOO, by rw [HR.out]; intro z hz; injection hz, hNN, below_drewN hBB⟩
                          · have HR : Hid (backT (.node tg (.node (.node mk .nil) (.node a b))) = none) := Lib.hid (by rw [HQ.out, HN1.out]; simp [hy0])
                            have y0 : (y.1 == 0) = false := by simpa using hy0
                            go_quiet (fail)
                            go_wp2_with fail
                            go_ret2
                            exact ⟨A10, 1 + n7, c10, _, by rw [HR.out]; rfl, hOO, (by rw [HR.out]; intro z hz; cases hz), hNN, below_drewN hBB⟩
                        · have HR : Hid (backT (.node tg (.node (.node mk .nil) (.node a b))) = none) := Lib.hid (by rw [HQ.out, isNil_no (by omega)]; rfl)
                          have y9 : ((n9 : Int) == 1) = false := by simp; omega
                          go_quiet (fail)
                          go_wp2_with fail
                          go_ret2
                          exact ⟨A10, 1 + n7, c10, _, by rw [HR.out]; rfl, hOO, (by rw [HR.out]; intro z hz; cases hz), hNN, below_drewN hBB⟩
                      rcases hM4 with rfl | rfl
                      · have kc := blk_cell hkx 2 rfl
                        rw [← hwk] at kc
                        clear hkx
                        have hsz : wk.heap.size = w9.heap.size + 1 := by rw [hwk]; simp
                        have hlt := lit_el wk 4
                        have hbl := below_new wk (.cells #[.int .i64 4, .int .i64 0] 110)
                        have HAl := Lib.hid (And.intro (HAk.out.1.below hbl (Nat.le_refl _)) (HAk.out.2.below hbl (Nat.le_refl _)))
                        have HQ := Lib.hid (HBK.out.trans (comb_5 (x := za) (y := zb) HM.out))
                        rw [hsz] at hlt hbl
                        have HBL := Lib.hid hbl
                        have HLT := Lib.hid hlt
                        clear hbl hlt hsz
                        subst hwk
                        go_wp2_with (at_builtin; go_must (refine wpList_appSN eltEl rfl _ _ rfl _ (w9.heap.size + 1) _ 1 _ (by rfl) (by exact HLT.out) _ n7 c7 (ints (eNums za)) (by rfl) (by exact HAl.out.1) (ints_one1 _) (by simp) (by omega) ?_); rintro A10 c10 w10 ho10 hb10 hg10; have HAm := Lib.hid (HAk.out.2.below (HBL.out.trans hb10) (by simp)))
                        rw [cons_nums] at ho10
                        have hNN : 1 + n7 ≤ (Tr.node tg (.node (.node mk .nil) (.node a b))).nodes := by omega
                        have hBB := HBk.out.trans ((HBL.out.trans hb10).mono (by have := HB9.out.size; omega))
                        have hOO := ownN_base ho10 (base' := w.heap.size) (by have := HB9.out.size; omega)
                        clear ho10 hb10 hg10 kc
                        by_cases h19 : n9 = 1
                        · subst h19
                          obtain ⟨y, hy⟩ := get_some (xs := zb) (k := 0) (by omega)
                          have hzb : zb = [y] := by
                            match zb, hL9, hy with
                            | [q], _, hy => simp at hy; rw [hy]
                          obtain ⟨bk, off, rfl, hbs, q0, q1⟩ := rdE HAm.out hy
                          simp only [Nat.zero_mul, Nat.add_zero] at q0
                          have HN1 : Hid (isNil1 zb = (y.1 == 0)) := Lib.hid (by rw [hzb]; rfl)
                          clear hy hzb hL9 q1
                          by_cases hy0 : y.1 = 0
                          · have HR : Hid (backT (.node tg (.node (.node mk .nil) (.node a b))) = some ((4, 0) :: za)) := Lib.hid (by rw [HQ.out, HN1.out, hy0]; rfl)
                            rw [hy0] at q0
                            clear hy0
                            go_quiet (fail)
                            go_wp2_with fail
                            go_ret2
                            exact ⟨A10, 1 + n7, c10, _, by rw [HR.out]; rfl, hOO, by rw [HR.out]; intro z hz; injection hz, hNN, below_drewN hBB⟩
                          · have HR : Hid (backT (.node tg (.node (.node mk .nil) (.node a b))) = none) := Lib.hid (by rw [HQ.out, HN1.out]; simp [hy0])
                            have y0 : (y.1 == 0) = false := by simpa using hy0
                            go_quiet (fail)
                            go_wp2_with fail
                            go_ret2
                            exact ⟨A10, 1 + n7, c10, _, by rw [HR.out]; rfl, hOO, (by rw [HR.out]; intro z hz; cases hz), hNN, below_drewN hBB⟩
                        · have HR : Hid (backT (.node tg (.node (.node mk .nil) (.node a b))) = none) := Lib.hid (by rw [HQ.out, isNil_no (by omega)]; rfl)
                          have y9 : ((n9 : Int) == 1) = false := by simp; omega
                          go_quiet (fail)
                          go_wp2_with fail
                          go_ret2
                          exact ⟨A10, 1 + n7, c10, _, by rw [HR.out]; rfl, hOO, (by rw [HR.out]; intro z hz; cases hz), hNN, below_drewN hBB⟩
                      · have kc := blk_cell hkx 3 rfl
                        rw [← hwk] at kc
                        clear hkx
                        have hsz : wk.heap.size = w9.heap.size + 1 := by rw [hwk]; simp
                        have hlt := lit_el wk 5
                        have hbl := below_new wk (.cells #[.int .i64 5, .int .i64 0] 110)
                        have HAl := Lib.hid (And.intro (HAk.out.1.below hbl (Nat.le_refl _)) (HAk.out.2.below hbl (Nat.le_refl _)))
                        have HQ := Lib.hid (HBK.out.trans (comb_6 (x := za) (y := zb) HM.out))
                        rw [hsz] at hlt hbl
                        have HBL := Lib.hid hbl
                        have HLT := Lib.hid hlt
                        clear hbl hlt hsz
                        subst hwk
                        go_wp2_with (first
                          | (at_builtin; refine wpList_appSN eltEl rfl _ _ rfl _ (w9.heap.size + 1) _ 1 _ (by rfl) (by exact HLT.out) _ n7 c7 (ints (eNums za)) (by rfl) (by exact HAl.out.1) (ints_one1 _) (by simp) (by omega) ?_; rintro A10 c10 w10 ho10 hb10 hg10; have hs10 := hb10.size; have HAm := Lib.hid (HAk.out.2.below (HBL.out.trans hb10) (by simp)))
                          | (at_builtin; go_must (refine wpList_appSN eltEl rfl _ _ rfl _ (w9.heap.size + 1) _ (1 + n7) _ (by rfl) ho10 _ n9 c9 (ints (eNums zb)) (by rfl) (by exact HAm.out) (ints_one1 _) (by simp at hs10; omega) (by omega) ?_); rintro A11 c11 w11 ho11 hb11 hg11))
                        go_ret2
                        rw [cons_nums, app_nums] at ho11
                        exact ⟨A11, 1 + n7 + n9, c11, (5, 0) :: (za ++ zb), by rw [HQ.out]; rfl, ownN_base ho11 (by have := HB9.out.size; omega), by rw [HQ.out]; intro z hz; injection hz, by omega, HBk.out.trans ((HBL.out.trans (hb10.trans hb11)).mono (by have := HB9.out.size; omega))⟩
      · have HQ := Lib.hid (back_no (tg := tg) rest (by rw [hT]; exact h0) (by rw [hT]; exact h1) (by rw [hT]; exact h2))
        have b0 : (T == 0) = false := by simpa using h0
        have b1 : (T == 1) = false := by simpa using h1
        have b2 : (T == 2) = false := by simpa using h2
        have b2' : (T != 2) = true := by simpa using h2
        clear hT
        go_enter Tryz.func170, Tryz.ntmps170
        go_wp2_with fail
        refine (l23OpenN_any _ _ _ _ tg _ hr (by omega) hnc).mono ?_
        rw [HT.out]
        rintro e w2 ⟨A2, n2, c2, rfl, ho2, hb2⟩
        go_wp2_with fail
        go_ret2
        exact BackP.none_ HQ.out hb2
end Go.Proofs.YtadmbphefpfbmaaGreatDoor
