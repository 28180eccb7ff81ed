/- Whether two trees of pointers are equal; head and tail. -/
import Derived.Test.YtilbgbibddjdcaaExC
import Derived.LaidEqlPtr
namespace Go.Proofs.Ytilbgbibddjdcaa
open Go.RowKit
set_option linter.unusedVariables false
set_option linter.unusedSimpArgs false
theorem IsT.det {w : World} {lo hi lo2 hi2 : Nat} : ∀ {t u : Tr} {v : Value}, IsT w lo hi v t → IsT w lo2 hi2 v u → t = u
  | .nil, .nil, _, _, _ => rfl
  | .nil, .node _ _, _, h, ⟨b, vh, vt, e, _⟩ => by
    have h' : _ = Value.pointer none := h
    rw [h'] at e
    simp at e
  | .node _ _, .nil, _, ⟨b, vh, vt, e, _⟩, h => by
    have h' : _ = Value.pointer none := h
    rw [h'] at e
    simp at e
  | .node a b, .node c d, _, ⟨g, vh, vt, e, _, _, h3, h4, h5⟩, ⟨g', vh', vt', e', _, _, h3', h4', h5'⟩ => by
    rw [e] at e'
    obtain rfl : g = g' := by simpa using e'
    rw [h3] at h3'
    have e1 : vh = vh' := by simp at h3'; exact h3'.1
    have e2 : vt = vt' := by simp at h3'; exact h3'.2.1
    subst e1 e2
    rw [h4.det h4', h5.det h5']
def Tr.hd : Tr → Tr
  | .nil => .nil
  | .node a _ => a
def Tr.tl : Tr → Tr
  | .nil => .nil
  | .node _ a => a
theorem infoTree : ∃ j, Try.prog.info? 123 = some j ∧ j.size ≠ 0 := by
  have h : (Try.prog.info? 123).map (fun i => i.size) = some 3 := by kernel_rfl
  cases hq : Try.prog.info? 123 with
  | none => rw [hq] at h; cases h
  | some j => rw [hq] at h; exact ⟨j, rfl, by simp at h; omega⟩
theorem eqp_nil (w : World) (a : Addr) : (binOp .eql 76 (.pointer none) (.pointer (some a))).run Try.prog w = .ok (.bool false) w := by
  have h : ∀ d : Nat, (Op.equalIn (d + 1) 76 (.pointer none) (.pointer (some a))).run Try.prog w = .ok false w := fun d => by
    simp [Op.equalIn, run_underlying Try.underlying76]
  simp only [binOp]
  simp [Op.equal, Op.maxDepth, h 9999]
theorem eqp_same (w : World) (a : Addr) : (binOp .eql 76 (.pointer (some a)) (.pointer (some a))).run Try.prog w = .ok (.bool true) w := by
  obtain ⟨j, hj, _⟩ := infoTree
  exact run_eql_ptr_same w a Try.underlying76 hj
theorem eqp_other (w : World) (b b' : Nat) {ca cb : Array Value} {ta tb : TypeId} (hne : b ≠ b') (ha : w.heap[b]? = some (.cells ca ta (0, 0))) (hb : w.heap[b']? = some (.cells cb tb (0, 0))) : (binOp .eql 76 (.pointer (some ⟨b, 0, none⟩)) (.pointer (some ⟨b', 0, none⟩))).run Try.prog w = .ok (.bool false) w := by
  obtain ⟨j, hj, hs⟩ := infoTree
  exact run_eql_ptr_other w Try.underlying76 hj hs (by intro e; cases e; exact hne rfl) ha hb
theorem IsT.blk {w : World} {lo hi b : Nat} {l r : Tr} (h : IsT w lo hi (.pointer (some ⟨b, 0, none⟩)) (.node l r)) : ∃ cs, w.heap[b]? = some (.cells cs 123 (0, 0)) := by
  obtain ⟨b', vh, vt, e, _, _, h3, _⟩ := h
  obtain rfl : b = b' := by simpa using e
  exact ⟨_, h3⟩
theorem Tr.beq_self (t : Tr) : t.beq t = true := (Tr.beq_iff t t).2 rfl
theorem Tr.beq_nodes {t u : Tr} (h : t.nodes ≠ u.nodes) : t.beq u = false := by
  cases hb : t.beq u with
  | false => rfl
  | true => exact absurd (by rw [(Tr.beq_iff t u).1 hb]) h
set_option maxHeartbeats 2000000 in
theorem headOf_any (w : World) (lo hi : Nat) (v : Value) (t : Tr) (h : IsT w lo hi v t) : Calls Try.prog 129 #[v] w fun e w' => (∃ v', e = .returned v' ∧ IsT w lo hi v' t.hd) ∧ w = w' := by
  rcases h.ptr with ⟨rfl, rfl⟩ | ⟨b, vh, vt, h', t', rfl, rfl, _, _, c0, c1, c2, hh, ht⟩
  · go_enter Try.func129, Try.ntmps129
    go_wp2_with fail
    go_ret
    exact ⟨⟨_, rfl, rfl⟩, rfl⟩
  · obtain ⟨o1, rfl⟩ := hh.isPtr
    obtain ⟨o2, rfl⟩ := ht.isPtr
    clear c2 h
    go_enter Try.func129, Try.ntmps129
    go_wp2_with fail
    go_ret
    exact ⟨⟨_, rfl, hh⟩, rfl⟩
set_option maxHeartbeats 2000000 in
theorem tailOf_any (w : World) (lo hi : Nat) (v : Value) (t : Tr) (h : IsT w lo hi v t) : Calls Try.prog 130 #[v] w fun e w' => (∃ v', e = .returned v' ∧ IsT w lo hi v' t.tl) ∧ w = w' := by
  rcases h.ptr with ⟨rfl, rfl⟩ | ⟨b, vh, vt, h', t', rfl, rfl, _, _, c0, c1, c2, hh, ht⟩
  · go_enter Try.func130, Try.ntmps130
    go_wp2_with fail
    go_ret
    exact ⟨⟨_, rfl, rfl⟩, rfl⟩
  · obtain ⟨o1, rfl⟩ := hh.isPtr
    obtain ⟨o2, rfl⟩ := ht.isPtr
    clear c2 h
    go_enter Try.func130, Try.ntmps130
    go_wp2_with fail
    go_ret
    exact ⟨⟨_, rfl, ht⟩, rfl⟩
def EqP (w : World) (q : Bool) (e : Ending) (w' : World) : Prop := e = .returned (.bool q) ∧ ∃ m, w' = w.drewN m
set_option maxHeartbeats 4000000 in
set_option maxRecDepth 100000 in
theorem equal_q : ∀ (t u : Tr) (w : World) (lo hi : Nat) (v v' : Value), IsT w lo hi v t → IsT w lo hi v' u → hi ≤ w.heap.size → Calls Try.prog 131 #[v, v'] w (EqP w (t.beq u)) := by
  intro t
  induction t with
  | nil =>
    intro u w lo hi v v' h h' hhi
    obtain rfl : v = .pointer none := h
    rcases h'.ptr with ⟨rfl, rfl⟩ | ⟨b, vh, vt, a, a', rfl, rfl, _, hb2, c0, c1, c2, hh, ht⟩
    · go_enter Try.func131, Try.ntmps131
      go_wp2_with fail
      go_ret
      exact ⟨rfl, 0, rfl⟩
    · have hrun := eqp_nil w ⟨b, 0, none⟩
      clear h' c0 c1 c2
      go_enter Try.func131, Try.ntmps131
      go_wp2_with fail
      go_quiet (fail)
      go_wp2_with fail
      go_ret
      exact ⟨rfl, _, rfl⟩
  | node l r ihl ihr =>
    intro u w lo hi v v' h h' hhi
    rcases h.ptr with ⟨_, h0⟩ | ⟨b, vh, vt, a1, a2, rfl, hq, hb1, hb2, c0, c1, c2, hh, ht⟩
    · cases h0
    cases hq
    rcases h'.ptr with ⟨rfl, rfl⟩ | ⟨b', vh', vt', a, a', rfl, rfl, hb1', hb2', d0, d1, d2, hh', ht'⟩
    · clear h h' c0 c1 c2
      go_enter Try.func131, Try.ntmps131
      go_wp2_with fail
      go_quiet (fail)
      go_wp2_with fail
      go_ret
      exact ⟨rfl, _, rfl⟩
    · by_cases hbb : b = b'
      · subst hbb
        have HQ : Hid ((Tr.node l r).beq (.node a a') = true) := Lib.hid ((Tr.beq_iff _ _).2 (h.det h'))
        have hrun := eqp_same w ⟨b, 0, none⟩
        clear c0 c1 c2 d0 d1 d2 h h'
        go_enter Try.func131, Try.ntmps131
        go_wp2_with fail
        go_ret
        exact ⟨by rw [HQ.out]; rfl, 0, rfl⟩
      · obtain ⟨o1, rfl⟩ := hh.isPtr
        obtain ⟨o2, rfl⟩ := ht.isPtr
        obtain ⟨o3, rfl⟩ := hh'.isPtr
        obtain ⟨o4, rfl⟩ := ht'.isPtr
        obtain ⟨cs1, hk1⟩ := h.blk
        obtain ⟨cs2, hk2⟩ := h'.blk
        have hrun := eqp_other w b b' hbb hk1 hk2
        clear hk1 hk2
        by_cases hN : (Tr.node l r).nodes = (Tr.node a a').nodes
        · rw [← hN] at d2
          generalize (Tr.node l r).nodes = N at c2 d2
          have HC1 : Hid (∀ w0, (∃ k, w0 = w.drewN k) → ∀ n, Calls Try.prog 131 #[.pointer o1, .pointer o3] (w0.drewN n) (EqP (w0.drewN n) (l.beq a))) := Lib.hid (by
            rintro _ ⟨k, rfl⟩ n
            exact ihl a _ lo hi _ _ (IsT.keep (w := w) (w' := (w.drewN k).drewN n) (fun _ _ _ => rfl) hh) (IsT.keep (w := w) (w' := (w.drewN k).drewN n) (fun _ _ _ => rfl) hh') hhi)
          have HC2 : Hid (∀ w0, (∃ k, w0 = w.drewN k) → ∀ n, Calls Try.prog 131 #[.pointer o2, .pointer o4] (w0.drewN n) (EqP (w0.drewN n) (r.beq a'))) := Lib.hid (by
            rintro _ ⟨k, rfl⟩ n
            exact ihr a' _ lo hi _ _ (IsT.keep (w := w) (w' := (w.drewN k).drewN n) (fun _ _ _ => rfl) ht) (IsT.keep (w := w) (w' := (w.drewN k).drewN n) (fun _ _ _ => rfl) ht') hhi)
          have HQ : Hid ((Tr.node l r).beq (.node a a') = (l.beq a && r.beq a')) := Lib.hid rfl
          clear ihl ihr hN h h' hh hh' ht ht'
          generalize r.beq a' = q2 at HC2 HQ
          generalize l.beq a = q1 at HC1 HQ
          cases q1
          all_goals
            go_enter Try.func131, Try.ntmps131
            go_wp2_with fail
            go_quiet (fail)
            go_wp2_with fail
            have k0 : (w.drewN nq).cell? ⟨b, 0, none⟩ = some (.pointer o1) := c0
            have k1 : (w.drewN nq).cell? ⟨b, 1, none⟩ = some (.pointer o2) := c1
            have l0 : (w.drewN nq).cell? ⟨b', 0, none⟩ = some (.pointer o3) := d0
            have l1 : (w.drewN nq).cell? ⟨b', 1, none⟩ = some (.pointer o4) := d1
            clear c0 c1 d0 d1 c2 d2 hrun
            obtain ⟨w0, hw0⟩ : ∃ w0, w0 = w.drewN nq := ⟨_, rfl⟩
            rw [← hw0] at k0 k1 l0 l1 ⊢
            have HK1 := Lib.hid (fun n => Calls.quiet_of (HC1.out w0 ⟨nq, hw0⟩ n))
            have HK2 := Lib.hid (fun n => Calls.quiet_of (HC2.out w0 ⟨nq, hw0⟩ n))
            clear HC1 HC2
            have HW := Lib.hid hw0
            clear hw0
            go_quiet (first
              | (go_at_call 131; with_reducible exact HK1.out _)
              | (go_at_call 131; with_reducible exact HK2.out _))
            go_wp2_with fail
            go_ret
            exact ⟨by rw [HQ.out]; rfl, by rw [HW.out, World.drewN_drewN]; exact ⟨_, rfl⟩⟩
        · have HQ : Hid ((Tr.node l r).beq (.node a a') = false) := Lib.hid (Tr.beq_nodes hN)
          have hN' : ((((Tr.node l r).nodes : Nat) : Int) != (((Tr.node a a').nodes : Nat) : Int)) = true := by simp; omega
          have hN2 : ¬ (((Tr.node l r).nodes : Nat) : Int) = (((Tr.node a a').nodes : Nat) : Int) := by omega
          generalize (Tr.node l r).nodes = N1 at *
          generalize (Tr.node a a').nodes = N2 at *
          clear h h'
          go_enter Try.func131, Try.ntmps131
          go_wp2_with fail
          go_quiet (fail)
          go_wp2_with fail
          go_ret
          exact ⟨by rw [HQ.out]; rfl, _, rfl⟩
theorem equal_any (t u : Tr) (w : World) (lo hi : Nat) (v v' : Value) (h : IsT w lo hi v t) (h' : IsT w lo hi v' u) (hhi : hi ≤ w.heap.size) : Calls Try.prog 131 #[v, v'] w (RetV w (.bool (t.beq u))) :=
  (equal_q t u w lo hi v v' h h' hhi).mono fun e w' ⟨h1, m, h2⟩ => ⟨h1, by rw [h2]; exact below_drewN (Below.refl _ _)⟩
end Go.Proofs.Ytilbgbibddjdcaa
