/- The two joined programs (program): two or three programs one behind the other. -/
import Derived.Test.YtadmbphefpfbmaaGreatDoorPvU
namespace Go.Proofs.YtadmbphefpfbmaaGreatDoor
open Go.RowKit
set_option linter.unusedVariables false
set_option linter.unusedSimpArgs false
attribute [local go_sem ↓] Go.wp_at_zero Go.wp_at_succ
/-- Programs joined: what is handed back. -/
def JnP (w : World) (K : Nat) (cs : List Cmd) (e : Ending) (w' : World) : Prop := ∃ A n c, e = .returned (.slice A n c) ∧ n ≤ K ∧ RdC w' A n cs ∧ n ≤ c ∧ Below w.heap.size w w'
theorem behindK_any (p : Pg) (s : ByteArray) (hs : TxOk p s) (K : Nat) (w : World) (A : Option Addr) (n c : Nat) (cs : List Cmd) (hr : RdC w A n cs) (hn : n ≤ 80) (hK : p.sz + 80 ≤ K) : Calls Tryz.prog 29 #[.string s, .slice A n c] w (JnP w K (p.cmds ++ cs)) := by
  refine (behindY_any p s hs w A n c cs hr (by omega)).mono ?_
  rintro e w' ⟨A', c', rfl, h1, h2, h3⟩
  exact ⟨A', p.sz + n, c', rfl, by omega, h1, h2, h3⟩
theorem whileOfK_any (p : Pg) (s : ByteArray) (hs : TxOk p s) (K : Nat) (w : World) (hK : p.sz ≤ K) : Calls Tryz.prog 32 #[.string s] w (JnP w K p.cmds) := by
  refine (whileOfY_any p s hs w).mono ?_
  rintro e w' ⟨A', c', rfl, h1, h2⟩
  exact ⟨A', p.sz, c', rfl, hK, h1.rdc, h1.cap, h2⟩
theorem parts_app {w : World} {cs ds : List Cmd} {ss ts : List Value} (h : ss.length = cs.length)
    (k1 : ∀ (i : Nat) (s : Value) (x : Cmd), ss[i]? = some s → cs[i]? = some x → ∃ A' n' c', s = .slice A' n' c' ∧ n' ≤ 1000000000 ∧ n' ≤ c' ∧ RdE w A' n' x.e)
    (k2 : ∀ (i : Nat) (s : Value) (x : Cmd), ts[i]? = some s → ds[i]? = some x → ∃ A' n' c', s = .slice A' n' c' ∧ n' ≤ 1000000000 ∧ n' ≤ c' ∧ RdE w A' n' x.e) :
    ∀ (i : Nat) (s : Value) (x : Cmd), (ss ++ ts)[i]? = some s → (cs ++ ds)[i]? = some x → ∃ A' n' c', s = .slice A' n' c' ∧ n' ≤ 1000000000 ∧ n' ≤ c' ∧ RdE w A' n' x.e := by
  intro i s x hs hx
  rcases Nat.lt_or_ge i ss.length with hi | hi
  · rw [List.getElem?_append_left hi] at hs
    rw [List.getElem?_append_left (by omega)] at hx
    exact k1 i s x hs hx
  · rw [List.getElem?_append_right hi] at hs
    rw [List.getElem?_append_right (by omega), ← h] at hx
    exact k2 _ s x hs hx
theorem parts_below {w w' : World} {cs : List Cmd} {ss : List Value} (hb : Below w.heap.size w w')
    (k1 : ∀ (i : Nat) (s : Value) (x : Cmd), ss[i]? = some s → cs[i]? = some x → ∃ A' n' c', s = .slice A' n' c' ∧ n' ≤ 1000000000 ∧ n' ≤ c' ∧ RdE w A' n' x.e) :
    ∀ (i : Nat) (s : Value) (x : Cmd), ss[i]? = some s → cs[i]? = some x → ∃ A' n' c', s = .slice A' n' c' ∧ n' ≤ 1000000000 ∧ n' ≤ c' ∧ RdE w' A' n' x.e := by
  intro i s x hs hx
  obtain ⟨A', n', c', e, k1, k2, k3⟩ := k1 i s x hs hx
  exact ⟨A', n', c', e, k1, k2, k3.below hb (Nat.le_refl _)⟩
theorem cat2_any (w : World) (A : Option Addr) (n c : Nat) (cs : List Cmd) (hr : RdC w A n cs) (A' : Option Addr) (n' c' : Nat) (ds : List Cmd) (hr' : RdC w A' n' ds) (K : Nat) (hn : n + n' ≤ K) (hK : K ≤ 1000000) :
    Calls Tryz.prog 28 #[.slice (some ⟨w.heap.size, 0, none⟩) 2 2] (w.alloc (.cells #[.slice A n c, .slice A' n' c'] 28)) (JnP w K (cs ++ ds)) := by
  obtain ⟨w3, hw3⟩ : ∃ w3, w3 = w.alloc (.cells #[.slice A n c, .slice A' n' c'] 28) := ⟨_, rfl⟩
  have hb3 : Below w.heap.size w w3 := by rw [hw3]; exact below_new _ _
  obtain ⟨ss, p1, p2, p3, p4⟩ := rdc_parts (hr.below hb3 (Nat.le_refl _))
  obtain ⟨ts, q1, q2, q3, q4⟩ := rdc_parts (hr'.below hb3 (Nat.le_refl _))
  have hv : RdV w3 (some ⟨w.heap.size, 0, none⟩) 2 [(n, flatC cs ss), (n', flatC ds ts)] := by
    refine ⟨[.slice A n c, .slice A' n' c'], by rw [hw3]; exact own_rd (own_lit w #[.slice A n c, .slice A' n' c'] 2 28 rfl (by omega)), rfl, ?_⟩
    intro j v ys hj hy
    match j, hj, hy with
    | 0, hj, hy => injection hj with hj; injection hy with hy; subst hj hy; exact ⟨_, _, rfl, p1, flatC_one _ _ p3⟩
    | 1, hj, hy => injection hj with hj; injection hy with hy; subst hj hy; exact ⟨_, _, rfl, q1, flatC_one _ _ q3⟩
    | j + 2, hj, hy => simp at hj
  have hh := concatC_any w3 _ 2 2 _ hv (by omega) (by simp only [sumN]; omega)
  rw [← hw3]
  refine hh.mono ?_
  rintro e w4 ⟨A4, c4, rfl, ho4, hb4⟩
  simp only [sumN, Nat.add_zero, catV, List.map_cons, List.map_nil, List.flatten_cons, List.flatten_nil, List.append_nil] at ho4 ⊢
  exact ⟨A4, n + n', c4, rfl, hn, rdc_join (ownN_rd ho4) p2 q2 (parts_below hb4 p4) (parts_below hb4 q4), ownN_cap ho4, bqcP hb4 hb3⟩
theorem cat3_any (w : World) (A : Option Addr) (n c : Nat) (cs : List Cmd) (hr : RdC w A n cs) (A' : Option Addr) (n' c' : Nat) (ds : List Cmd) (hr' : RdC w A' n' ds) (A2 : Option Addr) (n2 c2 : Nat) (es : List Cmd) (hr2 : RdC w A2 n2 es) (K : Nat) (hn : n + (n' + n2) ≤ K) (hK : K ≤ 1000000) :
    Calls Tryz.prog 28 #[.slice (some ⟨w.heap.size, 0, none⟩) 3 3] (w.alloc (.cells #[.slice A n c, .slice A' n' c', .slice A2 n2 c2] 28)) (JnP w K ((cs ++ ds) ++ es)) := by
  obtain ⟨w3, hw3⟩ : ∃ w3, w3 = w.alloc (.cells #[.slice A n c, .slice A' n' c', .slice A2 n2 c2] 28) := ⟨_, rfl⟩
  have hb3 : Below w.heap.size w w3 := by rw [hw3]; exact below_new _ _
  obtain ⟨ss, p1, p2, p3, p4⟩ := rdc_parts (hr.below hb3 (Nat.le_refl _))
  obtain ⟨ts, q1, q2, q3, q4⟩ := rdc_parts (hr'.below hb3 (Nat.le_refl _))
  obtain ⟨us, r1, r2, r3, r4⟩ := rdc_parts (hr2.below hb3 (Nat.le_refl _))
  have hv : RdV w3 (some ⟨w.heap.size, 0, none⟩) 3 [(n, flatC cs ss), (n', flatC ds ts), (n2, flatC es us)] := by
    refine ⟨[.slice A n c, .slice A' n' c', .slice A2 n2 c2], by rw [hw3]; exact own_rd (own_lit w #[.slice A n c, .slice A' n' c', .slice A2 n2 c2] 3 28 rfl (by omega)), rfl, ?_⟩
    intro j v ys hj hy
    match j, hj, hy with
    | 0, hj, hy => injection hj with hj; injection hy with hy; subst hj hy; exact ⟨_, _, rfl, p1, flatC_one _ _ p3⟩
    | 1, hj, hy => injection hj with hj; injection hy with hy; subst hj hy; exact ⟨_, _, rfl, q1, flatC_one _ _ q3⟩
    | 2, hj, hy => injection hj with hj; injection hy with hy; subst hj hy; exact ⟨_, _, rfl, r1, flatC_one _ _ r3⟩
    | j + 3, hj, hy => simp at hj
  have hh := concatC_any w3 _ 3 3 _ hv (by omega) (by simp only [sumN]; omega)
  rw [← hw3]
  refine hh.mono ?_
  rintro e w4 ⟨A4, c4, rfl, ho4, hb4⟩
  simp only [sumN, Nat.add_zero, catV, List.map_cons, List.map_nil, List.flatten_cons, List.flatten_nil, List.append_nil] at ho4 ⊢
  rw [← flatC_append ds ts es us q2] at ho4
  rw [List.append_assoc]
  exact ⟨A4, n + (n' + n2), c4, rfl, hn, rdc_join (ownN_rd ho4) p2 (by simp [q2, r2]) (parts_below hb4 p4) (parts_app q2 (parts_below hb4 q4) (parts_below hb4 r4)), ownN_cap ho4, bqcP hb4 hb3⟩
set_option maxHeartbeats 2000000 in
set_option maxRecDepth 100000 in
theorem comp1_any (w : World) (A : Option Addr) (n c : Nat) (ps : List Cmd) (hr : RdC w A n ps) (hn : n ≤ 80) (A' : Option Addr) (n' c' : Nat) (qs : List Cmd) (hr' : RdC w A' n' qs) (hn' : n' ≤ 80) :
    Calls Tryz.prog 27 #[.slice A n c, .slice A' n' c'] w (JnP w 1000 (compT ps qs)) := by
  have H1 := Lib.hid (behindK_any pgComp1 _ ok_comp1 200 w A n c ps hr hn (by decide))
  have H2 := Lib.hid (fun (w2 : World) (hb : Below w.heap.size w w2) => behindK_any pgComp2 _ ok_comp2 200 w2 A' n' c' qs (hr'.below hb (Nat.le_refl _)) hn' (by decide))
  clear hr hr' hn hn'
  go_enter Tryz.func27, Tryz.ntmps27
  go_wp2_with (first
    | (go_at_call 28
       refine (cat2_any w3 A2 k2 c2 _ HL3.out A3 k3 c3 _ HR3.out 1000 (by have := HK2.out; have := HK3.out; omega) (by omega)).mono ?_
       rintro e w4 ⟨A4, k4, c4, rfl, hk4, ho4, hc4, hb4⟩
       have HK4 := Lib.hid hk4; have HO4 := Lib.hid ho4; have HC4 := Lib.hid hc4
       have HB4 : Hid (Below w.heap.size w w4) := Lib.hid (bqcP hb4 HB3.out)
       clear hk4 ho4 hc4 hb4)
    | (go_at_call 29
       refine (H2.out w2 HB2.out).mono ?_
       rintro e w3 ⟨A3, k3, c3, rfl, hk3, ho3, hc3, hb3⟩
       have HK3 := Lib.hid hk3; have HR3 := Lib.hid ho3
       have HL3 := Lib.hid (HL2.out.below hb3 (Nat.le_refl _))
       have HB3 : Hid (Below w.heap.size w w3) := Lib.hid (bqcP hb3 HB2.out)
       clear hk3 ho3 hc3 hb3)
    | (go_at_call 29
       refine H1.out.mono ?_
       rintro e w2 ⟨A2, k2, c2, rfl, hk2, ho2, hc2, hb2⟩
       have HK2 := Lib.hid hk2; have HL2 := Lib.hid ho2; have HB2 := Lib.hid hb2
       clear hk2 ho2 hc2 hb2))
  go_ret
  exact ⟨A4, k4, c4, rfl, HK4.out, HO4.out, HC4.out, HB4.out⟩
set_option maxHeartbeats 2000000 in
set_option maxRecDepth 100000 in
theorem pair1_any (w : World) (A : Option Addr) (n c : Nat) (ps : List Cmd) (hr : RdC w A n ps) (hn : n ≤ 80) (A' : Option Addr) (n' c' : Nat) (qs : List Cmd) (hr' : RdC w A' n' qs) (hn' : n' ≤ 80) :
    Calls Tryz.prog 31 #[.slice A n c, .slice A' n' c'] w (JnP w 1000 (pairT ps qs)) := by
  have H1 := Lib.hid (behindK_any pgPair1 _ ok_pair1 200 w A n c ps hr hn (by decide))
  have H2 := Lib.hid (fun (w2 : World) (hb : Below w.heap.size w w2) => behindK_any pgPair2 _ ok_pair2 200 w2 A' n' c' qs (hr'.below hb (Nat.le_refl _)) hn' (by decide))
  have H3 := Lib.hid (fun (w2 : World) => whileOfK_any pgPair3 _ ok_pair3 200 w2 (by decide))
  clear hr hr' hn hn'
  go_enter Tryz.func31, Tryz.ntmps31
  go_wp2_with (first
    | (go_at_call 28
       refine (cat3_any w4 A2 k2 c2 _ HL4.out A3 k3 c3 _ HM4.out A4 k4 c4 _ HR4.out 1000 (by have := HK2.out; have := HK3.out; have := HK4.out; omega) (by omega)).mono ?_
       rintro e w5 ⟨A5, k5, c5, rfl, hk5, ho5, hc5, hb5⟩
       have HK5 := Lib.hid hk5; have HO5 := Lib.hid ho5; have HC5 := Lib.hid hc5
       have HB5 : Hid (Below w.heap.size w w5) := Lib.hid (bqcP hb5 HB4.out)
       clear hk5 ho5 hc5 hb5)
    | (go_at_call 32
       refine (H3.out w3).mono ?_
       rintro e w4 ⟨A4, k4, c4, rfl, hk4, ho4, hc4, hb4⟩
       have HK4 := Lib.hid hk4; have HR4 := Lib.hid ho4
       have HL4 := Lib.hid (HL3.out.below hb4 (Nat.le_refl _))
       have HM4 := Lib.hid (HR3.out.below hb4 (Nat.le_refl _))
       have HB4 : Hid (Below w.heap.size w w4) := Lib.hid (bqcP hb4 HB3.out)
       clear hk4 ho4 hc4 hb4)
    | (go_at_call 29
       refine (H2.out w2 HB2.out).mono ?_
       rintro e w3 ⟨A3, k3, c3, rfl, hk3, ho3, hc3, hb3⟩
       have HK3 := Lib.hid hk3; have HR3 := Lib.hid ho3
       have HL3 := Lib.hid (HL2.out.below hb3 (Nat.le_refl _))
       have HB3 : Hid (Below w.heap.size w w3) := Lib.hid (bqcP hb3 HB2.out)
       clear hk3 ho3 hc3 hb3)
    | (go_at_call 29
       refine H1.out.mono ?_
       rintro e w2 ⟨A2, k2, c2, rfl, hk2, ho2, hc2, hb2⟩
       have HK2 := Lib.hid hk2; have HL2 := Lib.hid ho2; have HB2 := Lib.hid hb2
       clear hk2 ho2 hc2 hb2))
  go_ret
  exact ⟨A5, k5, c5, rfl, HK5.out, HO5.out, HC5.out, HB5.out⟩
end Go.Proofs.YtadmbphefpfbmaaGreatDoor
