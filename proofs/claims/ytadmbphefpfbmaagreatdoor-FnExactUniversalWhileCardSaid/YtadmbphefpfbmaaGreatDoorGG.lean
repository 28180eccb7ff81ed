/- Texts in one file: CmM, Cmd, CmV, CmS, CmA. -/
import Derived.Test.YtadmbphefpfbmaaGreatDoorGD
import Derived.Test.YtadmbphefpfbmaaGreatDoorGE
/- Programs in plain Lean: commands, whether they are valid, how they are read back from a tree. -/
namespace Go.Proofs.YtadmbphefpfbmaaGreatDoor
open Go.RowKit
set_option linter.unusedVariables false
set_option linter.unusedSimpArgs false
structure Cmd where
  k : Int
  v : Int
  l : Int
  e : List El
/-- Whether commands are valid; the number bounds the depth. -/
def okCs : Nat → List Cmd → Bool
  | _, [] => true
  | 0, _ :: _ => false
  | f + 1, x :: r => wfE x.e && (if x.k = 0 then inB x.v 0 5 && (x.l == 0) && okCs f r else if x.k = 1 then (x.v == 0) && inB x.l 0 r.length && okCs f (r.take x.l.toNat) && okCs f (r.drop x.l.toNat) else false)
theorem okCs_fuel : ∀ (f g : Nat) (p : List Cmd), p.length ≤ f → p.length ≤ g → okCs f p = okCs g p
  | 0, g, [], _, _ => by cases g <;> rfl
  | 0, g, x :: r, h, _ => by simp at h
  | f + 1, g, [], _, _ => by cases g <;> rfl
  | f + 1, 0, x :: r, _, h => by simp at h
  | f + 1, g + 1, x :: r, hf, hg => by
    simp only [List.length_cons] at hf hg
    simp only [okCs]
    rw [okCs_fuel f g r (by omega) (by omega), okCs_fuel f g (r.take x.l.toNat) (by rw [List.length_take]; omega) (by rw [List.length_take]; omega), okCs_fuel f g (r.drop x.l.toNat) (by rw [List.length_drop]; omega) (by rw [List.length_drop]; omega)]
def okC (p : List Cmd) : Bool := okCs p.length p
theorem okC_nil : okC [] = true := rfl
theorem okC_cons (x : Cmd) (r : List Cmd) : okC (x :: r) = (wfE x.e && (if x.k = 0 then inB x.v 0 5 && (x.l == 0) && okC r else if x.k = 1 then (x.v == 0) && inB x.l 0 r.length && okC (r.take x.l.toNat) && okC (r.drop x.l.toNat) else false)) := by
  show okCs (r.length + 1) (x :: r) = _
  simp only [okCs, okC]
  rw [okCs_fuel r.length _ (r.take x.l.toNat) (by rw [List.length_take]; omega) (Nat.le_refl _), okCs_fuel r.length _ (r.drop x.l.toNat) (by rw [List.length_drop]; omega) (Nat.le_refl _)]
def isW (p : List Cmd) : Bool := decide (p.length ≤ 80) && okC p
theorem okC_badE {x : Cmd} {r : List Cmd} (h : wfE x.e = false) : okC (x :: r) = false := by rw [okC_cons, h]; rfl
theorem okC_badK {x : Cmd} {r : List Cmd} (h0 : x.k ≠ 0) (h1 : x.k ≠ 1) : okC (x :: r) = false := by rw [okC_cons, if_neg h0, if_neg h1]; simp
theorem okC_set {x : Cmd} {r : List Cmd} (h : wfE x.e = true) (h0 : x.k = 0) : okC (x :: r) = (inB x.v 0 5 && (x.l == 0) && okC r) := by rw [okC_cons, if_pos h0, h]; rfl
theorem okC_wh {x : Cmd} {r : List Cmd} (h : wfE x.e = true) (h0 : x.k = 1) : okC (x :: r) = ((x.v == 0) && inB x.l 0 r.length && okC (r.take x.l.toNat) && okC (r.drop x.l.toNat)) := by
  rw [okC_cons, if_neg (by omega), if_pos h0, h]; rfl
/-- The same with a stack of ends, the innermost first. -/
def okS (p : List Cmd) : Nat → List Nat → Bool
  | _, [] => true
  | i, t :: r => okC ((p.drop i).take (t - i)) && okS p t r
theorem okS_pop (p : List Cmd) (i : Nat) (r : List Nat) : okS p i (i :: r) = okS p i r := by simp [okS, okC_nil]
theorem seg_cons {p : List Cmd} {i t : Nat} {x : Cmd} (hx : p[i]? = some x) (ht : i < t) : (p.drop i).take (t - i) = x :: (p.drop (i + 1)).take (t - (i + 1)) := by
  rw [drop_get hx, show t - i = (t - (i + 1)) + 1 by omega, List.take_succ_cons]
theorem okS_badE {p : List Cmd} {i t : Nat} {x : Cmd} {r : List Nat} (hx : p[i]? = some x) (ht : i < t) (h : wfE x.e = false) : okS p i (t :: r) = false := by
  simp only [okS, seg_cons hx ht, okC_badE h, Bool.false_and]
theorem okS_badK {p : List Cmd} {i t : Nat} {x : Cmd} {r : List Nat} (hx : p[i]? = some x) (ht : i < t) (h0 : x.k ≠ 0) (h1 : x.k ≠ 1) : okS p i (t :: r) = false := by
  simp only [okS, seg_cons hx ht, okC_badK h0 h1, Bool.false_and]
theorem okS_set {p : List Cmd} {i t : Nat} {x : Cmd} {r : List Nat} (hx : p[i]? = some x) (ht : i < t) (h : wfE x.e = true) (h0 : x.k = 0) :
    okS p i (t :: r) = (inB x.v 0 5 && (x.l == 0) && okS p (i + 1) (t :: r)) := by
  simp only [okS, seg_cons hx ht, okC_set h h0, Bool.and_assoc]
theorem okS_wh {p : List Cmd} {i t : Nat} {x : Cmd} {r : List Nat} (hx : p[i]? = some x) (ht : i < t) (htp : t ≤ p.length) (h : wfE x.e = true) (h0 : x.k = 1) (hv : x.v = 0) (hl : inB x.l 0 ((t : Int) - (i : Int) - 1) = true) :
    okS p i (t :: r) = okS p (i + 1) ((i + 1 + x.l.toNat) :: t :: r) := by
  have hl2 := inB_true.1 hl
  have hlen : ((p.drop (i + 1)).take (t - (i + 1))).length = t - (i + 1) := by rw [List.length_take, List.length_drop]; omega
  have hin : inB x.l 0 (((p.drop (i + 1)).take (t - (i + 1))).length : Nat) = true := by rw [hlen]; exact inB_true.2 (by omega)
  simp only [okS, seg_cons hx ht, okC_wh h h0, hv, hin, Bool.and_assoc]
  rw [List.take_take, List.drop_take, List.drop_drop]
  rw [show min x.l.toNat (t - (i + 1)) = i + 1 + x.l.toNat - (i + 1) by omega, show t - (i + 1) - x.l.toNat = t - (i + 1 + x.l.toNat) by omega]
  simp
theorem okS_whL {p : List Cmd} {i t : Nat} {x : Cmd} {r : List Nat} (hx : p[i]? = some x) (ht : i < t) (htp : t ≤ p.length) (h0 : x.k = 1) (hl : inB x.l 0 ((t : Int) - (i : Int) - 1) = false) :
    okS p i (t :: r) = false := by
  have hlen : ((p.drop (i + 1)).take (t - (i + 1))).length = t - (i + 1) := by rw [List.length_take, List.length_drop]; omega
  have hin : inB x.l 0 (((p.drop (i + 1)).take (t - (i + 1))).length : Nat) = false := by rw [hlen]; have := inB_false.1 hl; exact inB_false.2 (by omega)
  simp only [okS, seg_cons hx ht]
  rw [okC_cons, if_neg (by omega), if_pos h0, hin]
  simp
theorem okS_whV {p : List Cmd} {i t : Nat} {x : Cmd} {r : List Nat} (hx : p[i]? = some x) (ht : i < t) (h0 : x.k = 1) (hv : x.v ≠ 0) :
    okS p i (t :: r) = false := by
  simp only [okS, seg_cons hx ht]
  rw [okC_cons, if_neg (by omega), if_pos h0]
  simp [hv]
theorem okS_start (p : List Cmd) : okS p 0 [p.length] = okC p := by simp [okS]
theorem okS_end (p : List Cmd) : ∀ S : List Nat, (∀ t ∈ S, t = p.length) → okS p p.length S = true
  | [], _ => rfl
  | t :: r, h => by
    have ht : t = p.length := h t (by simp)
    subst ht
    rw [okS_pop]
    exact okS_end p r fun u hu => h u (by simp [hu])
/-- Reading commands back. -/
def appO : Option (List Cmd) → Option (List Cmd) → Option (List Cmd)
  | some a, some b => some (a ++ b)
  | _, _ => none
def cWh : Option (List El) → Option (List Cmd) → Option (List Cmd)
  | some e, some bs => some (⟨1, 0, (bs.length : Int), e⟩ :: bs)
  | _, _ => none
def cSet : Option (List El) → Option (List Cmd)
  | some e => some [⟨0, 0, 0, e⟩]
  | none => none
def backW : Tr → Option (List Cmd)
  | .nil => some []
  | .node .nil _ => none
  | .node (.node tag .nil) _ => none
  | .node (.node tag (.node c b)) r => if tagI tag = 7 then appO (cSet (backT (.node c b))) (backW r) else if tagI tag = 9 then appO (cWh (backT c) (backW b)) (backW r) else none
def backX : Tr → Option (List Cmd)
  | .node tag (.node c b) => if tagI tag = 7 then cSet (backT (.node c b)) else if tagI tag = 9 then cWh (backT c) (backW b) else none
  | _ => none
theorem appO_none (o : Option (List Cmd)) : appO none o = none := by cases o <;> rfl
theorem backW_node (x r : Tr) : backW (.node x r) = appO (backX x) (backW r) := by
  match x with
  | .nil => simp [backW, backX, appO_none]
  | .node tag .nil => simp [backW, backX, appO_none]
  | .node tag (.node c b) =>
    simp only [backW, backX]
    split
    · rfl
    · split
      · rfl
      · rw [appO_none]
theorem appO_assoc (a b c : Option (List Cmd)) : appO (appO a b) c = appO a (appO b c) := by
  cases a <;> cases b <;> cases c <;> simp [appO]
theorem appO_nil (a : Option (List Cmd)) : appO a (some []) = a := by cases a <;> simp [appO]
theorem backT_nil : backT .nil = none := rfl
theorem backX_7 {tag r : Tr} (h : tagI tag = 7) : backX (.node tag r) = cSet (backT r) := by
  cases r with
  | nil => simp [backX, backT_nil, cSet]
  | node c b => simp [backX, h]
theorem backX_9 {tag c b : Tr} (h : tagI tag = 9) : backX (.node tag (.node c b)) = cWh (backT c) (backW b) := by simp [backX, h]
theorem backX_9n {tag : Tr} : backX (.node tag .nil) = none := rfl
theorem backX_no {tag r : Tr} (h : tagI tag ≠ 7) (h' : tagI tag ≠ 9) : backX (.node tag r) = none := by
  cases r with
  | nil => rfl
  | node c b => simp [backX, h, h']
/-- The elements of the list of a tree. -/
def Tr.items : Tr → List Tr
  | .nil => []
  | .node x r => x :: r.items
def backL : List Tr → Option (List Cmd)
  | [] => some []
  | x :: r => appO (backX x) (backL r)
theorem backL_items : ∀ t : Tr, backL t.items = backW t
  | .nil => rfl
  | .node x r => by rw [backW_node, ← backL_items r]; rfl
theorem items_len : ∀ t : Tr, 2 * t.items.length + 1 ≤ t.nodes
  | .nil => by simp [Tr.items, Tr.nodes]
  | .node x r => by have h1 := items_len r; have h2 := x.nodes_pos; simp only [Tr.items, Tr.nodes, List.length_cons]; omega
theorem item_nodes : ∀ {t x : Tr}, x ∈ t.items → x.nodes + 2 ≤ t.nodes
  | .nil, x, h => by simp [Tr.items] at h
  | .node y r, x, h => by
    have h2 := r.nodes_pos
    have h3 := y.nodes_pos
    simp only [Tr.items, List.mem_cons] at h
    simp only [Tr.nodes]
    rcases h with rfl | h
    · omega
    · have := item_nodes h; omega
theorem appO_some {a b : Option (List Cmd)} {z : List Cmd} (h : appO a b = some z) : ∃ x y, a = some x ∧ b = some y ∧ z = x ++ y := by
  match a, b, h with
  | some x, some y, h => exact ⟨x, y, rfl, rfl, by simpa [appO] using h.symm⟩
  | none, _, h => simp [appO_none] at h
theorem cWh_some {a : Option (List El)} {b : Option (List Cmd)} {z : List Cmd} (h : cWh a b = some z) : ∃ x y, a = some x ∧ b = some y ∧ z = ⟨1, 0, (y.length : Int), x⟩ :: y := by
  match a, b, h with
  | some x, some y, h => exact ⟨x, y, rfl, rfl, by simpa [cWh] using h.symm⟩
theorem cSet_some {a : Option (List El)} {z : List Cmd} (h : cSet a = some z) : ∃ x, a = some x ∧ z = [⟨0, 0, 0, x⟩] := by
  match a, h with
  | some x, h => exact ⟨x, rfl, by simpa [cSet] using h.symm⟩
theorem cWh_l (b : Option (List Cmd)) : cWh none b = none := by cases b <;> rfl
theorem cWh_r (a : Option (List El)) : cWh a none = none := by cases a <;> rfl
def totC : List Cmd → Nat
  | [] => 0
  | x :: r => x.e.length + totC r
theorem totC_append (a b : List Cmd) : totC (a ++ b) = totC a + totC b := by
  induction a with
  | nil => simp [totC]
  | cons x r ih => simp only [List.cons_append, totC, ih]; omega
theorem backW_len : ∀ (t : Tr) (z : List Cmd), backW t = some z → z.length + totC z ≤ t.nodes
  | .nil, z, h => by
    have : z = [] := by simpa [backW] using h.symm
    subst this; simp [totC]
  | .node .nil _, z, h => by simp [backW] at h
  | .node (.node tag .nil) _, z, h => by simp [backW] at h
  | .node (.node tag (.node c b)) r, z, h => by
    have hn := tag.nodes_pos
    simp only [backW] at h
    split at h
    · obtain ⟨x, y, h1, h2, rfl⟩ := appO_some h
      obtain ⟨e, h3, rfl⟩ := cSet_some h1
      have h4 := backT_len _ _ h3
      have h5 := backW_len r y h2
      simp only [List.singleton_append, List.length_cons, totC, Tr.nodes] at h4 ⊢
      omega
    · split at h
      · obtain ⟨x, y, h1, h2, rfl⟩ := appO_some h
        obtain ⟨e, bs, h3, h4, rfl⟩ := cWh_some h1
        have h5 := backT_len _ _ h3
        have h6 := backW_len b bs h4
        have h7 := backW_len r y h2
        simp only [List.cons_append, List.length_cons, totC, totC_append, List.length_append, Tr.nodes]
        omega
      · simp at h
end Go.Proofs.YtadmbphefpfbmaaGreatDoor
/- Slices of commands: how they read; rows of the call's own. -/
namespace Go.Proofs.YtadmbphefpfbmaaGreatDoor
open Go.RowKit
set_option linter.unusedVariables false
set_option linter.unusedSimpArgs false

/-- The cells of commands; their expressions are slice values. -/
def flatC : List Cmd → List Value → List Value
  | x :: r, s :: ss => .int .i64 x.k :: .int .i64 x.v :: .int .i64 x.l :: s :: flatC r ss
  | _, _ => []
theorem flatC_len : ∀ (cs : List Cmd) (ss : List Value), ss.length = cs.length → (flatC cs ss).length = cs.length * 4
  | [], [], _ => rfl
  | [], _ :: _, h => by simp at h
  | _ :: _, [], h => by simp at h
  | x :: r, s :: ss, h => by
    have := flatC_len r ss (by simpa using h)
    simp only [flatC, List.length_cons, this]; omega
theorem flatC_append : ∀ (a : List Cmd) (s : List Value) (b : List Cmd) (t : List Value), s.length = a.length → flatC (a ++ b) (s ++ t) = flatC a s ++ flatC b t
  | [], [], _, _, _ => rfl
  | [], _ :: _, _, _, h => by simp at h
  | _ :: _, [], _, _, h => by simp at h
  | x :: r, s :: ss, b, t, h => by simp [flatC, flatC_append r ss b t (by simpa using h)]
theorem flatC_get : ∀ {cs : List Cmd} {ss : List Value} {k : Nat} {x : Cmd} {s : Value}, cs[k]? = some x → ss[k]? = some s →
    (flatC cs ss)[k * 4]? = some (.int .i64 x.k) ∧ (flatC cs ss)[k * 4 + 1]? = some (.int .i64 x.v) ∧ (flatC cs ss)[k * 4 + 2]? = some (.int .i64 x.l) ∧ (flatC cs ss)[k * 4 + 3]? = some s
  | [], _, k, x, s, h, _ => by simp at h
  | _ :: _, [], k, x, s, _, h => by simp at h
  | y :: r, t :: ss, 0, x, s, h, h' => by
    obtain rfl : y = x := by simpa using h
    obtain rfl : t = s := by simpa using h'
    exact ⟨rfl, rfl, rfl, rfl⟩
  | y :: r, t :: ss, k + 1, x, s, h, h' => by
    have := flatC_get (cs := r) (ss := ss) (k := k) (x := x) (s := s) (by simpa using h) (by simpa using h')
    rw [show (k + 1) * 4 = k * 4 + 1 + 1 + 1 + 1 by omega]
    exact this
theorem flatC_cut (cs : List Cmd) (ss : List Value) (h : ss.length = cs.length) (i m : Nat) (hi : i + m ≤ cs.length) : flatC ((cs.drop i).take m) ((ss.drop i).take m) = ((flatC cs ss).drop (i * 4)).take (m * 4) := by
  have e1 : cs = cs.take i ++ ((cs.drop i).take m ++ (cs.drop i).drop m) := by rw [List.take_append_drop, List.take_append_drop]
  have e2 : ss = ss.take i ++ ((ss.drop i).take m ++ (ss.drop i).drop m) := by rw [List.take_append_drop, List.take_append_drop]
  have l1 : (ss.take i).length = (cs.take i).length := by simp [h]
  have l2 : ((ss.drop i).take m).length = ((cs.drop i).take m).length := by simp [h]
  have l3 : (cs.take i).length = i := by rw [List.length_take]; omega
  have l4 : ((cs.drop i).take m).length = m := by rw [List.length_take, List.length_drop]; omega
  have f1 := flatC_len _ _ l1
  have f2 := flatC_len _ _ l2
  have key : flatC cs ss = flatC (cs.take i) (ss.take i) ++ (flatC ((cs.drop i).take m) ((ss.drop i).take m) ++ flatC ((cs.drop i).drop m) ((ss.drop i).drop m)) := by
    rw [← flatC_append _ _ _ _ l2, ← flatC_append _ _ _ _ l1, ← e1, ← e2]
  rw [key, show i * 4 = (flatC (cs.take i) (ss.take i)).length by rw [f1, l3], List.drop_left, show m * 4 = (flatC ((cs.drop i).take m) ((ss.drop i).take m)).length by rw [f2, l4], List.take_left]
theorem flatC_one : ∀ (cs : List Cmd) (ss : List Value), (∀ s ∈ ss, s.oneCell' = true) → ∀ u ∈ flatC cs ss, u.oneCell' = true
  | [], _, _, u, hu => by simp [flatC] at hu
  | _ :: _, [], _, u, hu => by simp [flatC] at hu
  | x :: r, s :: ss, h, u, hu => by
    simp only [flatC, List.mem_cons] at hu
    rcases hu with rfl | rfl | rfl | rfl | hu
    · rfl
    · rfl
    · rfl
    · exact h _ (by simp)
    · exact flatC_one r ss (fun q hq => h q (by simp [hq])) u hu

/-- A slice of n commands reads as cs. -/
def RdC (w : World) (A : Option Addr) (n : Nat) (cs : List Cmd) : Prop :=
  ∃ ss : List Value, Rd w A (n * 4) (flatC cs ss) ∧ ss.length = cs.length ∧ ∀ (i : Nat) (s : Value) (x : Cmd), ss[i]? = some s → cs[i]? = some x → ∃ A' n' c', s = .slice A' n' c' ∧ n' ≤ 1000000000 ∧ n' ≤ c' ∧ RdE w A' n' x.e
section
variable {w w' : World} {A : Option Addr} {n : Nat} {cs : List Cmd}
theorem RdC.len (h : RdC w A n cs) : cs.length = n := by
  obtain ⟨ss, h1, h2, _⟩ := h
  have h3 := h1.1
  rw [flatC_len cs ss h2] at h3
  omega
theorem RdC.at_ {k : Nat} {x : Cmd} (h : RdC w A n cs) (hx : cs[k]? = some x) :
    ∃ b off A' n' c', A = some ⟨b, off, none⟩ ∧ b < w.heap.size ∧ w.cell? ⟨b, off + k * 4, none⟩ = some (.int .i64 x.k) ∧ w.cell? ⟨b, off + k * 4 + 1, none⟩ = some (.int .i64 x.v) ∧ w.cell? ⟨b, off + k * 4 + 2, none⟩ = some (.int .i64 x.l) ∧ w.cell? ⟨b, off + k * 4 + 3, none⟩ = some (.slice A' n' c') ∧ n' ≤ 1000000000 ∧ n' ≤ c' ∧ RdE w A' n' x.e := by
  obtain ⟨ss, h1, h2, h3⟩ := h
  have hk : k < ss.length := by rw [h2]; exact (List.getElem?_eq_some_iff.1 hx).1
  obtain ⟨s, hs⟩ := get_some hk
  obtain ⟨A', n', c', rfl, hn', hc', hr'⟩ := h3 k s x hs hx
  obtain ⟨f0, f1, f2, f3⟩ := flatC_get hx hs
  obtain ⟨b, off, e, hb, hc⟩ := h1.2 (by have h4 := h1.1; have := (List.getElem?_eq_some_iff.1 f0).1; omega)
  have c1 := hc _ _ f1
  have c2 := hc _ _ f2
  have c3 := hc _ _ f3
  rw [← Nat.add_assoc] at c1 c2 c3
  exact ⟨b, off, A', n', c', e, hb, hc _ _ f0, c1, c2, c3, hn', hc', hr'⟩
theorem RdC.below {B : Nat} (h : RdC w A n cs) (hb : Below B w w') (hB : w.heap.size ≤ B) : RdC w' A n cs := by
  obtain ⟨ss, h1, h2, h3⟩ := h
  refine ⟨ss, h1.below hb hB, h2, fun i v xs hv hx => ?_⟩
  obtain ⟨A', n', c', e, hn', hc', hr'⟩ := h3 i v xs hv hx
  exact ⟨A', n', c', e, hn', hc', hr'.below hb hB⟩
theorem RdC.nil (w : World) (A : Option Addr) : RdC w A 0 [] := ⟨[], Rd.nil _ _, rfl, by simp⟩
theorem RdC.cut {b off i j : Nat} (h : RdC w (some ⟨b, off, none⟩) n cs) (hij : i ≤ j) (hj : j ≤ n) : RdC w (some ⟨b, off + i * 4, none⟩) (j - i) ((cs.drop i).take (j - i)) := by
  have hl := h.len
  obtain ⟨ss, h1, h2, h3⟩ := h
  refine ⟨(ss.drop i).take (j - i), ?_, by simp [h2], fun q v xs hv hx => ?_⟩
  · rw [flatC_cut cs ss h2 i (j - i) (by omega)]
    have := rd_part h1 (i := i * 4) (j := j * 4) (by omega) (by omega)
    rwa [← Nat.sub_mul] at this
  · rw [List.getElem?_take] at hv hx
    split at hv
    · rename_i hq
      rw [if_pos hq, List.getElem?_drop] at hx
      rw [List.getElem?_drop] at hv
      exact h3 _ v xs hv hx
    · cases hv
end

/-- The expressions of commands, each in a block of its own. -/
def InnerC (w : World) (F : Nat → Prop) (us : List Value) (cs : List Cmd) : Prop :=
  us.length = cs.length ∧ (∀ (i : Nat) (u : Value) (x : Cmd), us[i]? = some u → cs[i]? = some x → ∃ A n c, u = .slice A n c ∧ n ≤ 1000000000 ∧ w.ownsRow 0 110 2 (.slice A n c) n (ints (eNums x.e)) ∧ ∀ k, Fo u k → F k) ∧
    ∀ (i j : Nat) (u v : Value), us[i]? = some u → us[j]? = some v → ∀ k, Fo u k → Fo v k → i = j
theorem InnerC.nil (w : World) (F : Nat → Prop) : InnerC w F [] [] := ⟨rfl, by simp, by simp⟩
theorem InnerC.ch {w w' : World} {F G : Nat → Prop} {us : List Value} {cs : List Cmd} (h : InnerC w F us cs) (hc : Ch G w w') (hd : ∀ k, F k → G k → False) : InnerC w' F us cs := by
  obtain ⟨h1, h2, h3⟩ := h
  refine ⟨h1, fun i u x hu hx => ?_, h3⟩
  obtain ⟨A, n, c, rfl, hn, ho, hb⟩ := h2 i u x hu hx
  exact ⟨A, n, c, rfl, hn, own_ch ho hc (fun k h1 h2 => hd k (hb k h1) h2), hb⟩
theorem InnerC.mono {w : World} {F G : Nat → Prop} {us : List Value} {cs : List Cmd} (h : InnerC w F us cs) (hd : ∀ k, F k → G k) : InnerC w G us cs := by
  obtain ⟨h1, h2, h3⟩ := h
  refine ⟨h1, fun i u x hu hx => ?_, h3⟩
  obtain ⟨A, n, c, rfl, hn, ho, hb⟩ := h2 i u x hu hx
  exact ⟨A, n, c, rfl, hn, ho, fun k hk => hd k (hb k hk)⟩
theorem InnerC.foot {w : World} {F : Nat → Prop} {us : List Value} {cs : List Cmd} (h : InnerC w F us cs) {i : Nat} {u : Value} (hu : us[i]? = some u) : ∀ k, Fo u k → F k := by
  obtain ⟨x, hx⟩ := get_some (xs := cs) (k := i) (by rw [← h.1]; exact (List.getElem?_eq_some_iff.1 hu).1)
  obtain ⟨_, _, _, _, _, _, hb⟩ := h.2.1 i u x hu hx
  exact hb
theorem InnerC.append {w : World} {F G H : Nat → Prop} {us vs : List Value} {cs ds : List Cmd} (h : InnerC w F us cs) (g : InnerC w G vs ds) (hd : ∀ k, F k → G k → False) (hF : ∀ k, F k → H k) (hG : ∀ k, G k → H k) : InnerC w H (us ++ vs) (cs ++ ds) := by
  have hl := h.1
  have split2 : ∀ (i : Nat) (u : Value), (us ++ vs)[i]? = some u → (i < us.length ∧ us[i]? = some u) ∨ (us.length ≤ i ∧ vs[i - us.length]? = some u) := by
    intro i u hu
    by_cases hi : i < us.length
    · rw [List.getElem?_append_left hi] at hu; exact .inl ⟨hi, hu⟩
    · rw [List.getElem?_append_right (by omega)] at hu; exact .inr ⟨by omega, hu⟩
  refine ⟨by simp [h.1, g.1], fun i u x hu hx => ?_, fun i j u v hu hv k hk hk' => ?_⟩
  · rcases split2 i u hu with ⟨hi, hu⟩ | ⟨hi, hu⟩
    · rw [List.getElem?_append_left (by omega)] at hx
      obtain ⟨A, n, c, e, hn, ho, hb⟩ := h.2.1 i u x hu hx
      exact ⟨A, n, c, e, hn, ho, fun k hk => hF k (hb k hk)⟩
    · rw [List.getElem?_append_right (by omega), ← hl] at hx
      obtain ⟨A, n, c, e, hn, ho, hb⟩ := g.2.1 _ u x hu hx
      exact ⟨A, n, c, e, hn, ho, fun k hk => hG k (hb k hk)⟩
  · rcases split2 i u hu with ⟨hi, hu⟩ | ⟨hi, hu⟩ <;> rcases split2 j v hv with ⟨hj, hv⟩ | ⟨hj, hv⟩
    · exact h.2.2 i j u v hu hv k hk hk'
    · exact (hd k (h.foot hu k hk) (g.foot hv k hk')).elim
    · exact (hd k (h.foot hv k hk') (g.foot hu k hk)).elim
    · have := g.2.2 _ _ u v hu hv k hk hk'; omega
theorem InnerC.one {w : World} {G : Nat → Prop} {B n c : Nat} {A : Option Addr} {x : Cmd} (ho : w.ownsRow B 110 2 (.slice A n c) n (ints (eNums x.e))) (hn : n ≤ 1000000000) (hG : ∀ k, Fo (.slice A n c) k → G k) : InnerC w G [.slice A n c] [x] := by
  refine ⟨rfl, fun i u y hu hx => ?_, fun i j u v hu hv k hk hk' => ?_⟩
  · cases i with
    | zero =>
      simp at hu hx
      subst hu hx
      exact ⟨A, n, c, rfl, hn, ownN_base ho (Nat.zero_le _), hG⟩
    | succ i => simp at hu
  · cases i with
    | zero => cases j with
      | zero => rfl
      | succ j => simp at hv
    | succ i => simp at hu
theorem InnerC.cells {w : World} {F : Nat → Prop} {us : List Value} {cs : List Cmd} (h : InnerC w F us cs) : ∀ s ∈ us, s.oneCell' = true := by
  intro s hs
  obtain ⟨i, hi⟩ := List.getElem?_of_mem hs
  obtain ⟨x, hx⟩ := get_some (xs := cs) (k := i) (by rw [← h.1]; exact (List.getElem?_eq_some_iff.1 hi).1)
  obtain ⟨_, _, _, rfl, _⟩ := h.2.1 i s x hi hx
  rfl
theorem InnerC.rdc {w : World} {F : Nat → Prop} {n : Nat} {A : Option Addr} {us : List Value} {cs : List Cmd} (h : InnerC w F us cs) (hr : Rd w A (n * 4) (flatC cs us)) : RdC w A n cs := by
  refine ⟨us, hr, h.1, fun i v x hv hx => ?_⟩
  obtain ⟨A', n', c', rfl, hn', ho', _⟩ := h.2.1 i v x hv hx
  exact ⟨A', n', c', rfl, hn', ownN_cap ho', ownN_rd ho'⟩
theorem own_up {w : World} {base e s n B : Nat} {v : Value} {vs : List Value} (h : w.ownsRow base e s v n vs) (hB : ∀ k, Fo v k → B ≤ k) : w.ownsRow B e s v n vs := by
  refine ⟨h.1, ?_⟩
  rcases h.2 with h' | ⟨g, cap, cur, rfl, hb, r⟩
  · exact .inl h'
  · exact .inr ⟨g, cap, cur, rfl, hB g rfl, r⟩
/-- Blocks of rows of different elements are different. -/
theorem own_types {w : World} {b1 b2 e1 e2 s1 s2 n1 n2 : Nat} {v1 v2 : Value} {us vs : List Value} (h : w.ownsRow b1 e1 s1 v1 n1 us) (h2 : w.ownsRow b2 e2 s2 v2 n2 vs) (hT : e1 ≠ e2) : ∀ k, Fo v1 k → Fo v2 k → False := by
  intro k a b
  rcases h.2 with ⟨rfl, _⟩ | ⟨g, _, _, rfl, _, hg1, _⟩
  · simp [Fo, Value.ownBlock] at a
  · rcases h2.2 with ⟨rfl, _⟩ | ⟨g2, _, _, rfl, _, hg2, _⟩
    · simp [Fo, Value.ownBlock] at b
    · have e1 : g = k := by simpa [Fo, Value.ownBlock] using a
      have e2 : g2 = k := by simpa [Fo, Value.ownBlock] using b
      exact blk_ne hg1 hg2 hT (by omega)

/-- A slice of commands of the call's own: all its blocks are of F. -/
def OwnC (w : World) (F : Nat → Prop) (A : Option Addr) (n c : Nat) (cs : List Cmd) : Prop :=
  ∃ us, w.ownsRow 0 44 4 (.slice A n c) n (flatC cs us) ∧ (∀ k, Fo (.slice A n c) k → F k) ∧ InnerC w F us cs ∧ ∀ k, F k → k < w.heap.size
section
variable {w w' : World} {F G : Nat → Prop} {n c : Nat} {A : Option Addr} {cs : List Cmd}
theorem OwnC.rdc (h : OwnC w F A n c cs) : RdC w A n cs := by obtain ⟨us, h1, _, h3, _⟩ := h; exact h3.rdc (ownN_rd h1)
theorem OwnC.len (h : OwnC w F A n c cs) : cs.length = n := h.rdc.len
theorem OwnC.lt (h : OwnC w F A n c cs) : ∀ k, F k → k < w.heap.size := by obtain ⟨us, _, _, _, h4⟩ := h; exact h4
theorem OwnC.ch (h : OwnC w F A n c cs) (hc : Ch G w w') (hd : ∀ k, F k → G k → False) : OwnC w' F A n c cs := by
  obtain ⟨us, h1, h2, h3, h4⟩ := h
  exact ⟨us, own_ch h1 hc (fun k a b => hd k (h2 k a) b), h2, h3.ch hc hd, fun k hk => Nat.lt_of_lt_of_le (h4 k hk) hc.size⟩
theorem OwnC.below (h : OwnC w F A n c cs) (hb : Below w.heap.size w w') : OwnC w' F A n c cs := h.ch (ch_below (F := fun _ => False) hb) (fun _ _ h => h)
theorem OwnC.cap (h : OwnC w F A n c cs) : n ≤ c := by obtain ⟨us, h1, _⟩ := h; exact ownN_cap h1
theorem OwnC.nil (w : World) : OwnC w (fun _ => False) none 0 0 [] := ⟨[], ownN_nil _ _ _ _, by simp [Fo, Value.ownBlock], InnerC.nil _ _, by simp⟩
theorem OwnC.mono (h : OwnC w F A n c cs) (hd : ∀ k, F k → G k) (hlt : ∀ k, G k → k < w.heap.size) : OwnC w G A n c cs := by
  obtain ⟨us, h1, h2, h3, h4⟩ := h
  exact ⟨us, h1, fun k hk => hd k (h2 k hk), h3.mono hd, hlt⟩
end
/-- What a call that returns new commands leaves. -/
def RetC (w : World) (cs : List Cmd) (en : Ending) (w' : World) : Prop :=
  ∃ A n c F, en = .returned (.slice A n c) ∧ OwnC w' F A n c cs ∧ (∀ k, F k → w.heap.size ≤ k ∧ k < w'.heap.size) ∧ Below w.heap.size w w'
end Go.Proofs.YtadmbphefpfbmaaGreatDoor
/- Whether commands are valid: the program's function. -/
namespace Go.Proofs.YtadmbphefpfbmaaGreatDoor
open Go.RowKit
set_option linter.unusedVariables false
set_option linter.unusedSimpArgs false
theorem okC_dropS {cs : List Cmd} {k : Nat} {x : Cmd} (hx : cs[k]? = some x) (h : wfE x.e = true) (h0 : x.k = 0) : okC (cs.drop k) = (inB x.v 0 5 && (x.l == 0) && okC (cs.drop (k + 1))) := by
  rw [drop_get hx, okC_set h h0]
theorem okC_dropW {cs : List Cmd} {n k l : Nat} {x : Cmd} (hx : cs[k]? = some x) (h : wfE x.e = true) (h1 : x.k = 1) (hv : x.v = 0) (hl : x.l = (l : Int)) (hn : cs.length = n) (hk : k + 1 + l ≤ n) :
    okC (cs.drop k) = (okC ((cs.drop (k + 1)).take l) && okC (cs.drop (k + l + 1))) := by
  have hin : inB x.l 0 ((cs.drop (k + 1)).length : Nat) = true := by rw [List.length_drop, hl]; exact inB_true.2 (by omega)
  have e : x.l.toNat = l := by omega
  rw [drop_get hx, okC_wh h h1, hv, hin, e, List.drop_drop, show k + 1 + l = k + l + 1 by omega]
  simp
theorem okC_dropL {cs : List Cmd} {n k : Nat} {x : Cmd} (hx : cs[k]? = some x) (h1 : x.k = 1) (hn : cs.length = n) (hk : k < n) (hl : inB x.l 0 ((n : Int) - (k : Int) - 1) = false) : okC (cs.drop k) = false := by
  have hin : inB x.l 0 ((cs.drop (k + 1)).length : Nat) = false := by rw [List.length_drop, hn]; have := inB_false.1 hl; exact inB_false.2 (by omega)
  rw [drop_get hx, okC_cons, if_neg (by omega), if_pos h1, hin]
  simp
theorem okC_dropV {cs : List Cmd} {k : Nat} {x : Cmd} (hx : cs[k]? = some x) (h1 : x.k = 1) (hv : x.v ≠ 0) : okC (cs.drop k) = false := by
  rw [drop_get hx, okC_cons, if_neg (by omega), if_pos h1]
  simp [hv]
theorem okC_dropE {cs : List Cmd} {k : Nat} {x : Cmd} (hx : cs[k]? = some x) (h : wfE x.e = false) : okC (cs.drop k) = false := by rw [drop_get hx, okC_badE h]
theorem okC_dropK {cs : List Cmd} {k : Nat} {x : Cmd} (hx : cs[k]? = some x) (h0 : x.k ≠ 0) (h1 : x.k ≠ 1) : okC (cs.drop k) = false := by rw [drop_get hx, okC_badK h0 h1]
set_option maxHeartbeats 8000000 in
set_option maxRecDepth 100000 in
theorem validCommands_any : ∀ (n : Nat) (w : World) (A : Option Addr) (c : Nat) (cs : List Cmd), RdC w A n cs → n ≤ 1000000 → n ≤ c → Calls Tryz.prog 134 #[.slice A n c] w (RetV w (.bool (okC cs))) := by
  intro n
  induction n using Nat.strongRecOn with
  | _ n ih =>
  intro w A c cs hr hn hnc
  have HIH := Lib.hid ih
  clear ih
  have HL : Hid (cs.length = n) := Lib.hid hr.len
  go_enter Tryz.func134, Tryz.ntmps134
  go_wp2_with fail
  go_loopw [3] (fun q wr => ∃ k : Nat, k ≤ n ∧ q = .int .i64 k ∧ Hid (okC cs = okC (cs.drop k)) ∧ Below w.heap.size w wr) (fun q _ => n - (intOf q).toNat)
  case atStart => exact ⟨0, by omega, rfl, Lib.hid (by simp), Below.refl _ _⟩
  case round =>
    obtain ⟨k, hk, rfl, HA, hb⟩ := hrel
    by_cases hlt : k < n
    · have hlt' : (k : Int) < (n : Int) := by omega
      obtain ⟨x, hx⟩ := get_some (xs := cs) (k := k) (by rw [HL.out]; exact hlt)
      obtain ⟨b, off, A', n', c', rfl, hbs, q0, q1, q2, q3, hn', hc', hre⟩ := hr.at_ hx
      replace q0 := (hb.cell (p := ⟨b, off + k * 4, none⟩) hbs).trans q0
      replace q1 := (hb.cell (p := ⟨b, off + k * 4 + 1, none⟩) hbs).trans q1
      replace q2 := (hb.cell (p := ⟨b, off + k * 4 + 2, none⟩) hbs).trans q2
      replace q3 := (hb.cell (p := ⟨b, off + k * 4 + 3, none⟩) hbs).trans q3
      replace hre := hre.below hb (Nat.le_refl _)
      have HX := Lib.hid hx
      clear hx
      obtain ⟨xk, xv, xl, xe⟩ := x
      simp only at q0 q1 q2 hre
      have HB1 := Lib.hid (hb.trans ((below_new wr (.cells #[.int .i64 xk, .int .i64 xv, .int .i64 xl, .slice A' n' c'] 44)).mono hb.size))
      have hz := box_new wr #[.int .i64 xk, .int .i64 xv, .int .i64 xl, .slice A' n' c'] 44
      have hre2 := hre.below (below_new wr (.cells #[.int .i64 xk, .int .i64 xv, .int .i64 xl, .slice A' n' c'] 44)) (Nat.le_refl _)
      clear hre
      have z0 := blk_cell hz 0 rfl
      have z1 := blk_cell hz 1 rfl
      have z2 := blk_cell hz 2 rfl
      have z3 := blk_cell hz 3 rfl
      have HZ := Lib.hid hz
      clear hz hb
      go_wp2_with fail
      refine (ValidExpr_any _ _ _ _ _ hre2 hn').mono ?_
      rintro e w2 ⟨rfl, hb2⟩
      have HB2 := Lib.hid (HB1.out.trans (hb2.mono HB1.out.size))
      have hz2 := blk_bel HZ.out hb2
      clear z0 z1 z2 z3
      have z0 := blk_cell hz2 0 rfl
      have z1 := blk_cell hz2 1 rfl
      have z2 := blk_cell hz2 2 rfl
      have z3 := blk_cell hz2 3 rfl
      have HZ2 := Lib.hid hz2
      clear hz2 hb2 q0 q1 q2 q3 hre2
      cases hwe : wfE xe with
      | false =>
        have HQ := Lib.hid (HA.out.trans (okC_dropE HX.out hwe))
        clear hwe
        go_wp2_with fail
        go_ret
        exact ⟨by rw [HQ.out]; rfl, HB2.out⟩
      | true =>
        have HW := Lib.hid hwe
        clear hwe
        by_cases h0 : xk = 0
        · subst h0
          have HD := Lib.hid (HA.out.trans (okC_dropS HX.out HW.out rfl))
          cases hv : inB xv 0 5 with
          | false =>
            have HV := Lib.hid hv
            have HQ : Hid (okC cs = false) := Lib.hid (by rw [HD.out]; simp [hv])
            clear hv
            go_wp2_with (go_at_call 176; go_must (refine (isWhileVariable_any _ _).mono ?_; rw [HV.out]; rintro e w' ⟨rfl, rfl⟩))
            go_ret
            exact ⟨by rw [HQ.out]; rfl, HB2.out⟩
          | true =>
            have HV := Lib.hid hv
            clear hv
            by_cases hl : xl = 0
            · subst hl
              have HQ : Hid (okC cs = okC (cs.drop (k + 1))) := Lib.hid (by rw [HD.out, HV.out]; simp)
              go_wp2_with (go_at_call 176; go_must (refine (isWhileVariable_any _ _).mono ?_; rw [HV.out]; rintro e w' ⟨rfl, rfl⟩))
              go_roundw
              case rel => exact ⟨k + 1, by omega, by go_num, HQ, HB2.out⟩
              case measure => simp [intOf]; omega
            · have b1 : (xl == 0) = false := by simpa using hl
              have b2 : (xl != 0) = true := by simpa using hl
              have HQ : Hid (okC cs = false) := Lib.hid (by rw [HD.out]; simp [hl])
              go_wp2_with (go_at_call 176; go_must (refine (isWhileVariable_any _ _).mono ?_; rw [HV.out]; rintro e w' ⟨rfl, rfl⟩))
              go_ret
              exact ⟨by rw [HQ.out]; rfl, HB2.out⟩
        · have b0 : (xk == 0) = false := by simpa using h0
          have b0' : (xk != 0) = true := by simpa using h0
          by_cases h1 : xk = 1
          · subst h1
            by_cases hv : xv = 0
            · subst hv
              cases hl : inB xl 0 ((n : Int) - (k : Int) - 1) with
              | false =>
                have HV := Lib.hid hl
                have HQ := Lib.hid (HA.out.trans (okC_dropL HX.out rfl HL.out hlt hl))
                clear hl
                go_wp2_with (go_at_call 46; go_must (refine (within_any _ _ _ _).mono ?_; rw [HV.out]; rintro e w' ⟨rfl, rfl⟩))
                go_ret
                exact ⟨by rw [HQ.out]; rfl, HB2.out⟩
              | true =>
                have HV := Lib.hid hl
                obtain ⟨hl0, hl1⟩ := inB_true.1 hl
                clear hl
                obtain ⟨l, rfl⟩ : ∃ l : Nat, xl = (l : Int) := ⟨xl.toNat, by omega⟩
                have HD := Lib.hid (HA.out.trans (okC_dropW (l := l) HX.out HW.out rfl rfl rfl HL.out (by omega)))
                have HCT : Hid (RdC w2 (some ⟨b, off + (k + 1) * 4, none⟩) l ((cs.drop (k + 1)).take l)) := Lib.hid (by
                  have h := (hr.cut (i := k + 1) (j := k + 1 + l) (by omega) (by omega)).below HB2.out (Nat.le_refl _)
                  rwa [Nat.add_sub_cancel_left] at h)
                have g0 : (0 : Int) ≤ (k : Int) + 1 := by omega
                have g1 : (k : Int) + 1 ≤ (k : Int) + 1 + (l : Int) := by omega
                have g2 : (k : Int) + 1 + (l : Int) ≤ (c : Int) := by omega
                have HI2 := Lib.hid (fun (A3 : Option Addr) (c3 : Nat) (h3 : RdC w2 A3 l ((cs.drop (k + 1)).take l)) (h4 : l ≤ c3) => HIH.out l (by omega) w2 A3 c3 _ h3 (by omega) h4)
                cases hrec : okC ((cs.drop (k + 1)).take l) with
                | false =>
                  rw [hrec] at HI2
                  have HQ : Hid (okC cs = false) := Lib.hid (by rw [HD.out, hrec]; rfl)
                  by_cases hck : c = k + 1
                  · exfalso
                    have hl0' : l = 0 := by omega
                    rw [hl0'] at hrec
                    simp [okC_nil] at hrec
                  · clear hrec
                    go_wp2_with (go_at_call 46; go_must (refine (within_any _ _ _ _).mono ?_; rw [HV.out]; rintro e w' ⟨rfl, rfl⟩))
                    refine (HI2.out _ _ HCT.out (by omega)).mono ?_
                    rintro e w3 ⟨rfl, hb3⟩
                    go_wp2_with fail
                    go_ret
                    exact ⟨by rw [HQ.out]; rfl, HB2.out.trans (hb3.mono HB2.out.size)⟩
                | true =>
                  rw [hrec] at HI2
                  have HQ : Hid (okC cs = okC (cs.drop (k + l + 1))) := Lib.hid (by rw [HD.out, hrec]; rfl)
                  clear hrec
                  by_cases hck : c = k + 1
                  · have hl0' : l = 0 := by omega
                    subst hl0'
                    subst hck
                    have HI3 := Lib.hid (fun (A3 : Option Addr) (c3 : Nat) => HI2.out A3 c3 (RdC.nil _ _) (by omega))
                    simp only [Nat.add_zero] at HQ
                    replace HV : Hid (inB 0 0 ((n : Int) - (k : Int) - 1) = true) := HV
                    go_wp2_with (go_at_call 46; go_must (refine (within_any _ _ _ _).mono ?_; rw [HV.out]; rintro e w' ⟨rfl, rfl⟩))
                    refine (HI3.out _ _).mono ?_
                    rintro e w3 ⟨rfl, hb3⟩
                    have hz3 := blk_bel HZ2.out hb3
                    clear z0 z1 z2 z3
                    have z2 := blk_cell hz3 2 rfl
                    clear hz3
                    go_wp2_with fail
                    go_roundw
                    case rel => exact ⟨k + 1, by omega, by go_num, HQ, HB2.out.trans (hb3.mono HB2.out.size)⟩
                    case measure => simp [intOf]; omega
                  · go_wp2_with (go_at_call 46; go_must (refine (within_any _ _ _ _).mono ?_; rw [HV.out]; rintro e w' ⟨rfl, rfl⟩))
                    refine (HI2.out _ _ HCT.out (by omega)).mono ?_
                    rintro e w3 ⟨rfl, hb3⟩
                    have hz3 := blk_bel HZ2.out hb3
                    clear z0 z1 z2 z3
                    have z2 := blk_cell hz3 2 rfl
                    clear hz3
                    go_wp2_with fail
                    go_roundw
                    case rel => exact ⟨k + l + 1, by omega, by go_num, HQ, HB2.out.trans (hb3.mono HB2.out.size)⟩
                    case measure => simp [intOf]; omega
            · have b1 : (xv == 0) = false := by simpa using hv
              have b2 : (xv != 0) = true := by simpa using hv
              have HQ := Lib.hid (HA.out.trans (okC_dropV HX.out rfl hv))
              go_wp2_with fail
              go_ret
              exact ⟨by rw [HQ.out]; rfl, HB2.out⟩
          · have b1 : (xk == 1) = false := by simpa using h1
            have b1' : (xk != 1) = true := by simpa using h1
            have HQ := Lib.hid (HA.out.trans (okC_dropK HX.out h0 h1))
            go_wp2_with fail
            go_ret
            exact ⟨by rw [HQ.out]; rfl, HB2.out⟩
    · obtain rfl : k = n := by omega
      have HQ : Hid (okC cs = true) := Lib.hid (by rw [HA.out, List.drop_of_length_le (by rw [HL.out]; omega)]; rfl)
      go_wp2_with fail
      go_ret
      exact ⟨by rw [HQ.out]; rfl, hb⟩
set_option maxHeartbeats 1000000 in
theorem ValidWhile_any (w : World) (A : Option Addr) (n c : Nat) (cs : List Cmd) (hr : RdC w A n cs) (hn : n ≤ 1000000) (hnc : n ≤ c) : Calls Tryz.prog 94 #[.slice A n c] w (RetV w (.bool (isW cs))) := by
  have hl := hr.len
  by_cases h80 : n ≤ 80
  · have HW : Hid (isW cs = okC cs) := Lib.hid (by simp [isW, hl, h80])
    clear hl
    go_enter Tryz.func94, Tryz.ntmps94
    go_wp2_with fail
    refine (validCommands_any n _ _ _ _ hr hn hnc).mono ?_
    rintro e w2 ⟨rfl, hb2⟩
    generalize okC cs = q at HW
    go_wp2_with fail
    go_ret
    exact ⟨by rw [HW.out]; rfl, hb2⟩
  · have HW : Hid (isW cs = false) := Lib.hid (by simp [isW, hl, h80])
    clear hl
    go_enter Tryz.func94, Tryz.ntmps94
    go_wp2_with fail
    go_ret
    exact ⟨by rw [HW.out]; rfl, Below.refl _ _⟩
end Go.Proofs.YtadmbphefpfbmaaGreatDoor
/- Whether commands are valid: the reference's function. -/
namespace Go.Proofs.YtadmbphefpfbmaaGreatDoor
open Go.RowKit
set_option linter.unusedVariables false
set_option linter.unusedSimpArgs false
/-- A stack of ends, the innermost first. -/
def stk (n : Nat) : Nat → List Nat → Prop
  | _, [] => False
  | i, [t] => i ≤ t ∧ t = n
  | i, t :: u :: r => i ≤ t ∧ stk n t (u :: r)
theorem stk_le {n i : Nat} : ∀ {S : List Nat}, stk n i S → i ≤ n
  | [t], h => by have := h.1; have := h.2; omega
  | t :: u :: r, h => by have := h.1; have := stk_le h.2; omega
theorem stk_top {n i t : Nat} {r : List Nat} (h : stk n i (t :: r)) : i ≤ t ∧ t ≤ n := by
  cases r with
  | nil => exact ⟨h.1, by have := h.2; omega⟩
  | cons u r => exact ⟨h.1, stk_le h.2⟩
theorem stk_mono {n i j t : Nat} {r : List Nat} (h : stk n i (t :: r)) (hj : j ≤ t) : stk n j (t :: r) := by
  cases r with
  | nil => exact ⟨hj, h.2⟩
  | cons u r => exact ⟨hj, h.2⟩
theorem stk_push {n i j t : Nat} {r : List Nat} (h : stk n i (t :: r)) (hj : j ≤ t) (k : Nat) (hk : k ≤ j) : stk n k (j :: t :: r) := ⟨hk, stk_mono h hj⟩
theorem stk_pop {n i u : Nat} {r : List Nat} (h : stk n i (i :: u :: r)) : stk n i (u :: r) := h.2
theorem stk_one {n i t : Nat} (h : stk n i [t]) : t = n := h.2
theorem stk_all {n : Nat} : ∀ {S : List Nat} {i : Nat}, stk n i S → i = n → ∀ t ∈ S, t = n
  | [u], i, h, e, t, ht => by
    obtain rfl : t = u := by simpa using ht
    exact h.2
  | u :: v :: r, i, h, e, t, ht => by
    have h1 := h.1
    have h2 := stk_le h.2
    rcases List.mem_cons.1 ht with rfl | ht
    · omega
    · exact stk_all h.2 (by omega) t ht
def nats (S : List Nat) : List Int := S.reverse.map Int.ofNat
theorem nats_len (S : List Nat) : (nats S).length = S.length := by simp [nats]
theorem nats_top (t : Nat) (r : List Nat) : (ints (nats (t :: r)))[r.length]? = some (.int .i64 (t : Int)) := by
  simp [nats, ints]
theorem Tryz.infoInt : (Tryz.prog.info? 3).map (fun i => (i.zero, i.size, i.bytes)) = some (some (.int .i64 0), 1, 8) := by kernel_rfl
theorem eltInt : Elt Tryz.prog 126 3 (.int .i64 0) := Elt.mk_ Tryz.underlying126 Tryz.infoInt rfl (by decide)
theorem okS_badV {p : List Cmd} {i t : Nat} {x : Cmd} {r : List Nat} (hx : p[i]? = some x) (ht : i < t) (h : wfE x.e = true) (hv : inB x.v 0 5 = false) : okS p i (t :: r) = false := by
  by_cases h0 : x.k = 0
  · rw [okS_set hx ht h h0, hv]; rfl
  · by_cases h1 : x.k = 1
    · exact okS_whV hx ht h1 (fun e => by rw [e] at hv; revert hv; decide)
    · exact okS_badK hx ht h0 h1
theorem okS_goodS {p : List Cmd} {i t : Nat} {x : Cmd} {r : List Nat} (hx : p[i]? = some x) (ht : i < t) (h : wfE x.e = true) (h0 : x.k = 0) (hv : inB x.v 0 5 = true) (hl : x.l = 0) : okS p i (t :: r) = okS p (i + 1) (t :: r) := by
  rw [okS_set hx ht h h0, hv, hl]; simp
theorem okS_badL {p : List Cmd} {i t : Nat} {x : Cmd} {r : List Nat} (hx : p[i]? = some x) (ht : i < t) (h : wfE x.e = true) (h0 : x.k = 0) (hl : x.l ≠ 0) : okS p i (t :: r) = false := by
  rw [okS_set hx ht h h0]; simp [hl]
theorem nats_push (j : Nat) (S : List Nat) : ints (nats S) ++ [.int .i64 (j : Int)] = ints (nats (j :: S)) := by simp [nats, ints]
theorem nats_pop (t : Nat) (r : List Nat) : (ints (nats (t :: r))).take r.length = ints (nats r) := by
  have e : ints (nats (t :: r)) = ints (nats r) ++ [.int .i64 (t : Int)] := (nats_push t r).symm
  rw [e, List.take_append_of_le_length (by simp [nats]), List.take_of_length_le (by simp [nats])]
theorem own_cap0 {w : World} {base e n c : Nat} {A : Option Addr} {vs : List Value} (h : w.ownsRow base e 1 (.slice A n c) n vs) : n ≤ c := ownN_cap h
def sLen : Value → Nat
  | .slice _ n _ => n
  | _ => 0
set_option maxHeartbeats 16000000 in
set_option maxRecDepth 100000 in
theorem l22Is_any (w : World) (A : Option Addr) (n c : Nat) (cs : List Cmd) (hr : RdC w A n cs) (hn : n ≤ 1000000) : Calls Tryz.prog 56 #[.slice A n c] w (RetV w (.bool (isW cs))) := by
  have HL : Hid (cs.length = n) := Lib.hid hr.len
  by_cases h80 : n ≤ 80
  · have HW : Hid (isW cs = okC cs) := Lib.hid (by simp [isW, HL.out, h80])
    have hlit := own_lit w #[.int .i64 (n : Int)] 1 3 rfl (by omega)
    have hbb := below_new w (.cells #[.int .i64 (n : Int)] 3)
    go_enter Tryz.func56, Tryz.ntmps56
    go_wp2_with fail
    go_loopw [3, 4] (fun e q wr => ∃ (i : Nat) (S : List Nat) (A1 : Option Addr) (m c1 : Nat), i ≤ n ∧ q = .int .i64 i ∧ e = .slice A1 (m + 1) c1 ∧ wr.ownsRow w.heap.size 3 1 (.slice A1 (m + 1) c1) (m + 1) (ints (nats S)) ∧ Hid (okC cs = okS cs i S) ∧ Hid (stk n i S) ∧ Hid (S.length = m + 1) ∧ m ≤ i ∧ Below w.heap.size w wr) (fun _ q _ => n - (intOf q).toNat)
    case atStart => exact ⟨0, [n], _, 0, 1, by omega, rfl, rfl, by simpa [nats] using hlit, Lib.hid (by rw [← HL.out, okS_start]), Lib.hid ⟨by omega, rfl⟩, Lib.hid rfl, by omega, hbb⟩
    case round =>
      clear hlit hbb
      obtain ⟨i, S, A1, m, c1, hi, rfl, rfl, hown, HK, HS, HM, hm, hb⟩ := hrel
      by_cases hlt : i < n
      · have hlt' : (i : Int) < (n : Int) := by omega
        obtain ⟨x, hx⟩ := get_some (xs := cs) (k := i) (by rw [HL.out]; exact hlt)
        obtain ⟨b, off, A', n', c', rfl, hbs, q0, q1, q2, q3, hn', hc', hre⟩ := hr.at_ hx
        have HX := Lib.hid hx
        clear hx
        obtain ⟨xk, xv, xl, xe⟩ := x
        simp only at q0 q1 q2 hre
        have HQ0 := Lib.hid q0; have HQ1 := Lib.hid q1; have HQ2 := Lib.hid q2; have HQ3 := Lib.hid q3; have HRE := Lib.hid hre
        clear q0 q1 q2 q3 hre
        go_wp2_with fail
        go_loopw [3] (fun e wr => ∃ (S : List Nat) (A1 : Option Addr) (m c1 : Nat), e = .slice A1 (m + 1) c1 ∧ wr.ownsRow w.heap.size 3 1 (.slice A1 (m + 1) c1) (m + 1) (ints (nats S)) ∧ Hid (okC cs = okS cs i S) ∧ Hid (stk n i S) ∧ Hid (S.length = m + 1) ∧ m ≤ i ∧ Below w.heap.size w wr) (fun e _ => sLen e)
        case atStart => exact ⟨S, A1, m, c1, rfl, hown, HK, HS, HM, hm, hb⟩
        case round =>
          clear hown HK HS HM hm hb
          obtain ⟨S, A1, m, c1, rfl, hown, HK, HS, HM, hm, hb⟩ := hrel
          obtain ⟨t, r, hSr⟩ : ∃ t r, S = t :: r := by
            have h := HS.out
            cases S with
            | nil => exact h.elim
            | cons t r => exact ⟨t, r, rfl⟩
          subst hSr
          obtain ⟨hit, htn⟩ := stk_top HS.out
          have hrl : r.length = m := by have := HM.out; simpa using this
          obtain ⟨g, hg, hgb, hgs, e0, _⟩ := own_get hown (nats_top t r)
          subst hg
          rw [hrl] at e0
          have HRL := Lib.hid hrl
          clear hrl
          have hEX : (m = 0 ∧ t = n) ∨ (0 < m ∧ t = i) ∨ (0 < m ∧ i < t) := by
            rcases Nat.eq_zero_or_pos m with h0 | h0
            · refine .inl ⟨h0, ?_⟩
              have h1 := HRL.out
              rw [h0] at h1
              have h2 : r = [] := List.eq_nil_of_length_eq_zero h1
              subst h2
              exact stk_one HS.out
            · rcases Nat.lt_or_ge i t with h1 | h1
              · exact .inr (.inr ⟨h0, h1⟩)
              · exact .inr (.inl ⟨h0, by omega⟩)
          rcases hEX with ⟨rfl, ht⟩ | ⟨h0, rfl⟩ | ⟨h0, h1⟩
          · have h1 : i < t := by omega
            clear ht
            have q0 := (hb.cell (p := ⟨b, off + i * 4, none⟩) hbs).trans HQ0.out
            have q1 := (hb.cell (p := ⟨b, off + i * 4 + 1, none⟩) hbs).trans HQ1.out
            have q2 := (hb.cell (p := ⟨b, off + i * 4 + 2, none⟩) hbs).trans HQ2.out
            have q3 := (hb.cell (p := ⟨b, off + i * 4 + 3, none⟩) hbs).trans HQ3.out
            have hre := HRE.out.below hb (Nat.le_refl _)
            cases hwe : wfE xe with
            | false =>
              have HWE := Lib.hid hwe
              have HQ : Hid (okC cs = false) := Lib.hid (HK.out.trans (okS_badE HX.out h1 hwe))
              clear hwe
              go_wp2_with (first | (go_at_call 83; go_must (refine (l22Expr_any _ _ _ _ _ hre hn').mono ?_; rw [HWE.out]; rintro e w' ⟨rfl, rfl⟩)) | (go_at_call 42; go_must (refine (l00In_any _ _ _ _).mono ?_; rw [HWE.out]; rintro e w' ⟨rfl, rfl⟩)))
              go_ret
              exact ⟨by rw [HW.out, HQ.out]; rfl, hb⟩
            | true =>
              have HWE := Lib.hid hwe
              clear hwe
              cases hv : inB xv 0 5 with
              | false =>
                have HV := Lib.hid hv
                have HQ : Hid (okC cs = false) := Lib.hid (HK.out.trans (okS_badV HX.out h1 HWE.out hv))
                clear hv
                go_wp2_with (first | (go_at_call 83; go_must (refine (l22Expr_any _ _ _ _ _ hre hn').mono ?_; rw [HWE.out]; rintro e w' ⟨rfl, rfl⟩)) | (go_at_call 42; go_must (refine (l00In_any _ _ _ _).mono ?_; rw [HV.out]; rintro e w' ⟨rfl, rfl⟩)))
                go_ret
                exact ⟨by rw [HW.out, HQ.out]; rfl, hb⟩
              | true =>
                have HV := Lib.hid hv
                clear hv
                by_cases hk0 : xk = 0
                · subst hk0
                  by_cases hl : xl = 0
                  · subst hl
                    have HQ : Hid (okC cs = okS cs (i + 1) (t :: r)) := Lib.hid (HK.out.trans (okS_goodS HX.out h1 HWE.out rfl HV.out rfl))
                    go_wp2_with (first | (go_at_call 83; go_must (refine (l22Expr_any _ _ _ _ _ hre hn').mono ?_; rw [HWE.out]; rintro e w' ⟨rfl, rfl⟩)) | (go_at_call 42; go_must (refine (l00In_any _ _ _ _).mono ?_; rw [HV.out]; rintro e w' ⟨rfl, rfl⟩)))
                    go_roundw
                    case rel => exact ⟨i + 1, t :: r, _, _, c1, by omega, by go_num, rfl, hown, HQ, Lib.hid (stk_mono HS.out h1), HM, by omega, hb⟩
                    case measure => simp [intOf]; omega
                  · have b1 : (xl == 0) = false := by simpa using hl
                    have b2 : (xl != 0) = true := by simpa using hl
                    have HQ : Hid (okC cs = false) := Lib.hid (HK.out.trans (okS_badL HX.out h1 HWE.out rfl hl))
                    go_wp2_with (first | (go_at_call 83; go_must (refine (l22Expr_any _ _ _ _ _ hre hn').mono ?_; rw [HWE.out]; rintro e w' ⟨rfl, rfl⟩)) | (go_at_call 42; go_must (refine (l00In_any _ _ _ _).mono ?_; rw [HV.out]; rintro e w' ⟨rfl, rfl⟩)))
                    go_ret
                    exact ⟨by rw [HW.out, HQ.out]; rfl, hb⟩
                · have b0 : (xk == 0) = false := by simpa using hk0
                  have b0' : (xk != 0) = true := by simpa using hk0
                  by_cases hk1 : xk = 1
                  · subst hk1
                    by_cases hv0 : xv = 0
                    · subst hv0
                      cases hl : inB xl 0 ((t : Int) - (i : Int) - 1) with
                      | false =>
                        have HQ : Hid (okC cs = false) := Lib.hid (HK.out.trans (okS_whL HX.out h1 (by rw [HL.out]; exact htn) rfl hl))
                        go_wp2_with (first | (go_at_call 83; go_must (refine (l22Expr_any _ _ _ _ _ hre hn').mono ?_; rw [HWE.out]; rintro e w' ⟨rfl, rfl⟩)) | (go_at_call 42; go_must (refine (l00In_any _ _ _ _).mono ?_; rw [HV.out]; rintro e w' ⟨rfl, rfl⟩)))
                        go_quiet ((go_at_call 42; exact Calls.quiet_of_same ((l00In_any _ _ _ _).mono fun e w' h => ⟨h.1, h.2.symm⟩)))
                        go_wp2_with fail
                        go_ret
                        exact ⟨by rw [HW.out, HQ.out]; rfl, below_drewN hb⟩
                      | true =>
                        obtain ⟨hl0, hl1⟩ := inB_true.1 hl
                        have HQ0 := Lib.hid (HK.out.trans (okS_wh HX.out h1 (by rw [HL.out]; exact htn) HWE.out rfl rfl hl))
                        obtain ⟨l, rfl⟩ : ∃ l : Nat, xl = (l : Int) := ⟨xl.toNat, by omega⟩
                        have HQ : Hid (okC cs = okS cs (i + 1) ((i + 1 + l) :: t :: r)) := Lib.hid (by have h := HQ0.out; simp only [Int.toNat_natCast] at h; exact h)
                        go_wp2_with (first | (go_at_call 83; go_must (refine (l22Expr_any _ _ _ _ _ hre hn').mono ?_; rw [HWE.out]; rintro e w' ⟨rfl, rfl⟩)) | (go_at_call 42; go_must (refine (l00In_any _ _ _ _).mono ?_; rw [HV.out]; rintro e w' ⟨rfl, rfl⟩)))
                        go_quiet ((go_at_call 42; exact Calls.quiet_of_same ((l00In_any _ _ _ _).mono fun e w' h => ⟨h.1, h.2.symm⟩)))
                        have q2' : (wr.drewN nq).cell? ⟨b, off + i * 4 + 2, none⟩ = some (.int .i64 (l : Int)) := q2
                        have hown' : (wr.drewN nq).ownsRow w.heap.size 3 1 (.slice (some ⟨g, 0, none⟩) _ c1) _ (ints (nats (t :: r))) := hown
                        have hbq : Below w.heap.size w (wr.drewN nq) := below_drewN hb
                        go_wp2_with (at_builtin; go_must (refine wpList_app1g eltInt rfl _ _ rfl (wr.drewN nq) w.heap.size _ _ _ (by rfl) hown' _ (by rfl) (by rfl) hbq.size (by omega) ?_; rintro A4 c4 w4 hown4 hb4 hg4))
                        go_roundw
                        case rel => exact ⟨i + 1, (i + 1 + l) :: t :: r, A4, _, c4, by omega, by go_num, rfl, by rw [show ((i : Int) + 1 + (l : Int)) = ((i + 1 + l : Nat) : Int) by omega, nats_push] at hown4; exact hown4, HQ, Lib.hid (stk_push HS.out (by omega) _ (by omega)), Lib.hid (by have := HM.out; simp at this ⊢; omega), by omega, hbq.trans hb4⟩
                        case measure => simp [intOf]; omega
                    · have b1 : (xv == 0) = false := by simpa using hv0
                      have b2 : (xv != 0) = true := by simpa using hv0
                      have HQ : Hid (okC cs = false) := Lib.hid (HK.out.trans (okS_whV HX.out h1 rfl hv0))
                      go_wp2_with (first | (go_at_call 83; go_must (refine (l22Expr_any _ _ _ _ _ hre hn').mono ?_; rw [HWE.out]; rintro e w' ⟨rfl, rfl⟩)) | (go_at_call 42; go_must (refine (l00In_any _ _ _ _).mono ?_; rw [HV.out]; rintro e w' ⟨rfl, rfl⟩)))
                      go_quiet ((go_at_call 42; exact Calls.quiet_of_same ((l00In_any _ _ _ _).mono fun e w' h => ⟨h.1, h.2.symm⟩)))
                      go_wp2_with fail
                      go_ret
                      exact ⟨by rw [HW.out, HQ.out]; rfl, below_drewN hb⟩
                  · have b1 : (xk == 1) = false := by simpa using hk1
                    have b1' : (xk != 1) = true := by simpa using hk1
                    have HQ : Hid (okC cs = false) := Lib.hid (HK.out.trans (okS_badK HX.out h1 hk0 hk1))
                    go_wp2_with (first | (go_at_call 83; go_must (refine (l22Expr_any _ _ _ _ _ hre hn').mono ?_; rw [HWE.out]; rintro e w' ⟨rfl, rfl⟩)) | (go_at_call 42; go_must (refine (l00In_any _ _ _ _).mono ?_; rw [HV.out]; rintro e w' ⟨rfl, rfl⟩)))
                    go_ret
                    exact ⟨by rw [HW.out, HQ.out]; rfl, hb⟩
          · obtain ⟨m, rfl⟩ : ∃ q, m = q + 1 := ⟨m - 1, by omega⟩
            have hcap := own_cap0 hown
            have HO := Lib.hid (own_take hown (k := m + 1) (by omega))
            have HP : Hid (okC cs = okS cs t r) := Lib.hid (by rw [HK.out, okS_pop])
            have HS2 : Hid (stk n t r) := Lib.hid (by
              have h := HS.out
              cases r with
              | nil => have h2 := HRL.out; simp at h2
              | cons u r => exact stk_pop h)
            clear hown
            go_wp2_with fail
            go_roundw
            case rel => exact ⟨r, _, m, c1, rfl, by have h := HO.out; rw [← HRL.out, nats_pop, HRL.out] at h; exact h, HP, HS2, HRL, by omega, hb⟩
            case measure => simp [sLen]
          · obtain ⟨m, rfl⟩ : ∃ q, m = q + 1 := ⟨m - 1, by omega⟩
            have bt : ((t : Int) == (i : Int)) = false := by simp; omega
            have bt2 : ¬ (t : Int) = (i : Int) := by omega
            have bt3 : ¬ t = i := by omega
            have q0 := (hb.cell (p := ⟨b, off + i * 4, none⟩) hbs).trans HQ0.out
            have q1 := (hb.cell (p := ⟨b, off + i * 4 + 1, none⟩) hbs).trans HQ1.out
            have q2 := (hb.cell (p := ⟨b, off + i * 4 + 2, none⟩) hbs).trans HQ2.out
            have q3 := (hb.cell (p := ⟨b, off + i * 4 + 3, none⟩) hbs).trans HQ3.out
            have hre := HRE.out.below hb (Nat.le_refl _)
            cases hwe : wfE xe with
            | false =>
              have HWE := Lib.hid hwe
              have HQ : Hid (okC cs = false) := Lib.hid (HK.out.trans (okS_badE HX.out h1 hwe))
              clear hwe
              go_wp2_with (first | (go_at_call 83; go_must (refine (l22Expr_any _ _ _ _ _ hre hn').mono ?_; rw [HWE.out]; rintro e w' ⟨rfl, rfl⟩)) | (go_at_call 42; go_must (refine (l00In_any _ _ _ _).mono ?_; rw [HWE.out]; rintro e w' ⟨rfl, rfl⟩)))
              go_ret
              exact ⟨by rw [HW.out, HQ.out]; rfl, hb⟩
            | true =>
              have HWE := Lib.hid hwe
              clear hwe
              cases hv : inB xv 0 5 with
              | false =>
                have HV := Lib.hid hv
                have HQ : Hid (okC cs = false) := Lib.hid (HK.out.trans (okS_badV HX.out h1 HWE.out hv))
                clear hv
                go_wp2_with (first | (go_at_call 83; go_must (refine (l22Expr_any _ _ _ _ _ hre hn').mono ?_; rw [HWE.out]; rintro e w' ⟨rfl, rfl⟩)) | (go_at_call 42; go_must (refine (l00In_any _ _ _ _).mono ?_; rw [HV.out]; rintro e w' ⟨rfl, rfl⟩)))
                go_ret
                exact ⟨by rw [HW.out, HQ.out]; rfl, hb⟩
              | true =>
                have HV := Lib.hid hv
                clear hv
                by_cases hk0 : xk = 0
                · subst hk0
                  by_cases hl : xl = 0
                  · subst hl
                    have HQ : Hid (okC cs = okS cs (i + 1) (t :: r)) := Lib.hid (HK.out.trans (okS_goodS HX.out h1 HWE.out rfl HV.out rfl))
                    go_wp2_with (first | (go_at_call 83; go_must (refine (l22Expr_any _ _ _ _ _ hre hn').mono ?_; rw [HWE.out]; rintro e w' ⟨rfl, rfl⟩)) | (go_at_call 42; go_must (refine (l00In_any _ _ _ _).mono ?_; rw [HV.out]; rintro e w' ⟨rfl, rfl⟩)))
                    go_roundw
                    case rel => exact ⟨i + 1, t :: r, _, _, c1, by omega, by go_num, rfl, hown, HQ, Lib.hid (stk_mono HS.out h1), HM, by omega, hb⟩
                    case measure => simp [intOf]; omega
                  · have b1 : (xl == 0) = false := by simpa using hl
                    have b2 : (xl != 0) = true := by simpa using hl
                    have HQ : Hid (okC cs = false) := Lib.hid (HK.out.trans (okS_badL HX.out h1 HWE.out rfl hl))
                    go_wp2_with (first | (go_at_call 83; go_must (refine (l22Expr_any _ _ _ _ _ hre hn').mono ?_; rw [HWE.out]; rintro e w' ⟨rfl, rfl⟩)) | (go_at_call 42; go_must (refine (l00In_any _ _ _ _).mono ?_; rw [HV.out]; rintro e w' ⟨rfl, rfl⟩)))
                    go_ret
                    exact ⟨by rw [HW.out, HQ.out]; rfl, hb⟩
                · have b0 : (xk == 0) = false := by simpa using hk0
                  have b0' : (xk != 0) = true := by simpa using hk0
                  by_cases hk1 : xk = 1
                  · subst hk1
                    by_cases hv0 : xv = 0
                    · subst hv0
                      cases hl : inB xl 0 ((t : Int) - (i : Int) - 1) with
                      | false =>
                        have HQ : Hid (okC cs = false) := Lib.hid (HK.out.trans (okS_whL HX.out h1 (by rw [HL.out]; exact htn) rfl hl))
                        go_wp2_with (first | (go_at_call 83; go_must (refine (l22Expr_any _ _ _ _ _ hre hn').mono ?_; rw [HWE.out]; rintro e w' ⟨rfl, rfl⟩)) | (go_at_call 42; go_must (refine (l00In_any _ _ _ _).mono ?_; rw [HV.out]; rintro e w' ⟨rfl, rfl⟩)))
                        go_quiet ((go_at_call 42; exact Calls.quiet_of_same ((l00In_any _ _ _ _).mono fun e w' h => ⟨h.1, h.2.symm⟩)))
                        go_wp2_with fail
                        go_ret
                        exact ⟨by rw [HW.out, HQ.out]; rfl, below_drewN hb⟩
                      | true =>
                        obtain ⟨hl0, hl1⟩ := inB_true.1 hl
                        have HQ0 := Lib.hid (HK.out.trans (okS_wh HX.out h1 (by rw [HL.out]; exact htn) HWE.out rfl rfl hl))
                        obtain ⟨l, rfl⟩ : ∃ l : Nat, xl = (l : Int) := ⟨xl.toNat, by omega⟩
                        have HQ : Hid (okC cs = okS cs (i + 1) ((i + 1 + l) :: t :: r)) := Lib.hid (by have h := HQ0.out; simp only [Int.toNat_natCast] at h; exact h)
                        go_wp2_with (first | (go_at_call 83; go_must (refine (l22Expr_any _ _ _ _ _ hre hn').mono ?_; rw [HWE.out]; rintro e w' ⟨rfl, rfl⟩)) | (go_at_call 42; go_must (refine (l00In_any _ _ _ _).mono ?_; rw [HV.out]; rintro e w' ⟨rfl, rfl⟩)))
                        go_quiet ((go_at_call 42; exact Calls.quiet_of_same ((l00In_any _ _ _ _).mono fun e w' h => ⟨h.1, h.2.symm⟩)))
                        have q2' : (wr.drewN nq).cell? ⟨b, off + i * 4 + 2, none⟩ = some (.int .i64 (l : Int)) := q2
                        have hown' : (wr.drewN nq).ownsRow w.heap.size 3 1 (.slice (some ⟨g, 0, none⟩) _ c1) _ (ints (nats (t :: r))) := hown
                        have hbq : Below w.heap.size w (wr.drewN nq) := below_drewN hb
                        go_wp2_with (at_builtin; go_must (refine wpList_app1g eltInt rfl _ _ rfl (wr.drewN nq) w.heap.size _ _ _ (by rfl) hown' _ (by rfl) (by rfl) hbq.size (by omega) ?_; rintro A4 c4 w4 hown4 hb4 hg4))
                        go_roundw
                        case rel => exact ⟨i + 1, (i + 1 + l) :: t :: r, A4, _, c4, by omega, by go_num, rfl, by rw [show ((i : Int) + 1 + (l : Int)) = ((i + 1 + l : Nat) : Int) by omega, nats_push] at hown4; exact hown4, HQ, Lib.hid (stk_push HS.out (by omega) _ (by omega)), Lib.hid (by have := HM.out; simp at this ⊢; omega), by omega, hbq.trans hb4⟩
                        case measure => simp [intOf]; omega
                    · have b1 : (xv == 0) = false := by simpa using hv0
                      have b2 : (xv != 0) = true := by simpa using hv0
                      have HQ : Hid (okC cs = false) := Lib.hid (HK.out.trans (okS_whV HX.out h1 rfl hv0))
                      go_wp2_with (first | (go_at_call 83; go_must (refine (l22Expr_any _ _ _ _ _ hre hn').mono ?_; rw [HWE.out]; rintro e w' ⟨rfl, rfl⟩)) | (go_at_call 42; go_must (refine (l00In_any _ _ _ _).mono ?_; rw [HV.out]; rintro e w' ⟨rfl, rfl⟩)))
                      go_quiet ((go_at_call 42; exact Calls.quiet_of_same ((l00In_any _ _ _ _).mono fun e w' h => ⟨h.1, h.2.symm⟩)))
                      go_wp2_with fail
                      go_ret
                      exact ⟨by rw [HW.out, HQ.out]; rfl, below_drewN hb⟩
                  · have b1 : (xk == 1) = false := by simpa using hk1
                    have b1' : (xk != 1) = true := by simpa using hk1
                    have HQ : Hid (okC cs = false) := Lib.hid (HK.out.trans (okS_badK HX.out h1 hk0 hk1))
                    go_wp2_with (first | (go_at_call 83; go_must (refine (l22Expr_any _ _ _ _ _ hre hn').mono ?_; rw [HWE.out]; rintro e w' ⟨rfl, rfl⟩)) | (go_at_call 42; go_must (refine (l00In_any _ _ _ _).mono ?_; rw [HV.out]; rintro e w' ⟨rfl, rfl⟩)))
                    go_ret
                    exact ⟨by rw [HW.out, HQ.out]; rfl, hb⟩
      · obtain rfl : i = n := by omega
        have HQ : Hid (okC cs = true) := Lib.hid (by rw [HK.out, ← HL.out]; exact okS_end cs S (by rw [HL.out]; exact stk_all HS.out rfl))
        go_wp2_with fail
        go_ret
        exact ⟨by rw [HW.out, HQ.out]; rfl, hb⟩
  · have HW : Hid (isW cs = false) := Lib.hid (by simp [isW, HL.out, h80])
    go_enter Tryz.func56, Tryz.ntmps56
    go_wp2_with fail
    go_ret
    exact ⟨by rw [HW.out]; rfl, Below.refl _ _⟩
end Go.Proofs.YtadmbphefpfbmaaGreatDoor
/- Appending commands; setTo, enclosed; the list of a tree of pointers. -/
namespace Go.Proofs.YtadmbphefpfbmaaGreatDoor
open Go.RowKit
set_option linter.unusedVariables false
set_option linter.unusedSimpArgs false
theorem infoCm : (Tryz.prog.info? 44).map (fun i => (i.zero, i.size, i.bytes)) = some (some (.agg #[.int .i64 0, .int .i64 0, .int .i64 0, .slice none 0 0]), 4, 48) := by kernel_rfl
theorem eltCm : EltN Tryz.prog 28 44 (.agg #[.int .i64 0, .int .i64 0, .int .i64 0, .slice none 0 0]) 4 := EltN.mk_ Tryz.underlying28 infoCm rfl (by decide) (by decide)
theorem Tryz.infoP : (Tryz.prog.info? 72).map (fun i => (i.zero, i.size, i.bytes)) = some (some (.pointer none), 1, 8) := by kernel_rfl
theorem eltP : Elt Tryz.prog 208 72 (.pointer none) := Elt.mk_ Tryz.underlying208 Tryz.infoP rfl (by decide)
section
variable {w w' W : World} {F : Nat → Prop} {us vs : List Value} {cs zs ys : List Cmd}
theorem InnerC.apart {G : Nat → Prop} (h : InnerC w F us cs) (hc : Ch G w w') (hd : ∀ (i : Nat) (u : Value), us[i]? = some u → ∀ k, Fo u k → G k → False) : InnerC w' F us cs := by
  obtain ⟨h1, h2, h3⟩ := h
  refine ⟨h1, fun i u x hu hx => ?_, h3⟩
  obtain ⟨A, n, c, rfl, hn, ho, hb⟩ := h2 i u x hu hx
  exact ⟨A, n, c, rfl, hn, own_ch ho hc (hd i _ hu), hb⟩
/-- Growing a row of commands leaves the expressions alone. -/
theorem InnerC.grown {B n : Nat} {v : Value} {ws : List Value} (h : InnerC w F us cs) (ho : w.ownsRow B 44 4 v n ws) (hg : w.grownBy w' v.ownBlock) : InnerC w' F us cs := by
  refine h.apart (ch_row hg) fun i u hu => ?_
  obtain ⟨x, hx⟩ := get_some (xs := cs) (k := i) (by rw [← h.1]; exact (List.getElem?_eq_some_iff.1 hu).1)
  obtain ⟨A, n, c, rfl, hn, he, hb⟩ := h.2.1 i u x hu hx
  exact own_types he ho (by decide)
theorem ownC_join {B M n m c c1 : Nat} {A A1 : Option Addr} (hB : B ≤ M) (h1 : W.ownsRow B 44 4 (.slice A n c) n (flatC zs us)) (h3 : InnerC W (InR B M) us zs) (h5 : InnerC W (InR M W.heap.size) vs ys) (hM : M ≤ W.heap.size)
    (ho : w'.ownsRow B 44 4 (.slice A1 m c1) m (flatC zs us ++ flatC ys vs)) (hg : W.grownBy w' (Value.ownBlock (.slice A n c))) : OwnC w' (InR B w'.heap.size) A1 m c1 (zs ++ ys) := by
  have hs := hg.size
  refine ⟨us ++ vs, ?_, fun k hk => ho.lt k hk, ?_, fun k hk => hk.2⟩
  · rw [flatC_append _ _ _ _ h3.1]; exact ownN_base ho (Nat.zero_le _)
  · exact (h3.grown h1 hg).append (h5.grown h1 hg) (fun k a b => by have := a.2; have := b.1; omega) (fun k a => ⟨a.1, by have := a.2; omega⟩) (fun k a => ⟨by have := a.1; omega, by have := a.2; omega⟩)
theorem OwnC.parts {n c B : Nat} {A : Option Addr} (h : OwnC W F A n c zs) (hF : ∀ k, F k → B ≤ k ∧ k < W.heap.size) : ∃ us, W.ownsRow B 44 4 (.slice A n c) n (flatC zs us) ∧ InnerC W (InR B W.heap.size) us zs := by
  obtain ⟨us, h1, h2, h3, h4⟩ := h
  exact ⟨us, own_up h1 (fun k hk => (hF k (h2 k hk)).1), h3.mono fun k hk => hF k hk⟩
end
set_option maxHeartbeats 400000 in
theorem sizeC_any (w : World) (A : Option Addr) (n c : Nat) : Calls Tryz.prog 139 #[.slice A n c] w fun e w' => e = .returned (.int .i64 n) ∧ w = w' := by
  go_enter Tryz.func139, Tryz.ntmps139
  go_wp2_with fail
  go_ret
  exact ⟨rfl, rfl⟩
set_option maxHeartbeats 400000 in
theorem setTo_any (w : World) (v : Int) (A : Option Addr) (n c : Nat) : Calls Tryz.prog 88 #[.int .i64 v, .slice A n c] w fun e w' => e = .returned (.agg #[.int .i64 0, .int .i64 v, .int .i64 0, .slice A n c]) ∧ Below w.heap.size w w' := by
  go_enter Tryz.func88, Tryz.ntmps88
  go_wp2_with fail
  exact bodyPost_ret (v := .agg #[.int .i64 0, .int .i64 v, .int .i64 0, .slice A n c]) (by simp [results, Tryz.results88, go_sem]) rfl ⟨rfl, below_new _ _⟩
theorem wh_lit (w : World) (x : Cmd) (s : Value) : (w.alloc (.cells #[.int .i64 x.k, .int .i64 x.v, .int .i64 x.l, s] 44)).ownsRow w.heap.size 44 4 (.slice (some ⟨w.heap.size, 0, none⟩) 1 1) 1 (flatC [x] [s]) :=
  ownN_lit w #[.int .i64 x.k, .int .i64 x.v, .int .i64 x.l, s] 1 4 _ rfl (by omega)
/-- What enclosed leaves: the head and the body in a row of its own. -/
def EncP (w : World) (m : Nat) (ws : List Value) (e : Ending) (w' : World) : Prop :=
  ∃ A c, e = .returned (.slice A (1 + m) c) ∧ w'.ownsRow w.heap.size 44 4 (.slice A (1 + m) c) (1 + m) ws ∧ Below w.heap.size w w'
set_option maxHeartbeats 1000000 in
theorem enclosed_any (w : World) (A : Option Addr) (n c : Nat) (A' : Option Addr) (m c' : Nat) (es : List El) (ys : List Cmd) (vs : List Value) (hr : Rd w A' (m * 4) (flatC ys vs)) (hone : ∀ s ∈ vs, s.oneCell' = true) (hm : m ≤ 1000000) :
    Calls Tryz.prog 195 #[.slice A n c, .slice A' m c'] w (EncP w m (flatC [⟨1, 0, (m : Int), es⟩] [.slice A n c] ++ flatC ys vs)) := by
  have hlit := wh_lit w ⟨1, 0, (m : Int), es⟩ (.slice A n c)
  have hb := below_new w (.cells #[.int .i64 1, .int .i64 0, .int .i64 (m : Int), .slice A n c] 44)
  simp only at hlit
  go_enter Tryz.func195, Tryz.ntmps195
  go_wp2_with (first
    | (go_at_call 139; go_must (refine (sizeC_any _ _ _ _).mono ?_; rintro e w' ⟨rfl, rfl⟩))
    | (at_builtin; go_must (refine wpList_appSN eltCm (by rfl) _ _ (by rfl) _ w.heap.size _ 1 _ (by rfl) hlit A' m c' (flatC ys vs) (by rfl) (hr.below hb (Nat.le_refl _)) (flatC_one _ _ hone) hb.size (by omega) ?_; rintro A1 c1 w1 ho1 hb1 hg1)))
  go_ret
  exact ⟨A1, c1, rfl, ho1, hb.trans hb1⟩

/-- Pointers that stand for trees. -/
def AreT (w : World) (lo hi : Nat) (us : List Value) (ts : List Tr) : Prop := us.length = ts.length ∧ ∀ (i : Nat) (u : Value) (t : Tr), us[i]? = some u → ts[i]? = some t → IsT w lo hi u t
theorem AreT.nil (w : World) (lo hi : Nat) : AreT w lo hi [] [] := ⟨rfl, by simp⟩
theorem AreT.snoc {w : World} {lo hi : Nat} {us : List Value} {ts : List Tr} {u : Value} {t : Tr} (h : AreT w lo hi us ts) (ht : IsT w lo hi u t) : AreT w lo hi (us ++ [u]) (ts ++ [t]) := by
  refine ⟨by simp [h.1], fun i v s hv hs => ?_⟩
  have hl := h.1
  by_cases hi' : i < us.length
  · rw [List.getElem?_append_left hi'] at hv
    rw [List.getElem?_append_left (by omega)] at hs
    exact h.2 i v s hv hs
  · rw [List.getElem?_append_right (by omega)] at hv hs
    have hi0 : i - us.length = 0 := by
      rcases Nat.eq_zero_or_pos (i - us.length) with h | h
      · exact h
      · rw [List.getElem?_eq_none (by simp; omega)] at hv; cases hv
    rw [hi0] at hv
    rw [show i - ts.length = 0 by omega] at hs
    simp at hv hs
    subst hv hs
    exact ht
theorem AreT.up {w w' : World} {lo : Nat} {us : List Value} {ts : List Tr} (h : AreT w lo w.heap.size us ts) (hb : Below w.heap.size w w') : AreT w' lo w'.heap.size us ts := ⟨h.1, fun i u t hu ht => (h.2 i u t hu ht).up hb⟩
theorem IsT.grownC {w w' : World} {lo B n : Nat} {v : Value} {ws : List Value} (ho : w.ownsRow B 44 4 v n ws) (hg : w.grownBy w' v.ownBlock) : ∀ {t : Tr} {u : Value}, IsT w lo w.heap.size u t → IsT w' lo w'.heap.size u t
  | .nil, _, h => h
  | .node _ _, _, ⟨b, vh, vt, e, h1, h2, h3, h4, h5⟩ => by
    refine ⟨b, vh, vt, e, h1, Nat.lt_of_lt_of_le h2 hg.size, (hg.block b h2 ?_).trans h3, h4.grownC ho hg, h5.grownC ho hg⟩
    intro e
    rcases ho.2 with ⟨rfl, _⟩ | ⟨g, _, _, rfl, _, hg1, _⟩
    · simp [Value.ownBlock] at e
    · obtain rfl : b = g := by simpa [Value.ownBlock] using e
      rw [h3] at hg1
      injection hg1 with hg1
      injection hg1 with _ h2
      exact absurd h2 (by decide)
theorem AreT.grownC {w w' : World} {lo B n : Nat} {v : Value} {ws us : List Value} {ts : List Tr} (h : AreT w lo w.heap.size us ts) (ho : w.ownsRow B 44 4 v n ws) (hg : w.grownBy w' v.ownBlock) : AreT w' lo w'.heap.size us ts :=
  ⟨h.1, fun i u t hu ht => (h.2 i u t hu ht).grownC ho hg⟩
theorem enc_one {x : Cmd} {A : Option Addr} {n c : Nat} {ys : List Cmd} {vs : List Value} (h : ∀ s ∈ vs, s.oneCell' = true) : ∀ u ∈ flatC [x] [.slice A n c] ++ flatC ys vs, u.oneCell' = true := by
  intro u hu
  rcases List.mem_append.1 hu with hu | hu
  · exact flatC_one [x] [.slice A n c] (by simp; rfl) u hu
  · exact flatC_one ys vs h u hu
def LotP (w : World) (lo : Nat) (t : Tr) (e : Ending) (w' : World) : Prop :=
  ∃ A n c us, e = .returned (.slice A n c) ∧ w'.ownsRow w.heap.size 72 1 (.slice A n c) n us ∧ AreT w' lo w'.heap.size us t.items ∧ Below w.heap.size w w'
def sLen0 : Value → Nat
  | .slice _ n _ => n
  | _ => 0
set_option maxHeartbeats 1000000 in
theorem listOfTree_any (w : World) (lo : Nat) (v : Value) (t : Tr) (h : IsT w lo w.heap.size v t) (hn : t.nodes ≤ 1000000) : Calls Tryz.prog 190 #[v] w (LotP w lo t) := by
  obtain ⟨o, rfl⟩ := h.isPtr
  have hlit := own_lit w #[] 0 72 rfl (by omega)
  have hbb := below_new w (.cells #[] 72)
  have hil := items_len t
  go_enter Tryz.func190, Tryz.ntmps190
  go_wp2_with fail
  go_loopw [0, 3] (fun p l wr => ∃ (s : Tr) (o : Option Addr) (ts : List Tr) (A : Option Addr) (n c : Nat) (us : List Value), p = .pointer o ∧ IsT w lo w.heap.size (.pointer o) s ∧ l = .slice A n c ∧ wr.ownsRow w.heap.size 72 1 (.slice A n c) n us ∧ AreT w lo w.heap.size us ts ∧ Hid (t.items = ts ++ s.items) ∧ n + s.items.length = t.items.length ∧ Below w.heap.size w wr) (fun _ l _ => t.items.length - sLen0 l)
  case atStart => exact ⟨t, o, [], _, 0, 0, [], rfl, h, rfl, hlit, AreT.nil _ _ _, Lib.hid rfl, by omega, hbb⟩
  case round =>
    clear hlit hbb h
    obtain ⟨s, o, ts, A, n, c, us, rfl, hs, rfl, hown, har, HI, hcnt, hb⟩ := hrel
    rcases hs.ptr with ⟨e, rfl⟩ | ⟨b, vh, vt, h', t', e, rfl, hb1, hb2, c0, c1, c2, hh, ht2⟩
    · obtain rfl : o = none := by injection e
      go_wp2_with fail
      go_ret
      refine ⟨A, n, c, us, rfl, hown, ?_, hb⟩
      have := HI.out
      simp only [Tr.items, List.append_nil] at this
      rw [this]; exact har.up hb
    · obtain rfl : o = some ⟨b, 0, none⟩ := by injection e
      obtain ⟨o1, rfl⟩ := hh.isPtr
      obtain ⟨o2, rfl⟩ := ht2.isPtr
      have q0 := (hb.cell (p := ⟨b, 0, none⟩) hb2).trans c0
      have q1 := (hb.cell (p := ⟨b, 1, none⟩) hb2).trans c1
      have HI2 : Hid (t.items = (ts ++ [h']) ++ t'.items) := Lib.hid (by rw [HI.out]; simp [Tr.items])
      have hlen : (Tr.node h' t').items.length = t'.items.length + 1 := by simp [Tr.items]
      rw [hlen] at hcnt
      have HLN := Lib.hid hlen
      clear c0 c1 c2 hlen hs e
      go_wp2_with (at_builtin; go_must (refine wpList_app1g eltP rfl _ _ rfl wr w.heap.size _ n _ (by rfl) hown _ (by rfl) (by rfl) hb.size (by omega) ?_; rintro A4 c4 w4 hown4 hb4 hg4; have q4 := (hb4.cell (p := ⟨b, 1, none⟩) (Nat.lt_of_lt_of_le hb2 (Nat.le_refl _))).trans q1))
      go_roundw
      case rel => exact ⟨t', o2, _, A4, n + 1, c4, _, rfl, ht2, rfl, hown4, har.snoc hh, HI2, by omega, hb.trans hb4⟩
      case measure => simp [sLen0]; omega
end Go.Proofs.YtadmbphefpfbmaaGreatDoor
