/- Texts in one file: LawCmM, OpenC, LawCmd, LawCmd2. -/
import Derived.Test.YtadmbphefpfbmaaGreatDoorGG
import Derived.Test.YtadmbphefpfbmaaGreatDoorGA
import Derived.Test.YtadmbphefpfbmaaGreatDoorGD
/- Marking of commands, in plain Lean; commands that came in. -/
namespace Go.Proofs.YtadmbphefpfbmaaGreatDoor
open Go.RowKit
set_option linter.unusedVariables false
set_option linter.unusedSimpArgs false
def upE (k : Int) : Nat → List El
  | 0 => []
  | n + 1 => (k, k + 1) :: upE (k + 2) n
theorem upE_len (k : Int) (n : Nat) : (upE k n).length = n := by
  induction n generalizing k with
  | zero => rfl
  | succ n ih => simp [upE, ih]
theorem eNums_upE (k : Int) (n : Nat) : eNums (upE k n) = up k (n * 2) := by
  induction n generalizing k with
  | zero => rfl
  | succ n ih =>
    rw [show (n + 1) * 2 = n * 2 + 1 + 1 by omega]
    simp only [upE, eNums, ih, up]
    rw [show k + 1 + 1 = k + 2 by omega]
/-- How many numbers are set in commands. -/
def mkC : List Cmd → Nat
  | [] => 0
  | x :: r => 3 + x.e.length * 2 + mkC r
theorem mkC_eq (cs : List Cmd) : mkC cs = 3 * cs.length + 2 * totC cs := by
  induction cs with
  | nil => rfl
  | cons x r ih => simp only [mkC, totC, List.length_cons, ih]; omega
theorem mkC_snoc (cs : List Cmd) (x : Cmd) : mkC (cs ++ [x]) = mkC cs + (3 + x.e.length * 2) := by
  induction cs with
  | nil => simp [mkC]
  | cons y r ih => simp only [List.cons_append, mkC, ih]; omega
theorem mkC_take_succ {cs : List Cmd} {i : Nat} {x : Cmd} (h : cs[i]? = some x) : mkC (cs.take (i + 1)) = mkC (cs.take i) + (3 + x.e.length * 2) := by
  rw [List.take_add_one, h]; exact mkC_snoc _ _
theorem mkC_take_le (cs : List Cmd) (i : Nat) : mkC (cs.take i) ≤ mkC cs := by
  induction cs generalizing i with
  | nil => simp [mkC]
  | cons y r ih =>
    cases i with
    | zero => simp [mkC]
    | succ i => simp only [List.take_succ_cons, mkC]; have := ih i; omega
theorem totC_snoc (cs : List Cmd) (x : Cmd) : totC (cs ++ [x]) = totC cs + x.e.length := by
  rw [totC_append]; simp [totC]
theorem totC_take_succ {cs : List Cmd} {i : Nat} {x : Cmd} (h : cs[i]? = some x) : totC (cs.take (i + 1)) = totC (cs.take i) + x.e.length := by
  rw [List.take_add_one, h]; exact totC_snoc _ _
theorem totC_mem {cs : List Cmd} {x : Cmd} (h : x ∈ cs) : x.e.length ≤ totC cs := by
  induction cs with
  | nil => simp at h
  | cons y r ih =>
    simp only [totC]
    rcases List.mem_cons.1 h with rfl | h
    · omega
    · have := ih h; omega
def upC : Int → List Cmd → List Cmd
  | _, [] => []
  | k, x :: r => ⟨k, k + 1, k + 2, upE (k + 3) x.e.length⟩ :: upC (k + 3 + ((x.e.length * 2 : Nat) : Int)) r
theorem upC_len (k : Int) (cs : List Cmd) : (upC k cs).length = cs.length := by
  induction cs generalizing k with
  | nil => rfl
  | cons x r ih => simp [upC, ih]
theorem upC_snoc (k : Int) (cs : List Cmd) (x : Cmd) : upC k (cs ++ [x]) = upC k cs ++ [⟨k + mkC cs, k + mkC cs + 1, k + mkC cs + 2, upE (k + mkC cs + 3) x.e.length⟩] := by
  induction cs generalizing k with
  | nil => simp [upC, mkC]
  | cons y r ih =>
    simp only [List.cons_append, upC, mkC, ih]
    rw [show k + 3 + ((y.e.length * 2 : Nat) : Int) + (mkC r : Int) = k + ((3 + y.e.length * 2 + mkC r : Nat) : Int) by omega]
theorem upC_get {k : Int} {cs : List Cmd} {i : Nat} {x : Cmd} (h : cs[i]? = some x) : (upC k cs)[i]? = some ⟨k + mkC (cs.take i), k + mkC (cs.take i) + 1, k + mkC (cs.take i) + 2, upE (k + mkC (cs.take i) + 3) x.e.length⟩ := by
  induction cs generalizing k i with
  | nil => simp at h
  | cons y r ih =>
    cases i with
    | zero => simp at h; subst h; simp [upC, mkC]
    | succ i =>
      simp only [upC, List.getElem?_cons_succ, List.take_succ_cons, mkC]
      rw [ih (by simpa using h)]
      rw [show k + 3 + ((y.e.length * 2 : Nat) : Int) + (mkC (r.take i) : Int) = k + ((3 + y.e.length * 2 + mkC (r.take i) : Nat) : Int) by omega]
theorem mkC_get {k : Int} {cs : List Cmd} {i : Nat} {x : Cmd} (h : cs[i]? = some x) : (upC k (cs.take i) ++ cs.drop i)[i]? = some x := by
  have hi := (List.getElem?_eq_some_iff.1 h).1
  have hl : (upC k (cs.take i)).length = i := by rw [upC_len]; simp; omega
  rw [List.getElem?_append_right (by omega), hl, Nat.sub_self, drop_get h]; rfl
theorem mkC_set {k : Int} {cs : List Cmd} {i : Nat} {x : Cmd} (h : cs[i]? = some x) : (upC k (cs.take i) ++ cs.drop i).set i ⟨k + mkC (cs.take i), k + mkC (cs.take i) + 1, k + mkC (cs.take i) + 2, upE (k + mkC (cs.take i) + 3) x.e.length⟩ = upC k (cs.take (i + 1)) ++ cs.drop (i + 1) := by
  have hi := (List.getElem?_eq_some_iff.1 h).1
  have hl : (upC k (cs.take i)).length = i := by rw [upC_len]; simp; omega
  rw [List.set_append_right _ _ (by omega), hl, Nat.sub_self, drop_get h, List.set_cons_zero, List.take_add_one, h]
  show _ = upC k (cs.take i ++ [x]) ++ _
  rw [upC_snoc]; simp
/-- Setting the numbers of one command. -/
theorem flatC_set : ∀ {cs : List Cmd} {ss : List Value} {i : Nat} {x : Cmd}, cs[i]? = some x → ss.length = cs.length → ∀ (a b c : Int) (es : List El),
    ((((flatC cs ss).set (i * 4) (.int .i64 a)).set (i * 4 + 1) (.int .i64 b)).set (i * 4 + 2) (.int .i64 c)) = flatC (cs.set i ⟨a, b, c, es⟩) ss
  | [], _, i, x, h, _, _, _, _, _ => by simp at h
  | _ :: _, [], i, x, _, h, _, _, _, _ => by simp at h
  | y :: r, s :: ss, 0, x, h, h', a, b, c, es => by simp [flatC]
  | y :: r, s :: ss, i + 1, x, h, h', a, b, c, es => by
    have := flatC_set (cs := r) (ss := ss) (i := i) (x := x) (by simpa using h) (by simpa using h') a b c es
    rw [show (i + 1) * 4 = i * 4 + 1 + 1 + 1 + 1 by omega]
    simp only [flatC, List.set_cons_succ, Nat.add_right_comm _ 1 1, this]

/-- Commands that came in: no bound on the lengths but the language's own. -/
def RdCW (w : World) (A : Option Addr) (n : Nat) (cs : List Cmd) : Prop :=
  ∃ ss : List Value, Rd w A (n * 4) (flatC cs ss) ∧ ss.length = cs.length ∧ ∀ (i : Nat) (s : Value) (x : Cmd), ss[i]? = some s → cs[i]? = some x → ∃ A' n' c', s = .slice A' n' c' ∧ n' ≤ 9223372036854775807 ∧ RdE w A' n' x.e
/-- The same with small lengths. -/
def RdD (w : World) (A : Option Addr) (n : Nat) (cs : List Cmd) : Prop :=
  ∃ ss : List Value, Rd w A (n * 4) (flatC cs ss) ∧ ss.length = cs.length ∧ ∀ (i : Nat) (s : Value) (x : Cmd), ss[i]? = some s → cs[i]? = some x → ∃ A' n' c', s = .slice A' n' c' ∧ n' ≤ 1000000000 ∧ RdE w A' n' x.e
section
variable {w w' : World} {A : Option Addr} {n : Nat} {cs : List Cmd}
theorem RdCW.len (h : RdCW w A n cs) : cs.length = n := by
  obtain ⟨ss, h1, h2, _⟩ := h
  have h3 := h1.1
  rw [flatC_len cs ss h2] at h3
  omega
theorem RdD.len (h : RdD w A n cs) : cs.length = n := by
  obtain ⟨ss, h1, h2, _⟩ := h
  have h3 := h1.1
  rw [flatC_len cs ss h2] at h3
  omega
theorem RdCW.rdc (h : RdCW w A n cs) (ht : totC cs ≤ 1000000000) : RdD w A n cs := by
  obtain ⟨ss, h1, h2, h3⟩ := h
  refine ⟨ss, h1, h2, fun i v x hv hx => ?_⟩
  obtain ⟨A', n', c', rfl, hn', hr'⟩ := h3 i v x hv hx
  refine ⟨A', n', c', rfl, ?_, hr'⟩
  have hl := rdE_len hr'
  have := totC_mem (List.mem_of_getElem? hx)
  omega
theorem RdCW.below {B : Nat} (h : RdCW w A n cs) (hb : Below B w w') (hB : w.heap.size ≤ B) : RdCW w' A n cs := by
  obtain ⟨ss, h1, h2, h3⟩ := h
  refine ⟨ss, h1.below hb hB, h2, fun i v xs hv hx => ?_⟩
  obtain ⟨A', n', c', e, hn', hr'⟩ := h3 i v xs hv hx
  exact ⟨A', n', c', e, hn', hr'.below hb hB⟩
theorem RdD.below {B : Nat} (h : RdD w A n cs) (hb : Below B w w') (hB : w.heap.size ≤ B) : RdD w' A n cs := by
  obtain ⟨ss, h1, h2, h3⟩ := h
  refine ⟨ss, h1.below hb hB, h2, fun i v xs hv hx => ?_⟩
  obtain ⟨A', n', c', e, hn', hr'⟩ := h3 i v xs hv hx
  exact ⟨A', n', c', e, hn', hr'.below hb hB⟩
theorem RdCW.at_ {k : Nat} {x : Cmd} (h : RdCW w A n cs) (hx : cs[k]? = some x) :
    ∃ b off A' n' c', A = some ⟨b, off, none⟩ ∧ b < w.heap.size ∧ w.cell? ⟨b, off + k * 4, none⟩ = some (.int .i64 x.k) ∧ w.cell? ⟨b, off + k * 4 + 1, none⟩ = some (.int .i64 x.v) ∧ w.cell? ⟨b, off + k * 4 + 2, none⟩ = some (.int .i64 x.l) ∧ w.cell? ⟨b, off + k * 4 + 3, none⟩ = some (.slice A' n' c') ∧ n' ≤ 9223372036854775807 ∧ RdE w A' n' x.e := by
  obtain ⟨ss, h1, h2, h3⟩ := h
  have hk : k < ss.length := by rw [h2]; exact (List.getElem?_eq_some_iff.1 hx).1
  obtain ⟨s, hs⟩ := get_some hk
  obtain ⟨A', n', c', rfl, hn', hr'⟩ := h3 k s x hs hx
  obtain ⟨f0, f1, f2, f3⟩ := flatC_get hx hs
  obtain ⟨b, off, e, hb, hc⟩ := h1.2 (by have h4 := h1.1; have := (List.getElem?_eq_some_iff.1 f0).1; omega)
  have c1 := hc _ _ f1
  have c2 := hc _ _ f2
  have c3 := hc _ _ f3
  rw [← Nat.add_assoc] at c1 c2 c3
  exact ⟨b, off, A', n', c', e, hb, hc _ _ f0, c1, c2, c3, hn', hr'⟩
theorem RdD.toW (h : RdD w A n cs) : RdCW w A n cs := by
  obtain ⟨ss, h1, h2, h3⟩ := h
  refine ⟨ss, h1, h2, fun i v x hv hx => ?_⟩
  obtain ⟨A', n', c', e, hn', hr'⟩ := h3 i v x hv hx
  exact ⟨A', n', c', e, by omega, hr'⟩
theorem RdD.at_ {k : Nat} {x : Cmd} (h : RdD w A n cs) (hx : cs[k]? = some x) :
    ∃ b off A' n' c', A = some ⟨b, off, none⟩ ∧ b < w.heap.size ∧ w.cell? ⟨b, off + k * 4, none⟩ = some (.int .i64 x.k) ∧ w.cell? ⟨b, off + k * 4 + 1, none⟩ = some (.int .i64 x.v) ∧ w.cell? ⟨b, off + k * 4 + 2, none⟩ = some (.int .i64 x.l) ∧ w.cell? ⟨b, off + k * 4 + 3, none⟩ = some (.slice A' n' c') ∧ n' ≤ 1000000000 ∧ RdE w A' n' x.e := by
  obtain ⟨ss, h1, h2, h3⟩ := h
  have hk : k < ss.length := by rw [h2]; exact (List.getElem?_eq_some_iff.1 hx).1
  obtain ⟨s, hs⟩ := get_some hk
  obtain ⟨A', n', c', rfl, hn', hr'⟩ := h3 k s x hs hx
  obtain ⟨f0, f1, f2, f3⟩ := flatC_get hx hs
  obtain ⟨b, off, e, hb, hc⟩ := h1.2 (by have h4 := h1.1; have := (List.getElem?_eq_some_iff.1 f0).1; omega)
  have c1 := hc _ _ f1
  have c2 := hc _ _ f2
  have c3 := hc _ _ f3
  rw [← Nat.add_assoc] at c1 c2 c3
  exact ⟨b, off, A', n', c', e, hb, hc _ _ f0, c1, c2, c3, hn', hr'⟩
end
end Go.Proofs.YtadmbphefpfbmaaGreatDoor
/- Arguments that came in: a slice of commands. -/
namespace Go.Proofs.YtadmbphefpfbmaaGreatDoor
open Go.RowKit
set_option linter.unusedVariables false
set_option linter.unusedSimpArgs false
/-- The cells of commands by place. -/
def cellC (g : Nat → Cmd × Value) (q : Nat) : Value :=
  if q % 4 = 0 then .int .i64 (g (q / 4)).1.k else if q % 4 = 1 then .int .i64 (g (q / 4)).1.v else if q % 4 = 2 then .int .i64 (g (q / 4)).1.l else (g (q / 4)).2
theorem cellC_flat (g : Nat → Cmd × Value) (n : Nat) : flatC ((List.range n).map fun i => (g i).1) ((List.range n).map fun i => (g i).2) = (List.range (n * 4)).map (cellC g) := by
  have hl := flatC_len ((List.range n).map fun i => (g i).1) ((List.range n).map fun i => (g i).2) (by simp)
  simp only [List.length_map, List.length_range] at hl
  apply List.ext_getElem?
  intro j
  by_cases hj : j < n * 4
  · have hd : j / 4 < n := by omega
    obtain ⟨f0, f1, f2, f3⟩ := flatC_get (cs := (List.range n).map fun i => (g i).1) (ss := (List.range n).map fun i => (g i).2) (k := j / 4) (x := (g (j / 4)).1) (s := (g (j / 4)).2) (by simp [hd]) (by simp [hd])
    have hr : ((List.range (n * 4)).map (cellC g))[j]? = some (cellC g j) := by simp [hj]
    rw [hr]
    have h4 : j % 4 = 0 ∨ j % 4 = 1 ∨ j % 4 = 2 ∨ j % 4 = 3 := by omega
    unfold cellC
    rcases h4 with h | h | h | h
    · rw [if_pos h, ← f0]; congr 1; omega
    · rw [if_neg (by omega), if_pos h, ← f1]; congr 1; omega
    · rw [if_neg (by omega), if_neg (by omega), if_pos h, ← f2]; congr 1; omega
    · rw [if_neg (by omega), if_neg (by omega), if_neg (by omega), ← f3]; congr 1; omega
  · rw [List.getElem?_eq_none (by omega), List.getElem?_eq_none (by simp; omega)]
section
variable {H : Type} {enc : TypeId × Value → H} {P : Program} {w : World} {base : Nat} {held : Bool}
theorem opC {t e g : TypeId} {f0 f1 f2 f3 : Field} {gs : Array Field} {fuel : Nat} {a : Option Addr} {len cap : Nat} {x : DataW H × List MemPlace} (ht : P.underlying t = some (.slice e)) (he : P.underlying e = some (.struct #[f0, f1, f2, f3]))
    (hone : Go.Deep.oneCellFields P #[f0, f1, f2, f3] = true) (hC : P.cellsOf e = 4) (h0 : P.underlying f0.type = some (.int .i64)) (h1 : P.underlying f1.type = some (.int .i64)) (h2 : P.underlying f2.type = some (.int .i64))
    (hs : P.underlying f3.type = some (.slice g)) (hg : P.underlying g = some (.struct gs)) (hone' : Go.Deep.oneCellFields P gs = true) (hC' : P.cellsOf g = gs.size) (hI : ∀ f ∈ gs.toList, P.underlying f.type = some (.int .i64)) (hz : gs.size = 2)
    (h : DataW.trod enc P w base (fun _ => true) held fuel t [.slice a len cap] = some x) : ∃ cs, RdCW w a len cs ∧ len ≤ maxLen := by
  rcases Go.Deep.open_slice ht h with ⟨h0, _⟩ | ⟨a', l, c, m, n, D, Pl, hcs, _, hl, hm, hmm, _, hi⟩
  · simp at h0
    obtain ⟨rfl, rfl, rfl⟩ := h0
    exact ⟨[], ⟨[], (by rw [Nat.zero_mul]; exact Rd.nil w none), rfl, by simp⟩, by unfold maxLen; omega⟩
  · simp at hcs hmm
    obtain ⟨rfl, rfl, rfl⟩ := hcs
    subst hmm
    have key : ∀ i, i < len → ∃ q : Cmd × Value, (w.cell? (a'.add (i * 4)) = some (.int .i64 q.1.k) ∧ w.cell? (a'.add (i * 4 + 1)) = some (.int .i64 q.1.v) ∧ w.cell? (a'.add (i * 4 + 2)) = some (.int .i64 q.1.l) ∧ w.cell? (a'.add (i * 4 + 3)) = some q.2) ∧
        ∃ A' n' c', q.2 = .slice A' n' c' ∧ n' ≤ 9223372036854775807 ∧ RdE w A' n' q.1.e := by
      intro i hil
      obtain ⟨cs', hc, ht'⟩ := hi i (by omega)
      rw [hC] at hc
      obtain ⟨ys, n', _, _, hlen, hyl, hf⟩ := DataW.trod_struct he ht'
      obtain ⟨_, hcl, hat⟩ := World.cells?_some hc
      have part : ∀ j f, #[f0, f1, f2, f3][j]? = some f → j < 4 → ∃ y u, DataW.trod enc P w base (fun _ => true) held n' f.type [u] = some y ∧ w.cell? (a'.add (i * 4 + j)) = some u := by
        intro j f hfj hj
        obtain ⟨ho, hk⟩ := Go.Deep.hone_of hone _ _ hfj
        have g1 := hf _ _ hfj
        rw [ho, hk, List.getElem?_eq_getElem (by simp at hyl; omega)] at g1
        obtain ⟨u, hu⟩ : ∃ u, cs'[j]? = some u := ⟨cs'[j]'(by omega), by simp⟩
        have e1 : (cs'.drop j).take 1 = [u] := by
          rw [List.drop_eq_getElem_cons (by omega), List.take_succ_cons, List.take_zero]
          rw [List.getElem?_eq_getElem (by omega)] at hu
          injection hu with hu
          rw [hu]
        rw [e1] at g1
        have g2 := hat j hj
        rw [Go.Deep.add_add, hu] at g2
        exact ⟨_, u, g1, g2⟩
      obtain ⟨y0, u0, t0, c0⟩ := part 0 f0 rfl (by omega)
      obtain ⟨y1, u1, t1, c1⟩ := part 1 f1 rfl (by omega)
      obtain ⟨y2, u2, t2, c2⟩ := part 2 f2 rfl (by omega)
      obtain ⟨y3, u3, t3, c3⟩ := part 3 f3 rfl (by omega)
      obtain ⟨k0, rfl⟩ := opI h0 t0
      obtain ⟨k1, rfl⟩ := opI h1 t1
      obtain ⟨k2, rfl⟩ := opI h2 t2
      obtain ⟨A', n', c', rfl, hn'⟩ := op_slice hs t3
      obtain ⟨xs, hx, _⟩ := opF hs hg hone' hC' hI (by omega) t3
      rw [hz] at hx
      obtain ⟨es, rfl, hes⟩ := eNums_of n' xs (by have := hx.1; simpa using this)
      exact ⟨(⟨k0, k1, k2, es⟩, .slice A' n' c'), ⟨c0, c1, c2, c3⟩, A', n', c', rfl, by unfold maxLen at hn'; omega, hx⟩
    have pick : ∀ i, ∃ q : Cmd × Value, i < len → (w.cell? (a'.add (i * 4)) = some (.int .i64 q.1.k) ∧ w.cell? (a'.add (i * 4 + 1)) = some (.int .i64 q.1.v) ∧ w.cell? (a'.add (i * 4 + 2)) = some (.int .i64 q.1.l) ∧ w.cell? (a'.add (i * 4 + 3)) = some q.2) ∧
        ∃ A' n' c', q.2 = .slice A' n' c' ∧ n' ≤ 9223372036854775807 ∧ RdE w A' n' q.1.e := by
      intro i
      by_cases hil : i < len
      · obtain ⟨q, hq⟩ := key i hil
        exact ⟨q, fun _ => hq⟩
      · exact ⟨(⟨0, 0, 0, []⟩, .slice none 0 0), fun h => absurd h hil⟩
    obtain ⟨g', hg'⟩ := Classical.axiomOfChoice pick
    refine ⟨(List.range len).map fun i => (g' i).1, ⟨(List.range len).map fun i => (g' i).2, ?_, by simp, fun i s x hs' hx' => ?_⟩, by omega⟩
    · rw [cellC_flat]
      refine rd_of_cells fun q hq => ?_
      obtain ⟨⟨c0, c1, c2, c3⟩, _⟩ := hg' (q / 4) (by omega)
      have h4 : q % 4 = 0 ∨ q % 4 = 1 ∨ q % 4 = 2 ∨ q % 4 = 3 := by omega
      unfold cellC
      rcases h4 with h | h | h | h
      · rw [if_pos h, ← c0]; congr 2; omega
      · rw [if_neg (by omega), if_pos h, ← c1]; congr 2; omega
      · rw [if_neg (by omega), if_neg (by omega), if_pos h, ← c2]; congr 2; omega
      · rw [if_neg (by omega), if_neg (by omega), if_neg (by omega), ← c3]; congr 2; omega
    · have hil : i < len := by have := (List.getElem?_eq_some_iff.1 hs').1; simpa using this
      simp [hil] at hs' hx'
      subst hs' hx'
      exact (hg' i hil).2
end
end Go.Proofs.YtadmbphefpfbmaaGreatDoor
/- The contracts of the laws' own helpers on commands. -/
namespace Go.Proofs.YtadmbphefpfbmaaGreatDoor
open Go.RowKit
set_option linter.unusedVariables false
set_option linter.unusedSimpArgs false
def ToCmP (w : World) (x : Cmd) (e : Ending) (w' : World) : Prop :=
  ∃ A n c, e = .returned (.agg #[.int .i64 x.k, .int .i64 x.v, .int .i64 x.l, .slice A n c]) ∧ w'.ownsRow w.heap.size 110 2 (.slice A n c) n (ints (eNums x.e)) ∧ Below w.heap.size w w'
theorem zc_cells (n : Nat) : (madeCells (Value.agg #[.int .i64 0, .int .i64 0, .int .i64 0, .slice none 0 0]).cells (n * 4)).toList = flatC (List.replicate n ⟨0, 0, 0, []⟩) (List.replicate n (.slice none 0 0)) := by
  have e1 : flatC (List.replicate n ⟨0, 0, 0, []⟩) (List.replicate n (.slice none 0 0)) = (List.range (n * 4)).map (cellC (fun _ => (⟨0, 0, 0, []⟩, .slice none 0 0))) := by
    rw [← cellC_flat]
    congr 1
    · apply List.ext_getElem?; intro i; by_cases h : i < n <;> simp [h]
    · apply List.ext_getElem?; intro i; by_cases h : i < n <;> simp [h]
  rw [e1]
  apply List.ext_getElem?
  intro j
  by_cases hj : j < n * 4
  · have h4 : j % 4 = 0 ∨ j % 4 = 1 ∨ j % 4 = 2 ∨ j % 4 = 3 := by omega
    rcases h4 with h | h | h | h <;> simp [madeCells, hj, h, cellC, Value.cells]
  · simp [madeCells, hj]
theorem flatC_put : ∀ (a : List Cmd) (us : List Value) (z x : Cmd) (b : List Cmd) (s0 s : Value) (t : List Value), us.length = a.length →
    ((((flatC (a ++ z :: b) (us ++ s0 :: t)).set (a.length * 4) (.int .i64 x.k)).set (a.length * 4 + 1) (.int .i64 x.v)).set (a.length * 4 + 2) (.int .i64 x.l)).set (a.length * 4 + 3) s = flatC (a ++ x :: b) (us ++ s :: t)
  | [], [], z, x, b, s0, s, t, _ => by simp [flatC]
  | [], _ :: _, _, _, _, _, _, _, h => by simp at h
  | _ :: _, [], _, _, _, _, _, _, h => by simp at h
  | y :: a, u :: us, z, x, b, s0, s, t, h => by
    have := flatC_put a us z x b s0 s t (by simpa using h)
    simp only [List.cons_append, flatC, List.length_cons]
    rw [show (a.length + 1) * 4 = a.length * 4 + 1 + 1 + 1 + 1 by omega]
    simp only [List.set_cons_succ, Nat.add_right_comm _ 1 1, this]
end Go.Proofs.YtadmbphefpfbmaaGreatDoor
/- The contracts of the laws' own helpers on commands: comparing, marking, holding, reckoning. Written by mk_lawcmd2.py. -/
namespace Go.Proofs.YtadmbphefpfbmaaGreatDoor
open Go.RowKit
set_option linter.unusedVariables false
set_option linter.unusedSimpArgs false
theorem rdE_small {w : World} {A : Option Addr} {n : Nat} {es : List El} (h : RdE w A n es) : (ints (eNums es)).length = n * 2 := h.1
set_option maxHeartbeats 2000000 in
theorem eqCommand_same (w : World) (x : Cmd) (A : Option Addr) (n c : Nat) (hr : RdE w A n x.e) (hn : n ≤ 1000000000) (A' : Option Addr) (n' c' : Nat) (hr' : RdE w A' n' x.e) :
    Calls Tryz.prog 39 #[.agg #[.int .i64 x.k, .int .i64 x.v, .int .i64 x.l, .slice A n c], .agg #[.int .i64 x.k, .int .i64 x.v, .int .i64 x.l, .slice A' n' c']] w (RetV w (.bool true)) := by
  obtain ⟨xk, xv, xl, xe⟩ := x
  simp only at hr hr'
  go_enter Tryz.func39, Tryz.ntmps39
  go_wp2_with fail
  refine (eqExprS_same _ _ _ _ (eNums xe) ((hr.below (below_new _ _) (Nat.le_refl _)).below (below_new _ _) (Nat.le_refl _)) (by omega) _ _ _ ((hr'.below (below_new _ _) (Nat.le_refl _)).below (below_new _ _) (Nat.le_refl _))).mono ?_
  rintro e w2 ⟨rfl, hb2⟩
  go_wp2_with fail
  go_ret
  exact ⟨rfl, (box_step (box_step hb2).1).1⟩
set_option maxHeartbeats 4000000 in
theorem eqCommandS_same (w : World) (A : Option Addr) (n c : Nat) (cs : List Cmd) (hr : RdC w A n cs) (hn : n ≤ 1000000000) (A' : Option Addr) (n' c' : Nat) (hr' : RdC w A' n' cs) :
    Calls Tryz.prog 17 #[.slice A n c, .slice A' n' c'] w (RetV w (.bool true)) := by
  have HL : Hid (cs.length = n) := Lib.hid hr.len
  obtain rfl : n = n' := by rw [← hr.len, ← hr'.len]
  go_enter Tryz.func17, Tryz.ntmps17
  go_wp2_with fail
  go_loopw [5] (fun i wr => ∃ k : Nat, k ≤ n ∧ i = .int .i64 k ∧ Below w.heap.size w wr) (fun i _ => n - (intOf i).toNat)
  case atStart => exact ⟨0, Nat.zero_le _, rfl, Below.refl _ _⟩
  case round =>
    obtain ⟨k, hk, rfl, hb⟩ := hrel
    by_cases hlt : k < n
    · obtain ⟨x, hx⟩ := get_some (xs := cs) (k := k) (by rw [HL.out]; exact hlt)
      obtain ⟨b, off, B, m, d, hA, hbs, q0, q1, q2, q3, hm, hmd, hrr⟩ := hr.at_ hx
      subst hA
      obtain ⟨b', off', B', m', d', hA, hbs', p0, p1, p2, p3, hm', hmd', hrr'⟩ := hr'.at_ hx
      subst hA
      replace q0 := (hb.cell (p := ⟨b, off + k * 4, none⟩) hbs).trans q0
      replace p0 := (hb.cell (p := ⟨b', off' + k * 4, none⟩) hbs').trans p0
      replace q1 := (hb.cell (p := ⟨b, off + k * 4 + 1, none⟩) hbs).trans q1
      replace p1 := (hb.cell (p := ⟨b', off' + k * 4 + 1, none⟩) hbs').trans p1
      replace q2 := (hb.cell (p := ⟨b, off + k * 4 + 2, none⟩) hbs).trans q2
      replace p2 := (hb.cell (p := ⟨b', off' + k * 4 + 2, none⟩) hbs').trans p2
      replace q3 := (hb.cell (p := ⟨b, off + k * 4 + 3, none⟩) hbs).trans q3
      replace p3 := (hb.cell (p := ⟨b', off' + k * 4 + 3, none⟩) hbs').trans p3
      have hq1 := hrr.below hb (Nat.le_refl _)
      have hq2 := hrr'.below hb (Nat.le_refl _)
      have hb1 : b < wr.heap.size := Nat.lt_of_lt_of_le hbs hb.size
      have hb2 : b' < wr.heap.size := Nat.lt_of_lt_of_le hbs' hb.size
      have HB := Lib.hid hb
      clear hx hb hrr hrr'
      go_wp2_with fail
      go_region_held3 (fun w' => w'.cell? ⟨b, off + k * 4, none⟩ = some (.int .i64 x.k) ∧ w'.cell? ⟨b, off + k * 4 + 1, none⟩ = some (.int .i64 x.v) ∧ w'.cell? ⟨b, off + k * 4 + 2, none⟩ = some (.int .i64 x.l) ∧ w'.cell? ⟨b, off + k * 4 + 3, none⟩ = some (.slice B m d) ∧ w'.cell? ⟨b', off' + k * 4, none⟩ = some (.int .i64 x.k) ∧ w'.cell? ⟨b', off' + k * 4 + 1, none⟩ = some (.int .i64 x.v) ∧ w'.cell? ⟨b', off' + k * 4 + 2, none⟩ = some (.int .i64 x.l) ∧ w'.cell? ⟨b', off' + k * 4 + 3, none⟩ = some (.slice B' m' d')) (exact ⟨q0, q1, q2, q3, p0, p1, p2, p3⟩)
        (first
          | (go_at_call 39
             refine (eqCommand_same _ x _ _ _ (by exact hq1) hm _ _ _ (by exact hq2)).mono ?_
             rintro e w3 ⟨rfl, hb3⟩
             (try replace hb3 := below_undrew hb3)
             (try replace hb3 := below_undrewN hb3)
             have q0 := (hb3.cell (p := ⟨b, off + k * 4, none⟩) hb1).trans q0
             have p0 := (hb3.cell (p := ⟨b', off' + k * 4, none⟩) hb2).trans p0
             have q1 := (hb3.cell (p := ⟨b, off + k * 4 + 1, none⟩) hb1).trans q1
             have p1 := (hb3.cell (p := ⟨b', off' + k * 4 + 1, none⟩) hb2).trans p1
             have q2 := (hb3.cell (p := ⟨b, off + k * 4 + 2, none⟩) hb1).trans q2
             have p2 := (hb3.cell (p := ⟨b', off' + k * 4 + 2, none⟩) hb2).trans p2
             have q3 := (hb3.cell (p := ⟨b, off + k * 4 + 3, none⟩) hb1).trans q3
             have p3 := (hb3.cell (p := ⟨b', off' + k * 4 + 3, none⟩) hb2).trans p3))
      go_wp2_with fail
      go_roundw
      case rel => exact ⟨k + 1, by omega, by go_num, HB.out.trans (hb3.mono HB.out.size)⟩
      case measure => simp [intOf]; omega
    · go_wp2_with fail
      go_ret
      exact ⟨rfl, hb⟩
theorem InnerC.mark {w w' : World} {F : Nat → Prop} {i n c : Nat} {us : List Value} {cs : List Cmd} {A : Option Addr} {x : Cmd} (h : InnerC w F us cs) (hu : us[i]? = some (.slice A n c)) (hn : n ≤ 1000000000) (hk : ∀ k, Fo (.slice A n c) k → F k) (ho : w'.ownsRow 0 110 2 (.slice A n c) n (ints (eNums x.e))) (hg : Ch (Fo (.slice A n c)) w w') : InnerC w' F us (cs.set i x) := by
  obtain ⟨h1, h2, h3⟩ := h
  refine ⟨by simp [h1], fun j u y hj hx => ?_, h3⟩
  by_cases hij : i = j
  · subst hij
    rw [hu] at hj
    injection hj with hj
    subst hj
    rw [List.getElem?_set_self (by have := (List.getElem?_eq_some_iff.1 hu).1; omega)] at hx
    injection hx with hx
    subst hx
    exact ⟨A, n, c, rfl, hn, ho, hk⟩
  · rw [List.getElem?_set_ne hij] at hx
    obtain ⟨A', n', c', rfl, hn', ho', hb'⟩ := h2 j u y hj hx
    exact ⟨A', n', c', rfl, hn', own_ch ho' hg (fun k a b => hij (h3 i j _ _ hu hj k b a)), hb'⟩
set_option maxHeartbeats 4000000 in
theorem markCommandS_any (w : World) (F : Nat → Prop) (A : Option Addr) (n c : Nat) (cs : List Cmd) (ho : OwnC w F A n c cs) (hn : n ≤ 1000000000) (ht : mkC cs ≤ 1000000000) (k : Int) (hk0 : 0 ≤ k) (hk1 : k ≤ 1000000000) :
    Calls Tryz.prog 18 #[.slice A n c, .int .i64 k] w fun e w' => e = .returned (.int .i64 (k + mkC cs)) ∧ OwnC w' F A n c (upC k cs) ∧ Ch F w w' := by
  have HL : Hid (cs.length = n) := Lib.hid ho.len
  go_enter Tryz.func18, Tryz.ntmps18
  go_wp2_with fail
  go_loopw [1, 5] (fun q i wr => ∃ j : Nat, j ≤ n ∧ i = .int .i64 j ∧ q = .int .i64 (k + mkC (cs.take j)) ∧ OwnC wr F A n c (upC k (cs.take j) ++ cs.drop j) ∧ Ch F w wr) (fun _ i _ => n - (intOf i).toNat)
  case atStart => exact ⟨0, Nat.zero_le _, rfl, by simp [mkC], by simpa [upC] using ho, Ch.refl _ _⟩
  case round =>
    obtain ⟨j, hj, rfl, rfl, hown, hO⟩ := hrel
    clear ho
    have htj : mkC (cs.take j) ≤ 1000000000 := Nat.le_trans (mkC_take_le cs j) ht
    by_cases hlt : j < n
    · obtain ⟨x, hx⟩ := get_some (xs := cs) (k := j) (by rw [HL.out]; exact hlt)
      obtain ⟨us, h1, h2, h3, h4⟩ := hown
      obtain ⟨u, hu⟩ := get_some (xs := us) (k := j) (by have h5 := h3.1; have h6 := h1.1; rw [flatC_len _ _ h5] at h6; omega)
      obtain ⟨A', n', c', rfl, hn', ho', hb'⟩ := h3.2.1 j u x hu (mkC_get hx)
      obtain ⟨e0, e1, e2, e3⟩ := flatC_get (mkC_get (k := k) hx) hu
      obtain ⟨g, hA, _, hgs, r0, f0⟩ := ownN_get h1 e0
      subst hA
      obtain ⟨r1, f1⟩ := ownN_at h1 e1
      obtain ⟨r2, f2⟩ := ownN_at h1 e2
      obtain ⟨r3, f3⟩ := ownN_at h1 e3
      have hn'x : x.e.length = n' := by have := ho'.1; simp [eNums_len] at this; omega
      generalize hM : mkC (cs.take j) = M at *
      have HS := Lib.hid (ownN_put (ownN_put (ownN_put h1 (j * 4) (.int .i64 (k + (M : Int)))) (j * 4 + 1) (.int .i64 (k + (M : Int) + 1))) (j * 4 + 2) (.int .i64 (k + (M : Int) + 1 + 1)))
      have HFS := Lib.hid (flatC_set (mkC_get (k := k) hx) h3.1 (k + (M : Int)) (k + (M : Int) + 1) (k + (M : Int) + 1 + 1) (upE (k + (M : Int) + 3) x.e.length))
      have HC := Lib.hid (ch_setF (g := g) (i := j * 4 + 2) (u := .int .i64 (k + (M : Int) + 1 + 1)) (ch_setF (g := g) (i := j * 4 + 1) (u := .int .i64 (k + (M : Int) + 1)) (ch_setF (g := g) (i := j * 4) (u := .int .i64 (k + (M : Int))) (Ch.refl (· = g) wr) rfl) rfl) rfl)
      have HI := Lib.hid (h3.apart HC.out (fun i v hv q hq hqg => by
        obtain ⟨y, hy⟩ := get_some (xs := upC k (cs.take j) ++ cs.drop j) (k := i) (by rw [← h3.1]; exact (List.getElem?_eq_some_iff.1 hv).1)
        obtain ⟨_, _, _, rfl, _, he, _⟩ := h3.2.1 i v y hv hy
        exact own_types he h1 (by decide) q hq (by subst hqg; rfl)))
      have HE := Lib.hid (own_ch ho' HC.out (fun q hq hqg => own_types ho' h1 (by decide) q hq (by subst hqg; rfl)))
      have HX := Lib.hid hx; have HU := Lib.hid hu; have H2 := Lib.hid h2; have H4 := Lib.hid h4; have HB' := Lib.hid hb'; have HNX := Lib.hid hn'x
      have HTS := Lib.hid (mkC_take_succ hx)
      have HM := Lib.hid hM
      have hmb : M + 3 + n' * 2 ≤ 1000000000 := by have h5 := HTS.out; have h6 := mkC_take_le cs (j + 1); have h7 := HNX.out; have h8 := HM.out; omega
      have HL3 : Hid (((((flatC (upC k (cs.take j) ++ cs.drop j) us).set (j * 4) (Value.int .i64 (k + (M : Int)))).set (j * 4 + 1) (.int .i64 (k + (M : Int) + 1))).set (j * 4 + 2) (.int .i64 (k + (M : Int) + 1 + 1)))[j * 4 + 3]? = some (.slice A' n' c')) := Lib.hid (by
        rw [List.getElem?_set_ne (by omega), List.getElem?_set_ne (by omega), List.getElem?_set_ne (by omega)]; exact e3)
      obtain ⟨t3, _⟩ := ownN_at HS.out HL3.out
      have HF : Hid (F g) := Lib.hid (h2 g rfl)
      clear hx hu h1 h2 h3 h4 ho' hb' hn'x e0 e1 e2 e3 hM
      go_wp2_with fail
      refine (markExprS_any _ 0 _ _ _ (eNums x.e) HE.out (by omega) _ (by omega) (by omega)).mono ?_
      rintro e w2 ⟨rfl, hm2, hg2⟩
      have HO2 := Lib.hid (own_ch HS.out (ch_row hg2) (own_types HS.out HE.out (by decide)))
      have HI2 := Lib.hid (HI.out.mark (x := ⟨k + (M : Int), k + (M : Int) + 1, k + (M : Int) + 1 + 1, upE (k + (M : Int) + 3) x.e.length⟩) HU.out hn' HB'.out (by
        show w2.ownsRow 0 110 2 _ _ (ints (eNums (upE (k + (M : Int) + 3) x.e.length)))
        rw [eNums_upE, HNX.out]
        have e5 : k + (M : Int) + 1 + 1 + 1 = k + (M : Int) + 3 := by omega
        rw [e5] at hm2
        exact hm2) (ch_row hg2))
      have HT2 := Lib.hid ((hO.trans (HC.out.mono (fun q hq => by subst hq; exact HF.out))).trans ((ch_row hg2).mono HB'.out))
      have HEQ : Hid (k + (M : Int) + 1 + 1 + 1 + (n' : Int) * 2 = k + (mkC (cs.take (j + 1)) : Int)) := Lib.hid (by have h1 := HTS.out; have h2 := HNX.out; have h3 := HM.out; omega)
      have HG2 := Lib.hid (Nat.le_trans HC.out.size hg2.size)
      clear hm2 hg2
      go_wp2_with fail
      go_roundw
      case rel =>
        refine ⟨j + 1, by omega, by go_num, by rw [HEQ.out], ⟨us, ?_, H2.out, ?_, fun q hq => Nat.lt_of_lt_of_le (H4.out q hq) HG2.out⟩, HT2.out⟩
        · have h := HO2.out
          rw [HFS.out] at h
          have h5 := mkC_set (k := k) HX.out
          rw [HM.out, show k + (M : Int) + 2 = k + (M : Int) + 1 + 1 by omega] at h5
          rw [h5] at h
          exact h
        · have h := HI2.out
          have h5 := mkC_set (k := k) HX.out
          rw [HM.out, show k + (M : Int) + 2 = k + (M : Int) + 1 + 1 by omega] at h5
          rw [h5] at h
          exact h
      case measure => simp [intOf]; omega
    · go_wp2_with fail
      go_ret
      have e1 : cs.take j = cs := List.take_of_length_le (by rw [HL.out]; omega)
      have e2 : cs.drop j = [] := List.drop_of_length_le (by rw [HL.out]; omega)
      rw [e1, e2, List.append_nil] at hown
      exact ⟨by rw [e1]; rfl, hown, hO⟩
set_option maxHeartbeats 4000000 in
theorem heldCommandS_any (w : World) (A : Option Addr) (n c : Nat) (cs : List Cmd) (k : Int) (hr : RdC w A n (upC k cs)) (hn : n ≤ 1000000000) (ht : mkC cs ≤ 1000000000) (hk0 : 0 ≤ k) (hk1 : k ≤ 1000000000) :
    Calls Tryz.prog 19 #[.slice A n c, .int .i64 k] w (RetV w (.int .i64 (k + mkC cs))) := by
  have HL : Hid (cs.length = n) := Lib.hid (by rw [← upC_len k cs]; exact hr.len)
  go_enter Tryz.func19, Tryz.ntmps19
  go_wp2_with fail
  go_loopw [1, 5] (fun q i wr => ∃ j : Nat, j ≤ n ∧ i = .int .i64 j ∧ q = .int .i64 (k + mkC (cs.take j)) ∧ Below w.heap.size w wr) (fun _ i _ => n - (intOf i).toNat)
  case atStart => exact ⟨0, Nat.zero_le _, rfl, by simp [mkC], Below.refl _ _⟩
  case round =>
    obtain ⟨j, hj, rfl, rfl, hb⟩ := hrel
    have htj : mkC (cs.take j) ≤ 1000000000 := Nat.le_trans (mkC_take_le cs j) ht
    by_cases hlt : j < n
    · obtain ⟨x, hx⟩ := get_some (xs := cs) (k := j) (by rw [HL.out]; exact hlt)
      obtain ⟨b, off, A', n', c', hA, hbs, q0, q1, q2, q3, hn', _, hr'⟩ := hr.at_ (upC_get (k := k) hx)
      subst hA
      replace q0 := (hb.cell (p := ⟨b, off + j * 4, none⟩) hbs).trans q0
      replace q1 := (hb.cell (p := ⟨b, off + j * 4 + 1, none⟩) hbs).trans q1
      replace q2 := (hb.cell (p := ⟨b, off + j * 4 + 2, none⟩) hbs).trans q2
      replace q3 := (hb.cell (p := ⟨b, off + j * 4 + 3, none⟩) hbs).trans q3
      have hnx : x.e.length = n' := by have h := rdE_len hr'; simp [upE_len] at h; exact h
      replace hr' := hr'.below hb (Nat.le_refl _)
      simp only [eNums_upE] at hr'
      rw [hnx] at hr'
      have HTS := Lib.hid (mkC_take_succ hx)
      have HNX := Lib.hid hnx
      clear hx hnx
      generalize hM : mkC (cs.take j) = M at *
      have HM := Lib.hid hM
      clear hM
      rw [show k + (M : Int) + 3 = k + (M : Int) + 1 + 1 + 1 by omega] at hr'
      rw [show k + (M : Int) + 2 = k + (M : Int) + 1 + 1 by omega] at q2
      have hmb : M + 3 + n' * 2 ≤ 1000000000 := by have h5 := HTS.out; have h6 := mkC_take_le cs (j + 1); have h7 := HNX.out; have h8 := HM.out; omega
      go_wp2_with fail
      refine (heldExprS_any _ _ _ _ _ hr' (by omega) (by omega) (by omega)).mono ?_
      rintro e w2 ⟨rfl, hb2⟩
      have HEQ : Hid (k + (M : Int) + 1 + 1 + 1 + (n' : Int) * 2 = k + (mkC (cs.take (j + 1)) : Int)) := Lib.hid (by have h1 := HTS.out; have h2 := HNX.out; have h3 := HM.out; omega)
      go_wp2_with fail
      go_roundw
      case rel => exact ⟨j + 1, by omega, by go_num, by rw [HEQ.out], hb.trans (hb2.mono hb.size)⟩
      case measure => simp [intOf]; omega
    · go_wp2_with fail
      go_ret
      have e1 : cs.take j = cs := List.take_of_length_le (by rw [HL.out]; omega)
      exact ⟨by rw [e1]; rfl, hb⟩
end Go.Proofs.YtadmbphefpfbmaaGreatDoor
