/- Arguments that came in: a slice of commands. -/
import Derived.Test.YtadmbphefpfbmaaGreatDoorGA
import Derived.Test.YtadmbphefpfbmaaGreatDoorLawCmM
namespace Go.Proofs.YtadmbphefpfbmaaGreatDoor
open Go.RowKit
set_option linter.unusedVariables false
set_option linter.unusedSimpArgs false
/-- The cells of commands by place. -/
def cellC (g : Nat → Cmd × Value) (q : Nat) : Value :=
  if q % 4 = 0 then .int .i64 (g (q / 4)).1.k else if q % 4 = 1 then .int .i64 (g (q / 4)).1.v else if q % 4 = 2 then .int .i64 (g (q / 4)).1.l else (g (q / 4)).2
theorem cellC_flat (g : Nat → Cmd × Value) (n : Nat) : flatC ((List.range n).map fun i => (g i).1) ((List.range n).map fun i => (g i).2) = (List.range (n * 4)).map (cellC g) := by
  have hl := flatC_len ((List.range n).map fun i => (g i).1) ((List.range n).map fun i => (g i).2) (by simp)
  simp only [List.length_map, List.length_range] at hl
  apply List.ext_getElem?
  intro j
  by_cases hj : j < n * 4
  · have hd : j / 4 < n := by omega
    obtain ⟨f0, f1, f2, f3⟩ := flatC_get (cs := (List.range n).map fun i => (g i).1) (ss := (List.range n).map fun i => (g i).2) (k := j / 4) (x := (g (j / 4)).1) (s := (g (j / 4)).2) (by simp [hd]) (by simp [hd])
    have hr : ((List.range (n * 4)).map (cellC g))[j]? = some (cellC g j) := by simp [hj]
    rw [hr]
    have h4 : j % 4 = 0 ∨ j % 4 = 1 ∨ j % 4 = 2 ∨ j % 4 = 3 := by omega
    unfold cellC
    rcases h4 with h | h | h | h
    · rw [if_pos h, ← f0]; congr 1; omega
    · rw [if_neg (by omega), if_pos h, ← f1]; congr 1; omega
    · rw [if_neg (by omega), if_neg (by omega), if_pos h, ← f2]; congr 1; omega
    · rw [if_neg (by omega), if_neg (by omega), if_neg (by omega), ← f3]; congr 1; omega
  · rw [List.getElem?_eq_none (by omega), List.getElem?_eq_none (by simp; omega)]
section
variable {H : Type} {enc : TypeId × Value → H} {P : Program} {w : World} {base : Nat} {held : Bool}
theorem opC {t e g : TypeId} {f0 f1 f2 f3 : Field} {gs : Array Field} {fuel : Nat} {a : Option Addr} {len cap : Nat} {x : DataW H × List MemPlace} (ht : P.underlying t = some (.slice e)) (he : P.underlying e = some (.struct #[f0, f1, f2, f3]))
    (hone : Go.Deep.oneCellFields P #[f0, f1, f2, f3] = true) (hC : P.cellsOf e = 4) (h0 : P.underlying f0.type = some (.int .i64)) (h1 : P.underlying f1.type = some (.int .i64)) (h2 : P.underlying f2.type = some (.int .i64))
    (hs : P.underlying f3.type = some (.slice g)) (hg : P.underlying g = some (.struct gs)) (hone' : Go.Deep.oneCellFields P gs = true) (hC' : P.cellsOf g = gs.size) (hI : ∀ f ∈ gs.toList, P.underlying f.type = some (.int .i64)) (hz : gs.size = 2)
    (h : DataW.trod enc P w base (fun _ => true) held fuel t [.slice a len cap] = some x) : ∃ cs, RdCW w a len cs ∧ len ≤ maxLen := by
  rcases Go.Deep.open_slice ht h with ⟨h0, _⟩ | ⟨a', l, c, m, n, D, Pl, hcs, _, hl, hm, hmm, _, hi⟩
  · simp at h0
    obtain ⟨rfl, rfl, rfl⟩ := h0
    exact ⟨[], ⟨[], (by rw [Nat.zero_mul]; exact Rd.nil w none), rfl, by simp⟩, by unfold maxLen; omega⟩
  · simp at hcs hmm
    obtain ⟨rfl, rfl, rfl⟩ := hcs
    subst hmm
    have key : ∀ i, i < len → ∃ q : Cmd × Value, (w.cell? (a'.add (i * 4)) = some (.int .i64 q.1.k) ∧ w.cell? (a'.add (i * 4 + 1)) = some (.int .i64 q.1.v) ∧ w.cell? (a'.add (i * 4 + 2)) = some (.int .i64 q.1.l) ∧ w.cell? (a'.add (i * 4 + 3)) = some q.2) ∧
        ∃ A' n' c', q.2 = .slice A' n' c' ∧ n' ≤ 9223372036854775807 ∧ RdE w A' n' q.1.e := by
      intro i hil
      obtain ⟨cs', hc, ht'⟩ := hi i (by omega)
      rw [hC] at hc
      obtain ⟨ys, n', _, _, hlen, hyl, hf⟩ := DataW.trod_struct he ht'
      obtain ⟨_, hcl, hat⟩ := World.cells?_some hc
      have part : ∀ j f, #[f0, f1, f2, f3][j]? = some f → j < 4 → ∃ y u, DataW.trod enc P w base (fun _ => true) held n' f.type [u] = some y ∧ w.cell? (a'.add (i * 4 + j)) = some u := by
        intro j f hfj hj
        obtain ⟨ho, hk⟩ := Go.Deep.hone_of hone _ _ hfj
        have g1 := hf _ _ hfj
        rw [ho, hk, List.getElem?_eq_getElem (by simp at hyl; omega)] at g1
        obtain ⟨u, hu⟩ : ∃ u, cs'[j]? = some u := ⟨cs'[j]'(by omega), by simp⟩
        have e1 : (cs'.drop j).take 1 = [u] := by
          rw [List.drop_eq_getElem_cons (by omega), List.take_succ_cons, List.take_zero]
          rw [List.getElem?_eq_getElem (by omega)] at hu
          injection hu with hu
          rw [hu]
        rw [e1] at g1
        have g2 := hat j hj
        rw [Go.Deep.add_add, hu] at g2
        exact ⟨_, u, g1, g2⟩
      obtain ⟨y0, u0, t0, c0⟩ := part 0 f0 rfl (by omega)
      obtain ⟨y1, u1, t1, c1⟩ := part 1 f1 rfl (by omega)
      obtain ⟨y2, u2, t2, c2⟩ := part 2 f2 rfl (by omega)
      obtain ⟨y3, u3, t3, c3⟩ := part 3 f3 rfl (by omega)
      obtain ⟨k0, rfl⟩ := opI h0 t0
      obtain ⟨k1, rfl⟩ := opI h1 t1
      obtain ⟨k2, rfl⟩ := opI h2 t2
      obtain ⟨A', n', c', rfl, hn'⟩ := op_slice hs t3
      obtain ⟨xs, hx, _⟩ := opF hs hg hone' hC' hI (by omega) t3
      rw [hz] at hx
      obtain ⟨es, rfl, hes⟩ := eNums_of n' xs (by have := hx.1; simpa using this)
      exact ⟨(⟨k0, k1, k2, es⟩, .slice A' n' c'), ⟨c0, c1, c2, c3⟩, A', n', c', rfl, by unfold maxLen at hn'; omega, hx⟩
    have pick : ∀ i, ∃ q : Cmd × Value, i < len → (w.cell? (a'.add (i * 4)) = some (.int .i64 q.1.k) ∧ w.cell? (a'.add (i * 4 + 1)) = some (.int .i64 q.1.v) ∧ w.cell? (a'.add (i * 4 + 2)) = some (.int .i64 q.1.l) ∧ w.cell? (a'.add (i * 4 + 3)) = some q.2) ∧
        ∃ A' n' c', q.2 = .slice A' n' c' ∧ n' ≤ 9223372036854775807 ∧ RdE w A' n' q.1.e := by
      intro i
      by_cases hil : i < len
      · obtain ⟨q, hq⟩ := key i hil
        exact ⟨q, fun _ => hq⟩
      · exact ⟨(⟨0, 0, 0, []⟩, .slice none 0 0), fun h => absurd h hil⟩
    obtain ⟨g', hg'⟩ := Classical.axiomOfChoice pick
    refine ⟨(List.range len).map fun i => (g' i).1, ⟨(List.range len).map fun i => (g' i).2, ?_, by simp, fun i s x hs' hx' => ?_⟩, by omega⟩
    · rw [cellC_flat]
      refine rd_of_cells fun q hq => ?_
      obtain ⟨⟨c0, c1, c2, c3⟩, _⟩ := hg' (q / 4) (by omega)
      have h4 : q % 4 = 0 ∨ q % 4 = 1 ∨ q % 4 = 2 ∨ q % 4 = 3 := by omega
      unfold cellC
      rcases h4 with h | h | h | h
      · rw [if_pos h, ← c0]; congr 2; omega
      · rw [if_neg (by omega), if_pos h, ← c1]; congr 2; omega
      · rw [if_neg (by omega), if_neg (by omega), if_pos h, ← c2]; congr 2; omega
      · rw [if_neg (by omega), if_neg (by omega), if_neg (by omega), ← c3]; congr 2; omega
    · have hil : i < len := by have := (List.getElem?_eq_some_iff.1 hs').1; simpa using this
      simp [hil] at hs' hx'
      subst hs' hx'
      exact (hg' i hil).2
end
end Go.Proofs.YtadmbphefpfbmaaGreatDoor
