/- Arguments that came in, opened to cells: numbers, rows of structs of numbers. -/
import Derived.Test.YtfjlbfnjnkaooaaOpen
import Derived.Deep.Fields
import Derived.Lib.SmallJoins
namespace Go.Proofs.Ytfjlbfnjnkaooaa
open Go.RowKit
section
variable {H : Type} {enc : TypeId × Value → H} {P : Program} {w : World} {base : Nat} {held : Bool}
theorem opI {t : TypeId} {fuel : Nat} {v : Value} {x : DataW H × List MemPlace} (ht : P.underlying t = some (.int .i64)) (h : DataW.trod enc P w base (fun _ => true) held fuel t [v] = some x) : ∃ n, v = .int .i64 n := by
  obtain ⟨n, hn, _⟩ := DataW.trod_int ht h
  exact ⟨n, by simpa using hn⟩
theorem op_slice {t e : TypeId} {fuel : Nat} {v : Value} {x : DataW H × List MemPlace} (ht : P.underlying t = some (.slice e)) (h : DataW.trod enc P w base (fun _ => true) held fuel t [v] = some x) : ∃ a len cap, v = .slice a len cap ∧ len ≤ maxLen := by
  rcases Go.Deep.open_slice ht h with ⟨h0, _⟩ | ⟨a, len, cap, m, n, D, Pl, hcs, _, hl, hm, _⟩
  · exact ⟨_, _, _, by simpa using h0, by unfold maxLen; omega⟩
  · exact ⟨_, _, _, by simpa using hcs, by omega⟩
theorem opS {t e : TypeId} {fuel : Nat} {a : Option Addr} {len cap : Nat} {x : DataW H × List MemPlace} (ht : P.underlying t = some (.slice e)) (he : P.underlying e = some (.int .i64)) (hc : P.cellsOf e = 1) (h : DataW.trod enc P w base (fun _ => true) held fuel t [.slice a len cap] = some x) :
    ∃ xs : List Int, Rd w a len (ints xs) ∧ len ≤ maxLen := by
  obtain ⟨vs, h1, h2, h3, h4⟩ := open_rd ht hc h
  have key : ∀ vs : List Value, (∀ v ∈ vs, ∃ n y, DataW.trod enc P w base (fun _ => true) held n e [v] = some y) → ∃ bs : List Int, vs = ints bs := by
    intro vs
    induction vs with
    | nil => intro _; exact ⟨[], rfl⟩
    | cons v r ih =>
      intro hv
      obtain ⟨n, y, hy⟩ := hv v (by simp)
      obtain ⟨b, rfl⟩ := opI he hy
      obtain ⟨bs, rfl⟩ := ih fun u hu => hv u (by simp [hu])
      exact ⟨b :: bs, rfl⟩
  obtain ⟨bs, rfl⟩ := key vs h4
  exact ⟨bs, h1, by omega⟩
/-- A slice of structs, all of whose fields are numbers. -/
theorem opF {t e : TypeId} {fs : Array Field} {fuel : Nat} {a : Option Addr} {len cap : Nat} {x : DataW H × List MemPlace} (ht : P.underlying t = some (.slice e)) (he : P.underlying e = some (.struct fs))
    (hone : Go.Deep.oneCellFields P fs = true) (hC : P.cellsOf e = fs.size) (hI : ∀ f ∈ fs.toList, P.underlying f.type = some (.int .i64)) (hs : 0 < fs.size) (h : DataW.trod enc P w base (fun _ => true) held fuel t [.slice a len cap] = some x) :
    ∃ xs : List Int, Rd w a (len * fs.size) (ints xs) ∧ len ≤ maxLen := by
  rcases Go.Deep.open_slice ht h with ⟨h0, _⟩ | ⟨a', l, c, m, n, D, Pl, hcs, _, hl, hm, hmm, _, hi⟩
  · simp at h0
    obtain ⟨rfl, rfl, rfl⟩ := h0
    exact ⟨[], by simpa using Rd.nil w none, by unfold maxLen; omega⟩
  · simp at hcs hmm
    obtain ⟨rfl, rfl, rfl⟩ := hcs
    subst hmm
    have key : ∀ q, q < len * fs.size → ∃ z : Int, w.cell? (a'.add q) = some (.int .i64 z) := by
      intro q hq
      have hj : q % fs.size < fs.size := Nat.mod_lt _ hs
      have hd : q / fs.size < len := (Nat.div_lt_iff_lt_mul hs).2 hq
      obtain ⟨cs', hc, ht'⟩ := hi (q / fs.size) (by omega)
      rw [hC] at hc
      obtain ⟨ys, n', _, _, hlen, hyl, hf⟩ := DataW.trod_struct he ht'
      obtain ⟨_, hcl, hat⟩ := World.cells?_some hc
      have hfj : fs[q % fs.size]? = some fs[q % fs.size] := Array.getElem?_eq_getElem hj
      obtain ⟨ho, hk⟩ := Go.Deep.hone_of hone _ _ hfj
      have h1 := hf _ _ hfj
      rw [ho, hk, List.getElem?_eq_getElem (by omega)] at h1
      obtain ⟨z, hz, _⟩ := DataW.trod_int (hI _ (by simp [Array.mem_toList_iff])) h1
      refine ⟨z, ?_⟩
      have h2 := hat _ hj
      rw [Go.Deep.add_add, Nat.mul_comm, Nat.div_add_mod] at h2
      rw [h2]
      have h3 : ((cs'.drop (q % fs.size)).take 1)[0]? = some (Value.int .i64 z) := by rw [hz]; rfl
      rw [List.getElem?_take, if_pos (by omega), List.getElem?_drop, Nat.add_zero] at h3
      exact h3
    have pick : ∀ q, ∃ z : Int, q < len * fs.size → w.cell? (a'.add q) = some (.int .i64 z) := by
      intro q
      by_cases hq : q < len * fs.size
      · obtain ⟨z, hz⟩ := key q hq
        exact ⟨z, fun _ => hz⟩
      · exact ⟨0, fun h => absurd h hq⟩
    obtain ⟨g, hg⟩ := Classical.axiomOfChoice pick
    refine ⟨(List.range (len * fs.size)).map g, ?_, by omega⟩
    have := rd_of_cells (w := w) (a := a') (len := len * fs.size) (f := fun q => .int .i64 (g q)) hg
    simpa [ints, Function.comp_def] using this
end
end Go.Proofs.Ytfjlbfnjnkaooaa
