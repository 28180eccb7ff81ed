/- Automata (program): abstractions as keys of a map; the list of what has been found. -/
import Derived.Test.YtcpkhhammafchaaGJ
import Derived.Test.YtcpkhhammafchaaAuM
namespace Go.Proofs.Ytcpkhhammafchaa
open Go.RowKit
open Go.Maps (Keyed Tidy IsMap)
set_option linter.unusedVariables false
set_option linter.unusedSimpArgs false
theorem rowOu : (205 : TypeId) < Try.prog.types.size := of_decide_eq_true (by kernel_rfl)
theorem lawOu : Keyed Try.prog 205 := Keyed.of_law (deep_law_laid laidI (m := 2) (by omega) rowOu (by kernel_rfl) (by rw [Try.underlying205]))
theorem ouCells : Try.prog.cellsOf 205 = 4 := by kernel_rfl
theorem ouKT : Try.prog.keyType 205 = true := by kernel_rfl
theorem eltOu : EltN Try.prog 160 205 (.agg #[.int .i64 0, .int .i64 0, .int .i64 0, .int .i64 0]) 4 := EltN.mk_ (b := 32) Try.underlying160 (by kernel_rfl) rfl (by omega) (by omega)
abbrev ouV (a b c d : Int) : Value := .agg #[.int .i64 a, .int .i64 b, .int .i64 c, .int .i64 d]
def kOu (ps : List Int) : Lit := .string (keyBytes (ps.map (Lit.int .i64)))
def KyA (x : List Int) : Prop := x.length = 4 ∧ ∀ z ∈ x, SmI z
set_option maxRecDepth 10000 in
theorem keyOu {a b c d : Int} (h : KyA [a, b, c, d]) : keyOf Try.prog 205 (ouV a b c d) = some (kOu [a, b, c, d]) := by
  have w0 := wf_sm (h.2 a (by simp)); have w1 := wf_sm (h.2 b (by simp)); have w2 := wf_sm (h.2 c (by simp)); have w3 := wf_sm (h.2 d (by simp))
  obtain ⟨m, hm⟩ := szTwo
  unfold keyOf ouV
  simp only [Try.underlying205]
  rw [if_pos (by simp [ouKT, Value.formed, Try.underlying205, ouCells]), hm]
  unfold Program.keyLits
  simp only [Try.underlying205, Value.cells]
  rw [if_pos (by simp [ouCells])]
  simp [List.range, List.range.loop, Program.keyLits, i64Cells, Try.underlying2, w0, w1, w2, w3, kOu]
theorem four {x : List Int} (h : x.length = 4) : ∃ a b c d, x = [a, b, c, d] := by
  obtain _ | ⟨a0, _ | ⟨a1, _ | ⟨a2, _ | ⟨a3, _ | ⟨a4, r⟩⟩⟩⟩⟩ := x
  all_goals simp at h
  exact ⟨_, _, _, _, rfl⟩
theorem kOu_inj {x y : List Int} (hx : KyA x) (hy : KyA y) (h : kOu x = kOu y) : x = y := by
  obtain ⟨a, b, c, d, rfl⟩ := four hx.1
  obtain ⟨a', b', c', d', rfl⟩ := four hy.1
  have h1 := lawOu.inj (keyOu hx) (h ▸ keyOu hy)
  simp only [ouV] at h1
  injection h1 with h1
  have h2 := congrArg Array.toList h1
  exact ints_eq (ps := [a, b, c, d]) (qs := [a', b', c', d']) h2
theorem kOu_key {x : List Int} (hx : KyA x) : WideAt.IsKeyLit (kOu x) := by
  obtain ⟨a, b, c, d, rfl⟩ := four hx.1
  exact lawOu.key (keyOu hx)
def setO (L : List (List Int)) : DataW Unit := Maps.setOf uT (L.map kOu)
theorem setO_snoc (L : List (List Int)) (x : List Int) : setO (L ++ [x]) = (setO L).put (kOu x) uT := by
  rw [setO, List.map_append]; exact Maps.setOf_snoc _ _ _
theorem setO_at {L : List (List Int)} {x : List Int} (hL : ∀ y ∈ L, KyA y) (hx : KyA x) (z : DataW Unit) : (setO L).atKey (kOu x) z = if x ∈ L then uT else z := by
  rw [setO, Maps.setOf, at_fold _ _ _ _ ⟨[], rfl⟩ (fun y hy => by
    obtain ⟨xs, h1, rfl⟩ := List.mem_map.1 hy
    exact kOu_key (hL xs h1))]
  have e : (kOu x ∈ L.map kOu) ↔ x ∈ L := by
    constructor
    · intro h
      obtain ⟨xs, h1, h2⟩ := List.mem_map.1 h
      rw [kOu_inj (hL xs h1) hx h2] at h1
      exact h1
    · exact fun h => List.mem_map.2 ⟨x, h, rfl⟩
  by_cases h : x ∈ L
  · rw [if_pos (e.2 h), if_pos h]
  · rw [if_neg (fun h' => h (e.1 h')), if_neg h]; rfl
theorem flat4 : ∀ {L : List (List Int)} {k : Nat} {a b c d : Int}, (∀ x ∈ L, KyA x) → L[k]? = some [a, b, c, d] → L.flatten[k * 4]? = some a ∧ L.flatten[k * 4 + 1]? = some b ∧ L.flatten[k * 4 + 2]? = some c ∧ L.flatten[k * 4 + 3]? = some d
  | [], k, _, _, _, _, _, h => by simp at h
  | y :: r, 0, a, b, c, d, _, h => by
    obtain rfl : y = [a, b, c, d] := by simpa using h
    exact ⟨rfl, rfl, rfl, rfl⟩
  | y :: r, k + 1, a, b, c, d, hL, h => by
    obtain ⟨a', b', c', d', rfl⟩ := four (hL y (by simp)).1
    have := flat4 (L := r) (k := k) (a := a) (b := b) (c := c) (d := d) (fun x hx => hL x (by simp [hx])) (by simpa using h)
    rw [show (k + 1) * 4 = k * 4 + 1 + 1 + 1 + 1 by omega]
    exact this
/-- What has been found: a map and a list. -/
structure FndS (w : World) (lo gs mB gl : Nat) (A : Option Addr) (n c : Nat) (L : List (List Int)) : Prop where
  sb : w.heap[gs]? = some (.cells #[.map (some mB)] 203 (0, 0))
  own : w.ownsMap Try.prog 205 (plainElem (H := Unit) Try.prog 4) mB L.length (setO L)
  lb : w.heap[gl]? = some (.cells #[.slice A n c] 160 (0, 0))
  row : w.ownsRow lo 205 4 (.slice A n c) n (ints L.flatten)
  ky : ∀ x ∈ L, KyA x
  len : L.length = n
  l1 : lo ≤ gl
  l2 : lo ≤ mB
theorem map_ne {w : World} {mB n g T : Nat} {D : DataW Unit} {cs : Array Value} (h : w.ownsMap Try.prog 205 (plainElem (H := Unit) Try.prog 4) mB n D) (hg : w.heap[g]? = some (.cells cs T (0, 0))) : g ≠ mB := by
  rintro rfl
  obtain ⟨es, clock, hb, _⟩ := h
  rw [hg] at hb
  cases hb
theorem ownsMapO_ch {w w' : World} {F : Nat → Prop} {mB n : Nat} {D : DataW Unit} (h : w.ownsMap Try.prog 205 (plainElem (H := Unit) Try.prog 4) mB n D) (hc : Ch F w w') (hn : ¬ F mB) : w'.ownsMap Try.prog 205 (plainElem (H := Unit) Try.prog 4) mB n D := by
  obtain ⟨es, clock, hb, F', hs, e⟩ := h
  exact ⟨es, clock, (hc.block mB (Array.getElem?_eq_some_iff.1 hb).1 hn).trans hb, F', hs, e⟩
theorem FndS.below {w w' : World} {lo gs mB gl n c : Nat} {A : Option Addr} {L : List (List Int)} (h : FndS w lo gs mB gl A n c L) (hb : Below w.heap.size w w') : FndS w' lo gs mB gl A n c L :=
  ⟨blk_bel h.sb hb, ownsMapO_ch h.own (ch_below (F := fun _ => False) hb) (fun h => h), blk_bel h.lb hb, ownN_below h.row hb (Nat.le_refl _), h.ky, h.len, h.l1, h.l2⟩
/-- All but the map, the list's box and blocks of abstractions stays. -/
def OT (mB gl : Nat) (w w' : World) : Prop := Ch (fun q => q = mB ∨ q = gl ∨ ∃ cs, w.heap[q]? = some (.cells cs 205 (0, 0))) w w'
theorem OT.trans {mB gl : Nat} {w w1 w2 : World} (h : OT mB gl w w1) (k : OT mB gl w1 w2) : OT mB gl w w2 :=
  ⟨k.os.trans h.os, k.tape.trans h.tape, k.output.trans h.output, Nat.le_trans h.size k.size, fun i hi ho => by
    have e := h.block i hi ho
    exact (k.block i (Nat.lt_of_lt_of_le hi h.size) (fun hk => ho (by rw [← e]; exact hk))).trans e⟩
theorem OT.refl (mB gl : Nat) (w : World) : OT mB gl w w := Ch.refl _ _
theorem OT.below {mB gl : Nat} {w w' : World} (h : Below w.heap.size w w') : OT mB gl w w' := ch_below h
theorem OT.map {mB gl : Nat} {w w' : World} (h : Ch (· = mB) w w') : OT mB gl w w' := h.mono (fun _ e => .inl e)
theorem OT.lst {mB gl : Nat} {w w' : World} (h : Ch (· = gl) w w') : OT mB gl w w' := h.mono (fun _ e => .inr (.inl e))
theorem OT.row {mB gl lo n s : Nat} {v : Value} {vs : List Value} {w w' : World} (ho : w.ownsRow lo 205 s v n vs) (h : Ch (Fo v) w w') : OT mB gl w w' := h.mono (fun _ e => .inr (.inr (own_fo ho e)))
/-- A block of cells that no abstraction and no list of them are. -/
theorem FndS.keep {w w' : World} {lo gs mB gl n c g T : Nat} {A : Option Addr} {L : List (List Int)} {cs : Array Value} (h : FndS w lo gs mB gl A n c L) (ho : OT mB gl w w') (hg : w.heap[g]? = some (.cells cs T (0, 0))) (h1 : T ≠ 205) (h2 : T ≠ 160) : w'.heap[g]? = some (.cells cs T (0, 0)) :=
  blk_ch hg ho (by
    rintro (e | e | ⟨ds, e⟩)
    · exact map_ne h.own hg e
    · exact blk_ne hg h.lb h2 e
    · exact blk_ne hg e h1 rfl)
def FndX (w : World) (lo gs mB gl : Nat) (L : List (List Int)) (w' : World) : Prop := ∃ (A : Option Addr) (n c : Nat), FndS w' lo gs mB gl A n c L ∧ OT mB gl w w' ∧ Below lo w w'
theorem FndX.trans {w w1 w2 : World} {lo gs mB gl : Nat} {L L2 : List (List Int)} (h : FndX w lo gs mB gl L w1) (k : FndX w1 lo gs mB gl L2 w2) : FndX w lo gs mB gl L2 w2 := by
  obtain ⟨A, n, c, _, h2, h3⟩ := h
  obtain ⟨A', n', c', k1, k2, k3⟩ := k
  exact ⟨A', n', c', k1, h2.trans k2, h3.trans k3⟩
set_option maxHeartbeats 4000000 in
set_option maxRecDepth 100000 in
theorem find_any (w : World) (lo gs mB gl : Nat) (A : Option Addr) (n c : Nat) (L : List (List Int)) (h : FndS w lo gs mB gl A n c L) (hlo : lo ≤ w.heap.size) (a b e d : Int) (hx : KyA [a, b, e, d]) (hn : n ≤ 10000) :
    Calls Try.prog 147 #[ouV a b e d, .pointer (some ⟨gs, 0, none⟩), .pointer (some ⟨gl, 0, none⟩)] w (fun r w' => r = .returned (.tuple #[]) ∧ FndX w lo gs mB gl (addA L [a, b, e, d]) w') := by
  obtain ⟨w0, hw0⟩ : ∃ w0, w0 = w.alloc (.cells #[.int .i64 a, .int .i64 b, .int .i64 e, .int .i64 d] 205) := ⟨_, rfl⟩
  have hB : Below w.heap.size w w0 := by rw [hw0]; exact below_new w _
  have hx0 : w0.heap[w.heap.size]? = some (.cells #[.int .i64 a, .int .i64 b, .int .i64 e, .int .i64 d] 205 (0, 0)) := by rw [hw0]; exact box_new w _ _
  have hs0 : w.heap.size ≤ w0.heap.size := hB.size
  have h0 := h.below hB
  have z0 := blk_cell hx0 0 rfl
  have z1 := blk_cell hx0 1 rfl
  have z2 := blk_cell hx0 2 rfl
  have z3 := blk_cell hx0 3 rfl
  have x0 := blk_cell h0.sb 0 rfl
  obtain ⟨v, ps, hrunv, hv⟩ := h0.own.lookup lawOu Try.underlying203 (zeroB _) (plainElem_bool Try.underlying4 false) (keyOu hx)
  rw [setO_at h.ky hx] at hv
  by_cases hm : [a, b, e, d] ∈ L
  · rw [if_pos hm] at hv
    obtain rfl := plainB_inv hv
    have HX : Hid (FndX w lo gs mB gl (addA L [a, b, e, d]) w0) := Lib.hid (by
      unfold addA
      rw [if_pos hm]
      exact ⟨A, n, c, h0, OT.below hB, hB.mono hlo⟩)
    clear h h0 hx hB hx0 hv hm hs0
    go_enter Try.func147, Try.ntmps147
    go_upto_region 1 with fail
    rw [← hw0]
    clear hw0
    go_wp2_with fail
    go_end0
    exact ⟨rfl, HX.out⟩
  · rw [if_neg hm] at hv
    obtain rfl := plainB_inv hv
    have HLM : Hid (L.length < maxLen) := Lib.hid (by rw [h.len]; unfold maxLen; omega)
    obtain ⟨w3, hrun3, hown3, hg3⟩ := h0.own.update lawOu Try.underlying203 HLM.out (val := .bool true) (keyOu hx) (plainElem_bool Try.underlying4 true)
    have hc3 : Ch (· = mB) w0 w3 := ch_grown hg3 (fun k hk => by injection hk with hk; exact hk.symm)
    have hx3 := blk_ch hx0 hc3 (map_ne h0.own hx0)
    have hsb3 := blk_ch h0.sb hc3 (map_ne h0.own h0.sb)
    have hlb3 := blk_ch h0.lb hc3 (map_ne h0.own h0.lb)
    have hrow3 := own_ch h0.row hc3 (fun q p r => by
      obtain ⟨cs, hq⟩ := own_fo h0.row p
      exact map_ne h0.own hq r)
    have HOW3 : Hid (w3.ownsMap Try.prog 205 (plainElem (H := Unit) Try.prog 4) mB (L.length + 1) (setO (L ++ [[a, b, e, d]]))) := Lib.hid (by rw [setO_snoc]; exact hown3)
    have HSB3 := Lib.hid hsb3; have HLB3 := Lib.hid hlb3; have HROW3 := Lib.hid hrow3
    have HOT3 : Hid (OT mB gl w w3) := Lib.hid ((OT.below hB).trans (OT.map hc3))
    have HB3 : Hid (Below lo w w3) := Lib.hid (set_bel (hB.mono hlo) hg3 h.l2 (Nat.le_trans hlo hs0))
    have HLO3 : Hid (lo ≤ w3.heap.size) := Lib.hid (Nat.le_trans hlo HB3.out.size)
    have HH := Lib.hid h; have HKX := Lib.hid hx
    have HAD : Hid (addA L [a, b, e, d] = L ++ [[a, b, e, d]]) := Lib.hid (by unfold addA; rw [if_neg hm])
    have u0 := blk_cell hx3 0 rfl
    have u1 := blk_cell hx3 1 rfl
    have u2 := blk_cell hx3 2 rfl
    have u3 := blk_cell hx3 3 rfl
    have y0 := blk_cell hlb3 0 rfl
    clear h h0 hx hB hx0 hv hm hs0 hown3 hg3 hc3 hx3 hsb3 hlb3 hrow3
    go_enter Try.func147, Try.ntmps147
    go_upto_region 1 with fail
    rw [← hw0]
    clear hw0
    go_wp2_with (at_builtin
                 go_must (refine wpList_app1N eltOu rfl _ _ rfl w3 lo (.slice A n c) n (ints L.flatten) (by rfl) HROW3.out #[.int .i64 a, .int .i64 b, .int .i64 e, .int .i64 d] rfl (by simp [Value.oneCell']) (by rfl) HLO3.out (by omega) ?_)
                 rintro A4 c4 w4 ho4 hb4 hg4
                 have hc4 : Ch (Fo (.slice A n c)) w3 w4 := ch_row hg4
                 have hlb4 := blk_ch HLB3.out hc4 (fun p => by obtain ⟨cs, hq⟩ := own_fo HROW3.out p; exact blk_ne HLB3.out hq (by decide) rfl)
                 have f0 := blk_free hlb4 0
                 have v0 := blk_cell hlb4 0 rfl
                 have HO4 := Lib.hid ho4; have HC4 := Lib.hid hc4; have HB4 := Lib.hid hb4; have HLB4 := Lib.hid hlb4
                 clear ho4 hb4 hg4 hc4 hlb4)
    go_end0
    refine ⟨rfl, ?_⟩
    rw [HAD.out]
    have hsb4 := blk_ch HSB3.out HC4.out (fun p => by obtain ⟨cs, hq⟩ := own_fo HROW3.out p; exact blk_ne HSB3.out hq (by decide) rfl)
    have how4 := ownsMapO_ch HOW3.out HC4.out (fun p => by obtain ⟨cs, hq⟩ := own_fo HROW3.out p; exact map_ne HOW3.out hq rfl)
    have hc5 := ch_set w4 gl 0 (.slice A4 (n + 1) c4)
    refine ⟨A4, n + 1, c4, ⟨blk_ch hsb4 hc5 (fun p => blk_ne hsb4 HLB4.out (by decide) p), ?_, ?_, ?_, ?_, by rw [List.length_append, HH.out.len]; rfl, HH.out.l1, HH.out.l2⟩, ?_, ?_⟩
    · rw [List.length_append]
      exact ownsMapO_ch how4 hc5 (fun p => map_ne how4 HLB4.out p.symm)
    · have h5 := blk_set HLB4.out 0 (.slice A4 (n + 1) c4)
      simpa using h5
    · have h5 := own_ch HO4.out hc5 (fun q p r => by
        obtain ⟨cs, hq⟩ := own_fo HO4.out p
        exact blk_ne hq HLB4.out (by decide) r)
      have e5 : ints (L ++ [[a, b, e, d]]).flatten = ints L.flatten ++ [.int .i64 a, .int .i64 b, .int .i64 e, .int .i64 d] := by simp [ints]
      rw [e5]
      exact h5
    · intro x hx
      rcases List.mem_append.1 hx with hx | hx
      · exact HH.out.ky x hx
      · obtain rfl := List.mem_singleton.1 hx; exact HKX.out
    · exact HOT3.out.trans ((OT.row HROW3.out HC4.out).trans (OT.lst hc5))
    · exact below_ch (HB3.out.trans HB4.out) hc5 (fun k hk => by have e1 : k = gl := hk; rw [e1]; exact HH.out.l1) (Nat.le_trans HLO3.out HB4.out.size)
end Go.Proofs.Ytcpkhhammafchaa
