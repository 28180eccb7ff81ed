/- The keys of a set of items, one after the other (maps.Keys). -/
import Derived.Test.YtcpkhhammafchaaGF
import Derived.Test.YtcpkhhammafchaaPu
import Derived.RangeFuncNested
import Derived.RangeFuncBound
import Derived.RangeFuncCalls
import Derived.RangeFuncLeaves
import Derived.Shelf.Abstract
import Derived.Shelf.RegionOpen
import Derived.WalkKit
import Derived.OwnWalkIn
import Derived.TacticsInMore
import Derived.LoopNIn
import Derived.LoopIn
import Derived.RegionIn
import Derived.Sort.MapsRangeIn
import Derived.Sort.KeysCollected
import Derived.RangeFuncStops
namespace Go.Proofs.Ytcpkhhammafchaa
open Go.RowKit Go.Maps Go.Sort Go.Shelf
open Go.Maps (Keyed Tidy IsMap)
set_option linter.unusedVariables false
set_option linter.unusedSimpArgs false
/-- Ten numbers. -/
abbrev ItK := { ps : List Int // ps.length = 10 ∧ ∀ x ∈ ps, (Lit.int .i64 x).wf = true }
def encK (x : ItK) : Value := kV x.1
def klK (x : ItK) : Lit := kIt x.1
set_option maxRecDepth 10000 in
theorem keyWf {ps : List Int} (hl : ps.length = 10) (hw : ∀ x ∈ ps, (Lit.int .i64 x).wf = true) : keyOf Try.prog 185 (kV ps) = some (kIt ps) := by
  obtain _ | ⟨a0, _ | ⟨a1, _ | ⟨a2, _ | ⟨a3, _ | ⟨a4, _ | ⟨a5, _ | ⟨a6, _ | ⟨a7, _ | ⟨a8, _ | ⟨a9, _ | ⟨a10, r⟩⟩⟩⟩⟩⟩⟩⟩⟩⟩⟩ := ps
  all_goals simp at hl
  have w0 := hw a0 (by simp); have w1 := hw a1 (by simp); have w2 := hw a2 (by simp); have w3 := hw a3 (by simp); have w4 := hw a4 (by simp)
  have w5 := hw a5 (by simp); have w6 := hw a6 (by simp); have w7 := hw a7 (by simp); have w8 := hw a8 (by simp); have w9 := hw a9 (by simp)
  obtain ⟨m, hm⟩ := szTwo
  unfold keyOf kV itV
  simp only [Try.underlying185]
  rw [if_pos (by simp [itKT, Value.formed, Try.underlying185, itCells]), hm]
  unfold Program.keyLits
  simp only [Try.underlying185, Value.cells]
  rw [if_pos (by simp [itCells])]
  simp [List.range, List.range.loop, Program.keyLits, i64Cells, Try.underlying2, w0, w1, w2, w3, w4, w5, w6, w7, w8, w9, kIt]
theorem keyK (x : ItK) : keyOf Try.prog 185 (encK x) = some (klK x) := keyWf x.2.1 x.2.2
theorem klInv {m : Nat} {c : Value} {ls : List Lit} (h : Try.prog.keyLits (m + 1) 2 [c] = some ls) : ∃ x : Int, c = .int .i64 x ∧ (Lit.int .i64 x).wf = true := by
  unfold Program.keyLits at h
  simp only [Try.underlying2] at h
  cases c <;> simp at h
  rename_i q a
  obtain ⟨⟨rfl, hw⟩, _⟩ := h
  exact ⟨a, rfl, hw⟩
theorem mapM_get {α β : Type} {f : α → Option β} : ∀ {l : List α} {r : List β}, l.mapM f = some r → ∀ x ∈ l, ∃ y, f x = some y
  | [], _, _, x, hx => by simp at hx
  | a :: l, r, h, x, hx => by
    rw [List.mapM_cons] at h
    cases hf : f a with
    | none => rw [hf] at h; simp at h
    | some y =>
      rcases List.mem_cons.1 hx with rfl | hx
      · exact ⟨y, hf⟩
      · cases hm : l.mapM f with
        | none => rw [hf, hm] at h; simp at h
        | some r' => exact mapM_get hm x hx
/-- What reads as an item is ten numbers. -/
theorem keyInv {key : Value} {kl : Lit} (h : keyOf Try.prog 185 key = some kl) : ∃ x : ItK, key = encK x := by
  obtain ⟨m, hm⟩ := szTwo
  unfold keyOf at h
  simp only [Try.underlying185] at h
  split at h
  · rename_i hf
    rw [Bool.and_eq_true] at hf
    have hf2 := hf.2
    cases key with
    | agg cs =>
      simp only [Value.formed, Try.underlying185, itCells, beq_iff_eq] at hf2
      rw [hm] at h
      unfold Program.keyLits at h
      simp only [Try.underlying185, Value.cells] at h
      split at h
      · cases hq : (List.mapM (fun i => Try.prog.keyLits (m + 1 + 1) 2 ((cs.toList.drop (i * Try.prog.cellsOf 2)).take (Try.prog.cellsOf 2))) (List.range 10)) with
        | none => rw [hq] at h; simp at h
        | some r =>
          have hg := mapM_get hq
          have hcell : ∀ i, i < 10 → ∃ x : Int, cs.toList[i]? = some (.int .i64 x) ∧ (Lit.int .i64 x).wf = true := by
            intro i hi
            obtain ⟨ls, hls⟩ := hg i (List.mem_range.2 hi)
            rw [i64Cells, Nat.mul_one] at hls
            have hlt : i < cs.toList.length := by simp [hf2, hi]
            rw [List.drop_eq_getElem_cons hlt, List.take_succ_cons, List.take_zero] at hls
            obtain ⟨x, hx, hw⟩ := klInv hls
            exact ⟨x, by rw [List.getElem?_eq_getElem hlt, hx], hw⟩
          have hall : ∃ ps : List Int, cs.toList = ints ps ∧ ∀ x ∈ ps, (Lit.int .i64 x).wf = true := by
            refine ⟨(List.range 10).map (fun i => match (cs.toList[i]? : Option Value) with | some (Value.int _ x) => x | _ => (0 : Int)), ?_, ?_⟩
            · apply List.ext_getElem?
              intro i
              by_cases hi : i < 10
              · obtain ⟨x, hx, _⟩ := hcell i hi
                rw [hx]
                simp only [ints, List.getElem?_map, List.getElem?_range hi, Option.map_some, hx]
              · rw [List.getElem?_eq_none (by simp [hf2]; omega), List.getElem?_eq_none (by simp; omega)]
            · intro x hx
              obtain ⟨i, hi, rfl⟩ := List.mem_map.1 hx
              obtain ⟨y, hy, hw⟩ := hcell i (List.mem_range.1 hi)
              rw [hy]; exact hw
          obtain ⟨ps, hps, hw⟩ := hall
          refine ⟨⟨ps, ?_, hw⟩, ?_⟩
          · have := congrArg List.length hps; simp [hf2] at this; exact this.symm
          · unfold encK kV itV
            rw [← hps]
      · cases h
    | _ => simp [Value.formed, Try.underlying185] at hf2
  · cases h
theorem klK_inj {x y : ItK} (h : klK x = klK y) : x = y := by
  have h1 := lawIt.inj (keyK x) (by rw [h]; exact keyK y)
  simp only [encK, kV, itV] at h1
  injection h1 with h1
  have h2 := congrArg Array.toList h1
  exact Subtype.ext (ints_eq h2)
theorem klK_same (x y : ItK) : (klK y).sameKey (klK x) = decide (y = x) := by
  by_cases h : y = x
  · subst h; simp [klK, kIt, Lit.sameKey]
  · have h2 : klK y ≠ klK x := fun e => h (klK_inj e)
    have h3 : ¬ (keyBytes (y.1.map (Lit.int .i64)) = keyBytes (x.1.map (Lit.int .i64))) := fun e => h2 (by unfold klK kIt; rw [e])
    simp [klK, kIt, Lit.sameKey, h, h3]
/-- No key twice; a key has come just where the map has it and it is no longer to come. -/
def CollK (D0 : DataW Unit) (left : Lit → Bool) (ss : List ItK) : Prop := ss.Nodup ∧ ∀ x, x ∈ ss ↔ (has D0 (klK x) = true ∧ left (klK x) = false)
theorem CollK.start (D0 : DataW Unit) : CollK D0 (has D0) [] := ⟨List.nodup_nil, fun x => by cases has D0 (klK x) <;> simp⟩
theorem CollK.step {D0 : DataW Unit} {left : Lit → Bool} {ss : List ItK} (h : CollK D0 left ss) {x : ItK} {y : DataW Unit} (hlk : left (klK x) = true) (hat : ∀ zd, D0.atKey (klK x) zd = y) : CollK D0 (fun z => left z && !z.sameKey (klK x)) (ss ++ [x]) := by
  have hhas : has D0 (klK x) = true := has_true_of_atKey hat
  have hnew : x ∉ ss := fun hx => by have := ((h.2 x).1 hx).2; rw [hlk] at this; cases this
  refine ⟨List.nodup_append.2 ⟨h.1, by simp, fun a ha b hb => by simp at hb; subst hb; exact fun e => hnew (e ▸ ha)⟩, fun y => ?_⟩
  by_cases hy : y = x
  · subst hy; simp [hhas, klK_same]
  · simp [h.2 y, hy, klK_same]
/-- All keys have come. -/
def AllK (D0 : DataW Unit) (ss : List ItK) : Prop := ss.Nodup ∧ ∀ x, x ∈ ss ↔ has D0 (klK x) = true
section
variable {F : Fence} {n : Nat} {P : Program} {ops : Array Oper} {Q : Exit → Act → World → Prop} {a : Act} {w : World} {rest : List Oper} {o : Oper}
/-- A load of many cells, at a list of operations inside a fence. -/
theorem wpListIn_load_mid (hgd : o.guard = none) (ty : TypeId) (x : Operand) (ho : o.op = .load ty x)
    (b off : Nat) (hx : a.eval x = .pointer (some ⟨b, off, none⟩)) (cs : List Value) (d : TypeDesc) (hc : w.rangeAt b off cs)
    (hu : P.underlying ty = some d) (hd : d.isRow = true) (hi : (P.info? ty).map (·.size) = some cs.length)
    (h : wpListIn F n P ops Q rest (a.put o.dst (.agg cs.toArray)) w) : wpListIn F n P ops Q (o :: rest) a w := by
  refine wpListIn_plain hgd fun K hK => ?_
  unfold Oper.wpIn
  refine ⟨by simp [Oper.about, ho], ?_⟩
  rw [Oper.semAt_plain F _ _ (by rw [ho]; intro c hc'; cases hc')]
  unfold execOp
  simp only [ho, hx, Instr.loadAt, Instr.sureAddr, Sem.run_bind, Sem.run_pure, Result.andThen_ok, run_loadVar_mid w b off ty cs d hc hu hd hi]
  exact hK _ _ h
/-- A store of many cells into a new block, at a list of operations inside a fence. -/
theorem wpListIn_store_new (hgd : o.guard = none) (ty : TypeId) (x y : Operand) (ho : o.op = .store ty x y)
    (w0 : World) (z : Array Value) (cells : Array Value) (hw : w = w0.alloc (.cells z ty)) (hx : a.eval x = .pointer (some ⟨w0.heap.size, 0, none⟩)) (hy : a.eval y = .agg cells)
    (hz : z.size = cells.size) (hi : (P.info? ty).map (·.size) = some cells.size) (h1 : cells.all (·.oneCell') = true)
    (h : ∀ w', w0.grownBy w' none → w'.heap.size = w0.heap.size + 1 → w'.heap[w0.heap.size]? = some (.cells cells ty (0, 0)) → Below w0.heap.size w0 w' → wpListIn F n P ops Q rest (a.put o.dst undef) w') : wpListIn F n P ops Q (o :: rest) a w := by
  subst hw
  have hth : (w0.alloc (.cells z ty)).there w0.heap.size 0 cells.size := by
    have := blk_there (w := w0.alloc (.cells z ty)) (g := w0.heap.size) (T := ty) (cs := z) (box_new w0 z ty) hz
    exact this
  refine wpListIn_plain hgd fun K hK => ?_
  unfold Oper.wpIn
  refine ⟨by simp [Oper.about, ho], ?_⟩
  rw [Oper.semAt_plain F _ _ (by rw [ho]; intro c hc'; cases hc')]
  unfold execOp
  simp only [ho, hx, hy, Instr.storeAt, Instr.sureAddr, Sem.run_bind, Sem.run_pure, Result.andThen_ok, run_storeVar_mid (w0.alloc (.cells z ty)) w0.heap.size 0 ty cells hth hi h1]
  have hch := ch_setCells w0.heap.size cells.toList 0 (w0.alloc (.cells z ty))
  have hbn := below_new w0 (.cells z ty)
  have hsz : ((w0.alloc (.cells z ty)).setCells w0.heap.size 0 cells.toList).heap.size = w0.heap.size + 1 := by
    rw [setCells_size]; simp
  have hbl : ((w0.alloc (.cells z ty)).setCells w0.heap.size 0 cells.toList).heap[w0.heap.size]? = some (.cells cells ty (0, 0)) := by
    obtain ⟨cur, h1, h2, _, h4⟩ := setCells_block w0.heap.size ty cells.toList 0 (w0.alloc (.cells z ty)) z (box_new w0 z ty)
    have he : cur = cells := by
      apply Array.ext_getElem?
      intro j
      by_cases hj : j < cells.size
      · have h5 := h4 j cells[j] (by simp [hj]) (by omega)
        rw [Nat.zero_add] at h5
        rw [h5, Array.getElem?_eq_getElem hj]
      · rw [Array.getElem?_eq_none (by omega), Array.getElem?_eq_none (by omega)]
    rw [h1, he]
  have hbw : Below w0.heap.size w0 ((w0.alloc (.cells z ty)).setCells w0.heap.size 0 cells.toList) := below_ch hbn hch (fun k hk => by have e : k = w0.heap.size := hk; omega) hbn.size
  refine hK _ _ (h _ ?_ hsz hbl hbw)
  exact ⟨hbw.os, hbw.tape, hbw.output, hbw.size, fun k hk _ => hbw.block k hk⟩
end
theorem itRow : TypeDesc.isRow (.array 10 2) = true := rfl
theorem encK_len (x : ItK) : (ints x.1).length = 10 := by simp [x.2.1]
set_option maxRecDepth 100000 in
set_option maxHeartbeats 4000000 in
/-- The iterator over the keys, for every loop body. -/
theorem keys1_in (F : Fence) (n : Nat) (h10 : F.fn 158) (hro : F.round = none) (hn : 1 ≤ n) (l Bm b nn : Nat) (D0 : DataW Unit) (J Jx : List ItK → World → Prop)
    (hY : ∀ pre x W, J pre W → pre.length < Maps.size D0 → YieldAt F (n - 1) Try.prog l #[encK x] W fun e W' =>
      (e = .returned (.bool true) ∧ J (pre ++ [x]) W' ∧ KeepsWalks W W') ∨ (e = .returned (.bool false) ∧ Jx (pre ++ [x]) W'))
    (W : World) (hJ : AbidesFrom W.heap.size J) (hm : W.cell? ⟨Bm, 0, none⟩ = some (.map (some b))) (hown : W.ownsMap Try.prog 185 (plainElem (H := Unit) Try.prog 4) b nn D0) (h0 : J [] W) :
    CallsIn F n Try.prog 158 #[.func (.yield l) #[] #[], .pointer (some ⟨Bm, 0, none⟩)] W fun e W' => (∃ v, e = .returned v) ∧
      ((∃ ss : List ItK, AllK D0 ss ∧ J ss W') ∨ (∃ pre : List ItK, True ∧ Jx pre W')) := by
  refine callsIn_of_wp Try.func158 rfl h10 ?_ hro
  simp only [Try.ntmps158, List.size_toArray, List.length_cons, List.length_nil, Nat.reduceAdd, Nat.reduceSub, Array.replicate_succ, Array.replicate_zero, List.push_toArray, List.append_toArray, List.nil_append, List.cons_append]
  gi_wp2_with (first
    | (gi_at_range; refine wpListIn_range_own _ rfl _ 181 rfl 185 4 lawIt Try.underlying181 _ b nn _ rfl hown ?_; intro w0 hrg0 hg0 hs0)
    | gi_in)
  go_frame
  gi_loopw [3] (fun _ wr => ∃ (left : Lit → Bool) (cnt : Nat) (ss : List ItK), wr.ranges Try.prog 185 (plainElem (H := Unit) Try.prog 4) b W.heap.size nn D0 left cnt ∧ ss.length + cnt ≤ Maps.size D0 ∧ CollK D0 left ss ∧ J ss wr)
    (fun _ wr => wr.rangeLeft b W.heap.size)
  case atStart =>
    exact ⟨_, _, [], hrg0, by simp, CollK.start D0, hJ [] W w0 none h0 hg0 (fun r e => by cases e)⟩
  case round =>
    obtain ⟨left, cnt, ss, hrg, hcs, hC, hJs⟩ := hrel
    gi_wp2_with (first
      | (gi_at_next; refine wpListIn_next_ranges _ rfl _ rfl 185 lawIt (plainElem (H := Unit) Try.prog 4) encK id (fun key kl hk => keyInv hk) (fun v _ _ => ⟨v, rfl⟩) b W.heap.size nn _ _ _ rfl hrg ?_ ?_)
      | gi_in)
    · intro hc0 hl0
      gi_wp2
      go_end0
      exact ⟨⟨_, rfl⟩, .inl ⟨ss, ⟨hC.1, fun x => by rw [hC.2 x, hl0]; simp⟩, hJs⟩⟩
    · intro xv xp c kl yd yp w2 cnt2 hkey hlk hv hat hrg2 hlt hg2 hs2 hen
      generalize hx : (⟨xv, xp⟩ : ItK) = x at *
      clear hx xp xv
      obtain rfl : klK x = kl := by rw [keyK x] at hkey; exact Option.some.inj hkey
      have hJ2 : J ss w2 := hJ ss wr w2 (some W.heap.size) hJs hg2 (fun r e => by cases e; exact ⟨Nat.le_refl _, hrg.iter_walk⟩)
      have hsz : (Try.prog.info? 185).map (·.size) = some (ints x.1).toArray.size := by rw [List.size_toArray, encK_len]; exact Try.itSize
      have hone : (ints x.1).toArray.all (·.oneCell') = true := all_oneCell_toArray ints_one
      have hz : (z10).size = (ints x.1).toArray.size := by simp [x.2.1]
      have hC2 := hC.step hlk hat
      clear hs2
      gi_wp2_with (first
        | (refine wpListIn_store_new (by rfl) 185 (.tmp 3) (.tmp 9) (by rfl) w2 z10 (ints x.1).toArray (by rfl) (by rfl) (by rfl) hz hsz hone ?_
           intro w3 hg3 hs3 hb3 hbe3
           have hJ3 : J ss w3 := hJ ss w2 w3 none hJ2 hg3 (fun r e => by cases e)
           have hrg3 := hrg2.of_walks (KeepsWalks.of_grownBy hg3 (fun j o e => by cases e))
           obtain ⟨fn, tmps, assign, body, hy0, hR⟩ := hY ss x w3 hJ3 (by omega)
           have hy : (Instr.yield l #[.agg (ints x.1).toArray]).run Try.prog w3 = .ok (.round l fn tmps assign body) w3 := hy0
           clear hy0)
        | (refine wpListIn_load_mid (by rfl) 185 (.tmp 3) (by rfl) w2.heap.size 0 (by rfl) (ints x.1) _ (blk_range hb3) Try.underlying185 rfl (by rw [encK_len]; exact Try.itSize) ?_)
        | gi_in)
      refine hR.mono ?_
      rintro e W3 (⟨rfl, hJ4, hk4⟩ | ⟨rfl, hJx4⟩)
      · gi_wp2
        have hrg4 := hrg3.of_walks hk4
        go_roundw
        case rel => exact ⟨_, cnt2, ss ++ [x], hrg4, by simp; omega, hC2, hJ4⟩
        case measure => rw [hrg4.left_eq, hrg.left_eq]; exact hlt
      · gi_wp2
        refine bodyPost_ret (results_none rfl _ _ _) rfl ?_
        exact ⟨⟨_, rfl⟩, .inr ⟨ss ++ [x], trivial, hJx4⟩⟩
end Go.Proofs.Ytcpkhhammafchaa
