/- slices.Repeat on rules. -/
import Derived.Test.YtanicbbgneobpaaGreatRepM
import Derived.Test.YtanicbbgneobpaaGreatGB
import Derived.Laws.Bits64b
import Derived.Test.YtanicbbgneobpaaGreatGA
import Derived.Laws.CopyOwn
namespace Go.Proofs.YtanicbbgneobpaaGreat
open Go.RowKit
set_option linter.unusedVariables false
set_option linter.unusedSimpArgs false
theorem ch_setRow {w : World} {g : Nat} {cur cs : Array Value} {t : Nat} (hg : w.heap[g]? = some (.cells cur t (0, 0))) : Ch (· = g) w (w.setRow g cs) := by
  have h := below_setRow (B := 0) (Below.refl 0 w) (Nat.zero_le g) cs
  refine ⟨h.os, h.tape, h.output, h.size, fun k hk hn => ?_⟩
  have hn' : g ≠ k := fun e => hn e.symm
  simp [World.setRow, Array.getElem?_modify, hn']
theorem and_mask (N : Nat) (h : N ≤ 1000) : bits .and .u64 (N : Int) 4294967295 = (N : Int) := by
  have e := bits_and_u64_nat N 4294967295 (by omega) (by omega)
  have h2 : N &&& 4294967295 = N := by
    have := Nat.and_two_pow_sub_one_eq_mod N 32
    rw [show 2 ^ 32 - 1 = 4294967295 by decide] at this
    rw [this]
    exact Nat.mod_eq_of_lt (by omega)
  rw [h2] at e
  exact e
set_option maxHeartbeats 1000000 in
theorem mul64_one (w : World) (N : Nat) (h : N ≤ 1000) : Calls Tryz.prog 156 #[.int .u64 1, .int .u64 N] w fun e w' => e = .returned (.tuple #[.int .u64 0, .int .u64 N]) ∧ w = w' := by
  have h1 : bits .and .u64 1 4294967295 = 1 := by decide
  have h0 : bits .and .u64 0 4294967295 = 0 := by decide
  have hN := and_mask N h
  have hd : (N : Int) / 4294967296 = 0 := Int.ediv_eq_zero_of_lt (by omega) (by omega)
  have hd2 : N / 4294967296 = 0 := Nat.div_eq_of_lt (by omega)
  go_enter Tryz.func156, Tryz.ntmps156
  go_wp2_with fail
  go_ret2
  exact ⟨rfl, rfl⟩
set_option maxHeartbeats 1000000 in
theorem mul_one' (w : World) (N : Nat) (h : N ≤ 1000) : Calls Tryz.prog 153 #[.int .u64 1, .int .u64 N] w fun e w' => e = .returned (.tuple #[.int .u64 0, .int .u64 N]) ∧ w = w' := by
  go_enter Tryz.func153, Tryz.ntmps153
  go_wp2_with (go_at_call 156; refine (mul64_one _ N h).mono ?_; rintro e w' ⟨rfl, rfl⟩)
  go_ret2
  exact ⟨rfl, rfl⟩
theorem wpList_copyN {P : Program} {ops : Array Oper} {rest : List Oper} {o : Oper} {a : Act} {Q : Exit → Act → World → Prop} (hgd : o.guard = none) (d x : Operand) (dT sT elem : TypeId)
    (ho : o.op = .call { callee := .builtin .copy, args := #[d, x], argTypes := #[dT, sT] }) (w : World) (g off dLen dCap : Nat) (ad : Addr) (sLen sCap s : Nat) (cur : Array Value) (t : TypeId) (cs : List Value)
    (hu : P.underlying dT = some (.slice elem)) (hs : (P.info? elem).map (·.size) = some s) (hd : a.eval d = .slice (some ⟨g, off, none⟩) dLen dCap) (hx : a.eval x = .slice (some ad) sLen sCap)
    (hg : w.heap[g]? = some (.cells cur t (0, 0))) (m : Nat) (hm : Nat.min sLen dLen = m) (hn : cs.length = m * s) (hsrc : ∀ j v, cs[j]? = some v → w.cell? (ad.add j) = some v) (hfit : off + cs.length ≤ cur.size) (h1 : ∀ v ∈ cs, v.oneCell' = true)
    (h : ∀ w', w'.heap[g]? = some (.cells (cur.toList.take off ++ cs ++ cur.toList.drop (off + cs.length)).toArray t (0, 0)) → Ch (· = g) w w' → wpList P ops Q rest (a.put o.dst (goInt m)) w') :
    wpList P ops Q (o :: rest) a w := by
  subst hm
  have hrun := run_copyN (P := P) w dT sT o.type elem g off dLen dCap ad sLen sCap s cur t cs hu hs hg hn hsrc hfit h1
  refine wpList_plain hgd fun K hK => ?_
  unfold Oper.wp execOp
  simp only [ho, resolve, invoke, builtin, Sem.run_bind, Sem.run_pure, Result.andThen_ok, List.map_toArray, List.map_cons, List.map_nil, hd, hx, hrun]
  exact hK _ _ (h _ (setRow_heap w g _ _ t _ hg) (ch_setRow hg))
theorem step_copyN {P : Program} {ops : Array Oper} {o : Oper} {a : Act} {K : Act → World → Prop} {Q : Exit → Act → World → Prop} {E : Prop} (hgd : o.guard = none) (d x : Operand) (dT sT elem : TypeId)
    (ho : o.op = .call { callee := .builtin .copy, args := #[d, x], argTypes := #[dT, sT] }) (w : World) (g off dLen dCap : Nat) (ad : Addr) (sLen sCap s : Nat) (cur : Array Value) (t : TypeId) (cs : List Value)
    (hu : P.underlying dT = some (.slice elem)) (hs : (P.info? elem).map (·.size) = some s) (hd : a.eval d = .slice (some ⟨g, off, none⟩) dLen dCap) (hx : a.eval x = .slice (some ad) sLen sCap)
    (hg : w.heap[g]? = some (.cells cur t (0, 0))) (m : Nat) (hm : Nat.min sLen dLen = m) (hn : cs.length = m * s) (hsrc : ∀ j v, cs[j]? = some v → w.cell? (ad.add j) = some v) (hfit : off + cs.length ≤ cur.size) (h1 : ∀ v ∈ cs, v.oneCell' = true)
    (h : ∀ w', w'.heap[g]? = some (.cells (cur.toList.take off ++ cs ++ cur.toList.drop (off + cs.length)).toArray t (0, 0)) → Ch (· = g) w w' → K (a.put o.dst (goInt m)) w') :
    if Region.wanted o (yielded ops a.tmps) = true then Oper.wp P o a w K Q else E := by
  subst hm
  have hrun := run_copyN (P := P) w dT sT o.type elem g off dLen dCap ad sLen sCap s cur t cs hu hs hg hn hsrc hfit h1
  have hw : Region.wanted o (yielded ops a.tmps) = true := by simp [Region.wanted, hgd]
  rw [if_pos hw]
  unfold Oper.wp
  simp [execOp, ho, resolve, invoke, builtin, hd, hx, hrun, Result.andThen]
  have hh := h _ (setRow_heap w g _ _ t _ hg) (ch_setRow hg)
  rw [List.append_assoc] at hh
  exact hh
def rRow : List Value := [.int .i64 0, .int .i64 0, .int .i64 (-1)]
def repR (n : Nat) : List Value := (List.replicate n rRow).flatten
theorem repR_len (n : Nat) : (repR n).length = n * 3 := by simp [repR, rRow]
theorem repR_add (n k : Nat) : repR (n + k) = repR n ++ repR k := by unfold repR; rw [← List.replicate_append_replicate, List.flatten_append]
theorem repR_one (n : Nat) : ∀ v ∈ repR n, v.oneCell' = true := by
  intro v hv
  simp only [repR, List.mem_flatten, List.mem_replicate] at hv
  obtain ⟨l, ⟨_, rfl⟩, h⟩ := hv
  simp only [rRow, List.mem_cons, List.not_mem_nil, or_false] at h
  rcases h with rfl | rfl | rfl <;> rfl
def stR (n N : Nat) : List Value := repR n ++ List.replicate ((N - n) * 3) (.int .i64 0)
theorem stR_len {n N : Nat} (h : n ≤ N) : (stR n N).length = N * 3 := by simp only [stR, List.length_append, repR_len, List.length_replicate]; omega
theorem stR_step {n k N : Nat} (h : n + k ≤ N) : (stR n N).take (n * 3) ++ repR k ++ (stR n N).drop (n * 3 + (repR k).length) = stR (n + k) N := by
  have h1 : (stR n N).take (n * 3) = repR n := by rw [stR, List.take_left' (by rw [repR_len])]
  have h2 : (stR n N).drop (n * 3 + (repR k).length) = List.replicate ((N - (n + k)) * 3) (.int .i64 0) := by
    rw [stR, repR_len, List.drop_append, List.drop_of_length_le (by rw [repR_len]; omega), repR_len, List.drop_replicate, List.nil_append]
    congr 1
    omega
  rw [h1, h2, stR, repR_add]
theorem stR_get {n N j : Nat} {v : Value} {k : Nat} (hk : k ≤ n) (h : (repR k)[j]? = some v) : (stR n N)[j]? = some v := by
  have hj : j < (repR k).length := (List.getElem?_eq_some_iff.1 h).1
  obtain ⟨d, rfl⟩ : ∃ d, n = k + d := ⟨n - k, by omega⟩
  rw [stR, repR_add, List.append_assoc, List.getElem?_append_left hj]
  exact h
theorem Tryz.szR : (Tryz.prog.info? 97).map (·.size) = some 3 := by kernel_rfl
theorem eltRl : EltN Tryz.prog 35 97 (.agg #[.int .i64 0, .int .i64 0, .int .i64 0]) 3 := EltN.mk_ (b := 24) Tryz.underlying35 (by kernel_rfl) rfl (by omega) (by omega)
/-- 's[:i]'. -/
theorem run_cutTo {P : Program} {t e : TypeId} {sz : Nat} (ht : P.underlying t = some (.slice e)) (hi : (P.info? e).map (·.size) = some sz) (w : World) (A : Option Addr) (len cap k : Nat) (i : Int) (q : IntKind) (hik : i = k) (h1 : k ≤ cap) :
    (Instr.slice t (.slice A len cap) none (some (.int q i)) none).run P w = .ok (.slice A k cap) w := by
  have ee : P.elem t = e := by simp [Program.elem, ht]
  subst hik
  rw [run_slice_h w t _ len cap (by rw [ee]; exact ht) q k (by omega) (by omega), ee, run_size hi w]
  have ha : ∀ a : Addr, a.add 0 = a := fun a => by simp [Addr.add]
  simp only [Result.andThen, sliced, Int.toNat_natCast, Nat.zero_mul, Nat.sub_zero, ha]
  cases A <;> simp
theorem ch_und2 {F : Nat → Prop} {w w' : World} (h : Ch F w.drew w') : Ch F w w' := ⟨h.os, h.tape, h.output, h.size, h.block⟩
theorem nmin (a b : Nat) : Nat.min a b = min a b := rfl
theorem own_full {w : World} {base e s n g : Nat} {vs : List Value} (h : w.ownsRow base e s (.slice (some ⟨g, 0, none⟩) n n) n vs) : ∃ cur, w.heap[g]? = some (.cells cur e (0, 0)) ∧ cur.toList = vs := by
  rcases h.2 with ⟨h', _⟩ | ⟨g', cap, cur, h', _, hg, hnc, hcm, hcs, htake⟩
  · cases h'
  · injection h' with h1 h2 h3
    injection h1 with h1
    injection h1 with h1
    subst h1 h3
    refine ⟨cur, hg, ?_⟩
    rw [← htake, List.take_of_length_le (by simp [hcs])]
theorem made_R (N : Nat) : (madeCells (Value.agg #[.int .i64 0, .int .i64 0, .int .i64 0]).cells (N * 3)).toList = stR 0 N := by
  have h := made_same (.int .i64 0) 3 (N * 3) (by omega)
  simp only [stR, repR, List.replicate_zero, List.flatten_nil, List.nil_append, Nat.sub_zero]
  rw [← h]
  rfl
theorem rd_add {w : World} {g n : Nat} {vs : List Value} (h : Rd w (some ⟨g, 0, none⟩) n vs) {j : Nat} {v : Value} (hj : vs[j]? = some v) : w.cell? ((⟨g, 0, none⟩ : Addr).add j) = some v := by
  obtain ⟨b, off, e, _, hc⟩ := h.at_ hj
  injection e with e
  injection e with e1 e2
  subst e1 e2
  rw [add_plain']
  exact hc
def RepPost (w : World) (N : Nat) (e : Ending) (w' : World) : Prop := ∃ (A : Option Addr) (c : Nat), e = .returned (.slice A N c) ∧ w'.ownsRow w.heap.size 97 3 (.slice A N c) N (repR N) ∧ Below w.heap.size w w'
end Go.Proofs.YtanicbbgneobpaaGreat
