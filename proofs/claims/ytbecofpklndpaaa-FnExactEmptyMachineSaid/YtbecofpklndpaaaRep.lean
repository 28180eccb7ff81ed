/- slices.Repeat on rules. -/
import Derived.Test.YtbecofpklndpaaaRepM
import Derived.Test.YtbecofpklndpaaaMchM
import Derived.Laws.Bits64b
import Derived.Test.YtbecofpklndpaaaFoot
import Derived.Laws.CopyOwn
namespace Go.Proofs.Ytbecofpklndpaaa
open Go.RowKit
set_option linter.unusedVariables false
set_option linter.unusedSimpArgs false
theorem ch_setRow {w : World} {g : Nat} {cur cs : Array Value} {t : Nat} (hg : w.heap[g]? = some (.cells cur t (0, 0))) : Ch (· = g) w (w.setRow g cs) := by
  have h := below_setRow (B := 0) (Below.refl 0 w) (Nat.zero_le g) cs
  refine ⟨h.os, h.tape, h.output, h.size, fun k hk hn => ?_⟩
  have hn' : g ≠ k := fun e => hn e.symm
  simp [World.setRow, Array.getElem?_modify, hn']
theorem and_mask (N : Nat) (h : N ≤ 1000) : bits .and .u64 (N : Int) 4294967295 = (N : Int) := by
  have e := bits_and_u64_nat N 4294967295 (by omega) (by omega)
  have h2 : N &&& 4294967295 = N := by
    have := Nat.and_two_pow_sub_one_eq_mod N 32
    rw [show 2 ^ 32 - 1 = 4294967295 by decide] at this
    rw [this]
    exact Nat.mod_eq_of_lt (by omega)
  rw [h2] at e
  exact e
set_option maxHeartbeats 1000000 in
theorem mul64_one (w : World) (N : Nat) (h : N ≤ 1000) : Calls Try.prog 246 #[.int .u64 1, .int .u64 N] w fun e w' => e = .returned (.tuple #[.int .u64 0, .int .u64 N]) ∧ w = w' := by
  have h1 : bits .and .u64 1 4294967295 = 1 := by decide
  have h0 : bits .and .u64 0 4294967295 = 0 := by decide
  have hN := and_mask N h
  have hd : (N : Int) / 4294967296 = 0 := Int.ediv_eq_zero_of_lt (by omega) (by omega)
  have hd2 : N / 4294967296 = 0 := Nat.div_eq_of_lt (by omega)
  go_enter Try.func246, Try.ntmps246
  go_wp2_with fail
  go_ret2
  exact ⟨rfl, rfl⟩
set_option maxHeartbeats 1000000 in
theorem mul_one' (w : World) (N : Nat) (h : N ≤ 1000) : Calls Try.prog 224 #[.int .u64 1, .int .u64 N] w fun e w' => e = .returned (.tuple #[.int .u64 0, .int .u64 N]) ∧ w = w' := by
  go_enter Try.func224, Try.ntmps224
  go_wp2_with (go_at_call 246; refine (mul64_one _ N h).mono ?_; rintro e w' ⟨rfl, rfl⟩)
  go_ret2
  exact ⟨rfl, rfl⟩
theorem wpList_copyN {P : Program} {ops : Array Oper} {rest : List Oper} {o : Oper} {a : Act} {Q : Exit → Act → World → Prop} (hgd : o.guard = none) (d x : Operand) (dT sT elem : TypeId)
    (ho : o.op = .call { callee := .builtin .copy, args := #[d, x], argTypes := #[dT, sT] }) (w : World) (g off dLen dCap : Nat) (ad : Addr) (sLen sCap s : Nat) (cur : Array Value) (t : TypeId) (cs : List Value)
    (hu : P.underlying dT = some (.slice elem)) (hs : (P.info? elem).map (·.size) = some s) (hd : a.eval d = .slice (some ⟨g, off, none⟩) dLen dCap) (hx : a.eval x = .slice (some ad) sLen sCap)
    (hg : w.heap[g]? = some (.cells cur t (0, 0))) (m : Nat) (hm : Nat.min sLen dLen = m) (hn : cs.length = m * s) (hsrc : ∀ j v, cs[j]? = some v → w.cell? (ad.add j) = some v) (hfit : off + cs.length ≤ cur.size) (h1 : ∀ v ∈ cs, v.oneCell' = true)
    (h : ∀ w', w'.heap[g]? = some (.cells (cur.toList.take off ++ cs ++ cur.toList.drop (off + cs.length)).toArray t (0, 0)) → Ch (· = g) w w' → wpList P ops Q rest (a.put o.dst (goInt m)) w') :
    wpList P ops Q (o :: rest) a w := by
  subst hm
  have hrun := run_copyN (P := P) w dT sT o.type elem g off dLen dCap ad sLen sCap s cur t cs hu hs hg hn hsrc hfit h1
  refine wpList_plain hgd fun K hK => ?_
  unfold Oper.wp execOp
  simp only [ho, resolve, invoke, builtin, Sem.run_bind, Sem.run_pure, Result.andThen_ok, List.map_toArray, List.map_cons, List.map_nil, hd, hx, hrun]
  exact hK _ _ (h _ (setRow_heap w g _ _ t _ hg) (ch_setRow hg))
theorem step_copyN {P : Program} {ops : Array Oper} {o : Oper} {a : Act} {K : Act → World → Prop} {Q : Exit → Act → World → Prop} {E : Prop} (hgd : o.guard = none) (d x : Operand) (dT sT elem : TypeId)
    (ho : o.op = .call { callee := .builtin .copy, args := #[d, x], argTypes := #[dT, sT] }) (w : World) (g off dLen dCap : Nat) (ad : Addr) (sLen sCap s : Nat) (cur : Array Value) (t : TypeId) (cs : List Value)
    (hu : P.underlying dT = some (.slice elem)) (hs : (P.info? elem).map (·.size) = some s) (hd : a.eval d = .slice (some ⟨g, off, none⟩) dLen dCap) (hx : a.eval x = .slice (some ad) sLen sCap)
    (hg : w.heap[g]? = some (.cells cur t (0, 0))) (m : Nat) (hm : Nat.min sLen dLen = m) (hn : cs.length = m * s) (hsrc : ∀ j v, cs[j]? = some v → w.cell? (ad.add j) = some v) (hfit : off + cs.length ≤ cur.size) (h1 : ∀ v ∈ cs, v.oneCell' = true)
    (h : ∀ w', w'.heap[g]? = some (.cells (cur.toList.take off ++ cs ++ cur.toList.drop (off + cs.length)).toArray t (0, 0)) → Ch (· = g) w w' → K (a.put o.dst (goInt m)) w') :
    if Region.wanted o (yielded ops a.tmps) = true then Oper.wp P o a w K Q else E := by
  subst hm
  have hrun := run_copyN (P := P) w dT sT o.type elem g off dLen dCap ad sLen sCap s cur t cs hu hs hg hn hsrc hfit h1
  have hw : Region.wanted o (yielded ops a.tmps) = true := by simp [Region.wanted, hgd]
  rw [if_pos hw]
  unfold Oper.wp
  simp [execOp, ho, resolve, invoke, builtin, hd, hx, hrun, Result.andThen]
  have hh := h _ (setRow_heap w g _ _ t _ hg) (ch_setRow hg)
  rw [List.append_assoc] at hh
  exact hh
def rRow : List Value := [.int .i64 0, .int .i64 0, .int .i64 (-1)]
def repR (n : Nat) : List Value := (List.replicate n rRow).flatten
theorem repR_len (n : Nat) : (repR n).length = n * 3 := by simp [repR, rRow]
theorem repR_add (n k : Nat) : repR (n + k) = repR n ++ repR k := by unfold repR; rw [← List.replicate_append_replicate, List.flatten_append]
theorem repR_one (n : Nat) : ∀ v ∈ repR n, v.oneCell' = true := by
  intro v hv
  simp only [repR, List.mem_flatten, List.mem_replicate] at hv
  obtain ⟨l, ⟨_, rfl⟩, h⟩ := hv
  simp only [rRow, List.mem_cons, List.not_mem_nil, or_false] at h
  rcases h with rfl | rfl | rfl <;> rfl
def stR (n N : Nat) : List Value := repR n ++ List.replicate ((N - n) * 3) (.int .i64 0)
theorem stR_len {n N : Nat} (h : n ≤ N) : (stR n N).length = N * 3 := by simp only [stR, List.length_append, repR_len, List.length_replicate]; omega
theorem stR_step {n k N : Nat} (h : n + k ≤ N) : (stR n N).take (n * 3) ++ repR k ++ (stR n N).drop (n * 3 + (repR k).length) = stR (n + k) N := by
  have h1 : (stR n N).take (n * 3) = repR n := by rw [stR, List.take_left' (by rw [repR_len])]
  have h2 : (stR n N).drop (n * 3 + (repR k).length) = List.replicate ((N - (n + k)) * 3) (.int .i64 0) := by
    rw [stR, repR_len, List.drop_append, List.drop_of_length_le (by rw [repR_len]; omega), repR_len, List.drop_replicate, List.nil_append]
    congr 1
    omega
  rw [h1, h2, stR, repR_add]
theorem stR_get {n N j : Nat} {v : Value} {k : Nat} (hk : k ≤ n) (h : (repR k)[j]? = some v) : (stR n N)[j]? = some v := by
  have hj : j < (repR k).length := (List.getElem?_eq_some_iff.1 h).1
  obtain ⟨d, rfl⟩ : ∃ d, n = k + d := ⟨n - k, by omega⟩
  rw [stR, repR_add, List.append_assoc, List.getElem?_append_left hj]
  exact h
theorem Try.szR : (Try.prog.info? 214).map (·.size) = some 3 := by kernel_rfl
theorem eltRl : EltN Try.prog 37 214 (.agg #[.int .i64 0, .int .i64 0, .int .i64 0]) 3 := EltN.mk_ (b := 24) Try.underlying37 (by kernel_rfl) rfl (by omega) (by omega)
/-- 's[:i]'. -/
theorem run_cutTo {P : Program} {t e : TypeId} {sz : Nat} (ht : P.underlying t = some (.slice e)) (hi : (P.info? e).map (·.size) = some sz) (w : World) (A : Option Addr) (len cap k : Nat) (i : Int) (q : IntKind) (hik : i = k) (h1 : k ≤ cap) :
    (Instr.slice t (.slice A len cap) none (some (.int q i)) none).run P w = .ok (.slice A k cap) w := by
  have ee : P.elem t = e := by simp [Program.elem, ht]
  subst hik
  rw [run_slice_h w t _ len cap (by rw [ee]; exact ht) q k (by omega) (by omega), ee, run_size hi w]
  have ha : ∀ a : Addr, a.add 0 = a := fun a => by simp [Addr.add]
  simp only [Result.andThen, sliced, Int.toNat_natCast, Nat.zero_mul, Nat.sub_zero, ha]
  cases A <;> simp
theorem ch_und2 {F : Nat → Prop} {w w' : World} (h : Ch F w.drew w') : Ch F w w' := ⟨h.os, h.tape, h.output, h.size, h.block⟩
theorem nmin (a b : Nat) : Nat.min a b = min a b := rfl
theorem own_full {w : World} {base e s n g : Nat} {vs : List Value} (h : w.ownsRow base e s (.slice (some ⟨g, 0, none⟩) n n) n vs) : ∃ cur, w.heap[g]? = some (.cells cur e (0, 0)) ∧ cur.toList = vs := by
  rcases h.2 with ⟨h', _⟩ | ⟨g', cap, cur, h', _, hg, hnc, hcm, hcs, htake⟩
  · cases h'
  · injection h' with h1 h2 h3
    injection h1 with h1
    injection h1 with h1
    subst h1 h3
    refine ⟨cur, hg, ?_⟩
    rw [← htake, List.take_of_length_le (by simp [hcs])]
theorem made_R (N : Nat) : (madeCells (Value.agg #[.int .i64 0, .int .i64 0, .int .i64 0]).cells (N * 3)).toList = stR 0 N := by
  have h := made_same (.int .i64 0) 3 (N * 3) (by omega)
  simp only [stR, repR, List.replicate_zero, List.flatten_nil, List.nil_append, Nat.sub_zero]
  rw [← h]
  rfl
theorem rd_add {w : World} {g n : Nat} {vs : List Value} (h : Rd w (some ⟨g, 0, none⟩) n vs) {j : Nat} {v : Value} (hj : vs[j]? = some v) : w.cell? ((⟨g, 0, none⟩ : Addr).add j) = some v := by
  obtain ⟨b, off, e, _, hc⟩ := h.at_ hj
  injection e with e
  injection e with e1 e2
  subst e1 e2
  rw [add_plain']
  exact hc
def RepPost (w : World) (N : Nat) (e : Ending) (w' : World) : Prop := ∃ (A : Option Addr) (c : Nat), e = .returned (.slice A N c) ∧ w'.ownsRow w.heap.size 214 3 (.slice A N c) N (repR N) ∧ Below w.heap.size w w'
set_option maxHeartbeats 4000000 in
set_option maxRecDepth 100000 in
theorem repeat_any (w : World) (gx cx N : Nat) (hr : Rd w (some ⟨gx, 0, none⟩) 3 rRow) (h2 : 1 ≤ N) (hN : N ≤ 36) :
    Calls Try.prog 188 #[.slice (some ⟨gx, 0, none⟩) 1 cx, .int .i64 N] w (RepPost w N) := by
  have hneg : ¬ (N : Int) < 0 := by omega
  have hpos : (0 : Int) < (N : Int) := by omega
  have hcv : IntKind.u64.wrap (N : Int) = (N : Int) := IntWalk.u64_in _ (by omega)
  have hci : IntKind.i64.wrap (N : Int) = (N : Int) := IntWalk.i64_in _ (by omega)
  have hmx : ¬ (9223372036854775807 : Int) < (N : Int) := by omega
  have hmxd : decide ((9223372036854775807 : Int) < (N : Int)) = false := decide_eq_false hmx
  go_enter Try.func188, Try.ntmps188
  go_wp2_with (first
    | (go_at_call 224; refine (mul_one' _ N (by omega)).mono ?_; rintro e w' ⟨rfl, rfl⟩)
    | (at_make
       refine wpList_mkN eltRl rfl _ _ rfl w _ _ N (by rfl) (by rfl) (by rfl) (by rfl) (by omega) ?_
       intro w1 ho1 hb1 hl1
       obtain ⟨cur, hg1, hcur⟩ := own_full ho1
       have hcur2 : cur.toList = stR 0 N := by rw [hcur]; exact made_R N
       have hsz : cur.size = N * 3 := by have := congrArg List.length hcur2; rw [stR_len (Nat.zero_le _)] at this; simpa using this
       have HCU := Lib.hid hcur2; have HSZ := Lib.hid hsz
       clear hcur hcur2 hsz ho1)
    | (refine wpList_copyN rfl _ _ 37 37 214 rfl w1 w.heap.size 0 N N ⟨gx, 0, none⟩ 1 cx 3 cur 214 rRow Try.underlying37 Try.szR (by rfl) (by rfl) hg1 1 (by rw [nmin]; omega) rfl (by intro j v hj; exact rd_add (hr.below hb1 (Nat.le_refl _)) hj) (by rw [HSZ.out]; simp [rRow]; omega) (by simpa [repR] using repR_one 1) ?_
       intro w2 hg2 hc2))
  have hG2 : w2.heap[w.heap.size]? = some (.cells (stR 1 N).toArray 214 (0, 0)) := by
    rw [hg2, HCU.out]
    have := stR_step (n := 0) (k := 1) (N := N) (by omega)
    simp only [Nat.zero_mul, Nat.zero_add] at this
    have e1 : repR 1 = rRow := by simp [repR]
    rw [e1] at this
    rw [Nat.zero_add, this]
  have hB2 := below_ch hb1 hc2 (fun k h => by omega) hb1.size
  have HB2 := Lib.hid hB2; have HG2 := Lib.hid hG2
  clear hg2 hc2 hG2 hB2 hg1 hb1
  go_wp2_with fail
  go_loopw [8] (fun q wr => ∃ n : Nat, 1 ≤ n ∧ n ≤ N ∧ q = .int .i64 n ∧ wr.heap[w.heap.size]? = some (.cells (stR n N).toArray 214 (0, 0)) ∧ Below w.heap.size w wr) (fun q _ => N - (intOf q).toNat)
  case atStart => exact ⟨1, Nat.le_refl _, h2, rfl, HG2.out, HB2.out⟩
  case round =>
    obtain ⟨n, hn1, hnN, rfl, hg, hb⟩ := hrel
    by_cases h : n < N
    · have hlt : (n : Int) < (N : Int) := by omega
      obtain ⟨k, hk⟩ : ∃ k, k = Nat.min n (N - n) := ⟨_, rfl⟩
      have hkn : k ≤ n := by rw [hk, nmin]; omega
      have hk1 : 1 ≤ k := by rw [hk, nmin]; omega
      have hkN : n + k ≤ N := by rw [hk, nmin]; omega
      have HK := Lib.hid hk; clear hk
      have hs1 := fun (w0 : World) => run_cut Try.underlying37 Try.szR w0 w.heap.size 0 N N n (n : Int) .i64 rfl (by omega) h
      have hs2 := fun (w0 : World) => run_cutTo Try.underlying37 Try.szR w0 (some ⟨w.heap.size, 0, none⟩) N N n (n : Int) .i64 rfl (by omega)
      simp only [Nat.zero_add] at hs1
      have hwk : IntKind.i64.wrap ((n : Int) + (k : Int)) = (n : Int) + (k : Int) := IntWalk.i64_in _ (by omega)
      have HBB := Lib.hid hb
      have hsrc : ∀ j v, (repR k)[j]? = some v → wr.cell? ((⟨w.heap.size, 0, none⟩ : Addr).add j) = some v := fun j v hj => by
        rw [add_plain', Nat.zero_add]
        exact blk_cell hg j (by have := stR_get (N := N) hkn hj; simpa using this)
      have HSRC := Lib.hid hsrc; clear hsrc
      have hlen : (repR k).length = k * 3 := repR_len k
      have HLEN := Lib.hid hlen; clear hlen
      go_wp2_with fail
      (first | (go_region_law (first
        | (refine step_copyN (by rfl) _ _ 37 37 214 (by rfl) _ w.heap.size (n * 3) (N - n) (N - n) ⟨w.heap.size, 0, none⟩ n N 3 (stR n N).toArray 214 (repR k) Try.underlying37 Try.szR (by rfl) (by rfl) (by exact hg) k HK.out.symm HLEN.out (by exact HSRC.out) (by simp only [List.size_toArray, stR_len hnN, repR_len]; omega) (repR_one k) ?_
           intro w3 hg3 hc3
           have HG3 := Lib.hid hg3; clear hg3))) | fail)
      all_goals
        clear hwk
        go_wp2_with fail
        go_roundw
        case rel => exact ⟨n + k, by omega, by omega, by go_num, by rw [HG3.out]; have h5 := stR_step (n := n) (k := k) (N := N) hkN; rw [← h5], below_ch HBB.out (ch_und2 hc3) (fun z hz => by omega) HBB.out.size⟩
        case measure => simp [intOf]; omega
    · obtain rfl : n = N := by omega
      go_wp2_with fail
      go_ret
      refine ⟨_, n, rfl, ⟨by rw [repR_len], .inr ⟨w.heap.size, n, _, rfl, Nat.le_refl _, hg, Nat.le_refl _, by unfold maxLen; omega, by simp [stR_len (Nat.le_refl n)], ?_⟩⟩, hb⟩
      simp [stR]
      exact List.take_of_length_le (by rw [repR_len]; omega)
end Go.Proofs.Ytbecofpklndpaaa
