/- Word pieces: slices.Repeat on numbers, powers of a word. Written by mk_wp5.py. -/
import Derived.Test.YtbecofpklndpaaaWp4
import Derived.Test.YtbecofpklndpaaaRepM
import Derived.Laws.Bits64b
import Derived.Laws.CopyOwn
namespace Go.Proofs.Ytbecofpklndpaaa
open Go.RowKit
set_option linter.unusedVariables false
set_option linter.unusedSimpArgs false
theorem ch_setRow {w : World} {g : Nat} {cur cs : Array Value} {t : Nat} (hg : w.heap[g]? = some (.cells cur t (0, 0))) : Ch (· = g) w (w.setRow g cs) := by
  have h := below_setRow (B := 0) (Below.refl 0 w) (Nat.zero_le g) cs
  refine ⟨h.os, h.tape, h.output, h.size, fun k hk hn => ?_⟩
  have hn' : g ≠ k := fun e => hn e.symm
  simp [World.setRow, Array.getElem?_modify, hn']
theorem and_mask (N : Nat) (h : N ≤ 1000) : bits .and .u64 (N : Int) 4294967295 = (N : Int) := by
  have e := bits_and_u64_nat N 4294967295 (by omega) (by omega)
  have h2 : N &&& 4294967295 = N := by
    have := Nat.and_two_pow_sub_one_eq_mod N 32
    rw [show 2 ^ 32 - 1 = 4294967295 by decide] at this
    rw [this]
    exact Nat.mod_eq_of_lt (by omega)
  rw [h2] at e
  exact e
set_option maxHeartbeats 1000000 in
theorem mul64_small (w : World) (a b N : Nat) (ha : a ≤ 100) (hb : b ≤ 100) (hN : N = a * b) : Calls Try.prog 246 #[.int .u64 a, .int .u64 b] w fun e w' => e = .returned (.tuple #[.int .u64 0, .int .u64 N]) ∧ w = w' := by
  have h0 : bits .and .u64 0 4294967295 = 0 := by decide
  have hA := and_mask a (by omega)
  have hB := and_mask b (by omega)
  have hab : a * b ≤ 10000 := Nat.mul_le_mul ha hb
  have hda : (a : Int) / 4294967296 = 0 := Int.ediv_eq_zero_of_lt (by omega) (by omega)
  have hdb : (b : Int) / 4294967296 = 0 := Int.ediv_eq_zero_of_lt (by omega) (by omega)
  have hda2 : a / 4294967296 = 0 := Nat.div_eq_of_lt (by omega)
  have hdb2 : b / 4294967296 = 0 := Nat.div_eq_of_lt (by omega)
  have hmul : (a : Int) * (b : Int) = (N : Int) := by rw [hN]; push_cast; rfl
  have hNb : N ≤ 10000 := by omega
  have hwN : IntKind.u64.wrap (N : Int) = (N : Int) := IntWalk.u64_in _ (by omega)
  have hdN : (N : Int) / 4294967296 = 0 := Int.ediv_eq_zero_of_lt (by omega) (by omega)
  have hdN2 : N / 4294967296 = 0 := Nat.div_eq_of_lt (by omega)
  clear hN hab
  go_enter Try.func246, Try.ntmps246
  go_wp2_with fail
  go_ret2
  exact ⟨rfl, rfl⟩
set_option maxHeartbeats 1000000 in
theorem mul_small (w : World) (a b N : Nat) (ha : a ≤ 100) (hb : b ≤ 100) (hN : N = a * b) : Calls Try.prog 224 #[.int .u64 a, .int .u64 b] w fun e w' => e = .returned (.tuple #[.int .u64 0, .int .u64 N]) ∧ w = w' := by
  have HN := Lib.hid hN
  clear hN
  go_enter Try.func224, Try.ntmps224
  go_wp2_with (go_at_call 246; refine (mul64_small _ a b N ha hb HN.out).mono ?_; rintro e w' ⟨rfl, rfl⟩)
  go_ret2
  exact ⟨rfl, rfl⟩
theorem wpList_copyN {P : Program} {ops : Array Oper} {rest : List Oper} {o : Oper} {a : Act} {Q : Exit → Act → World → Prop} (hgd : o.guard = none) (d x : Operand) (dT sT elem : TypeId)
    (ho : o.op = .call { callee := .builtin .copy, args := #[d, x], argTypes := #[dT, sT] }) (w : World) (g off dLen dCap : Nat) (ad : Addr) (sLen sCap s : Nat) (cur : Array Value) (t : TypeId) (cs : List Value)
    (hu : P.underlying dT = some (.slice elem)) (hs : (P.info? elem).map (·.size) = some s) (hd : a.eval d = .slice (some ⟨g, off, none⟩) dLen dCap) (hx : a.eval x = .slice (some ad) sLen sCap)
    (hg : w.heap[g]? = some (.cells cur t (0, 0))) (m : Nat) (hm : Nat.min sLen dLen = m) (hn : cs.length = m * s) (hsrc : ∀ j v, cs[j]? = some v → w.cell? (ad.add j) = some v) (hfit : off + cs.length ≤ cur.size) (h1 : ∀ v ∈ cs, v.oneCell' = true)
    (h : ∀ w', w'.heap[g]? = some (.cells (cur.toList.take off ++ cs ++ cur.toList.drop (off + cs.length)).toArray t (0, 0)) → Ch (· = g) w w' → wpList P ops Q rest (a.put o.dst (goInt m)) w') :
    wpList P ops Q (o :: rest) a w := by
  subst hm
  have hrun := run_copyN (P := P) w dT sT o.type elem g off dLen dCap ad sLen sCap s cur t cs hu hs hg hn hsrc hfit h1
  refine wpList_plain hgd fun K hK => ?_
  unfold Oper.wp execOp
  simp only [ho, resolve, invoke, builtin, Sem.run_bind, Sem.run_pure, Result.andThen_ok, List.map_toArray, List.map_cons, List.map_nil, hd, hx, hrun]
  exact hK _ _ (h _ (setRow_heap w g _ _ t _ hg) (ch_setRow hg))
theorem step_copyN {P : Program} {ops : Array Oper} {o : Oper} {a : Act} {K : Act → World → Prop} {Q : Exit → Act → World → Prop} {E : Prop} (hgd : o.guard = none) (d x : Operand) (dT sT elem : TypeId)
    (ho : o.op = .call { callee := .builtin .copy, args := #[d, x], argTypes := #[dT, sT] }) (w : World) (g off dLen dCap : Nat) (ad : Addr) (sLen sCap s : Nat) (cur : Array Value) (t : TypeId) (cs : List Value)
    (hu : P.underlying dT = some (.slice elem)) (hs : (P.info? elem).map (·.size) = some s) (hd : a.eval d = .slice (some ⟨g, off, none⟩) dLen dCap) (hx : a.eval x = .slice (some ad) sLen sCap)
    (hg : w.heap[g]? = some (.cells cur t (0, 0))) (m : Nat) (hm : Nat.min sLen dLen = m) (hn : cs.length = m * s) (hsrc : ∀ j v, cs[j]? = some v → w.cell? (ad.add j) = some v) (hfit : off + cs.length ≤ cur.size) (h1 : ∀ v ∈ cs, v.oneCell' = true)
    (h : ∀ w', w'.heap[g]? = some (.cells (cur.toList.take off ++ cs ++ cur.toList.drop (off + cs.length)).toArray t (0, 0)) → Ch (· = g) w w' → K (a.put o.dst (goInt m)) w') :
    if Region.wanted o (yielded ops a.tmps) = true then Oper.wp P o a w K Q else E := by
  subst hm
  have hrun := run_copyN (P := P) w dT sT o.type elem g off dLen dCap ad sLen sCap s cur t cs hu hs hg hn hsrc hfit h1
  have hw : Region.wanted o (yielded ops a.tmps) = true := by simp [Region.wanted, hgd]
  rw [if_pos hw]
  unfold Oper.wp
  simp [execOp, ho, resolve, invoke, builtin, hd, hx, hrun, Result.andThen]
  have hh := h _ (setRow_heap w g _ _ t _ hg) (ch_setRow hg)
  rw [List.append_assoc] at hh
  exact hh
theorem ch_und2 {F : Nat → Prop} {w w' : World} (h : Ch F w.drew w') : Ch F w w' := ⟨h.os, h.tape, h.output, h.size, h.block⟩
theorem nmin (a b : Nat) : Nat.min a b = min a b := rfl
theorem own_full {w : World} {base e s n g : Nat} {vs : List Value} (h : w.ownsRow base e s (.slice (some ⟨g, 0, none⟩) n n) n vs) : ∃ cur, w.heap[g]? = some (.cells cur e (0, 0)) ∧ cur.toList = vs := by
  rcases h.2 with ⟨h', _⟩ | ⟨g', cap, cur, h', _, hg, hnc, hcm, hcs, htake⟩
  · cases h'
  · injection h' with h1 h2 h3
    injection h1 with h1
    injection h1 with h1
    subst h1 h3
    refine ⟨cur, hg, ?_⟩
    rw [← htake, List.take_of_length_le (by simp [hcs])]
theorem rd_add {w : World} {g n : Nat} {vs : List Value} (h : Rd w (some ⟨g, 0, none⟩) n vs) {j : Nat} {v : Value} (hj : vs[j]? = some v) : w.cell? ((⟨g, 0, none⟩ : Addr).add j) = some v := by
  obtain ⟨b, off, e, _, hc⟩ := h.at_ hj
  injection e with e
  injection e with e1 e2
  subst e1 e2
  rw [add_plain']
  exact hc
/-- A word e times. -/
def rp (e : Nat) (xs : List Int) : List Int := (List.replicate e xs).flatten
theorem rp_len (e : Nat) (xs : List Int) : (rp e xs).length = e * xs.length := by simp [rp]
theorem rp_add (i j : Nat) (xs : List Int) : rp (i + j) xs = rp i xs ++ rp j xs := by unfold rp; rw [← List.replicate_append_replicate, List.flatten_append]
theorem rp_one (xs : List Int) : rp 1 xs = xs := by simp [rp]
def stW (xs : List Int) (j e : Nat) : List Value := ints (rp j xs) ++ List.replicate (e * xs.length - j * xs.length) (.int .i64 0)
theorem stW_len {xs : List Int} {j e : Nat} (h : j ≤ e) : (stW xs j e).length = e * xs.length := by
  have := Nat.mul_le_mul_right xs.length h
  simp [stW, rp_len]; omega
theorem stW_step {xs : List Int} {j i e : Nat} (h : j + i ≤ e) : (stW xs j e).take (j * xs.length) ++ ints (rp i xs) ++ (stW xs j e).drop (j * xs.length + (ints (rp i xs)).length) = stW xs (j + i) e := by
  have h2 := Nat.mul_le_mul_right xs.length h
  rw [Nat.add_mul] at h2
  have e1 : (ints (rp j xs)).length = j * xs.length := by simp [rp_len]
  have e2 : (ints (rp i xs)).length = i * xs.length := by simp [rp_len]
  unfold stW
  rw [List.take_append_of_le_length (by omega), List.take_of_length_le (by omega), e2, List.drop_append, List.drop_of_length_le (by omega), e1, List.nil_append, List.drop_replicate, rp_add]
  rw [show j * xs.length + i * xs.length - j * xs.length = i * xs.length by omega]
  rw [show e * xs.length - j * xs.length - i * xs.length = e * xs.length - (j + i) * xs.length by rw [Nat.add_mul]; omega]
  simp
theorem stW_get {xs : List Int} {j i e k : Nat} {v : Value} (hij : i ≤ j) (h : (ints (rp i xs))[k]? = some v) : (stW xs j e)[k]? = some v := by
  obtain ⟨r, rfl⟩ : ∃ r, j = i + r := ⟨j - i, by omega⟩
  have hk := (List.getElem?_eq_some_iff.1 h).1
  unfold stW
  rw [rp_add, ← ints_append', List.append_assoc, List.getElem?_append_left hk]
  exact h
set_option maxHeartbeats 4000000 in
set_option maxRecDepth 100000 in
theorem repeatI_any (w : World) (b off p c e N : Nat) (xs : List Int) (hr : Rd w (some ⟨b, off, none⟩) p (ints xs)) (h1 : 1 ≤ p) (hp : p ≤ 100) (he : 1 ≤ e) (he2 : e ≤ 100) (hN : N = p * e) :
    Calls Try.prog 169 #[.slice (some ⟨b, off, none⟩) p c, .int .i64 e] w (RetS w 2 (ints (rp e xs))) := by
  have hl : xs.length = p := by simpa using hr.1
  have hNb : N ≤ 10000 := by rw [hN]; exact Nat.mul_le_mul hp he2
  have hpN : p ≤ N := by rw [hN]; exact Nat.le_mul_of_pos_right p (by omega)
  have hNe : N = e * p := by rw [hN, Nat.mul_comm]
  have HNE := Lib.hid hNe; have HL := Lib.hid hl; have HN := Lib.hid hN
  have hneg : ¬ (e : Int) < 0 := by omega
  have hcp : IntKind.u64.wrap (p : Int) = (p : Int) := IntWalk.u64_in _ (by omega)
  have hce : IntKind.u64.wrap (e : Int) = (e : Int) := IntWalk.u64_in _ (by omega)
  have hci : IntKind.i64.wrap (N : Int) = (N : Int) := IntWalk.i64_in _ (by omega)
  have hmx : ¬ (9223372036854775807 : Int) < (N : Int) := by omega
  have hmxd : decide ((9223372036854775807 : Int) < (N : Int)) = false := decide_eq_false hmx
  have HR := Lib.hid hr
  clear hNe hl hN
  go_enter Try.func169, Try.ntmps169
  go_wp2_with (first
    | (go_at_call 224; refine (mul_small _ p e N hp he2 HN.out).mono ?_; rintro e w' ⟨rfl, rfl⟩)
    | (at_make; go_must (refine wpList_mk Try.eltI rfl _ _ rfl w _ _ N (by rfl) (by rfl) (by omega) (by omega) (by omega) ?_); rintro w1 hown1 hb1 hs1; obtain ⟨cur, hg1, hcur⟩ := own_full hown1; have hcur2 : cur.toList = stW xs 0 e := (by rw [hcur]; simp [stW, rp, HL.out, HNE.out]); have hsz : cur.size = N := (by have := congrArg List.length hcur; simpa using this); have HCU := Lib.hid hcur2; have HSZ := Lib.hid hsz; clear hcur hcur2 hsz hown1)
    | (refine wpList_copyN rfl _ _ 25 25 2 rfl w1 w.heap.size 0 N N ⟨b, off, none⟩ p c 1 cur 2 (ints xs) Try.underlying25 Try.szI (by rfl) (by rfl) hg1 p (by rw [nmin]; omega) (by simp [HL.out]) (by intro j v hj; have h := (HR.out.below hb1 (Nat.le_refl _)).at_ hj; obtain ⟨b', o', e1, _, h2⟩ := h; injection e1 with e1; injection e1 with e1 e2; subst e1 e2; rw [add_plain']; exact h2) (by rw [HSZ.out]; simp [HL.out]; omega) ints_one ?_; intro w2 hg2 hc2))
  have hG2 : w2.heap[w.heap.size]? = some (.cells (stW xs 1 e).toArray 2 (0, 0)) := by
    rw [hg2, HCU.out]
    have h := stW_step (xs := xs) (j := 0) (i := 1) (e := e) (by omega)
    simp only [Nat.zero_mul, Nat.zero_add, rp_one] at h
    simp only [Nat.zero_add]
    rw [h]
  have hB2 := below_ch hb1 hc2 (fun k h => by omega) hb1.size
  have HB2 := Lib.hid hB2; have HG2 := Lib.hid hG2
  clear hg2 hc2 hG2 hB2 hg1 hb1
  go_wp2_with fail
  go_loopw [8] (fun q wr => ∃ (j n : Nat), 1 ≤ j ∧ j ≤ e ∧ Hid (n = j * p) ∧ n ≤ N ∧ q = .int .i64 n ∧ wr.heap[w.heap.size]? = some (.cells (stW xs j e).toArray 2 (0, 0)) ∧ Below w.heap.size w wr) (fun q _ => N - (intOf q).toNat)
  case atStart => exact ⟨1, p, Nat.le_refl _, he, Lib.hid (by omega), hpN, rfl, HG2.out, HB2.out⟩
  case round =>
    obtain ⟨j, n, hj1, hje, HJ, hnN, rfl, hg, hb⟩ := hrel
    by_cases h : n < N
    · have hlt : (n : Int) < (N : Int) := by omega
      have hjlt : j < e := by
        rcases Nat.lt_or_ge j e with h2 | h2
        · exact h2
        · exfalso
          have h3 : e = j := by omega
          have h4 := HJ.out; have h5 := HNE.out
          rw [h3] at h5; omega
      obtain ⟨i, hi⟩ : ∃ i, i = min j (e - j) := ⟨_, rfl⟩
      obtain ⟨k, hk⟩ : ∃ k, k = i * p := ⟨_, rfl⟩
      have hij : i ≤ j := by omega
      have hi1 : 1 ≤ i := by omega
      have hie : j + i ≤ e := by omega
      have hk1 : 1 ≤ k := by rw [hk]; exact Nat.le_trans h1 (Nat.le_mul_of_pos_left p (by omega))
      have hmn : Nat.min n (N - n) = k := by
        rw [nmin]
        have h5 := HNE.out; have h6 := HJ.out
        by_cases h7 : j ≤ e - j
        · have e1 : i = j := by omega
          have h8 : (j + j) * p ≤ e * p := Nat.mul_le_mul_right p (by omega)
          rw [Nat.add_mul] at h8
          rw [hk, e1]; omega
        · have e1 : i = e - j := by omega
          have h8 : e * p ≤ (j + j) * p := Nat.mul_le_mul_right p (by omega)
          rw [Nat.add_mul] at h8
          have h9 : (e - j) * p = e * p - j * p := Nat.sub_mul _ _ _
          rw [hk, e1, h9]; omega
      have hkN : n + k ≤ N := by rw [← hmn, nmin]; omega
      have HJI : Hid (n + k = (j + i) * p) := Lib.hid (by rw [hk, Nat.add_mul]; have := HJ.out; omega)
      have HMN := Lib.hid hmn; have HK := Lib.hid hk
      clear hmn hk hi
      have hs1 := fun (w0 : World) => run_cut Try.underlying25 Try.szI w0 w.heap.size 0 N N n (n : Int) .i64 rfl (by omega) h
      have hs2 := fun (w0 : World) => run_cutH Try.underlying25 Try.szI w0 (some ⟨w.heap.size, 0, none⟩) N N n (n : Int) .i64 rfl (by omega)
      simp only [Nat.zero_add, Nat.mul_one] at hs1
      have hwk : IntKind.i64.wrap ((n : Int) + (k : Int)) = (n : Int) + (k : Int) := IntWalk.i64_in _ (by omega)
      have HBB := Lib.hid hb
      have hsrc : ∀ q v, (ints (rp i xs))[q]? = some v → wr.cell? ((⟨w.heap.size, 0, none⟩ : Addr).add q) = some v := fun q v hq => by
        rw [add_plain', Nat.zero_add]
        exact blk_cell hg q (by have := stW_get (e := e) hij hq; simpa using this)
      have HSRC := Lib.hid hsrc; clear hsrc
      have HLEN : Hid ((ints (rp i xs)).length = k * 1) := Lib.hid (by rw [HK.out]; simp [rp_len, HL.out])
      have HFIT : Hid (n + (ints (rp i xs)).length ≤ (stW xs j e).toArray.size) := Lib.hid (by rw [HLEN.out]; simp only [List.size_toArray, stW_len hje, HL.out]; have := HNE.out; omega)
      go_wp2_with fail
      (first | (go_region_law (first
        | (refine step_copyN (by rfl) _ _ 25 25 2 (by rfl) _ w.heap.size n (N - n) (N - n) ⟨w.heap.size, 0, none⟩ n N 1 (stW xs j e).toArray 2 (ints (rp i xs)) Try.underlying25 Try.szI (by rfl) (by rfl) (by exact hg) k HMN.out HLEN.out (by exact HSRC.out) HFIT.out ints_one ?_
           intro w3 hg3 hc3
           have HG3 := Lib.hid hg3; clear hg3))) | fail)
      all_goals
        clear hwk
        go_wp2_with fail
        go_roundw
        case rel => exact ⟨j + i, by omega, hie, n + k, HJI, hkN, by push_cast; rfl, by rw [HG3.out]; have h5 := stW_step (xs := xs) hie; rw [HL.out, ← HJ.out] at h5; rw [← h5], below_ch HBB.out ((fun h => ⟨h.os, h.tape, h.output, h.size, h.block⟩ : ∀ {F : Nat → Prop} {a b : World}, Ch F a.drew b → Ch F a b) hc3) (fun z hz => by omega) HBB.out.size⟩
        case measure => simp [intOf]; omega
    · obtain rfl : n = N := by omega
      have hje2 : j = e := by
        rcases Nat.lt_or_ge j e with h2 | h2
        · exfalso
          have h4 := HJ.out; have h5 := HNE.out
          have h6 : (j + 1) * p ≤ e * p := Nat.mul_le_mul_right p (by omega)
          rw [Nat.add_mul] at h6; omega
        · omega
      subst hje2
      have HS : Hid (stW xs j j = ints (rp j xs)) := Lib.hid (by simp [stW])
      have HSL : Hid ((ints (rp j xs)).length = n) := Lib.hid (by simp [rp_len, HL.out]; exact HJ.out.symm)
      go_wp2_with fail
      go_ret
      rw [HS.out] at hg
      exact ⟨_, n, _, rfl, ⟨by rw [HSL.out]; simp, .inr ⟨w.heap.size, n, _, rfl, Nat.le_refl _, hg, Nat.le_refl _, by unfold maxLen; omega, by rw [List.size_toArray, HSL.out]; simp, by rw [List.take_of_length_le (by rw [HSL.out]; omega)]⟩⟩, hb⟩
set_option maxHeartbeats 4000000 in
theorem PowerWord_any (w : World) (A : Option Addr) (p c e : Nat) (xs : List Int) (hr : Rd w A p (ints xs)) (h1 : 1 ≤ p) (hp : p ≤ 100) (he : 1 ≤ e) (hpe : p * e ≤ 100) (hx : allIn xs 0 9 = true) :
    Calls Try.prog 80 #[.slice A p c, .int .i64 e] w (RetSI w 2 (ints (rp e xs)) 0) := by
  obtain ⟨b, off, rfl, _, _⟩ := hr.2 (by omega)
  have he2 : e ≤ 100 := Nat.le_trans (Nat.le_mul_of_pos_left e (by omega)) hpe
  have HX := Lib.hid hx
  have HIN : Hid (inB (e : Int) 0 400 = true) := Lib.hid (inB_true.2 (by omega))
  obtain ⟨N, hN⟩ : ∃ N, N = p * e := ⟨_, rfl⟩
  have HN := Lib.hid hN
  have hNb : N ≤ 100 := by omega
  have hmul : (e : Int) * (p : Int) = (N : Int) := by rw [hN, Nat.mul_comm]; push_cast; rfl
  have hw : IntKind.i64.wrap (N : Int) = (N : Int) := IntWalk.i64_in _ (by omega)
  have hgt : ¬ (400 : Int) < (N : Int) := by omega
  clear hx hN hpe
  go_enter Try.func80, Try.ntmps80
  go_wp2_with fail
  refine (IsWord_small _ _ _ _ xs hr (by omega) HX.out).mono ?_
  rintro e' w2 ⟨rfl, rfl⟩
  go_wp2_with fail
  refine (within_any _ _ _ _).mono ?_
  rw [HIN.out]
  rintro e' w2 ⟨rfl, rfl⟩
  go_wp2_with fail
  refine (sizeI_any _ _ p c).mono ?_
  rintro e' w2 ⟨rfl, rfl⟩
  go_wp2_with fail
  refine (repeatI_any _ b off p c e N xs hr h1 hp he he2 HN.out).mono ?_
  rintro e' w3 ⟨A3, n3, c3, rfl, ho3, hb3⟩
  go_wp2_with fail
  go_ret2
  exact ⟨A3, n3, c3, rfl, ho3, hb3⟩
end Go.Proofs.Ytbecofpklndpaaa
