/- copy of elements of several cells, small multiplications. Printed by mk_rp2.py. -/
import Derived.Test.YtadmbphefpfbmaaGreatDoorGK
import Derived.Laws.CopyRow
import Derived.Laws.CopyOwn
import Derived.Laws.Bits64b
import Derived.Deep.RegionLaw
namespace Go.Proofs.YtadmbphefpfbmaaGreatDoor
open Go.RowKit
theorem run_copyN {P : Program} (w : World) (dT sT ty elem : TypeId) (g o dLen dCap : Nat) (a : Addr) (sLen sCap s : Nat) (cur : Array Value) (t : TypeId) (cs : List Value)
    (hu : P.underlying dT = some (.slice elem)) (hs : (P.info? elem).map (·.size) = some s)
    (hg : w.heap[g]? = some (.cells cur t (0, 0))) (hn : cs.length = Nat.min sLen dLen * s)
    (hsrc : ∀ j v, cs[j]? = some v → w.cell? (a.add j) = some v) (hfit : o + cs.length ≤ cur.size) (h1 : ∀ v ∈ cs, v.oneCell' = true) :
    (Builtin.copy_ #[dT, sT] ty #[.slice (some ⟨g, o, none⟩) dLen dCap, .slice (some a) sLen sCap]).run P w =
      .ok (goInt (Nat.min sLen dLen)) (w.setRow g (cur.toList.take o ++ cs ++ cur.toList.drop (o + cs.length)).toArray) := by
  have hl := run_loadCells_list (P := P) w a cs hsrc
  have hst := run_storeCells_at P g o t cs 0 cur w hg (by simpa using hfit) h1
  cases hq : P.info? elem with
  | none => simp [hq] at hs
  | some i =>
    have hi : i.size = s := by simpa [hq] using hs
    rw [hn] at hl
    simp [Builtin.copy_, run_underlying hu, Builtin.lenOf, Builtin.firstCells, sizeOf, typeInfo, hq, hi, hl, hst]

set_option linter.unusedVariables false
set_option linter.unusedSimpArgs false
theorem ch_setRow {w : World} {g : Nat} {cur cs : Array Value} {t : Nat} (hg : w.heap[g]? = some (.cells cur t (0, 0))) : Ch (· = g) w (w.setRow g cs) := by
  have h := below_setRow (B := 0) (Below.refl 0 w) (Nat.zero_le g) cs
  refine ⟨h.os, h.tape, h.output, h.size, fun k hk hn => ?_⟩
  have hn' : g ≠ k := fun e => hn e.symm
  simp [World.setRow, Array.getElem?_modify, hn']
theorem and_mask (N : Nat) (h : N ≤ 1000) : bits .and .u64 (N : Int) 4294967295 = (N : Int) := by
  have e := bits_and_u64_nat N 4294967295 (by omega) (by omega)
  have h2 : N &&& 4294967295 = N := by
    have := Nat.and_two_pow_sub_one_eq_mod N 32
    rw [show 2 ^ 32 - 1 = 4294967295 by decide] at this
    rw [this]
    exact Nat.mod_eq_of_lt (by omega)
  rw [h2] at e
  exact e
set_option maxHeartbeats 1000000 in
theorem mul64_one (w : World) (N : Nat) (h : N ≤ 1000) : Calls Tryz.prog 119 #[.int .u64 1, .int .u64 N] w fun e w' => e = .returned (.tuple #[.int .u64 0, .int .u64 N]) ∧ w = w' := by
  have h1 : bits .and .u64 1 4294967295 = 1 := by decide
  have h0 : bits .and .u64 0 4294967295 = 0 := by decide
  have hN := and_mask N h
  have hd : (N : Int) / 4294967296 = 0 := Int.ediv_eq_zero_of_lt (by omega) (by omega)
  have hd2 : N / 4294967296 = 0 := Nat.div_eq_of_lt (by omega)
  go_enter Tryz.func119, Tryz.ntmps119
  go_wp2_with fail
  go_ret2
  exact ⟨rfl, rfl⟩
set_option maxHeartbeats 1000000 in
theorem mul_one' (w : World) (N : Nat) (h : N ≤ 1000) : Calls Tryz.prog 77 #[.int .u64 1, .int .u64 N] w fun e w' => e = .returned (.tuple #[.int .u64 0, .int .u64 N]) ∧ w = w' := by
  go_enter Tryz.func77, Tryz.ntmps77
  go_wp2_with (go_at_call 119; refine (mul64_one _ N h).mono ?_; rintro e w' ⟨rfl, rfl⟩)
  go_ret2
  exact ⟨rfl, rfl⟩
theorem wpList_copyN {P : Program} {ops : Array Oper} {rest : List Oper} {o : Oper} {a : Act} {Q : Exit → Act → World → Prop} (hgd : o.guard = none) (d x : Operand) (dT sT elem : TypeId)
    (ho : o.op = .call { callee := .builtin .copy, args := #[d, x], argTypes := #[dT, sT] }) (w : World) (g off dLen dCap : Nat) (ad : Addr) (sLen sCap s : Nat) (cur : Array Value) (t : TypeId) (cs : List Value)
    (hu : P.underlying dT = some (.slice elem)) (hs : (P.info? elem).map (·.size) = some s) (hd : a.eval d = .slice (some ⟨g, off, none⟩) dLen dCap) (hx : a.eval x = .slice (some ad) sLen sCap)
    (hg : w.heap[g]? = some (.cells cur t (0, 0))) (m : Nat) (hm : Nat.min sLen dLen = m) (hn : cs.length = m * s) (hsrc : ∀ j v, cs[j]? = some v → w.cell? (ad.add j) = some v) (hfit : off + cs.length ≤ cur.size) (h1 : ∀ v ∈ cs, v.oneCell' = true)
    (h : ∀ w', w'.heap[g]? = some (.cells (cur.toList.take off ++ cs ++ cur.toList.drop (off + cs.length)).toArray t (0, 0)) → Ch (· = g) w w' → wpList P ops Q rest (a.put o.dst (goInt m)) w') :
    wpList P ops Q (o :: rest) a w := by
  subst hm
  have hrun := run_copyN (P := P) w dT sT o.type elem g off dLen dCap ad sLen sCap s cur t cs hu hs hg hn hsrc hfit h1
  refine wpList_plain hgd fun K hK => ?_
  unfold Oper.wp execOp
  simp only [ho, resolve, invoke, builtin, Sem.run_bind, Sem.run_pure, Result.andThen_ok, List.map_toArray, List.map_cons, List.map_nil, hd, hx, hrun]
  exact hK _ _ (h _ (setRow_heap w g _ _ t _ hg) (ch_setRow hg))
theorem step_copyN {P : Program} {ops : Array Oper} {o : Oper} {a : Act} {K : Act → World → Prop} {Q : Exit → Act → World → Prop} {E : Prop} (hgd : o.guard = none) (d x : Operand) (dT sT elem : TypeId)
    (ho : o.op = .call { callee := .builtin .copy, args := #[d, x], argTypes := #[dT, sT] }) (w : World) (g off dLen dCap : Nat) (ad : Addr) (sLen sCap s : Nat) (cur : Array Value) (t : TypeId) (cs : List Value)
    (hu : P.underlying dT = some (.slice elem)) (hs : (P.info? elem).map (·.size) = some s) (hd : a.eval d = .slice (some ⟨g, off, none⟩) dLen dCap) (hx : a.eval x = .slice (some ad) sLen sCap)
    (hg : w.heap[g]? = some (.cells cur t (0, 0))) (m : Nat) (hm : Nat.min sLen dLen = m) (hn : cs.length = m * s) (hsrc : ∀ j v, cs[j]? = some v → w.cell? (ad.add j) = some v) (hfit : off + cs.length ≤ cur.size) (h1 : ∀ v ∈ cs, v.oneCell' = true)
    (h : ∀ w', w'.heap[g]? = some (.cells (cur.toList.take off ++ cs ++ cur.toList.drop (off + cs.length)).toArray t (0, 0)) → Ch (· = g) w w' → K (a.put o.dst (goInt m)) w') :
    if Region.wanted o (yielded ops a.tmps) = true then Oper.wp P o a w K Q else E := by
  subst hm
  have hrun := run_copyN (P := P) w dT sT o.type elem g off dLen dCap ad sLen sCap s cur t cs hu hs hg hn hsrc hfit h1
  have hw : Region.wanted o (yielded ops a.tmps) = true := by simp [Region.wanted, hgd]
  rw [if_pos hw]
  unfold Oper.wp
  simp [execOp, ho, resolve, invoke, builtin, hd, hx, hrun, Result.andThen]
  have hh := h _ (setRow_heap w g _ _ t _ hg) (ch_setRow hg)
  rw [List.append_assoc] at hh
  exact hh
/-- 's[:i]'. -/
theorem run_cutTo {P : Program} {t e : TypeId} {sz : Nat} (ht : P.underlying t = some (.slice e)) (hi : (P.info? e).map (·.size) = some sz) (w : World) (A : Option Addr) (len cap k : Nat) (i : Int) (q : IntKind) (hik : i = k) (h1 : k ≤ cap) :
    (Instr.slice t (.slice A len cap) none (some (.int q i)) none).run P w = .ok (.slice A k cap) w := by
  have ee : P.elem t = e := by simp [Program.elem, ht]
  subst hik
  rw [run_slice_h w t _ len cap (by rw [ee]; exact ht) q k (by omega) (by omega), ee, run_size hi w]
  have ha : ∀ a : Addr, a.add 0 = a := fun a => by simp [Addr.add]
  simp only [Result.andThen, sliced, Int.toNat_natCast, Nat.zero_mul, Nat.sub_zero, ha]
  cases A <;> simp
theorem ch_und2 {F : Nat → Prop} {w w' : World} (h : Ch F w.drew w') : Ch F w w' := ⟨h.os, h.tape, h.output, h.size, h.block⟩
theorem nmin (a b : Nat) : Nat.min a b = min a b := rfl
theorem own_fullX {w : World} {base e s n g : Nat} {vs : List Value} (h : w.ownsRow base e s (.slice (some ⟨g, 0, none⟩) n n) n vs) : ∃ cur, w.heap[g]? = some (.cells cur e (0, 0)) ∧ cur.toList = vs := by
  rcases h.2 with ⟨h', _⟩ | ⟨g', cap, cur, h', _, hg, hnc, hcm, hcs, htake⟩
  · cases h'
  · injection h' with h1 h2 h3
    injection h1 with h1
    injection h1 with h1
    subst h1 h3
    refine ⟨cur, hg, ?_⟩
    rw [← htake, List.take_of_length_le (by simp [hcs])]
theorem rdx_add {w : World} {b off n : Nat} {vs : List Value} (h : Rd w (some ⟨b, off, none⟩) n vs) {j : Nat} {v : Value} (hj : vs[j]? = some v) : w.cell? ((⟨b, off, none⟩ : Addr).add j) = some v := by
  obtain ⟨b', off', e, _, hc⟩ := h.at_ hj
  injection e with e
  injection e with e1 e2
  subst e1 e2
  rw [add_plain']
  exact hc
end Go.Proofs.YtadmbphefpfbmaaGreatDoor
