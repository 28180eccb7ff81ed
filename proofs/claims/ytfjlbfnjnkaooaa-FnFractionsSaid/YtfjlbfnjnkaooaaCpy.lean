/- Copies of rows of numbers. -/
import Derived.Test.YtfjlbfnjnkaooaaLawI
import Derived.Test.YtfjlbfnjnkaooaaRet
namespace Go.Proofs.Ytfjlbfnjnkaooaa
open Go.RowKit
theorem Try.eltI : Elt Try.prog 25 2 (.int .i64 0) := Elt.mk_ Try.underlying25 Try.infoI rfl (by decide)
theorem ints_one {vs : List Int} : ∀ u ∈ ints vs, u.oneCell' = true := by
  intro u hu
  obtain ⟨x, _, rfl⟩ := List.mem_map.1 hu
  rfl
theorem Rd.tail {w : World} {b off n : Nat} {vs : List Value} (h : Rd w (some ⟨b, off, none⟩) n vs) (k : Nat) (hk : k ≤ n) : Rd w (some ⟨b, off + k, none⟩) (n - k) (vs.drop k) := by
  refine ⟨by have := h.1; simp; omega, fun hn => ?_⟩
  obtain ⟨b', off', e, hlt, hc⟩ := h.2 (by omega)
  injection e with e
  injection e with e1 e2
  subst e1 e2
  exact ⟨b, off + k, rfl, hlt, fun j u hu => by rw [Nat.add_assoc]; exact hc (k + j) u (by rwa [List.getElem?_drop] at hu)⟩
theorem Rd.take {w : World} {A : Option Addr} {n : Nat} {vs : List Value} (h : Rd w A n vs) (k : Nat) (hk : k ≤ n) : Rd w A k (vs.take k) := by
  refine ⟨by have := h.1; simp; omega, fun hn => ?_⟩
  obtain ⟨b', off', e, hlt, hc⟩ := h.2 (by omega)
  refine ⟨b', off', e, hlt, fun j u hu => hc j u ?_⟩
  rw [List.getElem?_take] at hu
  split at hu
  · exact hu
  · cases hu
theorem Rd.any {w : World} {A A' : Option Addr} {vs : List Value} (h : Rd w A 0 vs) : Rd w A' 0 vs := ⟨h.1, fun h => by omega⟩
theorem run_size {P : Program} {e : TypeId} {sz : Nat} (hi : (P.info? e).map (·.size) = some sz) (w : World) : (sizeOf e).run P w = .ok sz w := by
  cases hq : P.info? e with
  | none => rw [hq] at hi; cases hi
  | some inf =>
    rw [hq] at hi
    simp at hi
    simp [sizeOf, typeInfo, hq, hi]
theorem add_plain' (b off k : Nat) : (⟨b, off, none⟩ : Addr).add k = ⟨b, off + k, none⟩ := by
  unfold Addr.add
  split
  · rename_i h; subst h; rfl
  · rfl
/-- 'append(s, src...)': the source is any slice that reads as cells. -/
theorem wpList_appSg {P : Program} {ops : Array Oper} {rest : List Oper} {o : Oper} {a : Act} {Q : Exit → Act → World → Prop} {t e : TypeId} {z : Value} (hE : Elt P t e z) (hgd : o.guard = none) (s x : Operand)
    (ho : o.op = .call { callee := .builtin .append, args := #[s, x], argTypes := #[t, t] }) (W : World) (base : Nat) (v : Value) (n : Nat) (vs : List Value) (hs : a.eval s = v) (hown : W.ownsRow base e 1 v n vs)
    (A0 : Option Addr) (m c0 : Nat) (us : List Value) (hx : a.eval x = .slice A0 m c0) (hr : Rd W A0 m us) (hu : ∀ u ∈ us, u.oneCell' = true) (hbase : base ≤ W.heap.size) (hn : n + m ≤ 1099511627776)
    (h : ∀ A c w', w'.ownsRow base e 1 (.slice A (n + m) c) (n + m) (vs ++ us) → Below base W w' → W.grownBy w' v.ownBlock → wpList P ops Q rest (a.put o.dst (.slice A (n + m) c)) w') :
    wpList P ops Q (o :: rest) a W := by
  obtain ⟨ht, hzc, i, hi, hz, hs1, hb⟩ := hE
  rcases Nat.eq_zero_or_pos m with hm | hm
  · subst hm
    have hus : us = [] := List.eq_nil_of_length_eq_zero (by simpa using hr.1)
    subst hus
    obtain ⟨A, c, rfl, hnc, _⟩ := own_form hown
    have hrun : (Builtin.append_ #[t, t] o.type #[.slice A n c, .slice A0 0 c0]).run P W = .ok (.slice A n c) W := by
      rcases hown.2 with ⟨h', h0⟩ | ⟨g, cap, cur, h', _⟩
      · injection h' with h1 h2 h3
        subst h1 h2 h3
        cases A0 <;> simp [Builtin.append_, run_underlying ht, sizeOf, typeInfo, hi, Builtin.lenOf, Builtin.firstCells, loadCells, loadCellsFrom]
      · injection h' with h1 h2 h3
        subst h1 h3
        cases A0 <;> simp [Builtin.append_, run_underlying ht, sizeOf, typeInfo, hi, Builtin.lenOf, Builtin.firstCells, loadCells, loadCellsFrom, hnc, storeCells]
    refine wpList_plain hgd fun K hK => ?_
    unfold Oper.wp execOp
    simp only [ho, resolve, invoke, builtin, Sem.run_bind, Sem.run_pure, Result.andThen_ok, List.map_toArray, List.map_cons, List.map_nil, hs, hx, hrun]
    exact hK _ _ (h A c W (by simpa using hown) (Below.refl _ _) ⟨rfl, rfl, rfl, Nat.le_refl _, fun _ _ _ => rfl⟩)
  · obtain ⟨b, off, rfl, hlt, hc⟩ := hr.2 hm
    refine wpList_append_own _ hgd s x t ho base e i z 1 i.bytes ht hi hz hs1 rfl (by rw [hzc]; rfl) (by decide) v n vs hs hown ⟨b, off, none⟩ m c0 us hx (by simpa using hr.1) ?_ hu (by unfold maxLen; omega) ?_ hbase ?_
    · intro j u hj
      have := hc j u hj
      unfold Addr.add
      split
      · rename_i h0; subst h0; simpa using this
      · exact this
    · have : (n + m) * i.bytes ≤ (n + m) * 24 := Nat.mul_le_mul_left _ hb
      omega
    · intro v' w' ho' hg _
      obtain ⟨A, c, rfl, _, _⟩ := own_form ho'
      exact h A c w' ho' (below_grown hg hbase (fun k hk => (hown.lt k hk).1)) hg

/-- 's[i:]'. -/
theorem run_cut {P : Program} {t e : TypeId} {sz : Nat} (ht : P.underlying t = some (.slice e)) (hi : (P.info? e).map (·.size) = some sz) (w : World) (b off len cap k : Nat) (i : Int) (q : IntKind) (hik : i = k) (h1 : k ≤ len) (h2 : k < cap) :
    (Instr.slice t (.slice (some ⟨b, off, none⟩) len cap) (some (.int q i)) none none).run P w = .ok (.slice (some ⟨b, off + k * sz, none⟩) (len - k) (cap - k)) w := by
  have ee : P.elem t = e := by simp [Program.elem, ht]
  subst hik
  rw [run_slice_l w t _ len cap (by rw [ee]; exact ht) q k (by omega) (by omega), ee, run_size hi w]
  simp only [Result.andThen, sliced, Option.map_some, Int.toNat_natCast, add_plain']
  rw [if_neg (by omega)]
/-- 's[i:]' where i is the capacity: nothing is left, and the address stays. -/
theorem run_cut0 {P : Program} {t e : TypeId} {sz : Nat} (ht : P.underlying t = some (.slice e)) (hi : (P.info? e).map (·.size) = some sz) (w : World) (A : Option Addr) (len cap k : Nat) (i : Int) (q : IntKind) (hik : i = k) (h1 : k ≤ len) (h2 : k = cap) :
    (Instr.slice t (.slice A len cap) (some (.int q i)) none none).run P w = .ok (.slice A (len - k) (cap - k)) w := by
  have ee : P.elem t = e := by simp [Program.elem, ht]
  subst hik
  rw [run_slice_l w t _ len cap (by rw [ee]; exact ht) q k (by omega) (by omega), ee, run_size hi w]
  simp only [Result.andThen, sliced, Int.toNat_natCast]
  rw [if_pos (by omega)]
theorem Try.szI : (Try.prog.info? 2).map (·.size) = some 1 := by kernel_rfl
set_option maxHeartbeats 400000 in
theorem clone_any (w : World) (A : Option Addr) (n c : Nat) (xs : List Int) (hr : Rd w A n (ints xs)) (hn : n ≤ 1000000000) :
    Calls Try.prog 47 #[.slice A n c] w (RetS w 2 (ints xs)) := by
  have hnil := fun (w : World) => Lib.run_eql_slice_nil (P := Try.prog) w 25 2 A n c 0 0 Try.underlying25
  cases A with
  | none =>
    have hx : xs = [] := by
      rcases Nat.eq_zero_or_pos n with h | h
      · have := hr.1; simp at this; exact List.eq_nil_of_length_eq_zero (by omega)
      · obtain ⟨_, _, h', _⟩ := hr.2 h; cases h'
    subst hx
    go_enter Try.func47, Try.ntmps47
    go_wp2_with fail
    go_ret
    exact ⟨none, 0, 0, rfl, own_nil _ _ _, Below.refl _ _⟩
  | some a =>
    have hown := own_lit w #[] 0 2 rfl (by omega)
    go_enter Try.func47, Try.ntmps47
    go_wp2_with (at_builtin; go_must (refine wpList_appS Try.eltI rfl _ _ rfl (w.alloc (.cells #[] 2)) w.heap.size _ 0 _ (by rfl) hown _ n c (ints xs) (by rfl) (hr.alloc _) ints_one (by simp) (by omega) ?_); rintro A1 c1 w1 hown1 hb1)
    go_ret
    simp only [Nat.zero_add, List.nil_append] at hown1
    exact ⟨A1, n, c1, rfl, hown1, (below_new _ _).trans hb1⟩
end Go.Proofs.Ytfjlbfnjnkaooaa
