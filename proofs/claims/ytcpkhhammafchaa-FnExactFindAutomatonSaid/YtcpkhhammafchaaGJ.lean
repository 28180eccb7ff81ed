/- Texts in one file: Nn, Is. -/
import Derived.Test.YtcpkhhammafchaaGF
import Derived.Test.YtcpkhhammafchaaGI
/- The contexts that can follow (reference). Written by mk_nn.py. -/
namespace Go.Proofs.Ytcpkhhammafchaa
open Go.RowKit
set_option linter.unusedVariables false
set_option linter.unusedSimpArgs false
/-- 'append(s, t...)' in a plain region, by footprint. -/
theorem wpList_appOz {P : Program} {ops : Array Oper} {rest : List Oper} {o : Oper} {a : Act} {Q : Exit → Act → World → Prop} {t e : TypeId} {z : Value} (hE : Elt P t e z) (hgd : o.guard = none) (s x : Operand)
    (ho : o.op = .call { callee := .builtin .append, args := #[s, x], argTypes := #[t, t] }) (W : World) (base : Nat) (A A0 : Option Addr) (n c m c0 : Nat) (vs us : List Value) (hs : a.eval s = .slice A n c) (hown : W.ownsRow base e 1 (.slice A n c) n vs)
    (hx : a.eval x = .slice A0 m c0) (hr : Rd W A0 m us) (hu : ∀ u ∈ us, u.oneCell' = true) (hn : n + m ≤ 1099511627776)
    (h : ∀ A' c' w', w'.ownsRow 0 e 1 (.slice A' (n + m) c') (n + m) (vs ++ us) → Ch (Fo (.slice A n c)) W w' → (∀ k, Fo (.slice A' (n + m) c') k → Fo (.slice A n c) k ∨ W.heap.size ≤ k) → wpList P ops Q rest (a.put o.dst (.slice A' (n + m) c')) w') :
    wpList P ops Q (o :: rest) a W := by
  obtain ⟨A', c', w', hrun, k1, k2, k3⟩ := run_appOz (ty := o.type) (c0 := c0) hE hown hr hu hn
  refine wpList_plain hgd fun K hK => ?_
  unfold Oper.wp execOp
  simp only [ho, resolve, invoke, builtin, Sem.run_bind, Sem.run_pure, Result.andThen_ok, List.map_toArray, List.map_cons, List.map_nil, hs, hx, hrun]
  exact hK _ _ (h A' c' w' k1 k2 k3)
/-- A row of numbers of the call's own, above a block. -/
structure Row (w0 w : World) (A : Option Addr) (n c : Nat) (xs : List Int) : Prop where
  own : w.ownsRow 0 2 1 (.slice A n c) n (ints xs)
  lo : ∀ q, Fo (.slice A n c) q → w0.heap.size ≤ q
  bel : Below w0.heap.size w0 w
section
variable {w0 w w' w2 w3 : World} {A A' : Option Addr} {n c n' c' : Nat} {xs ys : List Int} {x : Int}
theorem Row.of (ho : w.ownsRow w0.heap.size 2 1 (.slice A n c) n (ints xs)) (hb : Below w0.heap.size w0 w) : Row w0 w A n c xs := ⟨ownN_base ho (Nat.zero_le _), fun q hq => (ho.lt q hq).1, hb⟩
theorem Row.below (h : Row w0 w A n c xs) (hb : Below w.heap.size w w') : Row w0 w' A n c xs := ⟨ownN_below h.own hb (Nat.le_refl _), h.lo, h.bel.trans (hb.mono h.bel.size)⟩
theorem Row.grow (h : Row w0 w A n c xs) (ho : w'.ownsRow 0 2 1 (.slice A' n' c') n' (ints xs ++ ints ys)) (hc : Ch (Fo (.slice A n c)) w w') (hf : ∀ q, Fo (.slice A' n' c') q → Fo (.slice A n c) q ∨ w.heap.size ≤ q) : Row w0 w' A' n' c' (xs ++ ys) :=
  ⟨by rw [show ints (xs ++ ys) = ints xs ++ ints ys from List.map_append]; exact ho, fun q hq => (hf q hq).elim (h.lo q) (fun h2 => Nat.le_trans h.bel.size h2), below_ch h.bel hc h.lo h.bel.size⟩
theorem Row.base (h : Row w0 w A n c xs) : w.ownsRow w0.heap.size 2 1 (.slice A n c) n (ints xs) := own_up2 h.own h.lo
theorem Row.len (h : Row w0 w A n c xs) : xs.length = n := by have h1 := h.own.1; simpa using h1
theorem Row.bd (h : Row w0 w A n c xs) {b : Nat} (hb : xs.length ≤ b) : n ≤ b := by rw [← h.len]; exact hb
end
theorem OwnX.put {w w2 w4 : World} {A A4 : Option Addr} {m c c4 n2 c2 : Nat} {A2 : Option Addr} {us : List Value} {xss : List (List Int)} {ys : List Int} (h : OwnX w A m c us xss) (hr : Row w w2 A2 n2 c2 ys) (hn : n2 ≤ 1000000000) (ho4 : w4.ownsRow 0 25 1 (.slice A4 (m + 1) c4) (m + 1) (us ++ [.slice A2 n2 c2])) (hc4 : Ch (Fo (.slice A m c)) w2 w4) (hf : ∀ q, Fo (.slice A4 (m + 1) c4) q → Fo (.slice A m c) q ∨ w2.heap.size ≤ q) : OwnX w4 A4 (m + 1) c4 (us ++ [.slice A2 n2 c2]) (xss ++ [ys]) ∧ ∀ q, FX A4 (m + 1) c4 (us ++ [.slice A2 n2 c2]) q → FX A m c us q ∨ w.heap.size ≤ q :=
  h.step hr.bel hr.base hn ho4 hc4 hf
/-- What the walk through the symbols has. -/
structure NS (w0 wr : World) (A3 : Option Addr) (n3 c3 : Nat) (bh : List Int) (A : Option Addr) (m c : Nat) (us : List Value) (xss : List (List Int)) : Prop where
  out : OwnX wr A m c us xss
  lo : ∀ q, FX A m c us q → w0.heap.size ≤ q
  beh : Row w0 wr A3 n3 c3 bh
theorem NS.below {w0 wr w' : World} {A3 A : Option Addr} {n3 c3 m c : Nat} {bh : List Int} {us : List Value} {xss : List (List Int)} (h : NS w0 wr A3 n3 c3 bh A m c us xss) (hb : Below wr.heap.size wr w') : NS w0 w' A3 n3 c3 bh A m c us xss := ⟨h.out.below hb, h.lo, h.beh.below hb⟩
theorem NS.put {w0 w w2 w4 : World} {A3 A A4 A2 : Option Addr} {n3 c3 m c c4 n2 c2 : Nat} {bh ys : List Int} {us : List Value} {xss : List (List Int)} (h : NS w0 w A3 n3 c3 bh A m c us xss) (hr : Row w w2 A2 n2 c2 ys) (hn : n2 ≤ 1000000000) (ho4 : w4.ownsRow 0 25 1 (.slice A4 (m + 1) c4) (m + 1) (us ++ [.slice A2 n2 c2])) (hc4 : Ch (Fo (.slice A m c)) w2 w4) (hf : ∀ q, Fo (.slice A4 (m + 1) c4) q → Fo (.slice A m c) q ∨ w2.heap.size ≤ q) : NS w0 w4 A3 n3 c3 bh A4 (m + 1) c4 (us ++ [.slice A2 n2 c2]) (xss ++ [ys]) := by
  obtain ⟨h1, h2⟩ := h.out.put hr hn ho4 hc4 hf
  have hb := h.beh.below hr.bel
  exact ⟨h1, fun q hq => (h2 q hq).elim (h.lo q) (fun h3 => Nat.le_trans h.beh.bel.size h3), ⟨own_ch hb.own hc4 (fun q a b => own_types2 (ownN_below h.out.1 hr.bel (Nat.le_refl _)) hb.own (by decide) q b a), hb.lo, below_ch hb.bel hc4 (fun q hq => h.lo q (.inl hq)) hb.bel.size⟩⟩
theorem drpn_e {w w' : World} {v : Value} {e : Ending} (h : DrP w v e w') : e = .returned v ∧ Below w.heap.size w w' := by
  obtain ⟨h1, m, h2⟩ := h
  exact ⟨h1, by rw [h2]; exact below_drewN (Below.refl _ _)⟩
theorem ch_undrN {F : Nat → Prop} {w w' : World} (h : Ch F w.drew w') : Ch F w w' := ⟨h.os, h.tape, h.output, h.size, h.block⟩
end Go.Proofs.Ytcpkhhammafchaa
/- Sets of items: setOf, has. -/
namespace Go.Proofs.Ytcpkhhammafchaa
open Go.RowKit
open Go.Maps (Keyed Tidy IsMap)
set_option linter.unusedVariables false
set_option linter.unusedSimpArgs false
theorem IsSet.add {w w' : World} {g mB : Nat} {len : Int} {xss : List (List Int)} {xs : List Int} (h : IsSet w g mB len xss) (ho : w'.ownsMap Try.prog 185 (plainElem (H := Unit) Try.prog 4) mB (xss.length + 1) ((setD xss).put (kIt (pad xs)) uT)) (hg : w.grownBy w' (some mB)) : IsSet w' g mB len (xss ++ [xs]) :=
  ⟨blk_ch h.box (ch_grown (F := (· = mB)) hg (fun k hk => by injection hk with hk; exact hk.symm)) h.ne, by rw [setD_snoc, List.length_append]; exact ho⟩
theorem set_bel {B : Nat} {w0 w w' : World} {mB : Nat} (h : Below B w0 w) (hg : w.grownBy w' (some mB)) (hm : B ≤ mB) (hs : B ≤ w.heap.size) : Below B w0 w' := below_ch h (ch_grown (F := (· = mB)) hg (fun k hk => by injection hk with hk; exact hk.symm)) (fun k hk => by have e : k = mB := hk; omega) hs
set_option maxHeartbeats 4000000 in
set_option maxRecDepth 100000 in
theorem setOf_any (w : World) (len : Int) (A : Option Addr) (n c : Nat) (xss : List (List Int)) (hr : RdL w A n xss) (hn : n ≤ 1000000000) (hgw : ∀ xs ∈ xss, Gw xs) :
    Calls Try.prog 83 #[.int .i64 len, .slice A n c] w (fun e w' => ∃ g mB, e = .returned (.pointer (some ⟨g, 0, none⟩)) ∧ IsSet w' g mB len xss ∧ w.heap.size ≤ g ∧ w.heap.size ≤ mB ∧ Below w.heap.size w w') := by
  obtain ⟨w0, hw0⟩ : ∃ w0, w0 = (w.alloc (.map #[] 0)).alloc (.cells #[.map (some w.heap.size), .int .i64 len] 183) := ⟨_, rfl⟩
  have hB : Below w.heap.size w w0 := by rw [hw0]; exact (below_new w _).trans ((below_new _ _).mono (by simp))
  have hs : IsSet w0 (w.heap.size + 1) w.heap.size len [] := by
    rw [hw0]
    refine ⟨by have h := box_new (w.alloc (.map #[] 0)) #[.map (some w.heap.size), .int .i64 len] 183; simpa using h, ?_⟩
    exact (World.ownsMap_made w Try.prog 185 _).alloc _
  have HS0 := Lib.hid hs
  have HB0 := Lib.hid hB
  have HL : Hid (xss.length = n) := Lib.hid hr.len
  have HGW := Lib.hid hgw
  clear hs hB hgw
  go_enter Try.func83, Try.ntmps83
  have hmm := @run_makeMap Try.prog
  go_upto_region 2 with fail
  rw [← hw0]
  clear hw0 hmm
  as_aux_lemma =>
  go_wp2_with fail
  go_loopw [14] (fun i wr => ∃ j : Nat, j ≤ n ∧ i = .int .i64 j ∧ IsSet wr (w.heap.size + 1) w.heap.size len (xss.take j) ∧ Below w.heap.size w wr) (fun i _ => n - (intOf i).toNat)
  case atStart => exact ⟨0, by omega, rfl, HS0.out, HB0.out⟩
  case round =>
    as_aux_lemma =>
    obtain ⟨j, hj, rfl, hs, hb⟩ := hrel
    by_cases hlt : j < n
    · have hlt' : (j : Int) < (n : Int) := by omega
      obtain ⟨xs, hx⟩ := get_some (xs := xss) (k := j) (by rw [HL.out]; exact hlt)
      obtain ⟨b, off, A', n', c', rfl, hbs, hc, hn', hr'⟩ := hr.at_ hx
      have q1 := (hb.cell (p := ⟨b, off + j, none⟩) hbs).trans hc
      have hg := HGW.out xs (List.mem_of_getElem? hx)
      have HG := Lib.hid hg
      have HNX : Hid (n' ≤ 10) := Lib.hid (by have h1 := hr'.1; have h2 := hg.1; simp at h1; omega)
      have HRX := Lib.hid (hr'.below hb (Nat.le_refl _))
      have HT : Hid (xss.take (j + 1) = xss.take j ++ [xs]) := Lib.hid (by rw [List.take_add_one, hx]; rfl)
      have HS := Lib.hid hs
      have HB := Lib.hid hb
      have HM : Hid ((xss.take j).length < maxLen) := Lib.hid (by unfold maxLen; simp; omega)
      have x0 := blk_cell hs.box 0 rfl
      clear hx hc hr' hs hb hg hn'
      go_wp2_with fail
      (first
        | (go_region_law (first
            | (go_simp
               go_at_call 131
               refine (itemOf_k _ A' n' c' xs (by have h := HRX.out; exact h) (by exact HNX.out)).mono ?_
               rintro e w2 ⟨rfl, hb2⟩
               have HB2 := Lib.hid (und1 hb2)
               have hs2 := HS.out.below HB2.out
               obtain ⟨w3, hrun3, hown3, hg3⟩ := hs2.own.update lawIt Try.underlying181 HM.out (val := .bool true) (keyIt (pad_len HG.out.1) HG.out.pad) (plainElem_bool Try.underlying4 true)
               have HS3 := Lib.hid (hs2.add hown3 hg3)
               have HB3 : Hid (Below w.heap.size w w3) := Lib.hid (set_bel (HB.out.trans (HB2.out.mono HB.out.size)) hg3 (Nat.le_refl _) (Nat.le_trans HB.out.size HB2.out.size))
               have x2 := blk_cell hs2.box 0 rfl
               clear hb2 hs2 hown3 hg3)))
        | fail)
      all_goals
        as_aux_lemma =>
        go_wp2_with fail
        go_roundw
        case rel => exact ⟨j + 1, by omega, by go_num, by rw [HT.out]; exact HS3.out, HB3.out⟩
        case measure => simp [intOf]; omega
    · obtain rfl : n = j := by omega
      have HE : Hid (xss.take n = xss) := Lib.hid (List.take_of_length_le (by rw [HL.out]; omega))
      go_wp2_with fail
      go_ret
      rw [HE.out] at hs
      exact ⟨w.heap.size + 1, w.heap.size, rfl, hs, Nat.le_succ _, Nat.le_refl _, hb⟩
theorem plainB_inv {v : Value} {b : Bool} {ps : List MemPlace} (h : plainElem (H := Unit) Try.prog 4 v = some (.lit (.bool b), ps)) : v = .bool b := by
  cases v <;> simp_all [plainElem, Try.underlying4]
end Go.Proofs.Ytcpkhhammafchaa
