/- Long division of naturals (program): greatest with divide's closure, divide. -/
import Derived.Test.YtfjlbfnjnkaooaaNu1
import Derived.Test.YtfjlbfnjnkaooaaDvM
import Derived.Test.YtfjlbfnjnkaooaaApp
import Derived.Deep.DrawnRows
namespace Go.Proofs.Ytfjlbfnjnkaooaa
open Go.RowKit Limb
set_option linter.unusedVariables false
set_option linter.unusedSimpArgs false
attribute [local go_sem ↓] Go.wp_at_zero Go.wp_at_succ
theorem limbs_dg {x : Int} (h0 : 1 ≤ x) (h1 : x < 1000000) : limbs x.toNat = [x] := by
  have ht : x.toNat ≠ 0 := by omega
  rw [limbs, if_neg ht, Nat.div_eq_of_lt (by omega), limbs_zero]
  congr 1
  omega
theorem rd_digit (w : World) {d : Int} (h1 : 1 ≤ d) (h2 : d < 1000000) (T : Nat) : Rd (w.alloc (.cells #[.int .i64 d] T)) (some ⟨w.heap.size, 0, none⟩) 1 (ints (limbs d.toNat)) := by
  rw [limbs_dg h1 h2]; exact own_rd (own_lit w #[.int .i64 d] 1 T rfl (by omega))
theorem below_al {w w' : World} {o : Obj} (h : Below (w.alloc o).heap.size (w.alloc o) w') : Below w.heap.size w w' := (below_new w o).trans (h.mono (by simp))
theorem run_appB {P : Program} {t ty e : TypeId} {z : Value} (hE : Elt P t e z) {w : World} {base : Nat} {A A0 : Option Addr} {n c m c0 : Nat} {vs us : List Value} (hown : w.ownsRow base e 1 (.slice A n c) n vs) (hr : Rd w A0 m us) (hu : ∀ u ∈ us, u.oneCell' = true) (hbase : base ≤ w.heap.size) (hn : n + m ≤ 1099511627776) :
    ∃ A' c' w', (Builtin.append_ #[t, t] ty #[.slice A n c, .slice A0 m c0]).run P w = .ok (.slice A' (n + m) c') w' ∧ w'.ownsRow base e 1 (.slice A' (n + m) c') (n + m) (vs ++ us) ∧ Below base w w' := by
  obtain ⟨ht, hzc, i, hi, hz, hs1, hb⟩ := hE
  rcases Nat.eq_zero_or_pos m with hm | hm
  · subst hm
    have hus : us = [] := List.eq_nil_of_length_eq_zero (by simpa using hr.1)
    subst hus
    obtain ⟨_, _, hf, hnc, _⟩ := own_form hown
    injection hf with h1 h2 h3
    subst h1 h3
    refine ⟨A, c, w, ?_, by simpa using hown, Below.refl _ _⟩
    cases A <;> cases A0 <;> simp [Builtin.append_, run_underlying ht, sizeOf, typeInfo, hi, Builtin.lenOf, Builtin.firstCells, loadCells, loadCellsFrom, hnc, storeCells]
  · obtain ⟨b, off', rfl, hlt, hc⟩ := hr.2 hm
    have hc' : ∀ j u, us[j]? = some u → w.cell? ((⟨b, off', none⟩ : Addr).add j) = some u := by
      intro j u hj
      have := hc j u hj
      unfold Addr.add
      split
      · rename_i h0; subst h0; simpa using this
      · exact this
    have hbn : (n + m) * i.bytes ≤ (n + m) * 24 := Nat.mul_le_mul_left _ hb
    obtain ⟨v', w', hrun, ho, hgr, _⟩ := run_append_own (P := P) w base t ty e i z 1 i.bytes ht hi hz hs1 rfl (by rw [hzc]; rfl) (by decide) (.slice A n c) n vs hown ⟨b, off', none⟩ m c0 us (by simpa using hr.1) hc' hu (by unfold maxLen; omega) (by omega) hbase
    obtain ⟨A', c', rfl, _, _⟩ := own_form ho
    exact ⟨A', c', w', hrun, ho, below_grown hgr hbase (fun k hk => (hown.lt k hk).1)⟩
/-- 'append' to a row of the call's own, at a step of a region that draws its order. -/
theorem step_appB {P : Program} {ops : Array Oper} {o : Oper} {a : Act} {K : Act → World → Prop} {Q : Exit → Act → World → Prop} {E : Prop} {t e : TypeId} {z : Value} (hE : Elt P t e z) (hgd : o.guard = none) (s x : Operand)
    (ho : o.op = .call { callee := .builtin .append, args := #[s, x], argTypes := #[t, t] }) (W : World) (base : Nat) (A A0 : Option Addr) (n c m c0 : Nat) (vs us : List Value) (hs : a.eval s = .slice A n c) (hown : W.ownsRow base e 1 (.slice A n c) n vs)
    (hx : a.eval x = .slice A0 m c0) (hr : Rd W A0 m us) (hu : ∀ u ∈ us, u.oneCell' = true) (hbase : base ≤ W.heap.size) (hn : n + m ≤ 1099511627776)
    (h : ∀ A' c' w', w'.ownsRow base e 1 (.slice A' (n + m) c') (n + m) (vs ++ us) → Below base W w' → K (a.put o.dst (.slice A' (n + m) c')) w') :
    if Region.wanted o (yielded ops a.tmps) = true then Oper.wp P o a W K Q else E := by
  obtain ⟨A', c', w', hrun, k1, k2⟩ := run_appB (ty := o.type) (c0 := c0) hE hown hr hu hbase hn
  have hw : Region.wanted o (yielded ops a.tmps) = true := by simp [Region.wanted, hgd]
  rw [if_pos hw]
  unfold Oper.wp
  simp [execOp, ho, resolve, invoke, builtin, hs, hx, hrun, Result.andThen]
  exact h A' c' w' k1 k2
theorem own_dr {w : World} {base e n : Nat} {v : Value} {vs : List Value} (h : w.ownsRow base e 1 v n vs) (k : Nat) : (w.drewN k).ownsRow base e 1 v n vs := h
theorem own_blkD {w : World} {base e n : Nat} {v : Value} {vs : List Value} (h : w.ownsRow base e 1 v n vs) {k : Nat} (hk : Fo v k) : ∃ cs, w.heap[k]? = some (.cells cs e (0, 0)) := by
  obtain ⟨A, c, rfl, _⟩ := own_form h
  rcases h.2 with ⟨h', h0⟩ | ⟨g, cap, cur, h', hbs, hg, r⟩
  · injection h' with h1; subst h1; simp [Fo, Value.ownBlock] at hk
  · injection h' with h1 h2 h3
    subst h1
    obtain rfl : g = k := by simpa [Fo, Value.ownBlock] using hk
    exact ⟨cur, hg⟩

set_option maxHeartbeats 1000000 in
theorem divide1_any (w : World) (bB bR : Nat) (AB : Option Addr) (nB cB : Nat) (AR : Option Addr) (nR cR B R : Nat) (d : Int) (hcB : w.cell? ⟨bB, 0, none⟩ = some (.slice AB nB cB)) (hrB : Rd w AB nB (ints (limbs B))) (hnB : nB ≤ 1000)
    (hcR : w.cell? ⟨bR, 0, none⟩ = some (.slice AR nR cR)) (hrR : Rd w AR nR (ints (limbs R))) (hnR : nR ≤ 1002) (hd0 : 1 ≤ d) (hd1 : d < 1000000) :
    Calls Try.prog 78 #[.int .i64 d, .pointer (some ⟨bB, 0, none⟩), .pointer (some ⟨bR, 0, none⟩)] w (RetV w (.bool (mqB B R d))) := by
  have hbB := World.block_lt_of_cell? w _ hcB
  have hbR := World.block_lt_of_cell? w _ hcR
  simp only at hbB hbR
  have HBR := Lib.hid hbR
  have HRD := Lib.hid (rd_digit w hd0 hd1 2)
  have HRB := Lib.hid hrB; have HRR := Lib.hid hrR
  have HDL : Hid ((limbs d.toNat).length = 1) := Lib.hid (by rw [limbs_dg hd0 hd1]; rfl)
  have HBL : Hid ((limbs B).length = nB) := Lib.hid (by simpa using hrB.1)
  have hcR1 := ((below_new w (.cells #[.int .i64 d] 2)).cell (p := ⟨bR, 0, none⟩) hbR).trans hcR
  have hcB1 := ((below_new w (.cells #[.int .i64 d] 2)).cell (p := ⟨bB, 0, none⟩) hbB).trans hcB
  clear hrB hrR
  go_enter Try.func78, Try.ntmps78
  go_wp2_with fail
  go_region_held3 (fun w' => w'.cell? ⟨bB, 0, none⟩ = some (.slice AB nB cB) ∧ w'.cell? ⟨bR, 0, none⟩ = some (.slice AR nR cR)) (exact ⟨by assumption, by assumption⟩)
    (first
      | (have hq := HB4.out; clear hq
         go_at_call 44; refine (compareNaturals_any _ _ _ _ _ (by have h := own_rd HO4.out; exact h) (by exact hn4) _ _ _ R (by have h := HRR.out.below HB4.out (Nat.le_refl _); exact h) (by omega)).mono ?_; rintro e w5 ⟨rfl, hb5⟩; have HB5 := Lib.hid hb5; have hcR1 := (hb5.cell (p := ⟨bR, 0, none⟩) hbR4).trans hcR1; have hcB1 := (hb5.cell (p := ⟨bB, 0, none⟩) hbB4).trans hcB1; clear hb5)
      | (go_at_call 41; refine (multiply_any _ _ _ _ B (by have h := HRB.out.alloc (.cells #[.int .i64 d] 2); exact h) (by omega) _ _ _ d.toNat (by have h := HRD.out; exact h) (by decide)).mono ?_; rintro e w4 ⟨A4, n4, c4, rfl, ho4, hb4⟩; (try replace hb4 := below_undrew hb4)
         have HO4 := Lib.hid ho4
         have HB4 : Hid (Below w.heap.size w w4) := Lib.hid (below_al hb4)
         have hcR1 := (HB4.out.cell (p := ⟨bR, 0, none⟩) hbR).trans hcR
         have hcB1 := (HB4.out.cell (p := ⟨bB, 0, none⟩) hbB).trans hcB
         have hbR4 := Nat.lt_of_lt_of_le hbR HB4.out.size
         have hbB4 := Nat.lt_of_lt_of_le hbB HB4.out.size
         have hn4 : n4 ≤ 1000000 := by have h1 := own_limb_len ho4; have h2 := limbs_len_mul B d.toNat; have h3 := HDL.out; have h4 := HBL.out; omega
         clear ho4 hb4))
  go_wp2_with fail
  go_ret
  refine ⟨?_, HB4.out.trans (HB5.out.mono HB4.out.size)⟩
  rw [← cmp_mq]; rfl

set_option maxHeartbeats 1000000 in
theorem greatest_dv (w : World) (P : Int → Bool) (h0 : P 0 = true) (h1 : P 1000000 = false) (p1 p2 : Value)
    (hf : ∀ (w' : World) (d : Int), Below w.heap.size w w' → 1 ≤ d → d < 1000000 → Calls Try.prog 78 #[.int .i64 d, p1, p2] w' (RetV w' (.bool (P d)))) :
    Calls Try.prog 77 #[.func (.func 78) #[] #[p1, p2]] w (Digit w P) := by
  have HF := Lib.hid hf; have H0 := Lib.hid h0; have H1 := Lib.hid h1
  clear hf h0 h1
  go_enter Try.func77, Try.ntmps77
  go_wp2_with fail
  go_loopw [3, 4] (fun l h wr => ∃ lo hi : Int, l = .int .i64 lo ∧ h = .int .i64 hi ∧ 0 ≤ lo ∧ lo < hi ∧ hi ≤ 1000000 ∧ Hid (P lo = true ∧ P hi = false) ∧ Below w.heap.size w wr) (fun l h _ => (intOf h - intOf l).toNat)
  case atStart => exact ⟨0, 1000000, rfl, rfl, by omega, by omega, by omega, Lib.hid ⟨H0.out, H1.out⟩, Below.refl _ _⟩
  case round =>
    obtain ⟨lo, hi, rfl, rfl, hl0, hlh, hh, HP, hb⟩ := hrel
    by_cases hlt : lo + 1 < hi
    · go_wp2_with fail
      refine (HF.out _ _ hb (by omega) (by omega)).mono ?_
      rintro e w1 ⟨rfl, hb1⟩
      have hB := hb.trans (hb1.mono hb.size)
      by_cases hp : P ((lo + hi) / 2) = true
      · rw [hp]
        have HQ := Lib.hid hp; clear hp
        go_wp2_with fail
        go_roundw
        case rel => exact ⟨_, _, rfl, rfl, by omega, by omega, by omega, Lib.hid ⟨HQ.out, HP.out.2⟩, hB⟩
        case measure => simp only [intOf]; omega
      · rw [show P ((lo + hi) / 2) = false by simpa using hp]
        have HQ := Lib.hid (show P ((lo + hi) / 2) = false by simpa using hp); clear hp
        go_wp2_with fail
        go_roundw
        case rel => exact ⟨_, _, rfl, rfl, by omega, by omega, by omega, Lib.hid ⟨HP.out.1, HQ.out⟩, hB⟩
        case measure => simp only [intOf]; omega
    · go_wp2_with fail
      go_ret
      have e : hi = lo + 1 := by omega
      exact ⟨lo, rfl, hl0, by omega, HP.out.1, by rw [← e]; exact HP.out.2, hb⟩
/-- A quotient and a remainder. -/
def DivP (w : World) (Q R : Nat) (e : Ending) (w' : World) : Prop := ∃ (A : Option Addr) (n c : Nat) (A' : Option Addr) (n' c' : Nat), e = .returned (.tuple #[.slice A n c, .slice A' n' c']) ∧ w'.ownsRow w.heap.size 2 1 (.slice A n c) n (ints (limbs Q)) ∧ w'.ownsRow w.heap.size 2 1 (.slice A' n' c') n' (ints (limbs R)) ∧ Below w.heap.size w w'
/-- What the walk through the limbs has in memory. -/
structure DvS (w wr : World) (A' : Option Addr) (n' c' G : Nat) (AR : Option Addr) (L cR R n : Nat) (out : List Int) : Prop where
  bx : wr.heap[w.heap.size]? = some (.cells #[.slice A' n' c'] 25 (0, 0))
  g9 : wr.heap[G]? = some (.cells #[.slice AR L cR] 25 (0, 0))
  own : wr.ownsRow w.heap.size 2 1 (.slice (some ⟨w.heap.size + 1, 0, none⟩) n n) n (ints out)
  rest : wr.ownsRow (w.heap.size + 2) 2 1 (.slice AR L cR) L (ints (limbs R))
  bel : Below w.heap.size w wr
  gb : w.heap.size + 2 ≤ G
section
variable {w wr w2 : World} {A' AR A2 : Option Addr} {n' c' G L cR R n L2 c2 R2 : Nat} {out : List Int}
theorem DvS.put (h : DvS w wr A' n' c' G AR L cR R n out) (hb : Below wr.heap.size wr w2) (ho : w2.ownsRow (w.heap.size + 2) 2 1 (.slice A2 L2 c2) L2 (ints (limbs R2))) : DvS w (w2.setCell ⟨G, 0, none⟩ (.slice A2 L2 c2)) A' n' c' G A2 L2 c2 R2 n out := by
  have h9 := blk_bel h.g9 hb
  have hg := h.gb
  refine ⟨blk_far (blk_bel h.bx hb) (by simp; omega), by simpa using blk_set h9 0 (.slice A2 L2 c2), ?_, ?_, (h.bel.trans (hb.mono h.bel.size)).setCell (p := ⟨G, 0, none⟩) (by simp; omega) _, hg⟩
  · exact own_ch (own_below h.own hb (Nat.le_refl _)) (ch_set w2 G 0 _) (fun k h1 h2 => by
      have : w.heap.size + 1 = k := by simpa [Fo, Value.ownBlock] using h1
      omega)
  · exact own_ch ho (ch_set w2 G 0 _) (fun k h1 h2 => by
      obtain ⟨cs, hcs⟩ := own_blkD ho h1
      subst h2
      exact blk_ne h9 hcs (by decide) rfl)
theorem DvS.below (h : DvS w wr A' n' c' G AR L cR R n out) (hb : Below wr.heap.size wr w2) : DvS w w2 A' n' c' G AR L cR R n out :=
  ⟨blk_bel h.bx hb, blk_bel h.g9 hb, own_below h.own hb (Nat.le_refl _), own_below h.rest hb (Nat.le_refl _), h.bel.trans (hb.mono h.bel.size), h.gb⟩
theorem DvS.digit (h : DvS w wr A' n' c' G AR L cR R n out) (k : Nat) (d : Int) : DvS w (wr.setCell ⟨w.heap.size + 1, k, none⟩ (.int .i64 d)) A' n' c' G AR L cR R n (out.set k d) := by
  have hg := h.gb
  have h1 := own_put h.own k (.int .i64 d)
  rw [ints_set] at h1
  refine ⟨blk_far h.bx (by simp), blk_far h.g9 (by simp; omega), h1, ?_, h.bel.setCell (p := ⟨w.heap.size + 1, k, none⟩) (by simp) _, hg⟩
  exact own_ch h.rest (ch_set wr (w.heap.size + 1) k _) (fun q h1 h2 => by have := (h.rest.lt q h1).1; omega)
end
end Go.Proofs.Ytfjlbfnjnkaooaa
