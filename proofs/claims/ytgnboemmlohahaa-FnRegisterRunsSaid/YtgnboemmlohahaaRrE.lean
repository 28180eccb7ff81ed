/- Programs of registers: the first store (program). -/
import Derived.Test.YtgnboemmlohahaaRrD
namespace Go.Proofs.Ytgnboemmlohahaa
open Go.RowKit
set_option linter.unusedVariables false
set_option linter.unusedSimpArgs false
attribute [local go_sem ↓] Go.wp_at_zero Go.wp_at_succ
/-- 'copy(dst, src)': dst a row of the call's own, at least as long as the source; only its block changes. -/
theorem wpList_cpS {P : Program} {ops : Array Oper} {rest : List Oper} {o : Oper} {a : Act} {Q : Exit → Act → World → Prop} {t e : TypeId} {z : Value} (hE : Elt P t e z) (hgd : o.guard = none) (d s : Operand)
    (ho : o.op = .call { callee := .builtin .copy, args := #[d, s], argTypes := #[t, t] }) (W : World) (base g n c : Nat) (vs : List Value) (hd : a.eval d = .slice (some ⟨g, 0, none⟩) n c) (hown : W.ownsRow base e 1 (.slice (some ⟨g, 0, none⟩) n c) n vs)
    (A0 : Option Addr) (m c0 : Nat) (us : List Value) (hs : a.eval s = .slice A0 m c0) (hr : Rd W A0 m us) (hu : ∀ u ∈ us, u.oneCell' = true) (hmn : m ≤ n)
    (h : ∀ w', w'.ownsRow base e 1 (.slice (some ⟨g, 0, none⟩) n c) n (us ++ vs.drop m) → Ch (· = g) W w' → wpList P ops Q rest (a.put o.dst (goInt m)) w') :
    wpList P ops Q (o :: rest) a W := by
  obtain ⟨ht, hzc, i, hi, hz, hs1, hb⟩ := hE
  have hl : vs.length = n := by simpa using hown.1
  have hul : us.length = m := hr.1
  rcases hown.2 with ⟨h', h0⟩ | ⟨g', cap, cur, h', hbs, hg, hnc, hcm, hcs, htake⟩
  · injection h' with h1
    cases h1
  · injection h' with h1 h2 h3
    injection h1 with h1
    injection h1 with h1
    subst h1 h3
    have hcl : cur.toList.length = c := by simpa using hcs
    rcases Nat.eq_zero_or_pos m with hm | hm
    · subst hm
      obtain rfl : us = [] := List.eq_nil_of_length_eq_zero hul
      refine wpList_copy_nothing hgd d s t t ho e ht (by rw [hi]; simp [hs1]) _ _ n c 0 c0 hd hs (by simp) ?_
      exact h W (by simpa using hown) (Ch.refl _ _)
    · obtain ⟨b, off, e1, hlt, hc⟩ := hr.2 (by omega)
      subst e1
      refine wpList_copy_own hgd d s t t ho e ht (by rw [hi]; simp [hs1]) g 0 n c ⟨b, off, none⟩ m c0 hd hs cur e hg us (by rw [hul]; exact (Nat.min_eq_left hmn).symm) (fun j v hj => ?_) (by simp only [Array.length_toList] at hcl; omega) hu ?_
      · have := hc j v hj
        unfold Addr.add
        split
        · rename_i h0; subst h0; simpa using this
        · exact this
      · rw [hul]
        refine h _ ⟨by simp; omega, .inr ⟨g, c, _, rfl, hbs, setRow_heap W g _ _ e _ hg, hnc, hcm, ?_, ?_⟩⟩ ⟨rfl, rfl, rfl, by simp [World.setRow], fun k hk hn => setRow_other W g k _ hn⟩
        · simp; simp at hcl; omega
        · rw [← htake]
          simp only [List.take_zero, List.nil_append, Nat.zero_add, Nat.mul_one]
          rw [List.take_append, List.take_of_length_le (by omega), List.drop_take, hul]
def padC (cs : List Int) : List Int := cs ++ List.replicate (24 - cs.length) 0
set_option maxHeartbeats 4000000 in
set_option maxRecDepth 100000 in
theorem StartStore_any (w : World) (A : Option Addr) (n c : Nat) (p : List Ins) (hp : Rd w A (n * 4) (ints (flatI p))) (hok : okProg p = true) (A2 : Option Addr) (m c2 : Nat) (cs : List Int) (hr : Rd w A2 m (ints cs)) (hm : m ≤ 24) (hcs : allIn cs 0 1000000 = true) :
    Calls Try.prog 7 #[.slice A n c, .slice A2 m c2] w (fun e w' => ∃ g, e = .returned (.tuple #[.agg #[.int .i64 0, .slice (some ⟨g, 0, none⟩) 24 24], .int .i64 0]) ∧ w'.ownsRow w.heap.size 2 1 (.slice (some ⟨g, 0, none⟩) 24 24) 24 (ints (padC cs)) ∧ Below w.heap.size w w') := by
  have hml : cs.length = m := by simpa using hr.1
  have hn : n ≤ 400 := by have := ok_len hok; have := rd_len hp; omega
  obtain ⟨w1, hw1⟩ : ∃ w1, w1 = w.alloc (.cells #[.int .i64 0, .slice none 0 0] 31) := ⟨_, rfl⟩
  have hb1 : Below w.heap.size w w1 := by rw [hw1]; exact below_new _ _
  have hz1 : w1.heap[w.heap.size]? = some (.cells #[.int .i64 0, .slice none 0 0] 31 (0, 0)) := by rw [hw1]; exact box_new _ _ _
  have H1 := ValidProgram_any w1 A n c p (hp.below hb1 (Nat.le_refl _)) (by omega)
  rw [hok] at H1
  replace H1 := Lib.hid H1
  have HZ1 := Lib.hid hz1; have HB1 := Lib.hid hb1; have HR := Lib.hid hr; have HML := Lib.hid hml; have HCS := Lib.hid hcs
  have hd : decide ((m : Int) > 24) = false := by simp; omega
  have hd2 : decide (24 < (m : Int)) = false := by simp; omega
  clear hb1 hz1 hp hok hr hml hcs
  go_enter Try.func7, Try.ntmps7
  go_upto_region 1 with fail
  rw [← hw1]
  clear hw1
  go_upto_region 5 with (first
    | (go_at_call 8
       refine H1.out.mono ?_
       rintro e w2 ⟨rfl, hb2⟩
       have HB2 : Hid (Below w.heap.size w w2) := Lib.hid (bqc hb2 HB1.out)
       have HZ2 := Lib.hid (blk_bel HZ1.out hb2)
       have HR2 := Lib.hid (HR.out.below HB2.out (Nat.le_refl _))
       clear hb2)
    | (go_at_call 17; refine (allWithin_any _ _ _ _ cs (by exact HR2.out) (by omega) _ _).mono ?_; rw [HCS.out]; rintro e w' ⟨rfl, rfl⟩))
  go_upto_region 6 with (at_make; go_must (refine wpList_mk Try.eltI rfl _ _ rfl _ _ _ 24 (by rfl) (by rfl) (by omega) (by omega) (by omega) ?_); rintro w3 ho3 hb3 hs3
                         have HO3 := Lib.hid ho3
                         have HZ3 := Lib.hid (blk_bel HZ2.out hb3)
                         have HB3 : Hid (Below w.heap.size w w3) := Lib.hid (bqc hb3 HB2.out)
                         have HR3 := Lib.hid (HR2.out.below hb3 (Nat.le_refl _))
                         have HS3 := Lib.hid hs3
                         clear ho3 hb3 hs3)
  obtain ⟨w4, hw4⟩ : ∃ w4, w4 = w3.alloc (.cells #[.int .i64 0, .slice (some ⟨w2.heap.size, 0, none⟩) 24 24] 31) := ⟨_, rfl⟩
  have hx4 : w4.heap[w3.heap.size]? = some (.cells #[.int .i64 0, .slice (some ⟨w2.heap.size, 0, none⟩) 24 24] 31 (0, 0)) := by rw [hw4]; exact box_new _ _ _
  have hb4 : Below w3.heap.size w3 w4 := by rw [hw4]; exact below_new _ _
  have HZ4 := Lib.hid (blk_bel HZ3.out hb4)
  have HB4 : Hid (Below w.heap.size w w4) := Lib.hid (bqc hb4 HB3.out)
  have HO4 := Lib.hid (own_below HO3.out hb4 (Nat.le_refl _))
  have HR4 := Lib.hid (HR3.out.below hb4 (Nat.le_refl _))
  have HX4 := Lib.hid hx4
  rw [← hw4]
  clear hw4 hx4 hb4
  have x0 := blk_cell HX4.out 0 rfl
  have x1 := blk_cell HX4.out 1 rfl
  go_upto_region 7 with ((refine wpList_cpS Try.eltI rfl (.tmp 23) (.tmp 24) rfl w4 w2.heap.size w2.heap.size 24 24 _ (by rfl) HO4.out A2 m c2 (ints cs) (by rfl) (by exact HR4.out) ints_one (by omega) ?_); rintro w5 ho5 hc5
                         have HO5 := Lib.hid ho5
                         have HZ5 := Lib.hid (blk_ch HZ4.out hc5 (fun e => ow_not HZ4.out (by decide) HO4.out (by rw [e]; rfl)))
                         have HX5 := Lib.hid (blk_ch HX4.out hc5 (fun e => ow_not HX4.out (by decide) HO4.out (by rw [e]; rfl)))
                         have HB5 : Hid (Below w.heap.size w w5) := Lib.hid (below_ch HB4.out hc5 (fun q e => by rw [e]; exact HB2.out.size) HB4.out.size)
                         clear ho5 hc5 x0 x1)
  have x0 := blk_cell HX5.out 0 rfl
  have x1 := blk_cell HX5.out 1 rfl
  have z0 := blk_cell HZ5.out 0 rfl
  have z1 := blk_cell HZ5.out 1 rfl
  have f0 := blk_free HZ5.out 0
  have f1 := blk_free HZ5.out 1
  go_wp2_with fail
  refine bodyPost_ret (v := .tuple #[.agg #[.int .i64 0, .slice (some ⟨w2.heap.size, 0, none⟩) 24 24], .int .i64 0]) (by simp [results, Try.results7, go_sem, z0, z1]) rfl ⟨w2.heap.size, rfl, ?_, ?_⟩
  · have h7 := own_base HO5.out HB2.out.size
    have e5 : ints cs ++ List.drop m (List.replicate 24 (Value.int .i64 0)) = ints (padC cs) := by
      simp only [padC, ints, List.map_append, List.map_replicate, List.drop_replicate, HML.out]
    rw [e5] at h7
    exact own_ch (own_ch h7 (ch_set _ _ _ _) (fun k hk e => ow_not HZ5.out (by decide) h7 (by rw [← e]; exact hk))) (ch_set _ _ _ _) (fun k hk e => ow_not HZ5.out (by decide) h7 (by rw [← e]; exact hk))
  · exact (HB5.out.setCell (by simp) _).setCell (by simp) _
end Go.Proofs.Ytgnboemmlohahaa
