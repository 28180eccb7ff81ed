/- The reference's source of choices: next, pick. -/
import Derived.Test.YtgnboemmlohahaaGA
import Derived.Laws.Bits64b
namespace Go.Proofs.Ytgnboemmlohahaa
open Go.RowKit
set_option linter.unusedVariables false
set_option linter.unusedSimpArgs false
abbrev bytesV (bs : List Int) : List Value := bs.map (Value.int .u8)
theorem and255 (S : Int) (h0 : 0 ≤ S) (h1 : S < 18446744073709551616) : 0 ≤ wrap64 (bits .and .u64 (S / 1099511627776) 255) ∧ wrap64 (bits .and .u64 (S / 1099511627776) 255) ≤ 255 := by
  obtain ⟨S, rfl⟩ := Int.eq_ofNat_of_zero_le h0
  have e : bits .and .u64 ((S : Int) / 1099511627776) 255 = ((S / 1099511627776 &&& 255 : Nat) : Int) := by
    have := bits_and_u64_nat (S / 1099511627776) 255 (by omega) (by omega)
    rw [← this]
    congr 1
  rw [e]
  have : S / 1099511627776 &&& 255 ≤ 255 := Nat.and_le_right
  unfold wrap64
  omega
def Src (w : World) (g : Nat) (A : Option Addr) (n c : Nat) (at_ : Nat) (seed : Int) : Prop := w.heap[g]? = some (.cells #[.slice A n c, .int .i64 at_, .int .u64 seed] 61 (0, 0))
/-- A number from 0 to hi, and the source with at most 'at_' bytes read. -/
def NextPost (w : World) (g : Nat) (A : Option Addr) (n c : Nat) (hi : Int) (at_ : Nat) (e : Ending) (w' : World) : Prop := ∃ (x seed' : Int) (k : Nat), e = .returned (.int .i64 x) ∧ 0 ≤ x ∧ x ≤ hi ∧ k ≤ at_ ∧ w'.heap[g]? = some (.cells #[.slice A n c, .int .i64 k, .int .u64 seed'] 61 (0, 0)) ∧ Ch (· = g) w w'
set_option maxHeartbeats 4000000 in
set_option maxRecDepth 100000 in
theorem next_any (w : World) (g : Nat) (A : Option Addr) (n c at_ : Nat) (seed : Int) (hg : w.heap[g]? = some (.cells #[.slice A n c, .int .i64 at_, .int .u64 seed] 61 (0, 0))) (bs : List Int) (hr : Rd w A n (bytesV bs)) (hbs : ∀ b ∈ bs, 0 ≤ b ∧ b ≤ 255) (hn : n ≤ 1000000000) (ha : at_ ≤ 1000000000) :
    Calls Try.prog 34 #[.pointer (some ⟨g, 0, none⟩)] w (NextPost w g A n c 255 (at_ + 1)) := by
  have q0 := blk_cell hg 0 rfl
  have q1 := blk_cell hg 1 rfl
  have q2 := blk_cell hg 2 rfl
  have f1 := blk_free hg 1
  have f2 := blk_free hg 2
  have hi0 : (0 : Int) ≤ (at_ : Int) := by omega
  by_cases h : at_ < n
  · have HL : Hid (bs.length = n) := Lib.hid (by simpa using hr.1)
    obtain ⟨b, hb⟩ := get_some (xs := bs) (k := at_) (by rw [HL.out]; omega)
    obtain ⟨bb, off, rfl, hbl, hcx⟩ := hr.at_ (k := at_) (u := .int .u8 b) (by simp [hb])
    have hb2 := hbs b (List.mem_of_getElem? hb)
    clear hb hbs
    have hi1 : (at_ : Int) < (n : Int) := by omega
    have hd : decide (at_ < n) = true := decide_eq_true h
    have hgb : g ≠ bb ∨ True := .inr trivial
    go_enter Try.func34, Try.ntmps34
    go_wp2_with fail
    go_quiet (fail)
    obtain ⟨nq0, rfl⟩ : ∃ m, m = nq := ⟨_, rfl⟩
    go_wp2_with fail
    go_quiet (fail)
    go_wp2_with fail
    generalize hS : IntKind.u64.wrap (IntKind.u64.wrap (IntKind.u64.wrap (seed * 6364136223846793005) + b) + 1442695040888963407) = S
    have hSb : 0 ≤ S ∧ S < 18446744073709551616 := by rw [← hS, IntKind.wrap_u64]; omega
    clear hS
    obtain ⟨N, hN⟩ : ∃ N, N = nq0 + nq := ⟨_, rfl⟩
    rw [← hN]
    clear hN
    obtain ⟨w8, hw8⟩ : ∃ w8, w8 = ((w.drewN N).setCell ⟨g, 1, none⟩ (.int .i64 ((at_ : Int) + 1))).setCell ⟨g, 2, none⟩ (.int .u64 S) := ⟨_, rfl⟩
    have hx8 : w8.heap[g]? = some (.cells #[.slice (some ⟨bb, off, none⟩) n c, .int .i64 ((at_ : Int) + 1), .int .u64 S] 61 (0, 0)) := by
      have h0 : (w.drewN N).heap[g]? = _ := hg
      rw [hw8]
      simpa using blk_set (blk_set h0 1 (.int .i64 ((at_ : Int) + 1))) 2 (.int .u64 S)
    have HC : Hid (Ch (· = g) w w8) := Lib.hid (by rw [hw8]; exact (ch_drewN (Ch.refl _ w)).trans ((ch_set _ g 1 _).trans (ch_set _ g 2 _)))
    rw [← hw8]
    clear hw8 q0 q1 q2 f1 f2
    have q0 := blk_cell hx8 0 rfl
    have q1 := blk_cell hx8 1 rfl
    have q2 := blk_cell hx8 2 rfl
    have hd2 : decide (at_ + 1 ≤ n) = true := decide_eq_true (by omega)
    have hd3 : (at_ : Int) + 1 ≤ (n : Int) := by omega
    have hd4 : at_ < n := h
    go_quiet (fail)
    go_wp2_with fail
    go_ret
    exact ⟨b, S, at_ + 1, rfl, hb2.1, hb2.2, Nat.le_refl _, (by simpa using hx8 : w8.heap[g]? = _), ch_drewN HC.out⟩
  · have hd : decide (at_ < n) = false := decide_eq_false h
    go_enter Try.func34, Try.ntmps34
    go_wp2_with fail
    go_quiet (fail)
    go_wp2_with fail
    generalize hS : IntKind.u64.wrap (IntKind.u64.wrap (IntKind.u64.wrap (seed * 6364136223846793005)) + 1442695040888963407) = S
    have hSb : 0 ≤ S ∧ S < 18446744073709551616 := by rw [← hS, IntKind.wrap_u64]; omega
    clear hS
    obtain ⟨w8, hw8⟩ : ∃ w8, w8 = ((w.drewN nq).setCell ⟨g, 1, none⟩ (.int .i64 ((at_ : Int) + 1))).setCell ⟨g, 2, none⟩ (.int .u64 S) := ⟨_, rfl⟩
    have hx8 : w8.heap[g]? = some (.cells #[.slice A n c, .int .i64 ((at_ : Int) + 1), .int .u64 S] 61 (0, 0)) := by
      have h0 : (w.drewN nq).heap[g]? = _ := hg
      rw [hw8]
      simpa using blk_set (blk_set h0 1 (.int .i64 ((at_ : Int) + 1))) 2 (.int .u64 S)
    have HC : Hid (Ch (· = g) w w8) := Lib.hid (by rw [hw8]; exact (ch_drewN (Ch.refl _ w)).trans ((ch_set _ g 1 _).trans (ch_set _ g 2 _)))
    rw [← hw8]
    clear hw8 q0 q1 q2 f1 f2
    have q0 := blk_cell hx8 0 rfl
    have q1 := blk_cell hx8 1 rfl
    have q2 := blk_cell hx8 2 rfl
    have hd2 : decide (at_ + 1 ≤ n) = false := decide_eq_false (by omega)
    have hd3 : ¬ (at_ : Int) + 1 ≤ (n : Int) := by omega
    go_quiet (fail)
    go_wp2_with fail
    go_ret
    obtain ⟨h0, h255⟩ := and255 S hSb.1 hSb.2
    exact ⟨_, S, at_ + 1, rfl, h0, h255, Nat.le_refl _, (by simpa using hx8 : w8.heap[g]? = _), ch_drewN HC.out⟩
theorem ch_rd {F : Nat → Prop} {w w' : World} {A : Option Addr} {n : Nat} {vs : List Value} (h : Rd w A n vs) (hc : Ch F w w') (hd : 0 < n → ∀ b off, A = some ⟨b, off, none⟩ → ¬ F b) : Rd w' A n vs := by
  refine ⟨h.1, fun hn => ?_⟩
  obtain ⟨b, off, e, hlt, hcell⟩ := h.2 hn
  refine ⟨b, off, e, Nat.lt_of_lt_of_le hlt hc.size, fun j u hu => ?_⟩
  have h1 := hcell j u hu
  have h2 := hc.block b hlt (hd hn b off e)
  unfold World.cell? at h1 ⊢
  simp only at h1 ⊢
  rw [h2]
  exact h1
set_option maxHeartbeats 4000000 in
theorem pick_any (w : World) (g : Nat) (A : Option Addr) (n c at_ : Nat) (seed : Int) (hg : w.heap[g]? = some (.cells #[.slice A n c, .int .i64 at_, .int .u64 seed] 61 (0, 0))) (bs : List Int) (hr : Rd w A n (bytesV bs)) (hgA : 0 < n → ∀ b off, A = some ⟨b, off, none⟩ → b ≠ g) (hbs : ∀ b ∈ bs, 0 ≤ b ∧ b ≤ 255) (hn : n ≤ 1000000000) (ha : at_ ≤ 900000000) (m : Int) (hm : m ≤ 1000000) :
    Calls Try.prog 14 #[.pointer (some ⟨g, 0, none⟩), .int .i64 m] w (NextPost w g A n c (if m ≤ 1 then 0 else m - 1) (at_ + 2)) := by
  have HBS := Lib.hid hbs; clear hbs
  by_cases h1 : m ≤ 1
  · rw [if_pos h1]
    go_enter Try.func14, Try.ntmps14
    go_wp2_with fail
    go_ret
    exact ⟨0, seed, at_, rfl, by omega, by omega, by omega, hg, Ch.refl _ _⟩
  · rw [if_neg h1]
    have hmz : ¬ m = 0 := by omega
    go_enter Try.func14, Try.ntmps14
    go_wp2_with fail
    refine (next_any w g A n c at_ seed hg bs hr HBS.out hn (by omega)).mono ?_
    rintro e w1 ⟨x, s1, k1, rfl, hx0, hx1, hk1, hg1, hc1⟩
    by_cases h2 : 200 < m
    · go_wp2_with fail
      refine (next_any w1 g A n c k1 s1 hg1 bs (ch_rd hr hc1 (fun hp b off e => hgA hp b off e)) HBS.out hn (by omega)).mono ?_
      rintro e w2 ⟨y, s2, k2, rfl, hy0, hy1, hk2, hg2, hc2⟩
      have hm1 := Int.emod_nonneg (x * 256 + y) (show m ≠ 0 by omega)
      have hm2 := Int.emod_lt_of_pos (x * 256 + y) (show 0 < m by omega)
      go_wp2_with fail
      go_ret
      exact ⟨_, s2, k2, rfl, hm1, by omega, by omega, hg2, hc1.trans hc2⟩
    · have hm1 := Int.emod_nonneg x (show m ≠ 0 by omega)
      have hm2 := Int.emod_lt_of_pos x (show 0 < m by omega)
      go_wp2_with fail
      go_ret
      exact ⟨_, s1, k1, rfl, hm1, by omega, by omega, hg1, hc1⟩
end Go.Proofs.Ytgnboemmlohahaa
