/- R8Program: a program and contents out of bytes (reference). -/
import Derived.Test.YtgnboemmlohahaaRrK
namespace Go.Proofs.Ytgnboemmlohahaa
open Go.RowKit
set_option linter.unusedVariables false
set_option linter.unusedSimpArgs false
attribute [local go_sem ↓] Go.wp_at_zero Go.wp_at_succ
theorem rows_ne {w : World} {b1 e1 s1 n1 b2 e2 s2 n2 : Nat} {v1 v2 : Value} {vs1 vs2 : List Value} (h1 : w.ownsRow b1 e1 s1 v1 n1 vs1) (h2 : w.ownsRow b2 e2 s2 v2 n2 vs2) (hT : e1 ≠ e2) (q : Nat) (k1 : Fo v1 q) (k2 : Fo v2 q) : False := by
  obtain ⟨cs, hc⟩ := own_fo h1 k1
  obtain ⟨ds, hd⟩ := own_fo h2 k2
  exact blk_ne hc hd hT rfl
def R8P (w : World) (e : Ending) (w' : World) : Prop :=
  ∃ A1 m1 c1 p A2 m2 c2 cs, e = .returned (.tuple #[.slice A1 m1 c1, .slice A2 m2 c2]) ∧ w'.ownsRow w.heap.size 49 4 (.slice A1 m1 c1) m1 (ints (flatI p)) ∧ okProg p = true ∧ m1 ≤ 20 ∧ w'.ownsRow w.heap.size 2 1 (.slice A2 m2 c2) m2 (ints cs) ∧ m2 ≤ 4 ∧ allIn cs 0 4 = true ∧ Below w.heap.size w w'
theorem FlS.grow {w0 w wr w' : World} {g n c lim k c1 B e s m : Nat} {A A1 : Option Addr} {ps : List Ins} {v : Value} {vs : List Value} (h : FlS w0 w g A n c lim A1 k c1 ps wr) (ho : wr.ownsRow B e s v m vs) (hg : wr.grownBy w' v.ownBlock) (hT : 49 ≠ e) (hT2 : 61 ≠ e) (hB : w.heap.size ≤ B) (h0 : w0.heap.size ≤ w.heap.size) : FlS w0 w g A n c lim A1 k c1 ps w' :=
  ⟨own_ch h.own (ch_row hg) (fun q hq e => rows_ne h.own ho hT q hq e), h.src.ch (ch_row hg) (h.src.not hT2 ho), fl_grow h.ch hg (fun q hq => Nat.le_trans hB (ho.lt q hq).1), below_ch h.bel (ch_row hg) (fun q hq => by have := (ho.lt q hq).1; omega) h.bel.size⟩
set_option maxHeartbeats 4000000 in
set_option maxRecDepth 100000 in
theorem R8Program_any (w : World) (A : Option Addr) (n c : Nat) (bs : List Int) (hr : Rd w A n (bytesV bs)) (hbs : ∀ b ∈ bs, 0 ≤ b ∧ b ≤ 255) (hn : n ≤ 1000000000) :
    Calls Try.prog 5 #[.slice A n c] w (R8P w) := by
  have hS : SrS w w.heap.size A n bs := ⟨hr, hbs, hn, Nat.le_refl _⟩
  have HPK := Lib.hid (fun (wx : World) (lx : Nat) (h1 : SrcAt wx w.heap.size A n c lx) (h2 : Below w.heap.size w wx) (h3 : lx ≤ 800000000) (m : Int) (h4 : 1 ≤ m) (h5 : m ≤ 1000000) => pickS hS h1 h2 h3 m h4 h5)
  have HDO := Lib.hid (fun (wx : World) (lx : Nat) (h1 : SrcAt wx w.heap.size A n c lx) (h2 : Below w.heap.size w wx) (h3 : lx ≤ 600000000) => l07DrawOk_any hS h1 h2 h3)
  clear hS hr hbs hn
  go_enter Try.func5, Try.ntmps5
  go_upto_region 2 with (go_at_call 12
                         refine (l00From_any w A n c).mono ?_
                         rintro e w1 ⟨rfl, hw1⟩
                         have HB1 : Hid (Below w.heap.size w w1) := Lib.hid (by rw [hw1]; exact below_new _ _)
                         have HS1 : Hid (SrcAt w1 w.heap.size A n c 0) := Lib.hid ⟨0, 0, Nat.le_refl _, by rw [hw1]; exact box_new _ _ _⟩
                         clear hw1)
  go_upto_region 3 with (go_at_call 13
                         have hh := HDO.out w1 _ HS1.out HB1.out (by omega)
                         refine hh.mono ?_
                         rintro e w2 ⟨A2, m2, c2, p, rfl, hf, hp, hm⟩
                         have HF2 := Lib.hid hf; have HP := Lib.hid (And.intro hp hm)
                         clear hf hp hm hh)
  obtain ⟨w3, hw3⟩ : ∃ w3, w3 = w2.alloc (.cells #[] 2) := ⟨_, rfl⟩
  have HF3 : Hid (FlS w w1 w.heap.size A n c 300 A2 m2 c2 p w3) := Lib.hid (by rw [hw3]; exact HF2.out.below (below_new _ _))
  have HO3 : Hid (w3.ownsRow w1.heap.size 2 1 (.slice (some ⟨w2.heap.size, 0, none⟩) 0 0) 0 (ints [])) := Lib.hid (by rw [hw3]; exact own_base (own_lit w2 #[] 0 2 rfl (by omega)) HF2.out.ch.size)
  go_upto_region 4 with fail
  rw [← hw3]
  clear hw3 HF2
  go_wp2_with (go_at_call 14
               have hh := HPK.out w3 _ HF3.out.src HF3.out.bel (by omega) 2 (by omega) (by omega)
               refine hh.mono ?_
               rintro e w4 ⟨x, rfl, h10, h11, hs, hc, hb⟩
               have HX := Lib.hid (And.intro h10 h11)
               have hwx := wr_of (x := 3 + x) (by omega) (by omega)
               have HF4 := Lib.hid (HF3.out.pick hc hs hb)
               have HO4 := Lib.hid (own_ch HO3.out hc (fun q hq e => HF3.out.src.not (by decide) HO3.out (by rw [← e]; exact hq)))
               clear h10 h11 hs hc hb hh)
  obtain ⟨M, hM⟩ : ∃ M : Nat, x = (M : Int) := ⟨x.toNat, by have := HX.out; omega⟩
  subst hM
  clear hwx
  have HMB : Hid (M ≤ 1) := Lib.hid (by have := HX.out; omega)
  go_loopw [6, 7] (fun v q wr => ∃ (m : Nat) (A1 : Option Addr) (n1 c1 : Nat) (xs : List Int), q = .int .i64 m ∧ v = .slice A1 n1 c1 ∧ m + n1 ≤ 4 ∧ Hid (wr.ownsRow w1.heap.size 2 1 (.slice A1 n1 c1) n1 (ints xs)) ∧ Hid (allIn xs 0 4 = true) ∧ Hid (FlS w w1 w.heap.size A n c (302 + 2 * n1) A2 m2 c2 p wr)) (fun _ q _ => (intOf q).toNat)
  case atStart => exact ⟨3 + M, _, 0, 0, [], by congr 1, rfl, by have := HMB.out; omega, HO4, Lib.hid rfl, HF4⟩
  case round =>
    obtain ⟨m, A1, n1, c1, xs, rfl, rfl, hm, HO, HAL, HF⟩ := hrel
    by_cases h0 : 0 < m
    · skip
      go_wp2_with (first
        | (go_at_call 14
           have hh := HPK.out wr _ HF.out.src HF.out.bel (by omega) 5 (by omega) (by omega)
           refine hh.mono ?_
           rintro e w5 ⟨y, rfl, h10, h11, hs, hc, hb⟩
           have HY := Lib.hid (And.intro h10 h11)
           have HF5 := Lib.hid (HF.out.pick hc hs hb)
           have HO5 := Lib.hid (own_ch HO.out hc (fun q hq e => HF.out.src.not (by decide) HO.out (by rw [← e]; exact hq)))
           clear h10 h11 hs hc hb hh)
        | (at_builtin; go_must (refine wpList_app1g Try.eltI rfl _ _ rfl w5 w1.heap.size _ n1 _ (by rfl) HO5.out _ (by rfl) (by rfl) (by have h := HF5.out.ch.size; exact h) (by omega) ?_); rintro A6 c6 w6 ho6 hb6 hg6
           have HO6 := Lib.hid ho6
           have HF6 := Lib.hid (HF5.out.grow HO5.out hg6 (by decide) (by decide) (Nat.le_refl _) HB1.out.size)
           clear ho6 hb6 hg6))
      go_roundw
      case rel => exact ⟨m - 1, A6, n1 + 1, c6, xs ++ [y], by congr 1; omega, rfl, by omega, Lib.hid (by have h := HO6.out; rw [ints_snoc'] at h; exact h), Lib.hid (by
        rw [allIn_true]
        intro z hz
        rcases List.mem_append.1 hz with hz | hz
        · exact allIn_true.1 HAL.out z hz
        · have h1 := List.mem_singleton.1 hz; have h2 := HY.out; omega), Lib.hid (by
        have e : 302 + 2 * (n1 + 1) = 302 + 2 * n1 + 2 := by omega
        rw [e]; exact HF6.out)⟩
      case measure => simp [intOf]; omega
    · skip
      obtain rfl : m = 0 := by omega
      go_wp2_with fail
      go_ret2
      exact ⟨A2, m2, c2, p, A1, n1, c1, xs, rfl, ownN_base HF.out.own HB1.out.size, HP.out.1, HP.out.2, own_base HO.out HB1.out.size, by omega, HAL.out, HF.out.bel⟩
end Go.Proofs.Ytgnboemmlohahaa
