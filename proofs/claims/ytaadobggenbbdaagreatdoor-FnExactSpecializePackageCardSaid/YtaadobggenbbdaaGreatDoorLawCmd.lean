/- The contracts of the laws' own helpers on commands. -/
import Derived.Test.YtaadobggenbbdaaGreatDoorLawCmM
import Derived.Test.YtaadobggenbbdaaGreatDoorOpenC
import Derived.Test.YtaadobggenbbdaaGreatDoorGD
namespace Go.Proofs.YtaadobggenbbdaaGreatDoor
open Go.RowKit
set_option linter.unusedVariables false
set_option linter.unusedSimpArgs false
def ToCmP (w : World) (x : Cmd) (e : Ending) (w' : World) : Prop :=
  ∃ A n c, e = .returned (.agg #[.int .i64 x.k, .int .i64 x.v, .int .i64 x.l, .slice A n c]) ∧ w'.ownsRow w.heap.size 98 2 (.slice A n c) n (ints (eNums x.e)) ∧ Below w.heap.size w w'
set_option maxHeartbeats 2000000 in
theorem toCommand_any (w : World) (x : Cmd) (A : Option Addr) (n c : Nat) (hr : RdE w A n x.e) (hn : n ≤ 1000000000) : Calls Tryz.prog 38 #[.agg #[.int .i64 x.k, .int .i64 x.v, .int .i64 x.l, .slice A n c]] w (ToCmP w x) := by
  obtain ⟨xk, xv, xl, xe⟩ := x
  simp only at hr
  go_enter Tryz.func38, Tryz.ntmps38
  go_wp2_with fail
  refine (toExprS_any _ _ _ _ _ (((hr.below (below_new _ _) (Nat.le_refl _)).below (below_new _ _) (Nat.le_refl _)).below (below_new _ _) (Nat.le_refl _)) (by omega)).mono ?_
  rintro e w2 ⟨A2, n2, c2, rfl, ho2, hb2⟩
  obtain ⟨hb3, hx3, hs3⟩ := box_step hb2
  obtain ⟨hb4, hx4, hs4⟩ := box_step hb3
  obtain ⟨hb5, hx5, hs5⟩ := box_step hb4
  simp only [World.size_alloc] at hx3 hx4 hs3 hs4 ho2
  have z0 := blk_cell hx3 0 rfl
  have z1 := blk_cell hx3 1 rfl
  have z2 := blk_cell hx3 2 rfl
  have z3 := blk_cell hx3 3 rfl
  have f3 := blk_free hx3 3
  have y0 := blk_cell hx4 0 rfl
  have y1 := blk_cell hx4 1 rfl
  have y2 := blk_cell hx4 2 rfl
  have y3 := blk_cell hx4 3 rfl
  have g0 := blk_free hx4 0
  have g1 := blk_free hx4 1
  have g2 := blk_free hx4 2
  have g3 := blk_free hx4 3
  have HO := Lib.hid ho2
  have HB := Lib.hid hb5
  have HX := Lib.hid hx4
  clear hb2 hb3 hb4 hb5 hx3 hx4 hx5 hr ho2
  go_wp2_with fail
  have HC := ch_setF (g := w.heap.size + 1) (i := 3) (u := .slice A2 n2 c2) (ch_setF (g := w.heap.size + 1) (i := 2) (u := .int .i64 xl) (ch_setF (g := w.heap.size + 1) (i := 1) (u := .int .i64 xv) (ch_setF (g := w.heap.size + 1) (i := 0) (u := .int .i64 xk) (ch_setF (g := w.heap.size + 1 + 1) (i := 3) (u := .slice A2 n2 c2) (Ch.refl (fun k => k = w.heap.size + 1 ∨ k = w.heap.size + 1 + 1) w2) (.inr rfl)) (.inl rfl)) (.inl rfl)) (.inl rfl)) (.inl rfl)
  have hz := blk_set (blk_set (blk_set (blk_set (blk_far (p := ⟨w.heap.size + 1 + 1, 3, none⟩) (u := .slice A2 n2 c2) HX.out (by simp)) 0 (.int .i64 xk)) 1 (.int .i64 xv)) 2 (.int .i64 xl)) 3 (.slice A2 n2 c2)
  have t0 := blk_cell hz 0 rfl
  have t1 := blk_cell hz 1 rfl
  have t2 := blk_cell hz 2 rfl
  have t3 := blk_cell hz 3 rfl
  clear hz z0 z1 z2 z3 y0 y1 y2 y3
  generalize ((((w2.setCell ⟨w.heap.size + 1 + 1, 3, none⟩ (.slice A2 n2 c2)).setCell ⟨w.heap.size + 1, 0, none⟩ (.int .i64 xk)).setCell ⟨w.heap.size + 1, 1, none⟩ (.int .i64 xv)).setCell ⟨w.heap.size + 1, 2, none⟩ (.int .i64 xl)).setCell ⟨w.heap.size + 1, 3, none⟩ (.slice A2 n2 c2) = w9 at HC t0 t1 t2 t3 ⊢
  refine bodyPost_ret (v := .agg #[.int .i64 xk, .int .i64 xv, .int .i64 xl, .slice A2 n2 c2]) ?_ rfl ⟨A2, n2, c2, rfl, own_ch (ownN_base HO.out (by omega)) HC (fun k h1 h2 => by have := (HO.out.lt k h1).1; omega), below_ch HB.out HC (fun k hk => by omega) HB.out.size⟩
  simp [results, Tryz.results38, go_sem, t0, t1, t2, t3]
theorem zc_cells (n : Nat) : (madeCells (Value.agg #[.int .i64 0, .int .i64 0, .int .i64 0, .slice none 0 0]).cells (n * 4)).toList = flatC (List.replicate n ⟨0, 0, 0, []⟩) (List.replicate n (.slice none 0 0)) := by
  have e1 : flatC (List.replicate n ⟨0, 0, 0, []⟩) (List.replicate n (.slice none 0 0)) = (List.range (n * 4)).map (cellC (fun _ => (⟨0, 0, 0, []⟩, .slice none 0 0))) := by
    rw [← cellC_flat]
    congr 1
    · apply List.ext_getElem?; intro i; by_cases h : i < n <;> simp [h]
    · apply List.ext_getElem?; intro i; by_cases h : i < n <;> simp [h]
  rw [e1]
  apply List.ext_getElem?
  intro j
  by_cases hj : j < n * 4
  · have h4 : j % 4 = 0 ∨ j % 4 = 1 ∨ j % 4 = 2 ∨ j % 4 = 3 := by omega
    rcases h4 with h | h | h | h <;> simp [madeCells, hj, h, cellC, Value.cells]
  · simp [madeCells, hj]
theorem flatC_put : ∀ (a : List Cmd) (us : List Value) (z x : Cmd) (b : List Cmd) (s0 s : Value) (t : List Value), us.length = a.length →
    ((((flatC (a ++ z :: b) (us ++ s0 :: t)).set (a.length * 4) (.int .i64 x.k)).set (a.length * 4 + 1) (.int .i64 x.v)).set (a.length * 4 + 2) (.int .i64 x.l)).set (a.length * 4 + 3) s = flatC (a ++ x :: b) (us ++ s :: t)
  | [], [], z, x, b, s0, s, t, _ => by simp [flatC]
  | [], _ :: _, _, _, _, _, _, _, h => by simp at h
  | _ :: _, [], _, _, _, _, _, _, h => by simp at h
  | y :: a, u :: us, z, x, b, s0, s, t, h => by
    have := flatC_put a us z x b s0 s t (by simpa using h)
    simp only [List.cons_append, flatC, List.length_cons]
    rw [show (a.length + 1) * 4 = a.length * 4 + 1 + 1 + 1 + 1 by omega]
    simp only [List.set_cons_succ, Nat.add_right_comm _ 1 1, this]
set_option maxHeartbeats 4000000 in
theorem toCommandS_any (w : World) (A : Option Addr) (n c : Nat) (cs : List Cmd) (hr : RdD w A n cs) (hn : n ≤ 1000000000) : Calls Tryz.prog 16 #[.slice A n c] w (RetC w cs) := by
  have HL : Hid (cs.length = n) := Lib.hid hr.len
  go_enter Tryz.func16, Tryz.ntmps16
  go_wp2_with (at_make; go_must (refine wpList_mkN eltCm (by rfl) _ _ (by rfl) _ _ _ n (by rfl) (by rfl) (by rfl) (by rfl) (by omega) ?_); rintro w1 hown1 hb1 hs1)
  rw [zc_cells] at hown1
  go_loopw [4] (fun i wr => ∃ (k : Nat) (us : List Value), k ≤ n ∧ i = .int .i64 k ∧ Hid (us.length = k) ∧ wr.ownsRow w.heap.size 53 4 (.slice (some ⟨w.heap.size, 0, none⟩) n n) n (flatC (cs.take k ++ List.replicate (n - k) ⟨0, 0, 0, []⟩) (us ++ List.replicate (n - k) (.slice none 0 0))) ∧ InnerC wr (InR (w.heap.size + 1) wr.heap.size) us (cs.take k) ∧ w.heap.size < wr.heap.size ∧ Below w.heap.size w wr) (fun i _ => n - (intOf i).toNat)
  case atStart => exact ⟨0, [], Nat.zero_le _, rfl, Lib.hid rfl, by simpa using hown1, InnerC.nil _ _, hs1, hb1⟩
  case round =>
    obtain ⟨k, us, hk, rfl, HU, hown, hin, hws, hb⟩ := hrel
    clear hown1 hb1 hs1
    by_cases hlt : k < n
    · obtain ⟨x, hx⟩ := get_some (xs := cs) (k := k) (by rw [HL.out]; exact hlt)
      obtain ⟨b, off, A', n', c', hA, hbs, q0, q1, q2, q3, hn', hr'⟩ := hr.at_ hx
      subst hA
      have c0 := (hb.cell (p := ⟨b, off + k * 4, none⟩) hbs).trans q0
      have c1 := (hb.cell (p := ⟨b, off + k * 4 + 1, none⟩) hbs).trans q1
      have c2 := (hb.cell (p := ⟨b, off + k * 4 + 2, none⟩) hbs).trans q2
      have c3 := (hb.cell (p := ⟨b, off + k * 4 + 3, none⟩) hbs).trans q3
      have HX := Lib.hid hx
      clear hx q0 q1 q2 q3
      go_wp2_with fail
      refine (toCommand_any _ x _ _ _ (hr'.below hb (Nat.le_refl _)) (by omega)).mono ?_
      rintro e w2 ⟨A2, n2, d2, rfl, ho2, hb2⟩
      have hn2 : n2 ≤ 1000000000 := by have h1 := ho2.1; have h2 := rdE_len hr'; simp [eNums_len] at h1; omega
      have hown2 := ownN_below hown hb2 (Nat.le_refl _)
      have hin2 := hin.ch (ch_below (F := fun _ => False) hb2) (fun _ _ h => h)
      have HB2 := Lib.hid (hb.trans (hb2.mono hb.size))
      have hin3 := hin2.append (H := InR (w.heap.size + 1) w2.heap.size) (InnerC.one (G := InR wr.heap.size w2.heap.size) (x := x) ho2 hn2 (fun k hk => ho2.lt k hk)) (fun k a b => by have := a.2; have := b.1; omega) (fun k a => ⟨a.1, Nat.lt_of_lt_of_le a.2 hb2.size⟩) (fun k a => ⟨by have := a.1; omega, a.2⟩)
      have hlen : (cs.take k).length = k := by rw [List.length_take, HL.out]; omega
      obtain ⟨m, hm⟩ : ∃ m, n - k = m + 1 := ⟨n - k - 1, by omega⟩
      have hm2 : n - (k + 1) = m := by omega
      rw [hm, List.replicate_succ, List.replicate_succ] at hown2
      have hgg := flatC_get (cs := cs.take k ++ ⟨0, 0, 0, []⟩ :: List.replicate m ⟨0, 0, 0, []⟩) (ss := us ++ Value.slice none 0 0 :: List.replicate m (.slice none 0 0)) (k := k) (x := ⟨0, 0, 0, []⟩) (s := .slice none 0 0) (by rw [List.getElem?_append_right (by omega), hlen]; simp) (by rw [List.getElem?_append_right (by rw [HU.out]; omega), HU.out]; simp)
      obtain ⟨e0, e1, e2, e3⟩ := hgg
      obtain ⟨r0, f0⟩ := ownN_at hown2 e0
      obtain ⟨r1, f1⟩ := ownN_at hown2 e1
      obtain ⟨r2, f2⟩ := ownN_at hown2 e2
      obtain ⟨r3, f3⟩ := ownN_at hown2 e3
      have HS := Lib.hid (ownN_put (ownN_put (ownN_put (ownN_put hown2 (k * 4) (.int .i64 x.k)) (k * 4 + 1) (.int .i64 x.v)) (k * 4 + 2) (.int .i64 x.l)) (k * 4 + 3) (.slice A2 n2 d2))
      have HP := Lib.hid (flatC_put (cs.take k) us ⟨0, 0, 0, []⟩ x (List.replicate m ⟨0, 0, 0, []⟩) (.slice none 0 0) (.slice A2 n2 d2) (List.replicate m (.slice none 0 0)) (by rw [HU.out, hlen]))
      have HC := Lib.hid (ch_setF (g := w.heap.size) (i := k * 4 + 3) (u := .slice A2 n2 d2) (ch_setF (g := w.heap.size) (i := k * 4 + 2) (u := .int .i64 x.l) (ch_setF (g := w.heap.size) (i := k * 4 + 1) (u := .int .i64 x.v) (ch_setF (g := w.heap.size) (i := k * 4) (u := .int .i64 x.k) (Ch.refl (· = w.heap.size) w2) rfl) rfl) rfl) rfl)
      have HI := Lib.hid hin3
      have HLN := Lib.hid hlen
      have HM2 := Lib.hid hm2
      have HSZ := Lib.hid hb2.size
      clear hown hin hb hown2 hin2 hin3 hb2 ho2 e0 e1 e2 e3 hlen hm hm2
      go_wp2_with fail
      go_roundw
      case rel =>
        refine ⟨k + 1, us ++ [.slice A2 n2 d2], by omega, by go_num, Lib.hid (by simp [HU.out]), ?_, ?_, ?_, below_ch HB2.out HC.out (fun q hq => by omega) HB2.out.size⟩
        · rw [HM2.out, List.take_add_one, HX.out]
          have h := HS.out
          have h2 := HP.out
          rw [HLN.out] at h2
          rw [h2] at h
          simpa [World.setCell] using h
        · have h := HI.out.ch HC.out (fun q h1 h2 => by have := h1.1; omega)
          rw [List.take_add_one, HX.out]
          simpa [World.setCell] using h
        · have := HSZ.out; simp [World.setCell]; omega
      case measure => simp [intOf]; omega
    · go_wp2_with fail
      go_ret
      obtain rfl : k = n := by omega
      rw [List.take_of_length_le (by rw [HL.out]; omega)] at hin hown
      refine ⟨some ⟨w.heap.size, 0, none⟩, k, k, InR w.heap.size wr.heap.size, rfl, ⟨us, ownN_base (by simpa using hown) (Nat.zero_le _), fun q hq => hown.lt q hq, hin.mono (fun q hq => ⟨by have := hq.1; omega, hq.2⟩), fun q hq => hq.2⟩, fun q hq => hq, hb⟩
end Go.Proofs.YtaadobggenbbdaaGreatDoor
