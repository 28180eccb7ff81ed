/- The universal program: a digit as text (reference): l01Dec. -/
import Derived.Test.YtadmbphefpfbmaaGreatDoorUvE
import Derived.Laws.IdiomStrings
namespace Go.Proofs.YtadmbphefpfbmaaGreatDoor
open Go.RowKit
set_option linter.unusedVariables false
set_option linter.unusedSimpArgs false
attribute [local go_sem ↓] Go.wp_at_zero Go.wp_at_succ
theorem l01Dec0_any (w : World) : Calls Tryz.prog 142 #[.int .i64 0] w (fun e w' => e = .returned (.string (decB 0)) ∧ Below w.heap.size w w') := by
  go_enter Tryz.func142, Tryz.ntmps142
  go_wp2_with fail
  go_ret
  exact ⟨rfl, Below.refl _ _⟩
theorem infoU8g : (Tryz.prog.info? 5).map (fun i => (i.zero, i.size, i.bytes)) = some (some (.int .u8 0), 1, 1) := by kernel_rfl
theorem eltU8g : Elt Tryz.prog 52 5 (.int .u8 0) := Elt.mk_ Tryz.underlying52 infoU8g rfl (by decide)
theorem decV_conv (w : World) (g c d : Nat) (hd : d ≤ 5) (h : w.cell? ⟨g, 0, none⟩ = some (.int .u8 ((48 + d : Nat) : Int))) : (convert 52 9 (.slice (some ⟨g, 0, none⟩) 1 c)).run Tryz.prog w = .ok (.string (decB d)) w := by
  have h1 := run_convert_bytes_back (P := Tryz.prog) w 52 9 5 ⟨g, 0, none⟩ c [UInt8.ofNat (48 + d)] Tryz.underlying52 Tryz.underlying5 Tryz.underlying9 (fun j hj => by
    have : j = 0 := by simpa using hj
    subst this
    have e : (UInt8.ofNat (48 + d)).toNat = 48 + d := by simp; omega
    simp only [List.getElem_cons_zero, e]
    exact h)
  exact h1
set_option maxRecDepth 100000 in
set_option maxHeartbeats 4000000 in
theorem l01DecP_any (w : World) (d : Nat) (h1 : 1 ≤ d) (h5 : d ≤ 5) : Calls Tryz.prog 142 #[.int .i64 (d : Int)] w (fun e w' => e = .returned (.string (decB d)) ∧ Below w.heap.size w w') := by
  have hd0 : ¬ (d : Int) = 0 := by omega
  have hdb : ((d : Int) == 0) = false := by rw [beq_eq_false_iff_ne]; exact hd0
  have hdb2 : ((d : Int) != 0) = true := by simp; omega
  have hdn : ¬ (d : Int) < 0 := by omega
  have hr : (d : Int).tmod 10 = (d : Int) := by rw [Int.tmod_eq_emod_of_nonneg (by omega)]; omega
  have hq : (d : Int).tdiv 10 = 0 := by rw [Int.tdiv_eq_ediv_of_nonneg (by omega)]; omega
  obtain ⟨w1, hw1⟩ : ∃ w1, w1 = w.alloc (.cells #[] 5) := ⟨_, rfl⟩
  have HB1 : Hid (Below w.heap.size w w1) := Lib.hid (by rw [hw1]; exact below_new _ _)
  have HO1 : Hid (w1.ownsRow w.heap.size 5 1 (.slice (some ⟨w.heap.size, 0, none⟩) 0 0) 0 []) := Lib.hid (by rw [hw1]; exact own_lit w #[] 0 5 rfl (by omega))
  have HD : Hid (1 ≤ d ∧ d ≤ 5) := Lib.hid ⟨h1, h5⟩
  go_enter Tryz.func142, Tryz.ntmps142
  go_upto_region 5 with fail
  rw [← hw1]
  clear hw1
  go_loopw [3, 4] (fun u v wr => (u = .slice (some ⟨w.heap.size, 0, none⟩) 0 0 ∧ v = .int .i64 (d : Int) ∧ wr = w1) ∨ (∃ A c, u = .slice A 1 c ∧ v = .int .i64 0 ∧ Hid (wr.ownsRow w.heap.size 5 1 (.slice A 1 c) 1 [.int .u8 ((48 + d : Nat) : Int)]) ∧ Hid (Below w.heap.size w wr))) (fun _ v _ => (intOf v).toNat)
  case atStart => exact .inl ⟨rfl, rfl, rfl⟩
  case round =>
    rcases hrel with ⟨rfl, rfl, rfl⟩ | ⟨A, c, rfl, rfl, HO, HB⟩
    · have hw8 : IntKind.u8.wrap (48 + (d : Int)) = ((48 + d : Nat) : Int) := by rw [IntWalk.u8_in _ (by omega)]; omega
      have hw9 : IntKind.i64.wrap (48 + (d : Int)) = 48 + (d : Int) := IntWalk.i64_in _ (by omega)
      go_wp2_with (at_builtin; go_must (refine wpList_app1g eltU8g rfl _ _ rfl wr w.heap.size (.slice (some ⟨w.heap.size, 0, none⟩) 0 0) 0 [] (by rfl) HO1.out (.int .u8 ((48 + d : Nat) : Int)) (by rfl) (by rfl) HB1.out.size (by omega) ?_); rintro A6 c6 w6 ho6 hb6 hg6
                   have HO6 : Hid (w6.ownsRow w.heap.size 5 1 (.slice A6 1 c6) 1 [.int .u8 ((48 + d : Nat) : Int)]) := Lib.hid ho6
                   have HB6 : Hid (Below w.heap.size w w6) := Lib.hid (HB1.out.trans hb6)
                   clear ho6 hb6 hg6)
      exact ⟨.inr ⟨A6, c6, rfl, rfl, HO6, HB6⟩, by simp [intOf]; omega⟩
    · clear HO1 HB1
      obtain ⟨w2, hw2⟩ : ∃ w2, w2 = wr.alloc (.cells #[] 5) := ⟨_, rfl⟩
      have hbw : Below wr.heap.size wr w2 := by rw [hw2]; exact below_new _ _
      have HB2 : Hid (Below w.heap.size w w2) := Lib.hid (bqcP hbw HB.out)
      have HO2 := Lib.hid (ownN_below HO.out hbw (Nat.le_refl _))
      obtain ⟨n2, hn2⟩ : ∃ n2, n2 = wr.heap.size := ⟨_, rfl⟩
      have HN2 : Hid (w2.ownsRow w.heap.size 5 1 (.slice (some ⟨n2, 0, none⟩) 0 0) 0 []) := Lib.hid (by rw [hw2, hn2]; exact ownN_base (own_lit wr #[] 0 5 rfl (by omega)) HB.out.size)
      have HWS : Hid (w.heap.size ≤ wr.heap.size) := Lib.hid HB.out.size
      clear hbw hr hq hdb hdb2 hd0
      go_upto_region 15 with fail
      rw [← hw2, ← hn2]
      clear hw2 hn2 HO HB
      go_loopw [6, 7] (fun u v w3 => (u = .slice (some ⟨n2, 0, none⟩) 0 0 ∧ v = .int .i64 0 ∧ w3 = w2) ∨ (∃ A c, u = .slice A 1 c ∧ v = .int .i64 (-1) ∧ Hid (w3.ownsRow w.heap.size 5 1 (.slice A 1 c) 1 [.int .u8 ((48 + d : Nat) : Int)]) ∧ Hid (Below w.heap.size w w3))) (fun _ v _ => (intOf v + 1).toNat)
      case atStart => exact .inl ⟨rfl, rfl, rfl⟩
      case round =>
        rcases hrel with ⟨rfl, rfl, rfl⟩ | ⟨A', c', rfl, rfl, HO, HB⟩
        · obtain ⟨g, rfl, hg, hgs, q0, _⟩ := own_get HO2.out (k := 0) (u := .int .u8 ((48 + d : Nat) : Int)) rfl
          clear hg hgs
          go_wp2_with (at_builtin; go_must (refine wpList_app1g eltU8g rfl _ _ rfl wr w.heap.size (.slice (some ⟨n2, 0, none⟩) 0 0) 0 [] (by rfl) HN2.out (.int .u8 ((48 + d : Nat) : Int)) (by rfl) (by rfl) HB2.out.size (by omega) ?_); rintro A6 c6 w6 ho6 hb6 hg6
                       have HO6 : Hid (w6.ownsRow w.heap.size 5 1 (.slice A6 1 c6) 1 [.int .u8 ((48 + d : Nat) : Int)]) := Lib.hid ho6
                       have HB6 : Hid (Below w.heap.size w w6) := Lib.hid (HB2.out.trans hb6)
                       clear ho6 hb6 hg6)
          first
            | exact ⟨.inr ⟨A6, c6, rfl, rfl, HO6, HB6⟩, by simp [intOf]⟩
            | (go_roundw
               case rel => exact .inr ⟨A6, c6, rfl, rfl, HO6, HB6⟩
               case measure => simp [intOf])
        · obtain ⟨g, rfl, hg, hgs, q0, _⟩ := own_get HO.out (k := 0) (u := .int .u8 ((48 + d : Nat) : Int)) rfl
          have hcv := decV_conv wr g c' d HD.out.2 q0
          clear hg hgs
          go_wp2_with fail
          go_ret
          exact ⟨rfl, HB.out⟩
theorem l01DecV_any (w : World) (d : Nat) (h5 : d ≤ 5) : Calls Tryz.prog 142 #[.int .i64 (d : Int)] w (fun e w' => e = .returned (.string (decB d)) ∧ Below w.heap.size w w') := by
  by_cases h : d = 0
  · subst h; exact l01Dec0_any w
  · exact l01DecP_any w d (by omega) h5
end Go.Proofs.YtadmbphefpfbmaaGreatDoor
