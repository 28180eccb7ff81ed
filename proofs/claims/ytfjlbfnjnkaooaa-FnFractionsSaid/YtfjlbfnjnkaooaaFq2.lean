/- Programs of fractions (program): lowest terms. -/
import Derived.Test.YtfjlbfnjnkaooaaFq1
import Derived.Test.YtfjlbfnjnkaooaaAppN2
import Derived.Test.YtfjlbfnjnkaooaaEmq
namespace Go.Proofs.Ytfjlbfnjnkaooaa
open Go.RowKit
set_option linter.unusedSimpArgs false
set_option linter.unusedVariables false
theorem rd_new2 (w : World) (a b : Value) (T : Nat) : ∀ j u, [a, b][j]? = some u → (w.alloc (.cells #[a, b] T)).cell? ((⟨w.heap.size, 0, none⟩ : Addr).add j) = some u := fun j u hu => by
  have h1 : ((⟨w.heap.size, 0, none⟩ : Addr).add j) = ⟨w.heap.size, j, none⟩ := by unfold Addr.add; split <;> simp_all
  rw [h1]
  exact blk_cell (box_new w _ _) j (by simpa using hu)
theorem ints_pair (fs : List Fr) (x : Fr) : ints (flatF fs) ++ [.int .i64 (x.up : Int), .int .i64 (x.dn : Int)] = ints (flatF (fs ++ [x])) := by rw [flatF_snoc]; simp
theorem quo_wrap {u g : Nat} (h : u ≤ 1000000) : IntKind.i64.wrap ((u : Int) / (g : Int)) = (u : Int) / (g : Int) := by
  have e : (u : Int) / (g : Int) = ((u / g : Nat) : Int) := rfl
  have h2 := Nat.div_le_self u g
  rw [e]
  generalize u / g = q at h2
  exact IntWalk.i64_in _ (by omega)
theorem grown_undrew {w w' : World} {r : Option Nat} (h : w.drew.grownBy w' r) : w.grownBy w' r := ⟨h.os, h.tape, h.output, h.size, h.block⟩
set_option maxHeartbeats 4000000 in
set_option maxRecDepth 100000 in
theorem ReduceFractions_any (w : World) (A : Option Addr) (n c : Nat) (fs : List Fr) (hr : Rd w A (n * 2) (ints (flatF fs))) (h : OkFs fs) : Calls Try.prog 9 #[.slice A n c] w (RetNI w 39 2 (ints (flatF (fs.map low))) 0) := by
  have HL : Hid (fs.length = n) := Lib.hid (by have := hr.1; simp [flatF_len] at this; omega)
  have hn1 : n ≤ 100 := by have := h.len; have := HL.out; omega
  have HOK := Lib.hid h
  have HR := Lib.hid hr
  clear h hr
  go_enter Try.func9, Try.ntmps9
  go_wp2_with fail
  refine (ValidFractions_ok w A n c fs HR.out HOK.out).mono ?_
  rintro e w1 ⟨rfl, hb1⟩
  have HB1 := Lib.hid hb1
  have HO1 := Lib.hid (own_lit w1 #[] 0 39 rfl (by omega))
  clear hb1
  go_wp2_with fail
  go_loopw [4, 14] (fun p q wr => ∃ (k : Nat) (A : Option Addr) (c : Nat), k ≤ n ∧ q = .int .i64 k ∧ p = .slice A k c ∧ wr.ownsRow w.heap.size 39 2 (.slice A k c) k (ints (flatF ((fs.take k).map low))) ∧ Below w.heap.size w wr) (fun _ q _ => n - (intOf q).toNat)
  case atStart => exact ⟨0, _, 0, Nat.zero_le _, rfl, rfl, ownN_base (ownN_lit w1 #[] 0 2 39 rfl (by omega)) HB1.out.size, HB1.out.alloc HB1.out.size _⟩
  case round =>
    obtain ⟨k, A2, c2, hk, rfl, rfl, ho, hb⟩ := hrel
    have HO := Lib.hid ho; have HB := Lib.hid hb
    clear ho hb
    by_cases hlt : k < n
    · obtain ⟨x, hx⟩ := get_some (xs := fs) (k := k) (by rw [HL.out]; omega)
      obtain ⟨b, off, rfl, hbs, q0, q1⟩ := rdF HR.out hx
      replace q0 := (HB.out.cell (p := ⟨b, off + k * 2, none⟩) hbs).trans q0
      replace q1 := (HB.out.cell (p := ⟨b, off + k * 2 + 1, none⟩) hbs).trans q1
      have hokx := HOK.out.all x (List.mem_of_getElem? hx)
      have HX := Lib.hid hx
      obtain ⟨u, d⟩ := x
      obtain ⟨h1, h2, h3, h4⟩ := hokx
      simp only at q0 q1 h1 h2 h3 h4
      have hx6 := box_new wr #[.int .i64 (u : Int), .int .i64 (d : Int)] 39
      have y0 := blk_cell hx6 0 rfl
      have y1 := blk_cell hx6 1 rfl
      clear hx
      go_wp2_with fail
      refine (gcd_any _ u d (by omega) (by omega)).mono ?_
      rintro e w2 ⟨rfl, hb2⟩
      obtain ⟨g, hg⟩ : ∃ g, g = Nat.gcd u d := ⟨_, rfl⟩
      have hg0 : 0 < g := by rw [hg]; exact Nat.gcd_pos_of_pos_left _ h1
      have HG := Lib.hid hg
      rw [← hg]
      clear hg
      have hx62 := blk_bel hx6 hb2
      have y0 := blk_cell hx62 0 rfl
      have y1 := blk_cell hx62 1 rfl
      have HB2 : Hid (Below wr.heap.size wr w2) := Lib.hid ((below_new wr _).trans (hb2.mono (by simp)))
      have HO2 := Lib.hid (ownN_below HO.out HB2.out (Nat.le_refl _))
      have HBB := Lib.hid (HB.out.trans (HB2.out.mono HB.out.size))
      have HSZ : Hid (w.heap.size ≤ w2.heap.size) := Lib.hid HBB.out.size
      have hg1 : (1 : Int) ≤ (g : Int) := by omega
      clear hb2 hx6 hx62
      obtain ⟨o, ho⟩ : ∃ o : Obj, o = .cells #[.int .i64 ((u : Int) / (g : Int)), .int .i64 ((d : Int) / (g : Int))] 39 := ⟨_, rfl⟩
      have HN : Hid (∀ j u', [Value.int .i64 ((u : Int) / (g : Int)), .int .i64 ((d : Int) / (g : Int))][j]? = some u' → (w2.alloc (.cells #[.int .i64 ((u : Int) / (g : Int)), .int .i64 ((d : Int) / (g : Int))] 39)).cell? ((⟨w2.heap.size, 0, none⟩ : Addr).add j) = some u') := Lib.hid (rd_new2 w2 _ _ _)
      have HO3 : Hid ((w2.alloc (.cells #[.int .i64 ((u : Int) / (g : Int)), .int .i64 ((d : Int) / (g : Int))] 39)).ownsRow w.heap.size 39 2 (.slice A2 k c2) k (ints (flatF ((fs.take k).map low)))) := Lib.hid (ownN_below HO2.out (below_new _ _) (Nat.le_refl _))
      have HS3 : Hid (w.heap.size ≤ (w2.alloc (.cells #[.int .i64 ((u : Int) / (g : Int)), .int .i64 ((d : Int) / (g : Int))] 39)).heap.size) := Lib.hid (by have h := HSZ.out; simp; omega)
      have HB3 : Hid (Below w.heap.size w (w2.alloc (.cells #[.int .i64 ((u : Int) / (g : Int)), .int .i64 ((d : Int) / (g : Int))] 39))) := Lib.hid (HBB.out.alloc HSZ.out _)
      have hgz : ¬ g = 0 := by omega
      have hwu : IntKind.i64.wrap ((u : Int) / (g : Int)) = (u : Int) / (g : Int) := quo_wrap (by omega)
      have hwd : IntKind.i64.wrap ((d : Int) / (g : Int)) = (d : Int) / (g : Int) := quo_wrap (by omega)
      clear ho
      go_wp2_with fail
      (first | (go_region_law (first
        | (refine step_app1N eltF (by rfl) _ _ (by rfl) _ w.heap.size (.slice A2 k c2) k (ints (flatF ((fs.take k).map low))) (by rfl) (by have h := HO3.out; exact h) ⟨w2.heap.size, 0, none⟩ [.int .i64 ((u : Int) / (g : Int)), .int .i64 ((d : Int) / (g : Int))] rfl (by rfl) (by have h := HN.out; exact h) (by simp [Value.oneCell']) (by have h := HS3.out; exact h) (by omega) ?_
           intro A9 c9 w9 ho9 hg9
           have HO9 := Lib.hid ho9; have HG9 := Lib.hid hg9
           clear ho9 hg9))) | fail)
      all_goals
        as_aux_lemma =>
        have ho9 := HO9.out
        have e1 : [Value.int .i64 ((u : Int) / (g : Int)), .int .i64 ((d : Int) / (g : Int))] = [.int .i64 ((low ⟨u, d⟩).up : Int), .int .i64 ((low ⟨u, d⟩).dn : Int)] := by
          rw [HG.out]; rfl
        rw [e1, ints_pair] at ho9
        have e2 : (fs.take k).map low ++ [low ⟨u, d⟩] = (fs.take (k + 1)).map low := by rw [List.take_add_one, HX.out]; simp
        rw [e2] at ho9
        have HO10 := Lib.hid ho9
        have HB9 : Hid (Below w.heap.size w w9) := Lib.hid (HB3.out.trans (below_grown (base := w.heap.size) (by have h := HG9.out; first | exact h | exact grown_undrew h) HS3.out (fun q hq => (HO3.out.lt q hq).1)))
        clear ho9 e1 e2 HO9 HG9
        go_wp2_with fail
        go_roundw
        case rel => exact ⟨k + 1, A9, c9, by omega, by go_num, rfl, HO10.out, HB9.out⟩
        case measure => simp only [intOf]; omega
    · obtain rfl : k = n := by omega
      go_wp2_with fail
      go_ret2
      have ho := HO.out
      rw [List.take_of_length_le (by rw [HL.out]; exact Nat.le_refl _)] at ho
      exact ⟨A2, k, c2, rfl, ho, HB.out⟩
end Go.Proofs.Ytfjlbfnjnkaooaa
