/- CheckContexts (program): whether letters and states fit, whether lists are in a set. Written by mk_cki.py. -/
import Derived.Test.YtanicbbgneobpaaGreatCkV
import Derived.Test.YtanicbbgneobpaaGreatGJ
import Derived.Test.YtanicbbgneobpaaGreatGC
import Derived.Deep.DrawnRows
namespace Go.Proofs.YtanicbbgneobpaaGreat
open Go.RowKit
set_option linter.unusedVariables false
set_option linter.unusedSimpArgs false
attribute [local go_sem ↓] Go.wp_at_zero Go.wp_at_succ
def fitW (s t : Int) (xs : List Int) : Bool := decide (xs.getD 0 0 < t) && allIn xs.tail 0 (s - 1)
theorem has1_any (w : World) (gb g mB : Nat) (len : Int) (xss : List (List Int)) (hc : w.cell? ⟨gb, 0, none⟩ = some (.pointer (some ⟨g, 0, none⟩))) (hs : IsSet w g mB len xss) (A : Option Addr) (n c : Nat) (xs : List Int) (hr : Rd w A n (ints xs)) (hg : Gw xs) (hx : ∀ ys ∈ xss, Gw ys ∧ ys.length = xs.length) :
    Calls Tryz.prog 80 #[.slice A n c, .pointer (some ⟨gb, 0, none⟩)] w (RetV w (.bool (!decide (xs ∈ xss)))) := by
  have HS := Lib.hid hs; have HR := Lib.hid hr; have HG := Lib.hid hg; have HX := Lib.hid hx
  obtain ⟨z, hz⟩ : ∃ z, z = decide (xs ∈ xss) := ⟨_, rfl⟩
  rw [← hz]
  have HZ := Lib.hid hz
  clear hs hr hg hx hz
  go_enter Tryz.func80, Tryz.ntmps80
  go_wp2_with fail
  refine (has_any w g mB len xss HS.out A n c xs HR.out HG.out HX.out).mono ?_
  rw [← HZ.out]
  rintro e w1 ⟨rfl, hb⟩
  go_wp2_with fail
  go_ret
  exact ⟨rfl, hb⟩
set_option maxHeartbeats 1000000 in
theorem indexFuncHS (w : World) (A : Option Addr) (n c : Nat) (ps : List (List Int)) (hr : RdL w A n ps) (hn : n ≤ 1000000000) (gb g mB : Nat) (len : Int) (xss : List (List Int)) (hcb : w.cell? ⟨gb, 0, none⟩ = some (.pointer (some ⟨g, 0, none⟩))) (HSET : Hid (IsSet w g mB len xss)) (L : Nat) (HXS : Hid (∀ ys ∈ xss, Gw ys ∧ ys.length = L)) (HGV : Hid (∀ ys ∈ ps, Gw ys ∧ ys.length = L)) :
    Calls Tryz.prog 115 #[.slice A n c, .func (.func 80) #[] #[.pointer (some ⟨gb, 0, none⟩)]] w (FoundN w (!ps.all (fun x => decide (x ∈ xss)))) := by
  have HL : Hid (ps.length = n) := Lib.hid (hr.len)
  go_enter Tryz.func115, Tryz.ntmps115
  go_wp2_with fail
  go_loopw [8] (fun q wr => ∃ k : Nat, k ≤ n ∧ q = .int .i64 k ∧ Hid ((ps.take k).all (fun x => decide (x ∈ xss)) = true) ∧ Below w.heap.size w wr) (fun q _ => n - (intOf q).toNat)
  case atStart => exact ⟨0, Nat.zero_le _, rfl, Lib.hid (by simp), Below.refl _ _⟩
  case round =>
    obtain ⟨k, hk, rfl, hall, hb⟩ := hrel
    by_cases h1 : k < n
    · obtain ⟨x, hx⟩ := get_some (xs := ps) (k := k) (by rw [HL.out]; omega)
      obtain ⟨b, off, A', n', c', rfl, hbs, hc, hn', hr'⟩ := hr.at_ hx
      replace hc := (hb.cell (p := ⟨b, off + k, none⟩) hbs).trans hc
      replace hr' := hr'.below hb (Nat.le_refl _)
      obtain ⟨hgx, hlx⟩ := HGV.out x (List.mem_of_getElem? hx)
      have HX := Lib.hid hx
      clear hx
      by_cases hin : (fun x => decide (x ∈ xss)) x = true
      · go_wp2_with (go_at_call 80; refine (has1_any _ gb g mB len xss ((hb.cell (p := ⟨gb, 0, none⟩) (World.block_lt_of_cell? _ _ hcb)).trans hcb) (HSET.out.below hb) A' n' c' x hr' hgx (fun ys hy => ⟨(HXS.out ys hy).1, (HXS.out ys hy).2.trans hlx.symm⟩)).mono ?_; rintro e w' ⟨rfl, hb2⟩)
        go_roundw
        case rel => exact ⟨k + 1, by omega, by go_num, Lib.hid (all_step hall.out HX.out hin), hb.trans (hb2.mono hb.size)⟩
        case measure => simp [intOf]; omega
      · have hin' : (fun x => decide (x ∈ xss)) x = false := by simpa using hin
        clear hin
        go_wp2_with (go_at_call 80; refine (has1_any _ gb g mB len xss ((hb.cell (p := ⟨gb, 0, none⟩) (World.block_lt_of_cell? _ _ hcb)).trans hcb) (HSET.out.below hb) A' n' c' x hr' hgx (fun ys hy => ⟨(HXS.out ys hy).1, (HXS.out ys hy).2.trans hlx.symm⟩)).mono ?_; rintro e w' ⟨rfl, hb2⟩)
        go_ret
        exact ⟨k, rfl, by rw [all_out HX.out hin']; simp, hb.trans (hb2.mono hb.size)⟩
    · go_wp2_with fail
      go_ret
      have h := hall.out
      rw [List.take_of_length_le (by rw [HL.out]; omega)] at h
      exact ⟨-1, rfl, by rw [h]; rfl, hb⟩
set_option maxHeartbeats 400000 in
theorem containsFuncHS (w : World) (A : Option Addr) (n c : Nat) (ps : List (List Int)) (hr : RdL w A n ps) (hn : n ≤ 1000000000) (gb g mB : Nat) (len : Int) (xss : List (List Int)) (hcb : w.cell? ⟨gb, 0, none⟩ = some (.pointer (some ⟨g, 0, none⟩))) (HSET : Hid (IsSet w g mB len xss)) (L : Nat) (HXS : Hid (∀ ys ∈ xss, Gw ys ∧ ys.length = L)) (HGV : Hid (∀ ys ∈ ps, Gw ys ∧ ys.length = L)) :
    Calls Tryz.prog 79 #[.slice A n c, .func (.func 80) #[] #[.pointer (some ⟨gb, 0, none⟩)]] w (RetV w (.bool (!ps.all (fun x => decide (x ∈ xss))))) := by
  go_enter Tryz.func79, Tryz.ntmps79
  go_wp2_with fail
  refine (indexFuncHS _ _ _ _ _ hr hn gb g mB len xss hcb HSET L HXS HGV).mono ?_
  rintro e w' ⟨i, rfl, hi, hb⟩
  have HI := Lib.hid hi; clear hi
  go_wp2_with fail
  go_ret
  exact ⟨by rw [← HI.out]; rfl, hb⟩

set_option maxHeartbeats 400000 in
theorem contains_any (w : World) (g mB : Nat) (len : Int) (xss : List (List Int)) (hs : IsSet w g mB len xss) (L : Nat) (hx : ∀ ys ∈ xss, Gw ys ∧ ys.length = L) (A : Option Addr) (n c : Nat) (ps : List (List Int)) (hr : RdL w A n ps) (hn : n ≤ 1000000000) (hv : ∀ ys ∈ ps, Gw ys ∧ ys.length = L) :
    Calls Tryz.prog 44 #[.pointer (some ⟨g, 0, none⟩), .slice A n c] w (RetV w (.bool (ps.all (fun x => decide (x ∈ xss))))) := by
  obtain ⟨w0, hw0⟩ : ∃ w0, w0 = w.alloc (.cells #[.pointer (some ⟨g, 0, none⟩)] 80) := ⟨_, rfl⟩
  have hB : Below w.heap.size w w0 := by rw [hw0]; exact below_new _ _
  have hcb : w0.cell? ⟨w.heap.size, 0, none⟩ = some (.pointer (some ⟨g, 0, none⟩)) := by rw [hw0]; exact blk_cell (box_new w _ _) 0 rfl
  have HS := Lib.hid (hs.below hB); have HR := Lib.hid (hr.below hB (Nat.le_refl _)); have HX := Lib.hid hx; have HV := Lib.hid hv; have HB := Lib.hid hB
  obtain ⟨z, hz⟩ : ∃ z, z = ps.all (fun x => decide (x ∈ xss)) := ⟨_, rfl⟩
  rw [← hz]
  have HZ := Lib.hid hz
  clear hs hr hx hv hB hz
  go_enter Tryz.func44, Tryz.ntmps44
  go_wp2_with fail
  rw [← hw0]
  clear hw0
  refine (containsFuncHS w0 A n c ps HR.out hn w.heap.size g mB len xss hcb HS L HX HV).mono ?_
  rw [← HZ.out]
  rintro e w1 ⟨rfl, hb⟩
  go_wp2_with fail
  go_ret
  exact ⟨by simp, HB.out.trans (hb.mono HB.out.size)⟩
end Go.Proofs.YtanicbbgneobpaaGreat
