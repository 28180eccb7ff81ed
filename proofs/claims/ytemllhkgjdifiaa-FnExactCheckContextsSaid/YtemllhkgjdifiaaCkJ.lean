/- CheckContexts (program): fits. Written by mk_ckj.py. -/
import Derived.Test.YtemllhkgjdifiaaCkI
namespace Go.Proofs.Ytemllhkgjdifiaa
open Go.RowKit
set_option linter.unusedVariables false
set_option linter.unusedSimpArgs false
set_option maxHeartbeats 1000000 in
theorem indexFuncFT (w : World) (A : Option Addr) (n c : Nat) (ps : List (List Int)) (hr : RdL w A n ps) (hn : n ≤ 1000000000) (g : Nat) (s t : Int) (Am : Option Addr) (nm cm : Nat) (HBM : Hid (BM w g s t Am nm cm)) (HSS : Hid (2 ≤ s ∧ s ≤ 6)) (HGV : Hid (∀ ys ∈ ps, 1 ≤ ys.length)) (HCP : Hid (∀ (k b off : Nat) (A' : Option Addr) (n' c' : Nat), A = some ⟨b, off, none⟩ → k < n → w.cell? ⟨b, off + k, none⟩ = some (.slice A' n' c') → n' ≤ c')) :
    Calls Try.prog 153 #[.slice A n c, .func (.func 127) #[] #[.pointer (some ⟨g, 0, none⟩)]] w (FoundN w (!ps.all (fitW s t))) := by
  have HL : Hid (ps.length = n) := Lib.hid (hr.len)
  go_enter Try.func153, Try.ntmps153
  go_wp2_with fail
  go_loopw [8] (fun q wr => ∃ k : Nat, k ≤ n ∧ q = .int .i64 k ∧ Hid ((ps.take k).all (fitW s t) = true) ∧ Below w.heap.size w wr) (fun q _ => n - (intOf q).toNat)
  case atStart => exact ⟨0, Nat.zero_le _, rfl, Lib.hid (by simp), Below.refl _ _⟩
  case round =>
    obtain ⟨k, hk, rfl, hall, hb⟩ := hrel
    by_cases h1 : k < n
    · obtain ⟨x, hx⟩ := get_some (xs := ps) (k := k) (by rw [HL.out]; omega)
      obtain ⟨b, off, A', n', c', rfl, hbs, hc, hn', hr'⟩ := hr.at_ hx
      have hcap := HCP.out k b off A' n' c' rfl h1 hc
      replace hc := (hb.cell (p := ⟨b, off + k, none⟩) hbs).trans hc
      replace hr' := hr'.below hb (Nat.le_refl _)
      have hlx := HGV.out x (List.mem_of_getElem? hx)
      have hne : 1 ≤ n' := by have h2 := hr'.1; simp at h2; omega
      have HX := Lib.hid hx
      clear hx
      by_cases hin : (fitW s t) x = true
      · go_wp2_with (go_at_call 127; refine (fits1_any _ g s t Am nm cm (HBM.out.bel hb) HSS.out A' n' c' x hr' hn' hcap hne).mono ?_; rintro e w' ⟨rfl, hb2⟩)
        go_roundw
        case rel => exact ⟨k + 1, by omega, by go_num, Lib.hid (all_step hall.out HX.out hin), hb.trans (hb2.mono hb.size)⟩
        case measure => simp [intOf]; omega
      · have hin' : (fitW s t) x = false := by simpa using hin
        clear hin
        go_wp2_with (go_at_call 127; refine (fits1_any _ g s t Am nm cm (HBM.out.bel hb) HSS.out A' n' c' x hr' hn' hcap hne).mono ?_; rintro e w' ⟨rfl, hb2⟩)
        go_ret
        exact ⟨k, rfl, by rw [all_out HX.out hin']; simp, hb.trans (hb2.mono hb.size)⟩
    · go_wp2_with fail
      go_ret
      have h := hall.out
      rw [List.take_of_length_le (by rw [HL.out]; omega)] at h
      exact ⟨-1, rfl, by rw [h]; rfl, hb⟩
set_option maxHeartbeats 400000 in
theorem containsFuncFT (w : World) (A : Option Addr) (n c : Nat) (ps : List (List Int)) (hr : RdL w A n ps) (hn : n ≤ 1000000000) (g : Nat) (s t : Int) (Am : Option Addr) (nm cm : Nat) (HBM : Hid (BM w g s t Am nm cm)) (HSS : Hid (2 ≤ s ∧ s ≤ 6)) (HGV : Hid (∀ ys ∈ ps, 1 ≤ ys.length)) (HCP : Hid (∀ (k b off : Nat) (A' : Option Addr) (n' c' : Nat), A = some ⟨b, off, none⟩ → k < n → w.cell? ⟨b, off + k, none⟩ = some (.slice A' n' c') → n' ≤ c')) :
    Calls Try.prog 111 #[.slice A n c, .func (.func 127) #[] #[.pointer (some ⟨g, 0, none⟩)]] w (RetV w (.bool (!ps.all (fitW s t)))) := by
  go_enter Try.func111, Try.ntmps111
  go_wp2_with fail
  refine (indexFuncFT _ _ _ _ _ hr hn g s t Am nm cm HBM HSS HGV HCP).mono ?_
  rintro e w' ⟨i, rfl, hi, hb⟩
  have HI := Lib.hid hi; clear hi
  go_wp2_with fail
  go_ret
  exact ⟨by rw [← HI.out]; rfl, hb⟩

def fitsB (m s t : Int) (ls ws xs : List (List Int)) : Bool := ls.all (lenB m (s - 1)) && ws.all (lenB m (s - 1)) && xs.all (fitW s t)
set_option maxHeartbeats 8000000 in
theorem fits_any (w : World) (m : Int) (A1 : Option Addr) (n1 c1 : Nat) (A2 : Option Addr) (n2 c2 : Nat) (A3 : Option Addr) (n3 c3 : Nat) (s t : Int) (A : Option Addr) (n c : Nat) (hs : 2 ≤ s ∧ s ≤ 6) (ls ws xs : List (List Int)) (hr1 : RdL w A1 n1 ls) (hn1 : n1 ≤ 1000000) (hr2 : RdL w A2 n2 ws) (hn2 : n2 ≤ 1000000) (hr3 : RdL w A3 n3 xs) (hn3 : n3 ≤ 1000000) (hx : ∀ ys ∈ xs, 1 ≤ ys.length)
    (hcp : ∀ (k b off : Nat) (A' : Option Addr) (n' c' : Nat), A3 = some ⟨b, off, none⟩ → k < n3 → w.cell? ⟨b, off + k, none⟩ = some (.slice A' n' c') → n' ≤ c') :
    Calls Try.prog 68 #[csV m A1 n1 c1 A2 n2 c2 A3 n3 c3, mchV s t A n c] w (RetV w (.bool (fitsB m s t ls ws xs))) := by
  obtain ⟨w0, hw0⟩ : ∃ w0, w0 = (w.alloc (.cells #[.int .i64 m, .slice A1 n1 c1, .slice A2 n2 c2, .slice A3 n3 c3] 103)).alloc (.cells #[.int .i64 s, .int .i64 t, .slice A n c] 33) := ⟨_, rfl⟩
  have hB : Below w.heap.size w w0 := by rw [hw0]; exact (below_new w _).trans ((below_new _ _).mono (by simp))
  have hx2 : w0.heap[w.heap.size]? = some (.cells #[.int .i64 m, .slice A1 n1 c1, .slice A2 n2 c2, .slice A3 n3 c3] 103 (0, 0)) := by rw [hw0]; exact blk_alloc (box_new w _ _) _
  have hx3 : BM w0 (w.heap.size + 1) s t A n c := by rw [hw0]; have h := box_new (w.alloc (.cells #[.int .i64 m, .slice A1 n1 c1, .slice A2 n2 c2, .slice A3 n3 c3] 103)) #[.int .i64 s, .int .i64 t, .slice A n c] 33; simpa [BM] using h
  have HX2 := Lib.hid hx2; have HX3 := Lib.hid hx3
  have HR1 := Lib.hid (hr1.below hB (Nat.le_refl _)); have HR2 := Lib.hid (hr2.below hB (Nat.le_refl _)); have HR3 := Lib.hid (hr3.below hB (Nat.le_refl _)); have HB := Lib.hid hB; have HXX := Lib.hid hx; have HSS := Lib.hid hs
  have HCP : Hid (∀ (w' : World), Below w.heap.size w w' → ∀ (k b off : Nat) (A' : Option Addr) (n' c' : Nat), A3 = some ⟨b, off, none⟩ → k < n3 → w'.cell? ⟨b, off + k, none⟩ = some (.slice A' n' c') → n' ≤ c') := Lib.hid (fun w' hb k b off A' n' c' he hk hc => by
    obtain ⟨y, hy⟩ := get_some (xs := xs) (k := k) (by rw [hr3.len]; exact hk)
    obtain ⟨b', off', A5, n5, c5, e5, hl, hc5, _, _⟩ := hr3.at_ hy
    have e6 : b = b' := by rw [e5] at he; injection he with he; injection he with h1 h2; exact h1.symm
    exact hcp k b off A' n' c' he hk ((hb.cell (p := ⟨b, off + k, none⟩) (by rw [e6]; exact hl)).symm.trans hc))
  have HES : Hid (IntKind.i64.wrap (s - 1) = s - 1) := Lib.hid (IntWalk.i64_in _ (by omega))
  have p0 := blk_cell hx2 0 rfl
  have p1 := blk_cell hx2 1 rfl
  have p2 := blk_cell hx2 2 rfl
  have p3 := blk_cell hx2 3 rfl
  have q0 := hx3.cells.1
  obtain ⟨z, hz⟩ : ∃ z, z = fitsB m s t ls ws xs := ⟨_, rfl⟩
  rw [← hz]
  have HZ := Lib.hid hz
  have es := HES.out
  clear hx2 hx3 hr1 hr2 hr3 hB hx hs hcp hz
  go_enter Try.func68, Try.ntmps68
  go_wp2_with fail
  rw [← hw0]
  clear hw0
  refine (areLists_any w0 A1 n1 c1 ls HR1.out (by omega) m (s - 1)).mono ?_
  cases h1 : ls.all (lenB m (s - 1)) with
  | false =>
    have H1 := Lib.hid h1
    clear h1
    rintro e w1 ⟨rfl, hb⟩
    go_wp2_with fail
    go_ret
    exact ⟨by rw [HZ.out]; unfold fitsB; rw [H1.out]; rfl, HB.out.trans (hb.mono HB.out.size)⟩
  | true =>
    have H1 := Lib.hid h1
    clear h1
    rintro e w1 ⟨rfl, hb⟩
    have HB1 := Lib.hid (HB.out.trans (hb.mono HB.out.size))
    have HX21 := Lib.hid (blk_bel HX2.out hb); have HX31 := Lib.hid (HX3.out.bel hb)
    have HR21 := Lib.hid (HR2.out.below hb (Nat.le_refl _)); have HR31 := Lib.hid (HR3.out.below hb (Nat.le_refl _))
    clear hb p0 p1 p2 p3 q0
    have p0 := blk_cell HX21.out 0 rfl
    have p2 := blk_cell HX21.out 2 rfl
    have q0 := HX31.out.cells.1
    go_wp2_with fail
    refine (areLists_any w1 A2 n2 c2 ws HR21.out (by omega) m (s - 1)).mono ?_
    cases h2 : ws.all (lenB m (s - 1)) with
    | false =>
      have H2 := Lib.hid h2
      clear h2
      rintro e w2 ⟨rfl, hb⟩
      go_wp2_with fail
      go_ret
      exact ⟨by rw [HZ.out]; unfold fitsB; rw [H1.out, H2.out]; rfl, HB1.out.trans (hb.mono HB1.out.size)⟩
    | true =>
      have H2 := Lib.hid h2
      clear h2
      rintro e w2 ⟨rfl, hb⟩
      have HB2 := Lib.hid (HB1.out.trans (hb.mono HB1.out.size))
      have HX22 := Lib.hid (blk_bel HX21.out hb); have HX32 := Lib.hid (HX31.out.bel hb)
      have HR32 := Lib.hid (HR31.out.below hb (Nat.le_refl _))
      clear hb p0 p2 q0
      have p3 := blk_cell HX22.out 3 rfl
      go_wp2_with fail
      refine (containsFuncFT w2 A3 n3 c3 xs HR32.out (by omega) (w.heap.size + 1) s t A n c HX32 HSS HXX (Lib.hid (HCP.out w2 HB2.out))).mono ?_
      obtain ⟨y, hy⟩ : ∃ y, y = xs.all (fitW s t) := ⟨_, rfl⟩
      rw [← hy]
      have HY := Lib.hid hy
      clear hy
      rintro e w3 ⟨rfl, hb⟩
      go_wp2_with fail
      go_ret
      exact ⟨by rw [HZ.out]; unfold fitsB; rw [H1.out, H2.out, ← HY.out]; simp, HB2.out.trans (hb.mono HB2.out.size)⟩
end Go.Proofs.Ytemllhkgjdifiaa
