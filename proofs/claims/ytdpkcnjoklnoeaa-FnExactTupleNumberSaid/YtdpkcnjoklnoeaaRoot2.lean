/- Square roots: the program's rootOf with its closure, the reference's l02Root. -/
import Derived.Test.YtdpkcnjoklnoeaaRoot
namespace Go.Proofs.Ytdpkcnjoklnoeaa
open Go.RowKit Limb

def sqB (N j : Nat) (ds : List Int) (d : Int) : Bool := decide (tryVal j ds d * tryVal j ds d ≤ N)
theorem sqB_true {N j : Nat} {ds : List Int} {d : Int} : sqB N j ds d = true ↔ tryVal j ds d * tryVal j ds d ≤ N := by simp [sqB]
theorem sqB_false {N j : Nat} {ds : List Int} {d : Int} : sqB N j ds d = false ↔ ¬ tryVal j ds d * tryVal j ds d ≤ N := by simp [sqB]
theorem cmp_sq {N j : Nat} {ds : List Int} {d : Int} : decide (cmpN (tryVal j ds d * tryVal j ds d) N ≤ 0) = sqB N j ds d := by
  unfold sqB; rw [decide_eq_decide]; exact cmpN_le _ _
theorem ints_set (ds : List Int) (j : Nat) (d : Int) : (ints ds).set j (.int .i64 d) = ints (ds.set j d) := by simp only [ints, List.map_set]

set_option maxHeartbeats 1000000 in
theorem rootOf1_any (w : World) (bR bI bN : Nat) (AR : Option Addr) (L cR : Nat) (ds : List Int) (A : Option Addr) (n c N j : Nat) (d : Int) (hcR : w.cell? ⟨bR, 0, none⟩ = some (.slice AR L cR)) (hrR : Rd w AR L (ints ds)) (hL : L ≤ 100000)
    (hcI : w.cell? ⟨bI, 0, none⟩ = some (.int .i64 j)) (hcN : w.cell? ⟨bN, 0, none⟩ = some (.slice A n c)) (hrN : Rd w A n (ints (limbs N))) (hn : n ≤ 100000) (hrel : RootRel N (j + 1) ds) (hd0 : 0 ≤ d) (hd1 : d < 1000000) :
    Calls Try.prog 96 #[.int .i64 d, .pointer (some ⟨bR, 0, none⟩), .pointer (some ⟨bI, 0, none⟩), .pointer (some ⟨bN, 0, none⟩)] w (RetV w (.bool (sqB N j ds d))) := by
  have HL : Hid (ds.length = L) := Lib.hid (by simpa using hrR.1)
  have hjL : j < L := by have h := hrel.2.2.1; rw [HL.out] at h; omega
  have HT := Lib.hid (trim_try hrel hd0 hd1)
  have hbI := World.block_lt_of_cell? w _ hcI
  have hbN := World.block_lt_of_cell? w _ hcN
  simp only at hbI hbN
  have HREL := Lib.hid hrel
  clear hrel
  go_enter Try.func96, Try.ntmps96
  go_wp2_with fail
  refine (clone_any _ _ _ _ ds hrR (by omega)).mono ?_
  rintro e w1 ⟨A1, n1, c1, rfl, ho1, hb1⟩
  obtain rfl : n1 = L := by have h := ho1.1; simp at h; rw [← h, HL.out]
  obtain ⟨y, hy⟩ := get_some (xs := ds) (k := j) (by rw [HL.out]; omega)
  obtain ⟨g, rfl, hgb, hgs, hc2, hc3⟩ := own_get ho1 (ints_get hy)
  have hcI1 := (hb1.cell (p := ⟨bI, 0, none⟩) hbI).trans hcI
  have hcN1 := (hb1.cell (p := ⟨bN, 0, none⟩) hbN).trans hcN
  have ho2 := own_put ho1 j (.int .i64 d)
  rw [ints_set] at ho2
  have HO2 := Lib.hid ho2
  have HB1 := Lib.hid (hb1.setCell (p := ⟨g, j, none⟩) hgb (.int .i64 d))
  have hne : bN < g := by omega
  have hgs2 : g < (w1.setCell ⟨g, j, none⟩ (.int .i64 d)).heap.size := by simpa [World.setCell] using hgs
  clear hy ho1 ho2 hb1
  go_wp2_with fail
  refine (trimmed_any _ w.heap.size _ n1 c1 _ HO2.out (by omega)).mono ?_
  rintro e w2 ⟨rfl, rfl⟩
  have ho3 := own_trim HO2.out
  rw [HT.out] at ho3
  have hl3 : Hid ((trim (ds.set j d)).length = (limbs (tryVal j ds d)).length) := Lib.hid (by rw [HT.out])
  rw [hl3.out]
  have hm : (limbs (tryVal j ds d)).length ≤ 100000 := by
    rw [← hl3.out]
    exact Nat.le_trans (trim_le _) (by simp; rw [HL.out]; omega)
  generalize hm0 : (limbs (tryVal j ds d)).length = m at ho3 hm
  have HM := Lib.hid hm0
  have hcN2 : (w1.setCell ⟨g, j, none⟩ (.int .i64 d)).cell? ⟨bN, 0, none⟩ = some (.slice A n c) := (World.cell?_setCell_other w1 ⟨g, j, none⟩ ⟨bN, 0, none⟩ _ (by simp)).trans hcN1
  have hrN2 := hrN.below HB1.out (Nat.le_refl _)
  have hbN2 : bN < (w1.setCell ⟨g, j, none⟩ (.int .i64 d)).heap.size := by omega
  have HO3 := Lib.hid ho3
  clear hm0 ho3 hc2 hc3 hcI1 hcN1
  generalize hW : w1.setCell ⟨g, j, none⟩ (.int .i64 d) = W at *
  clear hW
  go_wp2_with fail
  go_region_held3 (fun w' => w'.cell? ⟨bN, 0, none⟩ = some (.slice A n c)) (assumption)
    (first
      | (go_at_call 56; refine (multiply_any _ _ _ _ (tryVal j ds d) (by exact own_rd HO3.out) (by omega) _ _ _ (tryVal j ds d) (by exact own_rd HO3.out) (by omega)).mono ?_; rintro e w4 ⟨A4, n4, c4, rfl, ho4, hb4⟩; (try replace hb4 := below_undrew hb4); have hcN2 := (hb4.cell (p := ⟨bN, 0, none⟩) hbN2).trans hcN2; have hbN2 := Nat.lt_of_lt_of_le hbN2 hb4.size; have hn4 : n4 ≤ 200000 := by have := own_mul_len ho4 HO3.out HO3.out; omega)
      | (go_at_call 97; refine (compareNaturals_any _ _ _ _ _ (own_rd ho4) (by omega) _ _ _ N (hrN2.below hb4 (Nat.le_refl _)) (by omega)).mono ?_; rintro e w5 ⟨rfl, hb5⟩; have hcN2 := (hb5.cell (p := ⟨bN, 0, none⟩) hbN2).trans hcN2))
  go_wp2_with fail
  go_ret
  refine ⟨?_, HB1.out.trans ((hb4.trans (hb5.mono hb4.size)).mono HB1.out.size)⟩
  rw [← cmp_sq]; rfl

/-- The relation of rootOf's loop: the boxes of the captured variables, and the digits so far. -/
def RtRel (w : World) (eI e22 e3 : Nat) (A : Option Addr) (n c N L gR j : Nat) (p : Value) (wr : World) : Prop :=
  ∃ (bi : Nat) (ds : List Int), p = .pointer (some ⟨bi, 0, none⟩) ∧ wr.heap[bi]? = some (.cells #[.int .i64 ((j : Int) - 1)] e3 (0, 0)) ∧ w.heap.size ≤ bi ∧ RootRel N j ds ∧ ds.length = L ∧
    wr.heap[w.heap.size]? = some (.cells #[.slice A n c] e22 (0, 0)) ∧ wr.heap[gR]? = some (.cells #[.slice (some ⟨w.heap.size + 1, 0, none⟩) L L] e22 (0, 0)) ∧
    wr.ownsRow w.heap.size eI 1 (.slice (some ⟨w.heap.size + 1, 0, none⟩) L L) L (ints ds) ∧ Below w.heap.size w wr

theorem blk_lt {w : World} {g T : Nat} {cs : Array Value} {f : Nat × Nat} (h : w.heap[g]? = some (.cells cs T f)) : g < w.heap.size := (Array.getElem?_eq_some_iff.1 h).1
theorem blk_below {w w' : World} {g T B : Nat} {cs : Array Value} (h : w.heap[g]? = some (.cells cs T (0, 0))) (hb : Below B w w') (hg : g < B) : w'.heap[g]? = some (.cells cs T (0, 0)) := (hb.block g hg).trans h
theorem blk_far {w : World} {g T : Nat} {cs : Array Value} {p : Addr} {u : Value} (h : w.heap[g]? = some (.cells cs T (0, 0))) (hne : g ≠ p.block) : (w.setCell p u).heap[g]? = some (.cells cs T (0, 0)) := (Below.heap_setCell w p u g hne).trans h
theorem blk_alloc {w : World} {g T : Nat} {cs : Array Value} (h : w.heap[g]? = some (.cells cs T (0, 0))) (o : Obj) : (w.alloc o).heap[g]? = some (.cells cs T (0, 0)) := (Below.heap_alloc w o g (blk_lt h)).trans h
theorem blk_ne {w : World} {g g' T T' : Nat} {cs cs' : Array Value} (h : w.heap[g]? = some (.cells cs T (0, 0))) (h' : w.heap[g']? = some (.cells cs' T' (0, 0))) (hT : T ≠ T') : g ≠ g' := by
  rintro rfl
  rw [h] at h'
  injection h' with h'
  injection h' with _ h2
  exact hT h2
theorem own_blk {w : World} {base e n c g : Nat} {vs : List Value} (h : w.ownsRow base e 1 (.slice (some ⟨g, 0, none⟩) n c) n vs) : ∃ cs, w.heap[g]? = some (.cells cs e (0, 0)) := by
  rcases h.2 with ⟨h', _⟩ | ⟨g', cap, cur, h', _, hg, _⟩
  · simp at h'
  · injection h' with h1
    injection h1 with h1
    injection h1 with h1
    subst h1
    exact ⟨cur, hg⟩

set_option maxHeartbeats 4000000 in
theorem rootOf_any (w : World) (A : Option Addr) (n c N : Nat) (hr : Rd w A n (ints (limbs N))) (hn : n ≤ 100000) :
    Calls Try.prog 91 #[.slice A n c] w (RetS w 2 (ints (limbs (isqrt N)))) := by
  have HL : Hid ((limbs N).length = n) := Lib.hid (by simpa using hr.1)
  obtain ⟨L, hL⟩ : ∃ L : Nat, L = (n + 1) / 2 := ⟨_, rfl⟩
  have HLL := Lib.hid hL
  have hLb : L ≤ 100000 := by omega
  have HR0 := Lib.hid (RootRel.start (N := N) (L := L) (by rw [HL.out]; omega))
  have hq : ((n : Int) + 1) / 2 = (L : Int) := by omega
  clear hL
  go_enter Try.func91, Try.ntmps91
  go_wp2_with (at_make; go_must (refine wpList_mk Try.eltI rfl _ _ rfl _ _ _ L (by rfl) (by rfl) (by omega) (by omega) (by omega) ?_); rintro w1 hown1 hb1 hs1)
  rw [show List.replicate L (Value.int .i64 0) = ints (List.replicate L 0) by simp only [ints, List.map_replicate]] at hown1
  have hsz : (w.alloc (.cells #[.slice A n c] 22)).heap.size = w.heap.size + 1 := by simp
  rw [hsz] at hown1 hs1
  have HN0 : Hid (w1.heap[w.heap.size]? = some (.cells #[.slice A n c] 22 (0, 0))) := Lib.hid (blk_below (heap_alloc_new w (.cells #[.slice A n c] 22)) hb1 (by omega))
  have HB1 : Hid (Below w.heap.size w w1) := Lib.hid ((below_new _ _).trans (hb1.mono (by omega)))
  have HO1 := Lib.hid (own_base hown1 (base' := w.heap.size) (by omega))
  have hgR : w.heap.size + 1 < w1.heap.size := hs1
  clear hown1 hb1 hsz hs1
  go_loopg [4] L (fun j p wr => RtRel w 2 22 3 A n c N L w1.heap.size j p wr)
  case atStart =>
    refine ⟨w1.heap.size + 1, List.replicate L 0, rfl, ?_, by omega, HR0.out, List.length_replicate, ?_, ?_, ?_, ?_⟩
    · have := heap_alloc_new (w1.alloc (.cells #[.slice (some ⟨w.heap.size + 1, 0, none⟩) L L] 22)) (.cells #[.int .i64 ((L : Int) - 1)] 3)
      simpa using this
    · exact blk_alloc (blk_alloc HN0.out _) _
    · exact blk_alloc (heap_alloc_new w1 _) _
    · exact (HO1.out.alloc _).alloc _
    · exact (HB1.out.alloc HB1.out.size _).alloc (by simp; omega) _
  case round =>
    obtain ⟨bi, ds, rfl, hbi, hbw, hrl, hdl, hN0, hgr, hown, hb⟩ := hrel
    have hcI := blk_cell (i := 0) (u := .int .i64 ((gk : Int) - 1)) hbi rfl
    have hfI := blk_free (i := 0) hbi
    have hcR := blk_cell (i := 0) (u := .slice (some ⟨w.heap.size + 1, 0, none⟩) L L) hgr rfl
    have hcN := blk_cell (i := 0) (u := .slice A n c) hN0 rfl
    have HBI := Lib.hid hbi; have HN := Lib.hid hN0; have HGR := Lib.hid hgr; have HO := Lib.hid hown; have HRL := Lib.hid hrl; have HDL := Lib.hid hdl
    have hlI := blk_lt hbi
    have hlR := blk_lt hgr
    have hlN := blk_lt hN0
    have hb2 := hb
    clear hbi hN0 hgr hown hrl hdl hb
    rcases Nat.eq_zero_or_pos gk with h0 | h0
    · subst h0
      go_wp2_with (go_at_call 85; refine (trimmed_any _ w.heap.size _ L L _ HO.out (by omega)).mono ?_; rintro e w2 ⟨rfl, rfl⟩)
      go_ret
      have ho := own_trim HO.out
      rw [HRL.out.done] at ho
      have hl : (trim ds).length = (limbs (isqrt N)).length := by rw [HRL.out.done]
      exact ⟨_, _, L, by rw [hl]; rfl, ho, hb2⟩
    · obtain ⟨k, rfl⟩ : ∃ k, gk = k + 1 := ⟨gk - 1, by omega⟩
      have ek : (((k + 1 : Nat) : Int) - 1) = (k : Int) := by omega
      rw [ek] at hcI
      have hkL : k < L := by have := HRL.out.2.2.1; rw [HDL.out] at this; omega
      have HCL : Hid (∀ (w' : World) (d : Int), Below wr.heap.size wr w' → 0 ≤ d → d < 1000000 → Calls Try.prog 96 #[.int .i64 d, .pointer (some ⟨w1.heap.size, 0, none⟩), .pointer (some ⟨bi, 0, none⟩), .pointer (some ⟨w.heap.size, 0, none⟩)] w' (RetV w' (.bool (sqB N k ds d)))) :=
        Lib.hid (fun w' d hb' hd0 hd1 => rootOf1_any w' w1.heap.size bi w.heap.size _ L L ds A n c N k d ((hb'.cell (p := ⟨w1.heap.size, 0, none⟩) hlR).trans hcR) ((own_rd HO.out).below hb' (Nat.le_refl _)) hLb ((hb'.cell (p := ⟨bi, 0, none⟩) hlI).trans hcI) ((hb'.cell (p := ⟨w.heap.size, 0, none⟩) hlN).trans hcN) ((hr.below hb2 (Nat.le_refl _)).below hb' (Nat.le_refl _)) hn HRL.out hd0 hd1)
      have HZ := Lib.hid (sqB_true.2 HRL.out.zero); have HT := Lib.hid (sqB_false.2 HRL.out.top)
      obtain ⟨y, hy⟩ := get_some (xs := ds) (k := k) (by rw [HDL.out]; omega)
      obtain ⟨g, hg, hgb, hgs, hc2, hc3⟩ := own_get HO.out (ints_get hy)
      obtain rfl : w.heap.size + 1 = g := by simpa using hg
      have hneI : bi ≠ w.heap.size + 1 := by obtain ⟨cs, hcs⟩ := own_blk HO.out; exact blk_ne HBI.out hcs (by decide)
      clear hy hg ek
      go_wp2_with fail
      go_region_held3 (fun w' => w'.cell? ⟨w1.heap.size, 0, none⟩ = some (.slice (some ⟨w.heap.size + 1, 0, none⟩) L L) ∧ w'.cell? ⟨bi, 0, none⟩ = some (.int .i64 (k : Int))) (exact ⟨by assumption, by assumption⟩)
        (first
          | (go_at_call 95; refine (greatest_any _ (sqB N k ds) HZ.out HT.out _ _ _ (fun w' d hb' h0 h1 => HCL.out w' d (by first | exact below_undrew hb' | exact hb') h0 h1)).mono ?_; rintro e w3 ⟨d, rfl, hd0, hd1, hp1, hp2, hb3⟩; (try replace hb3 := below_undrew hb3); have hcR := (hb3.cell (p := ⟨w1.heap.size, 0, none⟩) hlR).trans hcR; have hcI := (hb3.cell (p := ⟨bi, 0, none⟩) hlI).trans hcI; have hc2 := (hb3.cell (p := ⟨w.heap.size + 1, k, none⟩) hgs).trans hc2; have hc3 := (hb3.frozen (p := ⟨w.heap.size + 1, k, none⟩) hgs).trans hc3; have hcR2 := (World.cell?_setCell_other w3 ⟨w.heap.size + 1, k, none⟩ ⟨w1.heap.size, 0, none⟩ (.int .i64 d) (by simp)).trans hcR; have hcI2 := (World.cell?_setCell_other w3 ⟨w.heap.size + 1, k, none⟩ ⟨bi, 0, none⟩ (.int .i64 d) (by simp)).trans hcI))
      have HP := Lib.hid (HRL.out.step hd0 hd1 (sqB_true.1 hp1) (sqB_false.1 hp2))
      have HB3 := Lib.hid hb3
      clear hp1 hp2 hb3
      go_wp2_with fail
      have hw3 : w.heap.size ≤ w3.heap.size := Nat.le_trans hb2.size HB3.out.size
      go_roundg k
      case measure => omega
      case rel =>
        refine ⟨w3.heap.size, ds.set k d, rfl, ?_, hw3, HP.out, by simp [HDL.out], ?_, ?_, ?_, ?_⟩
        · have := heap_alloc_new (w3.setCell ⟨w.heap.size + 1, k, none⟩ (.int .i64 d)) (.cells #[.int .i64 ((k : Int) - 1)] 3)
          simpa [World.setCell] using this
        · exact blk_alloc (blk_far (blk_below HN.out HB3.out hlN) (by simp)) _
        · exact blk_alloc (blk_far (blk_below HGR.out HB3.out hlR) (by simp; omega)) _
        · have h := own_put (own_below HO.out HB3.out (Nat.le_refl _)) k (.int .i64 d)
          rw [ints_set] at h
          exact h.alloc _
        · exact ((hb2.trans (HB3.out.mono hb2.size)).setCell (p := ⟨w.heap.size + 1, k, none⟩) hgb _).alloc (by simpa [World.setCell] using hw3) _
end Go.Proofs.Ytdpkcnjoklnoeaa
