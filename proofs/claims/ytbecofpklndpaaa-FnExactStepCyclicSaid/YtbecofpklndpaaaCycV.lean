/- Cyclic tag systems: StepCyclic of both sides. -/
import Derived.Test.YtbecofpklndpaaaCycU
namespace Go.Proofs.Ytbecofpklndpaaa
open Go.RowKit
set_option linter.unusedVariables false
set_option linter.unusedSimpArgs false
def cyW (xss : List (List Int)) (a : Int) : List Int → List Int
  | [] => []
  | x :: r => nxtW x r (xss[a.toNat]?.getD [])
def cyC (xss : List (List Int)) (a : Int) (xs : List Int) : Int := if okCT xss a xs = true then (if xs = [] then 6 else if (cyW xss a xs).length ≤ 1000 then 0 else 5) else 1
def cyO (xss : List (List Int)) (a : Int) (xs : List Int) : List Int := if cyC xss a xs = 0 then cyW xss a xs else []
def cyA (xss : List (List Int)) (a : Int) (xs : List Int) : Int := if cyC xss a xs = 0 then (a + 1) % xss.length else 0
theorem cyO_len (xss : List (List Int)) (a : Int) (xs : List Int) : (cyO xss a xs).length ≤ 1000000 := by
  unfold cyO
  split
  · rename_i h
    unfold cyC at h
    split at h
    · split at h
      · omega
      · split at h <;> omega
    · omega
  · simp
theorem cy_bad {xss : List (List Int)} {a : Int} {xs : List Int} {k : Int} (h : cyC xss a xs = k) (hk : k ≠ 0) : cyO xss a xs = [] ∧ cyA xss a xs = 0 := by
  unfold cyO cyA
  rw [if_neg (by omega), if_neg (by omega)]
  exact ⟨rfl, rfl⟩
theorem askN_CT (xss : List (List Int)) (a : Int) (xs : List Int) : askN xss a xs = if okCT xss a xs = true then 0 else 1 := by
  unfold askN okCT
  simp only [Bool.and_eq_true]
theorem okCT_at {xss : List (List Int)} {a : Int} {xs : List Int} {n : Nat} (h : okCT xss a xs = true) (hn : xss.length = n) : 0 ≤ a ∧ a < n ∧ ∃ ws, xss[a.toNat]? = some ws := by
  subst hn
  simp only [okCT, okT, Bool.and_eq_true] at h
  have h1 := inB_true.1 h.2.1
  exact ⟨by omega, by omega, xss[a.toNat]'(by omega), by simp⟩
def RetTurn (w : World) (a : Int) (ws : List Int) (code : Int) (e : Ending) (w' : World) : Prop := ∃ (A' : Option Addr) (n' c' : Nat), e = .returned (.tuple #[turV a A' n' c', .int .i64 code]) ∧ w'.ownsRow w.heap.size 2 1 (.slice A' n' c') n' (ints ws) ∧ Below w.heap.size w w'
theorem cy_good {xss : List (List Int)} {a : Nat} {x : Int} {r ws : List Int} {n n1 : Nat} (h : okCT xss a (x :: r) = true) (hn : xss.length = n) (hws : xss[a]? = some ws) (hl : (nxtW x r ws).length = n1) :
    (n1 ≤ 1000 → cyC xss a (x :: r) = 0 ∧ cyO xss a (x :: r) = nxtW x r ws ∧ cyA xss a (x :: r) = ((a : Int) + 1) % n) ∧ (¬ n1 ≤ 1000 → cyC xss a (x :: r) = 5) := by
  subst hn hl
  have e : cyW xss a (x :: r) = nxtW x r ws := by simp [cyW, hws]
  refine ⟨fun h1 => ?_, fun h1 => ?_⟩
  · have hc : cyC xss a (x :: r) = 0 := by unfold cyC; rw [if_pos h, if_neg (by simp), e, if_pos h1]
    exact ⟨hc, by rw [cyO, if_pos hc, e], by rw [cyA, if_pos hc]⟩
  · unfold cyC; rw [if_pos h, if_neg (by simp), e, if_neg h1]
set_option maxHeartbeats 4000000 in
set_option maxRecDepth 100000 in
theorem specStepCyclic_any (w : World) (A : Option Addr) (n c : Nat) (xss : List (List Int)) (hr : RdL w A n xss) (hn : n ≤ 1000000000) (a : Int) (A2 : Option Addr) (n2 c2 : Nat) (xs : List Int) (hr2 : Rd w A2 n2 (ints xs)) (hn2 : n2 ≤ 1000000000) (hc2 : n2 ≤ c2) :
    Calls Try.prog 45 #[.agg #[.slice A n c], turV a A2 n2 c2] w (RetTurn w (cyA xss a xs) (cyO xss a xs) (cyC xss a xs)) := by
  have HXL : Hid (xs.length = n2) := Lib.hid (by simpa using hr2.1)
  obtain ⟨hb0, hx1, hx2, hx3⟩ := three_box w #[.slice A n c] #[.int .i64 a, .slice A2 n2 c2] #[.int .i64 0, .slice none 0 0] 78 75 75
  go_enter Try.func45, Try.ntmps45
  go_wp2_with fail
  generalize ((w.alloc (.cells #[.slice A n c] 78)).alloc (.cells #[.int .i64 a, .slice A2 n2 c2] 75)).alloc (.cells #[.int .i64 0, .slice none 0 0] 75) = w0 at *
  have hr0 := hr.below hb0 (Nat.le_refl _)
  have hr20 := hr2.below hb0 (Nat.le_refl _)
  refine (l09AskCyclic_any w0 _ _ _ _ _ _ _ _ _ _ a hx1 hx2 xss hr0 hn xs hr20 hn2).mono ?_
  rw [askN_CT]
  rintro e w1 ⟨rfl, hb1⟩
  have hB := hb0.trans (hb1.mono hb0.size)
  have hX1 := blk_bel hx1 hb1
  have hX2 := blk_bel hx2 hb1
  have hX3 := blk_bel hx3 hb1
  have hl1 := blk_lt hX3
  have q0 := blk_cell hX1 0 rfl
  have p0 := blk_cell hX2 0 rfl
  have p1 := blk_cell hX2 1 rfl
  have r0 := blk_cell hX3 0 rfl
  have r1 := blk_cell hX3 1 rfl
  have f0 := blk_free hX3 0
  have f1 := blk_free hX3 1
  have finB : ∀ code : Int, code ≠ 0 → Hid (cyC xss a xs = code) → RetTurn w (cyA xss a xs) (cyO xss a xs) (cyC xss a xs) (.returned (.tuple #[turV 0 none 0 0, .int .i64 code])) ((w1.setCell ⟨w.heap.size + 2, 0, none⟩ (.int .i64 0)).setCell ⟨w.heap.size + 2, 1, none⟩ (.slice none 0 0)) := by
    intro code hc hcy
    obtain ⟨h1, h2⟩ := cy_bad hcy.out hc
    rw [h1, h2, hcy.out]
    exact ⟨none, 0, 0, rfl, own_nil _ _ _, (hB.setCell (by simp only; omega) _).setCell (by simp only; omega) _⟩
  have HF := Lib.hid finB; clear finB
  cases hok : okCT xss a xs with
  | false =>
    have HC : Hid (cyC xss a xs = 1) := Lib.hid (by simp [cyC, hok])
    have HOK := Lib.hid hok; clear hok
    go_wp2_with fail
    exact bodyPost_ret (v := .tuple #[turV 0 none 0 0, .int .i64 1]) (by simp [results, Try.results45, go_sem, blk_cell (blk_set (blk_set hX3 0 (.int .i64 0)) 1 (.slice none 0 0)) 0 rfl, blk_cell (blk_set (blk_set hX3 0 (.int .i64 0)) 1 (.slice none 0 0)) 1 rfl]) rfl (HF.out 1 (by omega) HC)
  | true =>
    cases xs with
    | nil =>
      have HC : Hid (cyC xss a [] = 6) := Lib.hid (by simp [cyC, hok])
      have HOK := Lib.hid hok; clear hok
      obtain rfl : n2 = 0 := by have := HXL.out; simpa using this.symm
      go_wp2_with fail
      exact bodyPost_ret (v := .tuple #[turV 0 none 0 0, .int .i64 6]) (by simp [results, Try.results45, go_sem, blk_cell (blk_set (blk_set hX3 0 (.int .i64 0)) 1 (.slice none 0 0)) 0 rfl, blk_cell (blk_set (blk_set hX3 0 (.int .i64 0)) 1 (.slice none 0 0)) 1 rfl]) rfl (HF.out 6 (by omega) HC)
    | cons x r =>
      obtain ⟨ha0, han, ws, hws⟩ := okCT_at hok hr.len
      obtain ⟨a, rfl⟩ := Int.eq_ofNat_of_zero_le ha0
      rw [Int.toNat_natCast] at hws
      obtain ⟨n2, rfl⟩ : ∃ m, n2 = m + 1 := ⟨r.length, by have := HXL.out; simp at this; omega⟩
      obtain ⟨b, off, rfl, _, _⟩ := hr2.2 (by omega)
      have HG := Lib.hid (fun n1 h => cy_good (n1 := n1) hok hr.len hws h)
      have HOK := Lib.hid hok; clear hok
      have HWS := Lib.hid hws; clear hws
      have hz : ((n2 : Int) + 1 == 0) = false := beq_eq_false_iff_ne.2 (by omega)
      go_wp2_with fail
      refine (l09Next_any w1 _ _ _ n c b off n2 c2 a hX1 hX2 xss (hr0.below hb1 (Nat.le_refl _)) hn x r (hr20.below hb1 (Nat.le_refl _)) (by omega) hc2 (by omega) ws HWS.out).mono ?_
      rintro e w2 ⟨A7, n7, c7, rfl, ho7, hb7⟩
      have HL7 : Hid ((nxtW x r ws).length = n7) := Lib.hid (by simpa using ho7.1)
      have hY3 := blk_bel hX3 hb7
      clear r0 r1 f0 f1
      have hB7 := hB.trans (hb7.mono hB.size)
      have hs7 := hb7.size
      have hl2 := blk_lt hY3
      have r0 := blk_cell hY3 0 rfl
      have r1 := blk_cell hY3 1 rfl
      have f0 := blk_free hY3 0
      have f1 := blk_free hY3 1
      by_cases h7 : n7 ≤ 1000
      · have h7d : decide (n7 ≤ 1000) = true := decide_eq_true h7
        have h7e : decide ((n7 : Int) ≤ 1000) = true := decide_eq_true (by omega)
        go_wp2_with fail
        have hZ := blk_alloc (blk_set (blk_set hY3 0 (.int .i64 (((a : Int) + 1) % n))) 1 (.slice A7 n7 c7)) (.cells #[.int .i64 (((a : Int) + 1) % n), .slice A7 n7 c7] 75)
        refine bodyPost_ret (v := .tuple #[turV (((a : Int) + 1) % n) A7 n7 c7, .int .i64 0]) (by simp [results, Try.results45, go_sem, blk_cell hZ 0 rfl, blk_cell hZ 1 rfl]) rfl ?_
        obtain ⟨g1, g2, g3⟩ := (HG.out n7 HL7.out).1 h7
        rw [g1, g2, g3]
        have hBB := (hB7.setCell (p := ⟨w.heap.size + 2, 0, none⟩) (by simp only; omega) (.int .i64 (((a : Int) + 1) % n))).setCell (p := ⟨w.heap.size + 2, 1, none⟩) (by simp only; omega) (.slice A7 n7 c7)
        refine ⟨A7, n7, c7, rfl, (own_ch (F := (· = w.heap.size + 2)) (ownN_base ho7 hB.size) ((ch_set _ (w.heap.size + 2) 0 _).trans (ch_set _ (w.heap.size + 2) 1 _)) (fun k h1 h2 => by have := (ho7.lt k h1).1; omega)).alloc _, hBB.alloc hBB.size _⟩
      · have h7d : decide (n7 ≤ 1000) = false := decide_eq_false h7
        have h7e : decide ((n7 : Int) ≤ 1000) = false := decide_eq_false (by omega)
        go_wp2_with fail
        have hZ := blk_alloc (blk_set (blk_set hY3 0 (.int .i64 0)) 1 (.slice none 0 0)) (.cells #[.int .i64 (((a : Int) + 1) % n), .slice A7 n7 c7] 75)
        refine bodyPost_ret (v := .tuple #[turV 0 none 0 0, .int .i64 5]) (by simp [results, Try.results45, go_sem, blk_cell hZ 0 rfl, blk_cell hZ 1 rfl]) rfl ?_
        have g1 := (HG.out n7 HL7.out).2 h7
        obtain ⟨g2, g3⟩ := cy_bad g1 (by omega)
        rw [g1, g2, g3]
        have hBB := (hB7.setCell (p := ⟨w.heap.size + 2, 0, none⟩) (by simp only; omega) (.int .i64 0)).setCell (p := ⟨w.heap.size + 2, 1, none⟩) (by simp only; omega) (.slice none 0 0)
        exact ⟨none, 0, 0, rfl, own_nil _ _ _, hBB.alloc hBB.size _⟩
set_option maxHeartbeats 4000000 in
set_option maxRecDepth 100000 in
theorem implStepCyclic_any (w : World) (A : Option Addr) (n c : Nat) (xss : List (List Int)) (hr : RdL w A n xss) (hn : n ≤ 1000000000) (a : Int) (A2 : Option Addr) (n2 c2 : Nat) (xs : List Int) (hr2 : Rd w A2 n2 (ints xs)) (hn2 : n2 ≤ 1000000000) :
    Calls Try.prog 48 #[.agg #[.slice A n c], turV a A2 n2 c2] w (RetTurn w (cyA xss a xs) (cyO xss a xs) (cyC xss a xs)) := by
  have HXL : Hid (xs.length = n2) := Lib.hid (by simpa using hr2.1)
  obtain ⟨hb0, hx1, hx2, hx3⟩ := three_box w #[.slice A n c] #[.int .i64 a, .slice A2 n2 c2] #[.int .i64 0, .slice none 0 0] 78 75 75
  go_enter Try.func48, Try.ntmps48
  go_wp2_with fail
  generalize ((w.alloc (.cells #[.slice A n c] 78)).alloc (.cells #[.int .i64 a, .slice A2 n2 c2] 75)).alloc (.cells #[.int .i64 0, .slice none 0 0] 75) = w0 at *
  have hr0 := hr.below hb0 (Nat.le_refl _)
  have hr20 := hr2.below hb0 (Nat.le_refl _)
  refine (ValidTurn_any w0 A n c xss hr0 hn a A2 n2 c2 xs hr20 hn2).mono ?_
  rintro e w1 ⟨rfl, hb1⟩
  have hB := hb0.trans (hb1.mono hb0.size)
  have hX1 := blk_bel hx1 hb1
  have hX2 := blk_bel hx2 hb1
  have hX3 := blk_bel hx3 hb1
  have hl1 := blk_lt hX3
  have q0 := blk_cell hX1 0 rfl
  have p0 := blk_cell hX2 0 rfl
  have p1 := blk_cell hX2 1 rfl
  have r0 := blk_cell hX3 0 rfl
  have r1 := blk_cell hX3 1 rfl
  have f0 := blk_free hX3 0
  have f1 := blk_free hX3 1
  have finB : ∀ (code : Int) (wx : World), code ≠ 0 → Hid (cyC xss a xs = code) → Below w.heap.size w wx → RetTurn w (cyA xss a xs) (cyO xss a xs) (cyC xss a xs) (.returned (.tuple #[turV 0 none 0 0, .int .i64 code])) ((wx.setCell ⟨w.heap.size + 2, 0, none⟩ (.int .i64 0)).setCell ⟨w.heap.size + 2, 1, none⟩ (.slice none 0 0)) := by
    intro code wx hc hcy hBx
    obtain ⟨h1, h2⟩ := cy_bad hcy.out hc
    rw [h1, h2, hcy.out]
    exact ⟨none, 0, 0, rfl, own_nil _ _ _, (hBx.setCell (by simp only; omega) _).setCell (by simp only; omega) _⟩
  have HF := Lib.hid finB; clear finB
  cases hok : okCT xss a xs with
  | false =>
    have HC : Hid (cyC xss a xs = 1) := Lib.hid (by simp [cyC, hok])
    have HOK := Lib.hid hok; clear hok
    go_wp2_with fail
    exact bodyPost_ret (v := .tuple #[turV 0 none 0 0, .int .i64 1]) (by simp [results, Try.results48, go_sem, blk_cell (blk_set (blk_set hX3 0 (.int .i64 0)) 1 (.slice none 0 0)) 0 rfl, blk_cell (blk_set (blk_set hX3 0 (.int .i64 0)) 1 (.slice none 0 0)) 1 rfl]) rfl (HF.out 1 w1 (by omega) HC hB)
  | true =>
    obtain ⟨ha0, han, ws, hws⟩ := okCT_at hok hr.len
    obtain ⟨a, rfl⟩ := Int.eq_ofNat_of_zero_le ha0
    rw [Int.toNat_natCast] at hws
    have HWS := Lib.hid hws; clear hws
    have HOK := Lib.hid hok; clear hok
    go_wp2_with fail
    refine (cyclicRunOf_any w1 A n c a A2 n2 c2 xs (hr20.below hb1 (Nat.le_refl _)) hn2).mono ?_
    rintro e w2 ⟨g, Aq, nq, cq, rfl, hg, hgl, hoq, hb2⟩
    have hB2 := hB.trans (hb2.mono hB.size)
    have HQL : Hid (xs.length = nq) := Lib.hid (by simpa using hoq.1)
    have hs2 := hb2.size
    have hY3 := blk_bel hX3 hb2
    clear r0 r1 f0 f1 q0 p0 p1
    have r0 := blk_cell hY3 0 rfl
    have r1 := blk_cell hY3 1 rfl
    have f0 := blk_free hY3 0
    have f1 := blk_free hY3 1
    go_wp2_with fail
    refine (cycHalts_any w2 g _ _ _ nq cq hg).mono ?_
    rintro e w' ⟨rfl, rfl⟩
    cases xs with
    | nil =>
      have HC : Hid (cyC xss a [] = 6) := Lib.hid (by simp [cyC, HOK.out])
      obtain rfl : nq = 0 := by have := HQL.out; simpa using this.symm
      go_wp2_with fail
      exact bodyPost_ret (v := .tuple #[turV 0 none 0 0, .int .i64 6]) (by simp [results, Try.results48, go_sem, blk_cell (blk_set (blk_set hY3 0 (.int .i64 0)) 1 (.slice none 0 0)) 0 rfl, blk_cell (blk_set (blk_set hY3 0 (.int .i64 0)) 1 (.slice none 0 0)) 1 rfl]) rfl (HF.out 6 w2 (by omega) HC hB2)
    | cons x r =>
      obtain ⟨nq, rfl⟩ : ∃ m, nq = m + 1 := ⟨r.length, by have := HQL.out; simp at this; omega⟩
      obtain ⟨gq, rfl, hgq1, hgq2, _, _⟩ := own_get hoq (k := 0) (u := .int .i64 x) rfl
      have hnq : nq + 1 ≤ 1000000000 := by have h1 := HQL.out; have h2 := HXL.out; omega
      have HG := Lib.hid (fun n1 h => cy_good (n1 := n1) HOK.out hr.len HWS.out h)
      have hne : ¬ nq + 1 = 0 := by omega
      have hned : decide (nq + 1 = 0) = false := decide_eq_false hne
      go_wp2_with fail
      refine (cycStep_any w1 w2 g A n c a gq 0 nq cq hg x r (ownA_of hoq) (by omega) xss (hr0.below hb1 (Nat.le_refl _)) hb2 hgl hgq1 hn (by omega) ws HWS.out).mono ?_
      rintro e w3 ⟨A7, n7, c7, rfl, hg3, ho7, hB3⟩
      have HL7 : Hid ((nxtW x r ws).length = n7) := Lib.hid (by simpa using ho7.1)
      have hB3' := hB.trans (hB3.mono hB.size)
      have hZ3 := blk_bel hX3 hB3
      have hs3 := hB3.size
      clear r0 r1 f0 f1
      have r0 := blk_cell hZ3 0 rfl
      have r1 := blk_cell hZ3 1 rfl
      have f0 := blk_free hZ3 0
      have f1 := blk_free hZ3 1
      have hn7 : n7 ≤ 2000000000 := by
        have h1 := HL7.out
        obtain ⟨_, _, _, n3, _, _, _, _, h3, h4⟩ := hr.at_ HWS.out
        have h5 := h4.1
        simp at h5
        have h6 := HXL.out
        simp at h6
        unfold nxtW at h1
        split at h1
        · simp at h1; omega
        · omega
      by_cases h7 : n7 ≤ 1000
      · have h7d : decide (n7 ≤ 1000) = true := decide_eq_true h7
        have h7e : decide ((n7 : Int) ≤ 1000) = true := decide_eq_true (by omega)
        go_wp2_with fail
        refine (cycTurn_any w3 g _ _ A7 n7 c7 hg3 (nxtW x r ws) ho7.rd (by omega)).mono ?_
        rintro e w4 ⟨A8, n8, c8, rfl, ho8, hb8⟩
        have hZ4 := blk_bel hZ3 hb8
        have hs4 := hb8.size
        clear r0 r1 f0 f1
        have r0 := blk_cell hZ4 0 rfl
        have r1 := blk_cell hZ4 1 rfl
        have f0 := blk_free hZ4 0
        have f1 := blk_free hZ4 1
        have hB4 := hB3'.trans (hb8.mono hB3'.size)
        go_wp2_with fail
        have hZ := blk_set (blk_set hZ4 0 (.int .i64 (((a : Int) + 1) % n))) 1 (.slice A8 n8 c8)
        refine bodyPost_ret (v := .tuple #[turV (((a : Int) + 1) % n) A8 n8 c8, .int .i64 0]) (by simp [results, Try.results48, go_sem, blk_cell hZ 0 rfl, blk_cell hZ 1 rfl]) rfl ?_
        obtain ⟨g1, g2, g3⟩ := (HG.out n7 HL7.out).1 h7
        rw [g1, g2, g3]
        refine ⟨A8, n8, c8, rfl, own_ch (F := (· = w.heap.size + 2)) (ownN_base ho8 hB3'.size) ((ch_set _ (w.heap.size + 2) 0 _).trans (ch_set _ (w.heap.size + 2) 1 _)) (fun k h1 h2 => by have := (ho8.lt k h1).1; omega), ?_⟩
        exact (hB4.setCell (p := ⟨w.heap.size + 2, 0, none⟩) (by simp only; omega) _).setCell (p := ⟨w.heap.size + 2, 1, none⟩) (by simp only; omega) _
      · have h7d : decide (n7 ≤ 1000) = false := decide_eq_false h7
        have h7e : decide ((n7 : Int) ≤ 1000) = false := decide_eq_false (by omega)
        have HC : Hid (cyC xss a (x :: r) = 5) := Lib.hid ((HG.out n7 HL7.out).2 h7)
        go_wp2_with fail
        exact bodyPost_ret (v := .tuple #[turV 0 none 0 0, .int .i64 5]) (by simp [results, Try.results48, go_sem, blk_cell (blk_set (blk_set hZ3 0 (.int .i64 0)) 1 (.slice none 0 0)) 0 rfl, blk_cell (blk_set (blk_set hZ3 0 (.int .i64 0)) 1 (.slice none 0 0)) 1 rfl]) rfl (HF.out 5 w3 (by omega) HC hB3')
end Go.Proofs.Ytbecofpklndpaaa
