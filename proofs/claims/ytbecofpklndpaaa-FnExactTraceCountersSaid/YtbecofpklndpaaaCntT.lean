/- Two counters: blocks of three cells; runs and traces in plain Lean; the reference's three functions. -/
import Derived.Test.YtbecofpklndpaaaCntS
import Derived.Test.YtbecofpklndpaaaLawCounters
import Derived.Outline
namespace Go.Proofs.Ytbecofpklndpaaa
open Go.RowKit
set_option linter.unusedSimpArgs false
set_option linter.unusedVariables false
section
variable {w w' : World} {g T B : Nat} {x y z : Value}
def Blk3 (w : World) (g T : Nat) (x y z : Value) : Prop := w.heap[g]? = some (.cells #[x, y, z] T (0, 0))
theorem Blk3.cells (h : Blk3 w g T x y z) : w.cell? ⟨g, 0, none⟩ = some x ∧ w.cell? ⟨g, 1, none⟩ = some y ∧ w.cell? ⟨g, 2, none⟩ = some z := by
  refine ⟨?_, ?_, ?_⟩ <;> rw [cell_of_row w g _ _ T (0, 0) h] <;> rfl
theorem Blk3.free (h : Blk3 w g T x y z) : w.frozen? ⟨g, 0, none⟩ = false ∧ w.frozen? ⟨g, 1, none⟩ = false ∧ w.frozen? ⟨g, 2, none⟩ = false :=
  ⟨frozen_of_row w g _ _ T h, frozen_of_row w g _ _ T h, frozen_of_row w g _ _ T h⟩
theorem Blk3.lt (h : Blk3 w g T x y z) : g < w.heap.size := blk_lt h
theorem Blk3.below (h : Blk3 w g T x y z) (hb : Below B w w') (hg : g < B) : Blk3 w' g T x y z := (hb.block g hg).trans h
theorem Blk3.alloc (h : Blk3 w g T x y z) (o : Obj) : Blk3 (w.alloc o) g T x y z := blk_alloc h o
theorem Blk3.far (h : Blk3 w g T x y z) {p : Addr} {u : Value} (hne : g ≠ p.block) : Blk3 (w.setCell p u) g T x y z := blk_far h hne
theorem Blk3.new (w : World) (T : Nat) (x y z : Value) : Blk3 (w.alloc (.cells #[x, y, z] T)) w.heap.size T x y z := heap_alloc_new w _
theorem Blk3.set0 (h : Blk3 w g T x y z) (u : Value) : Blk3 (w.setCell ⟨g, 0, none⟩ u) g T u y z := by
  have := heap_setCell_same w g 0 _ T u h; simpa [Blk3] using this
theorem Blk3.set1 (h : Blk3 w g T x y z) (u : Value) : Blk3 (w.setCell ⟨g, 1, none⟩ u) g T x u z := by
  have := heap_setCell_same w g 1 _ T u h; simpa [Blk3] using this
theorem Blk3.set2 (h : Blk3 w g T x y z) (u : Value) : Blk3 (w.setCell ⟨g, 2, none⟩ u) g T x y u := by
  have := heap_setCell_same w g 2 _ T u h; simpa [Blk3] using this
end

/-- A pointer to counters, as a block. -/
def BC (w : World) (g : Nat) (c : Cnt) : Prop := Blk3 w g 57 (.int .i64 c.at_) (.int .i64 c.a) (.int .i64 c.b)

def atOf (ps : List Ins) (c : Cnt) : Option Ins := ps[c.at_.toNat]?
def c0 : Cnt := ⟨0, 0, 0⟩
def stepNum (ps : List Ins) (c : Cnt) : Cnt × Int :=
  if twoC ps = true ∧ goodC ps.length c = true then
    if c.at_ = ps.length then (c0, 6) else match atOf ps c with
      | some x => if (stepC x c).2 = true then ((stepC x c).1, 0) else (c0, 5)
      | none => (c0, 5)
  else (c0, 1)
def runC (ps : List Ins) : Nat → Nat → Cnt → Option (Cnt × Nat × Bool)
  | left, done, c => if c.at_ = ps.length then some (c, done, true) else match left with
    | 0 => some (c, done, false)
    | left + 1 => match atOf ps c with
      | some x => if (stepC x c).2 = true then runC ps left (done + 1) (stepC x c).1 else none
      | none => none
def traceC (ps : List Ins) : Nat → Cnt → Option (List Cnt)
  | left, c => if c.at_ = ps.length then some [c] else match left with
    | 0 => some [c]
    | left + 1 => match atOf ps c with
      | some x => if (stepC x c).2 = true then (traceC ps left (stepC x c).1).map (c :: ·) else none
      | none => none
def runNum (ps : List Ins) (c : Cnt) (budget : Int) : Cnt × Int × Bool × Int :=
  if twoC ps = true ∧ goodC ps.length c = true then
    if inB budget 1 20000 = true then match runC ps budget.toNat 0 c with
      | some (d, n, h) => (d, n, h, 0)
      | none => (c0, 0, false, 5)
    else (c0, 0, false, 2)
  else (c0, 0, false, 1)
def flatC : List Cnt → List Int
  | [] => []
  | x :: r => x.at_ :: x.a :: x.b :: flatC r
theorem flatC_len : ∀ ps : List Cnt, (flatC ps).length = ps.length * 3
  | [] => rfl
  | x :: r => by simp only [flatC, List.length_cons, flatC_len r]; omega
theorem flatC_append : ∀ xs ys : List Cnt, flatC (xs ++ ys) = flatC xs ++ flatC ys
  | [], ys => rfl
  | x :: r, ys => by simp [flatC, flatC_append r ys]
def traceNum (ps : List Ins) (c : Cnt) (n : Int) : List Int × Int :=
  if twoC ps = true ∧ goodC ps.length c = true then
    if inB n 0 60 = true then match traceC ps n.toNat c with
      | some l => (flatC l, 0)
      | none => ([], 5)
    else ([], 2)
  else ([], 1)
theorem traceC_len (ps : List Ins) : ∀ (n : Nat) (c : Cnt) (l : List Cnt), traceC ps n c = some l → l.length ≤ n + 1
  | 0, c, l, h => by
    unfold traceC at h
    split at h <;> (injection h with h; subst h; simp)
  | n + 1, c, l, h => by
    unfold traceC at h
    split at h
    · injection h with h; subst h; simp
    · simp only at h
      split at h
      · split at h
        · rw [Option.map_eq_some_iff] at h
          obtain ⟨r, hr, rfl⟩ := h
          have := traceC_len ps n _ r hr
          simp; omega
        · cases h
      · cases h
theorem traceNum_len (ps : List Ins) (c : Cnt) (n : Int) : (traceNum ps c n).1.length ≤ 1000000 := by
  unfold traceNum
  split
  · split
    · rename_i h
      have hn := inB_true.1 h
      split
      · rename_i l hl
        have := traceC_len ps _ _ _ hl
        simp only [flatC_len]; omega
      · simp
    · simp
  · simp
/-- What a good step keeps. -/
theorem goodC_parts {n : Int} {c : Cnt} (h : goodC n c = true) : (0 ≤ c.at_ ∧ c.at_ ≤ n) ∧ (0 ≤ c.a ∧ c.a ≤ 1000000000000) ∧ (0 ≤ c.b ∧ c.b ≤ 1000000000000) := by
  simp only [goodC, Bool.and_eq_true, inB_true] at h
  exact ⟨h.1.1, h.1.2, h.2⟩
theorem goodC_mk {n at_ a b : Int} (h1 : 0 ≤ at_ ∧ at_ ≤ n) (h2 : 0 ≤ a ∧ a ≤ 1000000000000) (h3 : 0 ≤ b ∧ b ≤ 1000000000000) : goodC n ⟨at_, a, b⟩ = true := by
  simp only [goodC, Bool.and_eq_true, inB_true]
  exact ⟨⟨h1, h2⟩, h3⟩
theorem okProg_get {ps : List Ins} (h : okProg ps = true) {k : Nat} {x : Ins} (hx : ps[k]? = some x) : inB x.thn 0 ps.length = true ∧ inB x.els 0 ps.length = true := by
  simp only [okProg, Bool.and_eq_true, List.all_eq_true] at h
  have := h.1 x (List.mem_of_getElem? hx)
  obtain ⟨kd, rg, th, el⟩ := x
  obtain ⟨_, h2, h3⟩ := okIns_true this
  rcases h3 with ⟨_, rfl⟩ | ⟨_, h3⟩
  · exact ⟨h2, inB_true.2 ⟨by simp, by simp⟩⟩
  · exact ⟨h2, h3⟩
theorem stepC_good {ps : List Ins} (h : okProg ps = true) {k : Nat} {x : Ins} (hx : ps[k]? = some x) {c : Cnt} (hc : goodC ps.length c = true) (hs : (stepC x c).2 = true) : goodC ps.length (stepC x c).1 = true := by
  obtain ⟨h1, h2⟩ := okProg_get h hx
  rw [inB_true] at h1 h2
  obtain ⟨p1, p2, p3⟩ := goodC_parts hc
  unfold stepC at hs ⊢
  split <;> rename_i e1 <;> simp only [e1, if_true, if_false] at hs
  all_goals
    split <;> rename_i e2 <;> simp only [e2, if_true, if_false] at hs
    · simp only [decide_eq_true_eq] at hs
      exact goodC_mk h1 (by omega) (by omega)
    · split <;> rename_i e3 <;> simp only [e3, if_true, if_false] at hs
      · exact goodC_mk h2 (by omega) (by omega)
      · simp only [decide_eq_true_eq] at hs
        exact goodC_mk h1 (by omega) (by omega)
theorem twoC_ok {ps : List Ins} (h : twoC ps = true) : okProg ps = true := by simp only [twoC, Bool.and_eq_true] at h; exact h.1

/-- Counters and a code. -/
def RetCI (w : World) (c : Cnt) (code : Int) (e : Ending) (w' : World) : Prop := e = .returned (.tuple #[cntV c, .int .i64 code]) ∧ Below w.heap.size w w'

theorem step_bad {ps : List Ins} {c : Cnt} (h : ¬ (twoC ps = true ∧ goodC ps.length c = true)) : stepNum ps c = (c0, 1) := by simp only [stepNum, if_neg h]
theorem step_end {ps : List Ins} {c : Cnt} (h : twoC ps = true ∧ goodC ps.length c = true) (h2 : c.at_ = ps.length) : stepNum ps c = (c0, 6) := by simp only [stepNum, if_pos h, if_pos h2]
theorem step_go {ps : List Ins} {c : Cnt} (h : twoC ps = true ∧ goodC ps.length c = true) (h2 : ¬ c.at_ = ps.length) {x : Ins} (hx : atOf ps c = some x) : stepNum ps c = if (stepC x c).2 = true then ((stepC x c).1, 0) else (c0, 5) := by
  simp only [stepNum, if_pos h, if_neg h2, hx]
theorem at_some {ps : List Ins} {c : Cnt} (h : goodC ps.length c = true) (h2 : ¬ c.at_ = ps.length) : ∃ (k : Nat) (x : Ins), c.at_ = k ∧ k < ps.length ∧ ps[k]? = some x ∧ atOf ps c = some x := by
  obtain ⟨p1, _, _⟩ := goodC_parts h
  obtain ⟨k, hk⟩ : ∃ k : Nat, c.at_ = k := ⟨c.at_.toNat, by omega⟩
  obtain ⟨x, hx⟩ := get_some (xs := ps) (k := k) (by omega)
  exact ⟨k, x, hk, by omega, hx, by unfold atOf; rw [hk]; simpa using hx⟩

set_option maxHeartbeats 2000000 in
theorem specStepCounters_any (w : World) (A : Option Addr) (n c : Nat) (ps : List Ins) (hr : Rd w A (n * 4) (ints (flatI ps))) (hn : n ≤ 1099511627776) (x : Cnt) :
    Calls Try.prog 35 #[.slice A n c, cntV x] w (RetCI w (stepNum ps x).1 (stepNum ps x).2) := by
  have HL : Hid (ps.length = n) := Lib.hid (by have := hr.1; simp [flatI_len] at this; omega)
  have HW : Hid (∀ o1 o2 w', Below ((w.alloc o1).alloc o2).heap.size ((w.alloc o1).alloc o2) w' → Below w.heap.size w w') := Lib.hid fun o1 o2 w' h => (((Below.refl _ _).alloc (Nat.le_refl _) _).alloc (by simp) _).trans (h.mono (by simp; omega))
  cases hT : twoC ps with
  | false =>
    have HS := Lib.hid (step_bad (ps := ps) (c := x) (by simp [hT]))
    have HT := Lib.hid hT; clear hT
    go_enter Try.func35, Try.ntmps35
    go_wp2_with fail
    refine (l08Two_any _ _ _ _ ps ((hr.alloc _).alloc _) hn).mono ?_
    rw [HT.out]
    rintro e w1 ⟨rfl, hb1⟩
    have b0 := ((Blk3.new w 57 (.int .i64 x.at_) (.int .i64 x.a) (.int .i64 x.b)).alloc (.cells #[.int .i64 0, .int .i64 0, .int .i64 0] 57)).below hb1 (by simp; omega)
    have b1 := (Blk3.new (w.alloc (.cells #[.int .i64 x.at_, .int .i64 x.a, .int .i64 x.b] 57)) 57 (.int .i64 0) (.int .i64 0) (.int .i64 0)).below hb1 (by simp)
    simp only [World.size_alloc] at b1
    obtain ⟨q0, q1, q2⟩ := b1.cells
    obtain ⟨f0, f1, f2⟩ := b1.free
    obtain ⟨p0, p1, p2⟩ := b0.cells
    obtain ⟨t0, t1, t2⟩ := b0.free
    have HB := Lib.hid (HW.out _ _ _ hb1)
    have HRR := Lib.hid (hr.below HB.out (Nat.le_refl _))
    have hz1 : w.heap.size + 1 < w1.heap.size := b1.lt
    clear hb1 b0 b1 p0 p1 p2 t0 t1 t2
    go_wp2_with fail
    exact bodyPost_ret (v := .tuple #[cntV c0, .int .i64 1]) (by simp [results, Try.results35, go_sem, c0, q0, q1, q2]) rfl ⟨by rw [HS.out]; (try rfl), ((HB.out.setCell (by simp) _).setCell (by simp) _).setCell (by simp) _⟩
  | true =>
    cases hG : goodC n x with
    | false =>
      have HS := Lib.hid (step_bad (ps := ps) (c := x) (by rw [HL.out]; simp [hG]))
      have HT := Lib.hid hT; have HG := Lib.hid hG; clear hT hG
      go_enter Try.func35, Try.ntmps35
      go_wp2_with fail
      refine (l08Two_any _ _ _ _ ps ((hr.alloc _).alloc _) hn).mono ?_
      rw [HT.out]
      rintro e w1 ⟨rfl, hb1⟩
      have b0 := ((Blk3.new w 57 (.int .i64 x.at_) (.int .i64 x.a) (.int .i64 x.b)).alloc (.cells #[.int .i64 0, .int .i64 0, .int .i64 0] 57)).below hb1 (by simp; omega)
      have b1 := (Blk3.new (w.alloc (.cells #[.int .i64 x.at_, .int .i64 x.a, .int .i64 x.b] 57)) 57 (.int .i64 0) (.int .i64 0) (.int .i64 0)).below hb1 (by simp)
      simp only [World.size_alloc] at b1
      obtain ⟨q0, q1, q2⟩ := b1.cells
      obtain ⟨f0, f1, f2⟩ := b1.free
      obtain ⟨p0, p1, p2⟩ := b0.cells
      obtain ⟨t0, t1, t2⟩ := b0.free
      have HB := Lib.hid (HW.out _ _ _ hb1)
      have HRR := Lib.hid (hr.below HB.out (Nat.le_refl _))
      have hz1 : w.heap.size + 1 < w1.heap.size := b1.lt
      have hpc : PC w1 w.heap.size x := ⟨p0, p1, p2⟩
      clear hb1 b0 b1
      go_wp2_with (go_at_call 115; refine (l08Good_any _ _ _ _ hn _ x hpc).mono ?_; rw [HG.out]; rintro e w' ⟨rfl, rfl⟩)
      exact bodyPost_ret (v := .tuple #[cntV c0, .int .i64 1]) (by simp [results, Try.results35, go_sem, c0, q0, q1, q2]) rfl ⟨by rw [HS.out]; (try rfl), ((HB.out.setCell (by simp) _).setCell (by simp) _).setCell (by simp) _⟩
    | true =>
      by_cases hE : x.at_ = n
      · have HS := Lib.hid (step_end (ps := ps) (c := x) (by rw [HL.out]; exact ⟨hT, hG⟩) (by rw [HL.out]; exact hE))
        have hee : (x.at_ == (n : Int)) = true := by simpa using hE
        have HT := Lib.hid hT; have HG := Lib.hid hG; clear hT hG hE
        go_enter Try.func35, Try.ntmps35
        go_wp2_with fail
        refine (l08Two_any _ _ _ _ ps ((hr.alloc _).alloc _) hn).mono ?_
        rw [HT.out]
        rintro e w1 ⟨rfl, hb1⟩
        have b0 := ((Blk3.new w 57 (.int .i64 x.at_) (.int .i64 x.a) (.int .i64 x.b)).alloc (.cells #[.int .i64 0, .int .i64 0, .int .i64 0] 57)).below hb1 (by simp; omega)
        have b1 := (Blk3.new (w.alloc (.cells #[.int .i64 x.at_, .int .i64 x.a, .int .i64 x.b] 57)) 57 (.int .i64 0) (.int .i64 0) (.int .i64 0)).below hb1 (by simp)
        simp only [World.size_alloc] at b1
        obtain ⟨q0, q1, q2⟩ := b1.cells
        obtain ⟨f0, f1, f2⟩ := b1.free
        obtain ⟨p0, p1, p2⟩ := b0.cells
        obtain ⟨t0, t1, t2⟩ := b0.free
        have HB := Lib.hid (HW.out _ _ _ hb1)
        have HRR := Lib.hid (hr.below HB.out (Nat.le_refl _))
        have hz1 : w.heap.size + 1 < w1.heap.size := b1.lt
        have hpc : PC w1 w.heap.size x := ⟨p0, p1, p2⟩
        clear hb1 b0 b1
        go_wp2_with (go_at_call 115; refine (l08Good_any _ _ _ _ hn _ x hpc).mono ?_; rw [HG.out]; rintro e w' ⟨rfl, rfl⟩)
        exact bodyPost_ret (v := .tuple #[cntV c0, .int .i64 6]) (by simp [results, Try.results35, go_sem, c0, q0, q1, q2]) rfl ⟨by rw [HS.out]; (try rfl), ((HB.out.setCell (by simp) _).setCell (by simp) _).setCell (by simp) _⟩
      · obtain ⟨k, y, hk, hkn, hy, hat⟩ := at_some (ps := ps) (c := x) (by rw [HL.out]; exact hG) (by rw [HL.out]; exact hE)
        have HS := Lib.hid (step_go (ps := ps) (c := x) (by rw [HL.out]; exact ⟨hT, hG⟩) (by rw [HL.out]; exact hE) hat)
        obtain ⟨_, g2, g3⟩ := goodC_parts hG
        have hee : (x.at_ == (n : Int)) = false := by simpa using hE
        have HT := Lib.hid hT; have HG := Lib.hid hG; have HY := Lib.hid hy; have HK := Lib.hid hk; clear hT hG hE hat hy hk
        go_enter Try.func35, Try.ntmps35
        go_wp2_with fail
        refine (l08Two_any _ _ _ _ ps ((hr.alloc _).alloc _) hn).mono ?_
        rw [HT.out]
        rintro e w1 ⟨rfl, hb1⟩
        have b0 := ((Blk3.new w 57 (.int .i64 x.at_) (.int .i64 x.a) (.int .i64 x.b)).alloc (.cells #[.int .i64 0, .int .i64 0, .int .i64 0] 57)).below hb1 (by simp; omega)
        have b1 := (Blk3.new (w.alloc (.cells #[.int .i64 x.at_, .int .i64 x.a, .int .i64 x.b] 57)) 57 (.int .i64 0) (.int .i64 0) (.int .i64 0)).below hb1 (by simp)
        simp only [World.size_alloc] at b1
        obtain ⟨q0, q1, q2⟩ := b1.cells
        obtain ⟨f0, f1, f2⟩ := b1.free
        obtain ⟨p0, p1, p2⟩ := b0.cells
        obtain ⟨t0, t1, t2⟩ := b0.free
        have HB := Lib.hid (HW.out _ _ _ hb1)
        have HRR := Lib.hid (hr.below HB.out (Nat.le_refl _))
        have hz1 : w.heap.size + 1 < w1.heap.size := b1.lt
        have hpc : PC w1 w.heap.size x := ⟨p0, p1, p2⟩
        go_wp2_with (go_at_call 115; refine (l08Good_any _ _ _ _ hn _ x hpc).mono ?_; rw [HG.out]; rintro e w' ⟨rfl, rfl⟩)
        obtain ⟨d, ok, hq⟩ : ∃ d ok, stepC y x = (d, ok) := ⟨_, _, rfl⟩
        have hst : Calls Try.prog 116 #[.slice A n c, cntV x] w1 (RetCB w1 d ok) := by
          have h := l08Step_any w1 A n c ps HRR.out hn y k HY.out x.a x.b g2 g3
          rw [← HK.out] at h
          have e : stepC y ⟨x.at_, x.a, x.b⟩ = (d, ok) := hq
          rw [e] at h
          exact h
        replace HS : Hid (stepNum ps x = if ok = true then (d, 0) else (c0, 5)) := Lib.hid (by rw [HS.out, hq])
        clear hq
        refine hst.mono ?_
        rintro e w2 ⟨rfl, hb2⟩
        replace b1 := b1.below hb2 b1.lt
        replace HB := Lib.hid (HB.out.trans (hb2.mono HB.out.size))
        clear q0 q1 q2 f0 f1 f2
        obtain ⟨q0, q1, q2⟩ := b1.cells
        obtain ⟨f0, f1, f2⟩ := b1.free
        have hz2 : w.heap.size + 1 < w2.heap.size := b1.lt
        clear hb1 b0 hpc p0 p1 p2 t0 t1 t2 hst hb2
        cases ok
        · go_wp2_with fail
          exact bodyPost_ret (v := .tuple #[cntV c0, .int .i64 5]) (by simp [results, Try.results35, go_sem, c0, q0, q1, q2, hz2, World.cell?_alloc_lt]) rfl ⟨by rw [HS.out]; (try rfl), (((HB.out.setCell (by simp) _).setCell (by simp) _).setCell (by simp) _).alloc (by simpa using HB.out.size) _⟩
        · go_wp2_with fail
          exact bodyPost_ret (v := .tuple #[cntV d, .int .i64 0]) (by simp [results, Try.results35, go_sem, c0, q0, q1, q2, hz2, World.cell?_alloc_lt]) rfl ⟨by rw [HS.out]; (try rfl), (((HB.out.setCell (by simp) _).setCell (by simp) _).setCell (by simp) _).alloc (by simpa using HB.out.size) _⟩
end Go.Proofs.Ytbecofpklndpaaa
