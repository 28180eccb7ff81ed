/- Texts in one file: Pkg, CdM, CdZ, CdS, CdI, CdJ, CdK, CdT, Prc. -/
import Derived.Test.YtadmbphefpfbmaaGreatDoorGH
import Derived.Test.YtadmbphefpfbmaaGreatDoorGG
import Derived.Test.YtadmbphefpfbmaaGreatDoorGD
import Derived.Deep.RegionLaw
/- Packages: opened, l24Open; IsPackage. -/
namespace Go.Proofs.YtadmbphefpfbmaaGreatDoor
open Go.RowKit
set_option linter.unusedVariables false
set_option linter.unusedSimpArgs false
def opOk : Tr → Bool
  | .nil => false
  | .node a _ => decide ((pot a).2 = 0)
def opProg : Tr → List Cmd
  | .nil => []
  | .node a _ => (pot a).1
def opData : Tr → List Bool
  | .nil => []
  | .node _ b => b.bits
def OpdP (w : World) (lo : Nat) (t : Tr) (e : Ending) (w' : World) : Prop :=
  ∃ A n c F p, e = .returned (.tuple #[.slice A n c, .pointer p, .bool (opOk t)]) ∧ OwnC w' F A n c (opProg t) ∧ (∀ k, F k → w.heap.size ≤ k ∧ k < w'.heap.size) ∧ IsT w' lo w'.heap.size (.pointer p) t.tl ∧ Below w.heap.size w w'
set_option maxHeartbeats 2000000 in
theorem opened_any (w : World) (lo : Nat) (v : Value) (t : Tr) (h : IsT w lo w.heap.size v t) (hlo : lo ≤ w.heap.size) (hn : t.nodes ≤ 1000000) : Calls Tryz.prog 75 #[v] w (OpdP w lo t) := by
  rcases h.ptr with ⟨rfl, rfl⟩ | ⟨b, vh, vt, a, d, rfl, rfl, hb1, hb2, c0, c1, c2, hh, ht⟩
  · go_enter Tryz.func75, Tryz.ntmps75
    go_wp2_with fail
    go_ret3
    exact ⟨none, 0, 0, fun _ => False, none, rfl, OwnC.nil _, by simp, nilT _ _ _, Below.refl _ _⟩
  · obtain ⟨o1, rfl⟩ := hh.isPtr
    obtain ⟨o2, rfl⟩ := ht.isPtr
    have hna : a.nodes ≤ 1000000 := by simp only [Tr.nodes] at hn; omega
    have HOK : Hid (opOk (.node a d) = decide ((pot a).2 = 0)) := Lib.hid rfl
    have HPR : Hid (opProg (.node a d) = (pot a).1) := Lib.hid rfl
    have HTL : Hid ((Tr.node a d).tl = d) := Lib.hid rfl
    clear c2 h
    go_enter Tryz.func75, Tryz.ntmps75
    go_wp2_with fail
    refine (programOfTree_any _ lo _ a hh hlo hna).mono ?_
    rintro e w2 ⟨A2, n2, c2, F2, rfl, ho2, hF2, hb3⟩
    have q1 := (hb3.cell (p := ⟨b, 1, none⟩) hb2).trans c1
    have ht2 := ht.up hb3
    generalize hp : pot a = r at *
    obtain ⟨rl, rc⟩ := r
    clear c0 c1 hp
    go_wp2_with fail
    go_quiet (fail)
    go_wp2_with fail
    go_ret3
    exact ⟨A2, n2, c2, F2, o2, by rw [HOK.out]; rfl, by rw [HPR.out]; exact ho2, hF2, by rw [HTL.out]; exact IsT.keep (w := w2) (w' := w2.drewN nq) (fun _ _ _ => rfl) ht2, below_drewN hb3⟩
def SopP (w : World) (t : Tr) (e : Ending) (w' : World) : Prop :=
  ∃ A n c F A' n' c', e = .returned (.tuple #[.slice A n c, .slice A' n' c', .bool (opOk t)]) ∧ OwnC w' F A n c (opProg t) ∧ (∀ k, F k → w.heap.size ≤ k ∧ k < w'.heap.size) ∧ w'.ownsRow w.heap.size 4 1 (.slice A' n' c') n' (bools (opData t)) ∧ (∀ k, F k → Fo (.slice A' n' c') k → False) ∧ Below w.heap.size w w'
set_option maxHeartbeats 2000000 in
theorem l24Open_any (w : World) (A : Option Addr) (n c : Nat) (t : Tr) (hr : Rd w A n (bools t.bits)) (hn : t.nodes ≤ 2000) (hnc : n ≤ c) : Calls Tryz.prog 23 #[.slice A n c] w (SopP w t) := by
  have hnn : n ≤ 2000 := by have := hr.1; simp [Tr.bits_len] at this; omega
  have hp : 0 < n := by have := hr.1; have := t.nodes_pos; simp [Tr.bits_len] at *; omega
  cases t with
  | nil =>
    obtain ⟨blk, off, rfl, hbs, q0⟩ := hr.at_ (k := 0) (u := .bool false) rfl
    simp only [Nat.add_zero] at q0
    go_enter Tryz.func23, Tryz.ntmps23
    go_wp2_with fail
    go_ret3
    exact ⟨none, 0, 0, fun _ => False, none, 0, 0, rfl, OwnC.nil _, by simp, own_nil _ _ _, by simp, Below.refl _ _⟩
  | node a d =>
    obtain ⟨blk, off, hA, hbs, q0⟩ := hr.at_ (k := 0) (u := .bool true) rfl
    subst hA
    simp only [Nat.add_zero] at q0
    have hna : a.nodes ≤ 2000 := by simp only [Tr.nodes] at hn; omega
    have HOK : Hid (opOk (.node a d) = decide ((pot a).2 = 0)) := Lib.hid rfl
    have HPR : Hid (opProg (.node a d) = (pot a).1) := Lib.hid rfl
    have HDT : Hid (opData (.node a d) = d.bits) := Lib.hid rfl
    have HDW := Lib.hid (dew_tr hna)
    go_enter Tryz.func23, Tryz.ntmps23
    go_wp2_with fail
    refine (l21Head_any _ _ _ _ _ hr (by omega) hnc).mono ?_
    rintro e w2 ⟨A2, n2, c2, rfl, ho2, hb2⟩
    replace ho2 : w2.ownsRow w.heap.size 4 1 (.slice A2 n2 c2) n2 (bools a.bits) := ho2
    have hn2 : n2 ≤ 2000 := by have := ho2.1; simp [Tr.bits_len] at this; omega
    have hr2 := hr.below hb2 (Nat.le_refl _)
    go_wp2_with fail
    refine (specDecodeWhile_any _ _ _ _ _ (own_rd ho2) (by omega) (ownN_cap ho2)).mono ?_
    rw [HDW.out]
    rintro e w3 ⟨A3, n3, c3, F3, rfl, ho3, hF3, hb3⟩
    have hr3 := hr2.below hb3 (Nat.le_refl _)
    have HB3 := Lib.hid (hb2.trans (hb3.mono hb2.size))
    generalize hpp : pot a = r at *
    obtain ⟨rl, rc⟩ := r
    clear hpp q0
    go_wp2_with fail
    refine (l21Tail_any _ _ _ _ _ hr3 (by omega) hnc).mono ?_
    rintro e w4 ⟨A4, n4, c4, rfl, ho4, hb4⟩
    replace ho4 : w4.ownsRow w3.heap.size 4 1 (.slice A4 n4 c4) n4 (bools d.bits) := ho4
    have hn4 : n4 ≤ 2000 := by have := ho4.1; simp only [Tr.nodes] at hn; simp [Tr.bits_len] at this; omega
    go_wp2_with fail
    refine (l21Own_any _ _ _ _ _ (own_rd ho4) (by omega)).mono ?_
    rintro e w5 ⟨A5, n5, c5, rfl, ho5, hb5⟩
    go_wp2_with fail
    go_ret3
    have hs2 := hb2.size
    have hs4 := hb4.size
    have hs5 := hb5.size
    have hs3 := HB3.out.size
    exact ⟨A3, n3, c3, F3, A5, n5, c5, by rw [HOK.out]; rfl, by rw [HPR.out]; exact (ho3.below hb4).below hb5, fun k hk => by have := hF3 k hk; omega, by rw [HDT.out]; exact own_base ho5 (by omega), fun k h1 h2 => by have := hF3 k h1; have := (ho5.lt k h2).1; omega, (HB3.out.trans (hb4.mono hs3)).trans (hb5.mono (by omega))⟩
def isPkg (bs : List Bool) : Bool := isTr bs && opOk (treeB bs)
theorem isPkg_no {bs : List Bool} (h : isTr bs = false) : isPkg bs = false := by simp [isPkg, h]
theorem isPkg_tr {t : Tr} (h : t.nodes ≤ 2000) : isPkg t.bits = opOk t := by simp [isPkg, isTr_bits h, treeB_bits]
end Go.Proofs.YtadmbphefpfbmaaGreatDoor
/- The code of a program, in plain Lean. -/
namespace Go.Proofs.YtadmbphefpfbmaaGreatDoor
open Go.RowKit
set_option linter.unusedVariables false
set_option linter.unusedSimpArgs false
def codeCs : Nat → List Cmd → Tr
  | _, [] => .nil
  | 0, _ :: _ => .nil
  | f + 1, x :: r => if x.k = 0 then .node (.node (tagTr 7) (codeE x.e)) (codeCs f r) else .node (.node (tagTr 9) (.node (codeE x.e) (codeCs f (r.take x.l.toNat)))) (codeCs f (r.drop x.l.toNat))
theorem codeCs_fuel : ∀ (f g : Nat) (p : List Cmd), p.length ≤ f → p.length ≤ g → codeCs f p = codeCs g p
  | 0, g, [], _, _ => by cases g <;> rfl
  | 0, g, x :: r, h, _ => by simp at h
  | f + 1, g, [], _, _ => by cases g <;> rfl
  | f + 1, 0, x :: r, _, h => by simp at h
  | f + 1, g + 1, x :: r, hf, hg => by
    simp only [List.length_cons] at hf hg
    simp only [codeCs]
    rw [codeCs_fuel f g r (by omega) (by omega), codeCs_fuel f g (r.take x.l.toNat) (by rw [List.length_take]; omega) (by rw [List.length_take]; omega), codeCs_fuel f g (r.drop x.l.toNat) (by rw [List.length_drop]; omega) (by rw [List.length_drop]; omega)]
def codeC (p : List Cmd) : Tr := codeCs p.length p
theorem codeC_nil : codeC [] = .nil := rfl
theorem codeC_set {x : Cmd} {r : List Cmd} (h : x.k = 0) : codeC (x :: r) = .node (.node (tagTr 7) (codeE x.e)) (codeC r) := by
  show codeCs (r.length + 1) (x :: r) = _
  simp only [codeCs, if_pos h]; rfl
theorem codeC_wh {x : Cmd} {r : List Cmd} (h : x.k = 1) : codeC (x :: r) = .node (.node (tagTr 9) (.node (codeE x.e) (codeC (r.take x.l.toNat)))) (codeC (r.drop x.l.toNat)) := by
  show codeCs (r.length + 1) (x :: r) = _
  simp only [codeCs, if_neg (show ¬ x.k = 0 by omega), codeC]
  rw [codeCs_fuel r.length _ (r.take x.l.toNat) (by rw [List.length_take]; omega) (Nat.le_refl _), codeCs_fuel r.length _ (r.drop x.l.toNat) (by rw [List.length_drop]; omega) (Nat.le_refl _)]
/-- Trees ahead of a list's tree. -/
def lstA : List Tr → Tr → Tr
  | [], u => u
  | t :: r, u => .node t (lstA r u)
theorem lstA_snoc (ts : List Tr) (t u : Tr) : lstA (ts ++ [t]) u = lstA ts (.node t u) := by
  induction ts with
  | nil => rfl
  | cons y r ih => simp [lstA, ih]
theorem lstA_bits (ts : List Tr) : (lstA ts .nil).bits = ts.flatMap (fun t => true :: t.bits) ++ [false] := by
  induction ts with
  | nil => rfl
  | cons y r ih => simp [lstA, Tr.bits, ih]
theorem lstA_part (ts : List Tr) (k : Nat) : (lstA (ts.drop k) .nil).nodes ≤ (lstA ts .nil).nodes := by
  induction ts generalizing k with
  | nil => simp
  | cons y r ih =>
    cases k with
    | zero => simp
    | succ k => have := ih k; simp only [List.drop_succ_cons, lstA, Tr.nodes]; omega
theorem lstA_mem {ts : List Tr} {t : Tr} (h : t ∈ ts) : t.nodes ≤ (lstA ts .nil).nodes := by
  induction ts with
  | nil => simp at h
  | cons y r ih =>
    simp only [lstA, Tr.nodes]
    rcases List.mem_cons.1 h with rfl | h
    · omega
    · have := ih h; omega
theorem lstA_len (ts : List Tr) : ts.length ≤ (lstA ts .nil).nodes := by
  induction ts with
  | nil => simp
  | cons y r ih => simp only [lstA, Tr.nodes, List.length_cons]; omega
theorem codeE_wf {es : List El} (h : wfE es = true) : (codeE es).nodes ≤ 1600 := by
  obtain ⟨x, rfl, hg, hl, ho⟩ := wfE_ex h
  rw [codeE_els hg]
  have := x.code_nodes
  omega
/-- What a valid program's first command says. -/
theorem okC_split {x : Cmd} {r : List Cmd} (h : okC (x :: r) = true) : wfE x.e = true ∧ ((x.k = 0 ∧ x.l = 0 ∧ okC r = true) ∨ (x.k = 1 ∧ 0 ≤ x.l ∧ x.l ≤ r.length ∧ okC (r.take x.l.toNat) = true ∧ okC (r.drop x.l.toNat) = true)) := by
  rw [okC_cons] at h
  simp only [Bool.and_eq_true] at h
  obtain ⟨h1, h2⟩ := h
  refine ⟨h1, ?_⟩
  split at h2
  · rename_i hk
    simp only [Bool.and_eq_true, beq_iff_eq] at h2
    exact .inl ⟨hk, h2.1.2, h2.2⟩
  · split at h2
    · rename_i hk
      simp only [Bool.and_eq_true, beq_iff_eq] at h2
      have h3 := inB_true.1 h2.1.1.2
      exact .inr ⟨hk, h3.1, h3.2, h2.1.2, h2.2⟩
    · cases h2
theorem codeC_nodes : ∀ (n : Nat) (p : List Cmd), p.length ≤ n → okC p = true → (codeC p).nodes ≤ 2000 * p.length + 1
  | _, [], _, _ => by simp [codeC_nil, Tr.nodes]
  | 0, x :: r, h, _ => by simp at h
  | n + 1, x :: r, h, hok => by
    simp only [List.length_cons] at h
    obtain ⟨h1, h2⟩ := okC_split hok
    have he := codeE_wf h1
    rcases h2 with ⟨hk, hl, hr⟩ | ⟨hk, hl0, hl1, ht, hd⟩
    · rw [codeC_set hk]
      have h7 := tag_nodes 7
      have := codeC_nodes n r (by omega) hr
      simp only [Tr.nodes, List.length_cons]; omega
    · rw [codeC_wh hk]
      have h9 := tag_nodes 9
      have h3 := codeC_nodes n (r.take x.l.toNat) (by rw [List.length_take]; omega) ht
      have h4 := codeC_nodes n (r.drop x.l.toNat) (by rw [List.length_drop]; omega) hd
      rw [List.length_take] at h3
      rw [List.length_drop] at h4
      simp only [Tr.nodes, List.length_cons]
      have : min x.l.toNat r.length + (r.length - x.l.toNat) = r.length := by omega
      omega
/-- Whether no other variable than 0 occurs. -/
def ozC (x : Cmd) : Bool := (x.v == 0) && only0 x.e
def ozW (p : List Cmd) : Bool := p.all ozC
/-- The code of a program, and a code. -/
def cdwP (p : List Cmd) : List Bool × Int := if isW p then (if ozW p then (if (codeC p).nodes ≤ 2000 then ((codeC p).bits, 0) else ([], 5)) else ([], 2)) else ([], 1)
theorem cdw_bad {p : List Cmd} (h : isW p = false) : cdwP p = ([], 1) := by simp [cdwP, h]
theorem cdw_var {p : List Cmd} (h : isW p = true) (h2 : ozW p = false) : cdwP p = ([], 2) := by simp [cdwP, h, h2]
theorem cdw_full {p : List Cmd} (h : isW p = true) (h2 : ozW p = true) (h3 : ¬ (codeC p).nodes ≤ 2000) : cdwP p = ([], 5) := by simp only [cdwP, h, h2, if_true, if_neg h3]
theorem cdw_ok {p : List Cmd} (h : isW p = true) (h2 : ozW p = true) (h3 : (codeC p).nodes ≤ 2000) : cdwP p = ((codeC p).bits, 0) := by simp only [cdwP, h, h2, if_true, if_pos h3]
theorem isW_ok {p : List Cmd} (h : isW p = true) : p.length ≤ 80 ∧ okC p = true := by simpa [isW] using h
end Go.Proofs.YtadmbphefpfbmaaGreatDoor
/- Whether no other variable than 0 occurs in a program: both functions. Partly written by mk_find.py. -/
namespace Go.Proofs.YtadmbphefpfbmaaGreatDoor
open Go.RowKit
set_option linter.unusedVariables false
set_option linter.unusedSimpArgs false
set_option maxHeartbeats 1000000 in
theorem zeroClo_any (w : World) (x : Cmd) (A : Option Addr) (n c : Nat) (hr : RdE w A n x.e) (hn : n ≤ 1000000000) : Calls Tryz.prog 162 #[.agg #[.int .i64 x.k, .int .i64 x.v, .int .i64 x.l, .slice A n c]] w (RetV w (.bool (!ozC x))) := by
  obtain ⟨xk, xv, xl, xe⟩ := x
  simp only at hr ⊢
  have hr2 := hr.below (below_new w (.cells #[.int .i64 xk, .int .i64 xv, .int .i64 xl, .slice A n c] 44)) (Nat.le_refl _)
  by_cases h0 : xv = 0
  · subst h0
    have HQ : Hid (ozC ⟨xk, 0, xl, xe⟩ = only0 xe) := Lib.hid (by simp [ozC])
    go_enter Tryz.func162, Tryz.ntmps162
    go_wp2_with fail
    refine (onlyZero_any _ _ _ _ _ hr2 hn).mono ?_
    rintro e w2 ⟨rfl, hb2⟩
    generalize only0 xe = q at HQ
    go_wp2_with fail
    go_ret
    exact ⟨by rw [HQ.out]; rfl, (box_step hb2).1⟩
  · have b1 : (xv == 0) = false := by simpa using h0
    have b2 : (xv != 0) = true := by simpa using h0
    have HQ : Hid (ozC ⟨xk, xv, xl, xe⟩ = false) := Lib.hid (by simp [ozC, h0])
    go_enter Tryz.func162, Tryz.ntmps162
    go_wp2_with fail
    go_ret
    exact ⟨by rw [HQ.out]; rfl, below_new _ _⟩
set_option maxHeartbeats 1000000 in
theorem indexFuncZC (w : World) (A : Option Addr) (n c : Nat) (ps : List Cmd) (hr : RdC w A n ps) (hn : n ≤ 1000000) :
    Calls Tryz.prog 196 #[.slice A n c, .func (.func 162) #[] #[]] w (FoundN w (!ps.all ozC)) := by
  have HL : Hid (ps.length = n) := Lib.hid (hr.len)
  go_enter Tryz.func196, Tryz.ntmps196
  go_wp2_with fail
  go_loopw [8] (fun q wr => ∃ k : Nat, k ≤ n ∧ q = .int .i64 k ∧ Hid ((ps.take k).all ozC = true) ∧ Below w.heap.size w wr) (fun q _ => n - (intOf q).toNat)
  case atStart => exact ⟨0, Nat.zero_le _, rfl, Lib.hid (by simp), Below.refl _ _⟩
  case round =>
    obtain ⟨k, hk, rfl, hall, hb⟩ := hrel
    by_cases h1 : k < n
    · obtain ⟨x, hx⟩ := get_some (xs := ps) (k := k) (by rw [HL.out]; omega)
      obtain ⟨b, off, A', n', c', hA, hbs, q0, q1, q2, q3, hn', hnc', hre⟩ := hr.at_ hx
      subst hA
      replace q0 := (hb.cell (p := ⟨b, off + k * 4, none⟩) hbs).trans q0
      replace q1 := (hb.cell (p := ⟨b, off + k * 4 + 1, none⟩) hbs).trans q1
      replace q2 := (hb.cell (p := ⟨b, off + k * 4 + 2, none⟩) hbs).trans q2
      replace q3 := (hb.cell (p := ⟨b, off + k * 4 + 3, none⟩) hbs).trans q3
      replace hre := hre.below hb (Nat.le_refl _)
      have HX := Lib.hid hx
      clear hx
      by_cases hin : ozC x = true
      · go_wp2_with (go_at_call 162; refine (zeroClo_any _ x _ _ _ hre hn').mono ?_; rintro e w' ⟨rfl, hb2⟩)
        go_roundw
        case rel => exact ⟨k + 1, by omega, by go_num, Lib.hid (all_step hall.out HX.out hin), hb.trans (hb2.mono hb.size)⟩
        case measure => simp [intOf]; omega
      · have hin' : ozC x = false := by simpa using hin
        clear hin
        go_wp2_with (go_at_call 162; refine (zeroClo_any _ x _ _ _ hre hn').mono ?_; rintro e w' ⟨rfl, hb2⟩)
        go_ret
        exact ⟨k, rfl, by rw [all_out HX.out hin']; simp, hb.trans (hb2.mono hb.size)⟩
    · go_wp2_with fail
      go_ret
      have h := hall.out
      rw [List.take_of_length_le (by rw [HL.out]; omega)] at h
      exact ⟨-1, rfl, by rw [h]; rfl, hb⟩
set_option maxHeartbeats 400000 in
theorem containsFuncZC (w : World) (A : Option Addr) (n c : Nat) (ps : List Cmd) (hr : RdC w A n ps) (hn : n ≤ 1000000) :
    Calls Tryz.prog 161 #[.slice A n c, .func (.func 162) #[] #[]] w (RetV w (.bool (!ps.all ozC))) := by
  go_enter Tryz.func161, Tryz.ntmps161
  go_wp2_with fail
  refine (indexFuncZC _ _ _ _ _ hr hn).mono ?_
  rintro e w' ⟨i, rfl, hi, hb⟩
  have HI := Lib.hid hi; clear hi
  go_wp2_with fail
  go_ret
  exact ⟨by rw [← HI.out]; rfl, hb⟩
set_option maxHeartbeats 1000000 in
theorem zeroCode_any (w : World) (A : Option Addr) (n c : Nat) (ps : List Cmd) (hr : RdC w A n ps) (hn : n ≤ 1000000) : Calls Tryz.prog 120 #[.slice A n c] w (RetV w (.int .i64 (if ozW ps then 0 else 2))) := by
  cases hz : ozW ps with
  | true =>
    have HZ : Hid (ps.all ozC = true) := Lib.hid hz
    go_enter Tryz.func120, Tryz.ntmps120
    go_wp2_with fail
    refine (containsFuncZC _ _ _ _ _ hr hn).mono ?_
    rw [HZ.out]
    rintro e w2 ⟨rfl, hb2⟩
    go_wp2_with fail
    go_ret
    exact ⟨rfl, hb2⟩
  | false =>
    have HZ : Hid (ps.all ozC = false) := Lib.hid hz
    go_enter Tryz.func120, Tryz.ntmps120
    go_wp2_with fail
    refine (containsFuncZC _ _ _ _ _ hr hn).mono ?_
    rw [HZ.out]
    rintro e w2 ⟨rfl, hb2⟩
    go_wp2_with fail
    go_ret
    exact ⟨rfl, hb2⟩
set_option maxHeartbeats 2000000 in
theorem l23OnlyAll_any (w : World) (A : Option Addr) (n c : Nat) (ps : List Cmd) (hr : RdC w A n ps) (hn : n ≤ 1000000) : Calls Tryz.prog 187 #[.slice A n c] w (RetV w (.bool (ozW ps))) := by
  have HL : Hid (ps.length = n) := Lib.hid hr.len
  go_enter Tryz.func187, Tryz.ntmps187
  go_wp2_with fail
  go_loopw [3] (fun q wr => ∃ k : Nat, k ≤ n ∧ q = .int .i64 k ∧ Hid ((ps.take k).all ozC = true) ∧ Below w.heap.size w wr) (fun q _ => n - (intOf q).toNat)
  case atStart => exact ⟨0, Nat.zero_le _, rfl, Lib.hid (by simp), Below.refl _ _⟩
  case round =>
    obtain ⟨k, hk, rfl, hall, hb⟩ := hrel
    by_cases hlt : k < n
    · have hlt' : (k : Int) < (n : Int) := by omega
      obtain ⟨x, hx⟩ := get_some (xs := ps) (k := k) (by rw [HL.out]; omega)
      obtain ⟨b, off, A', n', c', hA, hbs, q0, q1, q2, q3, hn', hnc', hre⟩ := hr.at_ hx
      subst hA
      replace q0 := (hb.cell (p := ⟨b, off + k * 4, none⟩) hbs).trans q0
      replace q1 := (hb.cell (p := ⟨b, off + k * 4 + 1, none⟩) hbs).trans q1
      replace q2 := (hb.cell (p := ⟨b, off + k * 4 + 2, none⟩) hbs).trans q2
      replace q3 := (hb.cell (p := ⟨b, off + k * 4 + 3, none⟩) hbs).trans q3
      replace hre := hre.below hb (Nat.le_refl _)
      have HX := Lib.hid hx
      clear hx
      obtain ⟨xk, xv, xl, xe⟩ := x
      simp only at q0 q1 q2 hre
      by_cases h0 : xv = 0
      · subst h0
        cases hz : only0 xe with
        | true =>
          have HZ := Lib.hid hz
          have HQ : Hid (ozC ⟨xk, 0, xl, xe⟩ = true) := Lib.hid (by simp [ozC, hz])
          clear hz
          go_wp2_with (go_at_call 229; go_must (refine (l23Only_any _ _ _ _ _ hre hn').mono ?_; rw [HZ.out]; rintro e w' ⟨rfl, rfl⟩))
          go_roundw
          case rel => exact ⟨k + 1, by omega, by go_num, Lib.hid (all_step hall.out HX.out HQ.out), hb⟩
          case measure => simp [intOf]; omega
        | false =>
          have HZ := Lib.hid hz
          have HQ : Hid (ozW ps = false) := Lib.hid (all_out HX.out (by simp [ozC, hz]))
          clear hz
          go_wp2_with (go_at_call 229; go_must (refine (l23Only_any _ _ _ _ _ hre hn').mono ?_; rw [HZ.out]; rintro e w' ⟨rfl, rfl⟩))
          go_ret
          exact ⟨by rw [HQ.out]; rfl, hb⟩
      · have b1 : (xv == 0) = false := by simpa using h0
        have b2 : (xv != 0) = true := by simpa using h0
        have HQ : Hid (ozW ps = false) := Lib.hid (all_out HX.out (by simp [ozC, h0]))
        go_wp2_with fail
        go_ret
        exact ⟨by rw [HQ.out]; rfl, hb⟩
    · have h : ozW ps = true := by have h := hall.out; rw [List.take_of_length_le (by rw [HL.out]; omega)] at h; exact h
      have HQ := Lib.hid h
      clear h
      go_wp2_with fail
      go_ret
      exact ⟨by rw [HQ.out]; rfl, hb⟩
end Go.Proofs.YtadmbphefpfbmaaGreatDoor
/- The code of a program: the reference's functions. -/
namespace Go.Proofs.YtadmbphefpfbmaaGreatDoor
open Go.RowKit
set_option linter.unusedVariables false
set_option linter.unusedSimpArgs false
def headsB (ts : List Tr) : List Bool := ts.flatMap fun t => true :: t.bits
theorem headsB_step {ts : List Tr} {k : Nat} {t : Tr} (h : ts[k]? = some t) : headsB (ts.take (k + 1)) = headsB (ts.take k) ++ [true] ++ t.bits := by
  rw [List.take_add_one, h]; simp [headsB]
theorem headsB_len (ts : List Tr) (k : Nat) : (headsB (ts.take k)).length + 1 ≤ (lstA ts .nil).nodes := by
  have h1 : (lstA ts .nil).nodes = (headsB ts).length + 1 := by rw [← Tr.bits_len, lstA_bits]; simp [headsB]
  have h2 : headsB ts = headsB (ts.take k) ++ headsB (ts.drop k) := by rw [headsB, headsB, headsB, ← List.flatMap_append, List.take_append_drop]
  rw [h1, h2, List.length_append]
  omega
theorem Stk.rdb {w : World} {lo n : Nat} {A : Option Addr} {us : List Value} {ts : List Tr} (h : Stk w lo us (ts.map Tr.bits)) (hr : Rd w A n us) (hb : ∀ t ∈ ts, t.nodes ≤ 1000000000) : RdB w A n (ts.map Tr.bits) := by
  refine ⟨us, hr, h.1, fun i v xs hv hx => ?_⟩
  obtain ⟨A', n', c', rfl, ho⟩ := h.2 i v xs hv hx
  refine ⟨A', n', c', rfl, ?_, own_rd ho⟩
  obtain ⟨t, ht, rfl⟩ : ∃ t, ts[i]? = some t ∧ xs = t.bits := by
    simp only [List.getElem?_map, Option.map_eq_some_iff] at hx
    obtain ⟨t, h1, h2⟩ := hx; exact ⟨t, h1, h2.symm⟩
  have h1 := ho.1
  have h2 := hb t (List.mem_of_getElem? ht)
  simp [Tr.bits_len] at h1
  omega
set_option maxHeartbeats 1600000 in
theorem l21ListA_any (w : World) (A : Option Addr) (n c : Nat) (ts : List Tr) (hr : RdB w A n (ts.map Tr.bits)) (hnn : (lstA ts .nil).nodes ≤ 1000000) :
    Calls Tryz.prog 232 #[.slice A n c] w (RetS w 4 (bools (lstA ts .nil).bits)) := by
  have HL : Hid (ts.length = n) := Lib.hid (by have := hr.len; simpa using this)
  have hn : n ≤ 1000000 := by have h1 := lstA_len ts; have h2 := HL.out; omega
  have hlit := own_lit w #[] 0 4 rfl (by omega)
  go_enter Tryz.func232, Tryz.ntmps232
  go_wp2_with fail
  go_loopw [3, 4] (fun v i wr => ∃ k m : Nat, k ≤ n ∧ i = .int .i64 k ∧ wr.ownsRow w.heap.size 4 1 v m (bools (headsB (ts.take k))) ∧ Below w.heap.size w wr) (fun _ i _ => n - (intOf i).toNat)
  case atStart => exact ⟨0, 0, Nat.zero_le _, rfl, by simpa [headsB] using hlit, below_new _ _⟩
  case round =>
    obtain ⟨k, m, hk, rfl, hown, hb⟩ := hrel
    clear hlit
    have hm : m ≤ 1000000 := by have h1 := hown.1; have h2 := headsB_len ts k; simp at h1; omega
    obtain ⟨Ao, co, rfl, hco, hul⟩ := own_form hown
    by_cases hlt : k < n
    · obtain ⟨xs, hx⟩ := get_some (xs := ts.map Tr.bits) (k := k) (by simp; rw [HL.out]; exact hlt)
      obtain ⟨b, off, A', n', c', rfl, hbs, hc, hn', hr'⟩ := hr.at_ hx
      have hc1 := (hb.cell (p := ⟨b, off + k, none⟩) hbs).trans hc
      obtain ⟨t, ht, rfl⟩ : ∃ t, ts[k]? = some t ∧ xs = t.bits := by
        simp only [List.getElem?_map, Option.map_eq_some_iff] at hx
        obtain ⟨t, h1, h2⟩ := hx; exact ⟨t, h1, h2.symm⟩
      have hn'2 : n' ≤ 1000000 := by
        have q1 := hr'.1; have q2 := lstA_mem (List.mem_of_getElem? ht)
        simp [Tr.bits_len] at q1; omega
      have HST := Lib.hid (headsB_step ht)
      clear hx hc ht
      go_wp2_with (first
        | (at_builtin; refine wpList_app1 eltB rfl _ _ rfl wr w.heap.size _ m _ (by rfl) hown (.bool true) (by rfl) (by rfl) hb.size (by omega) ?_; rintro A2 c2 w2 hown2 hb2; have hc1 := (hb2.cell (p := ⟨b, off + k, none⟩) hbs).trans hc1; have HB2 := Lib.hid (hb.trans hb2))
        | (at_builtin; go_must (refine wpList_appS eltB rfl _ _ rfl w2 w.heap.size _ (m + 1) _ (by rfl) hown2 _ n' c' (bools t.bits) (by rfl) (hr'.below HB2.out (Nat.le_refl _)) (bools_one _) HB2.out.size (by omega) ?_; rintro A3 c3 w3 hown3 hb3)))
      go_roundw
      case rel =>
        refine ⟨k + 1, m + 1 + n', by omega, by go_num, ?_, HB2.out.trans hb3⟩
        rw [HST.out]
        simpa using hown3
      case measure => simp [intOf]; omega
    · obtain rfl : k = n := by omega
      rw [List.take_of_length_le (by rw [HL.out]; omega)] at hown
      go_wp2_with (at_builtin; go_must (refine wpList_app1 eltB rfl _ _ rfl wr w.heap.size _ m _ (by rfl) hown (.bool false) (by rfl) (by rfl) hb.size (by omega) ?_; rintro A2 c2 w2 hown2 hb2))
      go_ret
      refine ⟨A2, _, c2, rfl, ?_, hb.trans hb2⟩
      rw [lstA_bits]
      simpa [headsB] using hown2
/-- The commands between two places. -/
def seg (cs : List Cmd) (i j : Nat) : List Cmd := (cs.drop i).take (j - i)
theorem seg_at {cs : List Cmd} {i j : Nat} {x : Cmd} (hx : cs[i]? = some x) (h : i < j) : seg cs i j = x :: seg cs (i + 1) j := seg_cons hx h
theorem seg_len {cs : List Cmd} {i j n : Nat} (hn : cs.length = n) (hj : j ≤ n) : (seg cs i j).length = j - i := by
  rw [seg, List.length_take, List.length_drop]; omega
theorem seg_take {cs : List Cmd} {i j l : Nat} (h : i + l ≤ j) : (seg cs i j).take l = seg cs i (i + l) := by
  rw [seg, seg, List.take_take]; congr 1; omega
theorem seg_drop {cs : List Cmd} {i j l : Nat} : (seg cs i j).drop l = seg cs (i + l) j := by
  rw [seg, seg, List.drop_take, List.drop_drop]; congr 1; omega
theorem seg_nil (cs : List Cmd) (i : Nat) : seg cs i i = [] := by simp [seg]
theorem seg_all (cs : List Cmd) : seg cs 0 cs.length = cs := by simp [seg]
theorem mem_bound {ts : List Tr} {t : Tr} {N : Nat} (hn : (lstA ts .nil).nodes ≤ N) (h : t ∈ ts) : t.nodes ≤ N := Nat.le_trans (lstA_mem h) hn
set_option maxHeartbeats 16000000 in
set_option maxRecDepth 100000 in
theorem l23List_any : ∀ (d : Nat) (w : World) (A : Option Addr) (n c : Nat) (cs : List Cmd) (i j : Nat), RdC w A n cs → n ≤ 80 → j - i = d → i ≤ j → j ≤ n → okC (seg cs i j) = true → Calls Tryz.prog 189 #[.slice A n c, .int .i64 i, .int .i64 j] w (RetS w 4 (bools (codeC (seg cs i j)).bits)) := by
  intro d
  induction d using Nat.strongRecOn with
  | _ d ih =>
  intro w A n c cs i j hr hn hd hij hjn hok
  have HIH := Lib.hid ih
  have HL : Hid (cs.length = n) := Lib.hid hr.len
  have HNB : Hid ((codeC (seg cs i j)).nodes ≤ 200000) := Lib.hid (by
    have h1 := codeC_nodes _ _ (Nat.le_refl _) hok
    have h2 := seg_len (i := i) HL.out hjn
    omega)
  have HOK := Lib.hid hok
  have HDD := Lib.hid hd
  clear ih hok hd
  have hlit := own_lit w #[] 0 22 rfl (by omega)
  have hbb := below_new w (.cells #[] 22)
  go_enter Tryz.func189, Tryz.ntmps189
  go_wp2_with fail
  go_loopw [7, 8] (fun p q wr => ∃ (k : Nat) (ts : List Tr) (A : Option Addr) (m c : Nat) (us : List Value), i ≤ k ∧ k ≤ j ∧ q = .int .i64 k ∧ p = .slice A m c ∧ wr.ownsRow w.heap.size 22 1 (.slice A m c) m us ∧ Stk wr w.heap.size us (ts.map Tr.bits) ∧ Hid (codeC (seg cs i j) = lstA ts (codeC (seg cs k j))) ∧ Hid (okC (seg cs k j) = true) ∧ m ≤ k ∧ Below w.heap.size w wr) (fun _ q _ => n - (intOf q).toNat)
  case atStart => exact ⟨i, [], _, 0, 0, [], Nat.le_refl _, hij, rfl, rfl, hlit, ⟨rfl, by simp⟩, Lib.hid rfl, HOK, by omega, hbb⟩
  case round =>
    clear hlit hbb
    obtain ⟨k, ts, A1, m, c1, us, hik, hkj, rfl, rfl, hown, hst, HK, HD, hmk, hb⟩ := hrel
    by_cases hlt : k < j
    · have hlt' : (k : Int) < (j : Int) := by omega
      obtain ⟨x, hx⟩ := get_some (xs := cs) (k := k) (by rw [HL.out]; omega)
      obtain ⟨b, off, A', n', c', hA, hbs, q0, q1, q2, q3, hn', hc', hre⟩ := hr.at_ hx
      subst hA
      replace q0 := (hb.cell (p := ⟨b, off + k * 4, none⟩) hbs).trans q0
      replace q1 := (hb.cell (p := ⟨b, off + k * 4 + 1, none⟩) hbs).trans q1
      replace q2 := (hb.cell (p := ⟨b, off + k * 4 + 2, none⟩) hbs).trans q2
      replace q3 := (hb.cell (p := ⟨b, off + k * 4 + 3, none⟩) hbs).trans q3
      replace hre := hre.below hb (Nat.le_refl _)
      have HX := Lib.hid hx
      obtain ⟨hwf, hcase⟩ := okC_split (x := x) (r := seg cs (k + 1) j) (by rw [← seg_at hx hlt]; exact HD.out)
      obtain ⟨y, hy, hg, hl40, ho⟩ := wfE_ex hwf
      have HCE : Hid (codeE x.e = y.code) := Lib.hid (by rw [hy, codeE_els hg])
      rw [hy] at hre hl40 ho
      have hcn : y.code.nodes ≤ 1600 := by have := y.code_nodes; omega
      have hn40 : n' ≤ 40 := by have := rdE_len hre; omega
      have HG := Lib.hid hg
      have HO := Lib.hid ho
      clear hx hwf hg ho hl40
      obtain ⟨xk, xv, xl, xe⟩ := x
      simp only at q0 q1 q2 hy hcase
      subst hy
      have HB1 := Lib.hid (hb.trans ((below_new wr (.cells #[.int .i64 xk, .int .i64 xv, .int .i64 xl, .slice A' n' c'] 44)).mono hb.size))
      have hbx := box_new wr #[.int .i64 xk, .int .i64 xv, .int .i64 xl, .slice A' n' c'] 44
      have hbw := below_new wr (.cells #[.int .i64 xk, .int .i64 xv, .int .i64 xl, .slice A' n' c'] 44)
      have hre1 := hre.below hbw (Nat.le_refl _)
      have HOW := Lib.hid (own_below hown hbw (Nat.le_refl _))
      have HST := Lib.hid (hst.below hbw (Nat.le_refl _))
      have z0 := blk_cell hbx 0 rfl
      have z2 := blk_cell hbx 2 rfl
      have z3 := blk_cell hbx 3 rfl
      have HBX := Lib.hid hbx
      clear hbx hbw hre hown hst
      rcases hcase with ⟨hk0, hl0, hrest⟩ | ⟨hk1, hl0, hl1, hbod, hrest⟩
      · have HQ : Hid (codeC (seg cs i j) = lstA (ts ++ [.node (tagTr 7) y.code]) (codeC (seg cs (k + 1) j))) := Lib.hid (by rw [lstA_snoc, HK.out, seg_at HX.out hlt, codeC_set hk0, HCE.out])
        have HRS := Lib.hid hrest
        subst hk0 hl0
        clear hrest
        go_wp2_with fail
        refine (l23Code_any _ _ _ _ y HG.out HO.out hre1 hn40).mono ?_
        rintro e w2 ⟨A2, n2, c2, rfl, ho2, hb2⟩
        have hn2 : n2 ≤ 2000 := by have h1 := ho2.1; simp [Tr.bits_len] at h1; omega
        have HB2 := Lib.hid (HB1.out.trans (hb2.mono HB1.out.size))
        have HOW2 := Lib.hid (own_below HOW.out hb2 (Nat.le_refl _))
        have HST2 := Lib.hid (HST.out.below hb2 (Nat.le_refl _))
        have hr2 := own_rd ho2
        clear hb2 ho2 z0 z2 z3
        go_wp2_with fail
        refine (l23Item_any _ 7 (by omega) _ rfl _ _ _ y.code hr2 (by omega)).mono ?_
        rintro e w3 ⟨A3, n3, c3, rfl, ho3, hb3⟩
        have HB3 := Lib.hid (HB2.out.trans (hb3.mono HB2.out.size))
        have hown3 := own_below HOW2.out hb3 (Nat.le_refl _)
        have HST3 := Lib.hid ((HST2.out.below hb3 (Nat.le_refl _)).snoc ho3 HB2.out.size)
        clear hb3 ho3 hr2
        go_wp2_with (at_builtin; go_must (refine wpList_app1g eltSB rfl _ _ rfl w3 w.heap.size _ m _ (by rfl) hown3 _ (by rfl) (by rfl) HB3.out.size (by omega) ?_; rintro A4 c4 w4 hown4 hb4 hg4))
        have hst4 := HST3.out.grown hown3 (by decide) hg4
        go_roundw
        case rel => exact ⟨k + 1, ts ++ [.node (tagTr 7) y.code], A4, m + 1, c4, _, by omega, by omega, by go_num, rfl, hown4, by simpa using hst4, HQ, HRS, by omega, HB3.out.trans hb4⟩
        case measure => simp [intOf]; omega
      · obtain ⟨l, hl⟩ : ∃ l : Nat, xl = (l : Int) := ⟨xl.toNat, by omega⟩
        have hsl := seg_len (i := k + 1) HL.out hjn
        have hln : k + 1 + l ≤ j := by omega
        have hlt2 : xl.toNat = l := by omega
        rw [hlt2, seg_take (by omega)] at hbod
        rw [hlt2, seg_drop] at hrest
        have HQ : Hid (codeC (seg cs i j) = lstA (ts ++ [.node (tagTr 9) (.node y.code (codeC (seg cs (k + 1) (k + 1 + l))))]) (codeC (seg cs (k + 1 + l) j))) := Lib.hid (by
          rw [lstA_snoc, HK.out, seg_at HX.out hlt, codeC_wh hk1]
          simp only [hlt2]
          rw [seg_take (by omega), seg_drop, HCE.out])
        have HRS := Lib.hid hrest
        have HBD := Lib.hid hbod
        have hbn : (codeC (seg cs (k + 1) (k + 1 + l))).nodes ≤ 200000 := by
          have h1 := codeC_nodes _ _ (Nat.le_refl _) hbod
          have h2 := seg_len (i := k + 1) (j := k + 1 + l) HL.out (by omega)
          omega
        subst hk1 hl
        clear hrest hbod hl0 hl1 hlt2 hsl
        have e1 : ((k : Int) + 1) = ((k + 1 : Nat) : Int) := by omega
        have e2 : ((k : Int) + 1 + (l : Int)) = ((k + 1 + l : Nat) : Int) := by omega
        have HE1 := Lib.hid e1
        have HE2 := Lib.hid e2
        clear e1 e2
        go_wp2_with fail
        refine (l23Code_any _ _ _ _ y HG.out HO.out hre1 hn40).mono ?_
        rintro e w2 ⟨A2, n2, c2, rfl, ho2, hb2⟩
        have hn2 : n2 ≤ 2000 := by have h1 := ho2.1; simp [Tr.bits_len] at h1; omega
        have HB2 := Lib.hid (HB1.out.trans (hb2.mono HB1.out.size))
        have HOW2 := Lib.hid (own_below HOW.out hb2 (Nat.le_refl _))
        have HST2 := Lib.hid (HST.out.below hb2 (Nat.le_refl _))
        have HHR2 := Lib.hid (own_rd ho2)
        clear hb2 ho2 z0 z2 z3
        go_wp2_with fail
        have hrec := HIH.out l (by have := HDD.out; omega) w2 (some ⟨b, off, none⟩) n c cs (k + 1) (k + 1 + l) (hr.below HB2.out (Nat.le_refl _)) hn (by omega) (by omega) (by omega) HBD.out
        rw [← HE1.out, ← HE2.out] at hrec
        refine hrec.mono ?_
        rintro e w5 ⟨A5, n5, c5, rfl, ho5, hb5⟩
        have hn5 : n5 ≤ 200000 := by have h1 := ho5.1; simp [Tr.bits_len] at h1; omega
        have HB5 := Lib.hid (HB2.out.trans (hb5.mono HB2.out.size))
        have HOW5 := Lib.hid (own_below HOW2.out hb5 (Nat.le_refl _))
        have HST5 := Lib.hid (HST2.out.below hb5 (Nat.le_refl _))
        have hr25 := HHR2.out.below hb5 (Nat.le_refl _)
        have hr5 := own_rd ho5
        clear hb5 ho5 hrec
        go_wp2_with fail
        refine (l21PairT_any _ _ _ _ y.code hr25 (by omega) _ _ _ (codeC (seg cs (k + 1) (k + 1 + l))) hr5 (by omega)).mono ?_
        rintro e w6 ⟨A6, n6, c6, rfl, ho6, hb6⟩
        have hn6 : n6 ≤ 300000 := by have h1 := ho6.1; simp only [ints, bools, List.length_map, Tr.bits_len, Tr.nodes] at h1; omega
        have HB6 := Lib.hid (HB5.out.trans (hb6.mono HB5.out.size))
        have HOW6 := Lib.hid (own_below HOW5.out hb6 (Nat.le_refl _))
        have HST6 := Lib.hid (HST5.out.below hb6 (Nat.le_refl _))
        have hr6 := own_rd ho6
        clear hb6 ho6 hr25 hr5
        go_wp2_with fail
        refine (l23Item_any _ 9 (by omega) _ rfl _ _ _ (.node y.code (codeC (seg cs (k + 1) (k + 1 + l)))) hr6 (by omega)).mono ?_
        rintro e w3 ⟨A3, n3, c3, rfl, ho3, hb3⟩
        have HB3 := Lib.hid (HB6.out.trans (hb3.mono HB6.out.size))
        have hown3 := own_below HOW6.out hb3 (Nat.le_refl _)
        have HST3 := Lib.hid ((HST6.out.below hb3 (Nat.le_refl _)).snoc ho3 HB6.out.size)
        clear hb3 ho3 hr6
        go_wp2_with (at_builtin; go_must (refine wpList_app1g eltSB rfl _ _ rfl w3 w.heap.size _ m _ (by rfl) hown3 _ (by rfl) (by rfl) HB3.out.size (by omega) ?_; rintro A4 c4 w4 hown4 hb4 hg4))
        have hst4 := HST3.out.grown hown3 (by decide) hg4
        go_roundw
        case rel => exact ⟨k + 1 + l, ts ++ [.node (tagTr 9) (.node y.code (codeC (seg cs (k + 1) (k + 1 + l))))], A4, m + 1, c4, _, by omega, by omega, by go_num, rfl, hown4, by simpa using hst4, HQ, HRS, by omega, HB3.out.trans hb4⟩
        case measure => simp [intOf]; omega
    · obtain rfl : k = j := by omega
      have HQ : Hid (codeC (seg cs i k) = lstA ts .nil) := Lib.hid (by rw [HK.out, seg_nil]; rfl)
      have hnn : (lstA ts .nil).nodes ≤ 1000000 := by rw [← HQ.out]; have := HNB.out; omega
      go_wp2_with fail
      refine (l21ListA_any _ _ _ _ ts (hst.rdb (own_rd hown) (fun t ht => Nat.le_trans (mem_bound hnn ht) (by omega))) hnn).mono ?_
      rintro e w2 ⟨A2, n2, c2, rfl, ho2, hb2⟩
      go_wp2_with fail
      go_ret
      exact ⟨A2, n2, c2, rfl, by rw [HQ.out]; exact own_base ho2 hb.size, hb.trans (hb2.mono hb.size)⟩
end Go.Proofs.YtadmbphefpfbmaaGreatDoor
/- The code of a program: the program's functions. Written by mk_cdi.py. -/
namespace Go.Proofs.YtadmbphefpfbmaaGreatDoor
open Go.RowKit
set_option linter.unusedVariables false
set_option linter.unusedSimpArgs false
theorem step_app1P {P : Program} {ops : Array Oper} {o : Oper} {a : Act} {K : Act → World → Prop} {Q : Exit → Act → World → Prop} {E : Prop} {t e : TypeId} {z : Value} (hE : Elt P t e z) (hgd : o.guard = none) (s x : Operand)
    (ho : o.op = .call { callee := .builtin .append, args := #[s, x], argTypes := #[t, t] }) (W W' : World) (y : Value) (hW : W' = W.alloc (.cells #[y] e)) (base : Nat) (v : Value) (n : Nat) (vs : List Value) (hs : a.eval s = v) (hown : W.ownsRow base e 1 v n vs)
    (hy : y.oneCell' = true) (hx : a.eval x = .slice (some ⟨W.heap.size, 0, none⟩) 1 1) (hbase : base ≤ W.heap.size) (hn : n ≤ 1099511627776)
    (h : ∀ A c w', w'.ownsRow base e 1 (.slice A (n + 1) c) (n + 1) (vs ++ [y]) → W.grownBy w' v.ownBlock → K (a.put o.dst (.slice A (n + 1) c)) w') :
    if Region.wanted o (yielded ops a.tmps) = true then Oper.wp P o a W' K Q else E := by
  have hw : Region.wanted o (yielded ops a.tmps) = true := by simp [Region.wanted, hgd]
  rw [if_pos hw]
  subst hW
  obtain ⟨ht, hzc, i, hi, hz, hs1, hb⟩ := hE
  have hbn : (n + 1) * i.bytes ≤ (n + 1) * 24 := Nat.mul_le_mul_left _ hb
  obtain ⟨v', w', hrun, h2, h3, _⟩ := run_append_own (P := P) (W.alloc (.cells #[y] e)) base t o.type e i z 1 i.bytes ht hi hz hs1 rfl (by rw [hzc]; rfl) (by decide) v n vs (hown.alloc _) ⟨W.heap.size, 0, none⟩ 1 1 [y] rfl (cell_one_new _ _ _) (by simpa using hy) (by unfold maxLen; omega) (by omega) (by simp; omega)
  unfold Oper.wp
  obtain ⟨A, c, rfl, _, _⟩ := own_form h2
  simp [execOp, ho, resolve, invoke, builtin, hs, hx, hrun, Result.andThen]
  exact h A c w' h2 (grown_alloc_trans h3)
/-- Trees are left alone by what happens in blocks of other elements. -/
theorem IsT.chT {w w' : World} {G : Nat → Prop} {lo : Nat} (hc : Ch G w w') (hG : ∀ k cs, G k → w.heap[k]? = some (.cells cs 141 (0, 0)) → False) : ∀ {t : Tr} {u : Value}, IsT w lo w.heap.size u t → IsT w' lo w'.heap.size u t
  | .nil, _, h => h
  | .node _ _, _, ⟨b, vh, vt, e, h1, h2, h3, h4, h5⟩ =>
    ⟨b, vh, vt, e, h1, Nat.lt_of_lt_of_le h2 hc.size, (hc.block b h2 (fun g => hG b _ g h3)).trans h3, h4.chT hc hG, h5.chT hc hG⟩
theorem AreT.chT {w w' : World} {G : Nat → Prop} {lo : Nat} {us : List Value} {ts : List Tr} (h : AreT w lo w.heap.size us ts) (hc : Ch G w w') (hG : ∀ k cs, G k → w.heap[k]? = some (.cells cs 141 (0, 0)) → False) : AreT w' lo w'.heap.size us ts :=
  ⟨h.1, fun i u t hu ht => (h.2 i u t hu ht).chT hc hG⟩
theorem row_noT {w : World} {B e s n : Nat} {v : Value} {ws : List Value} (ho : w.ownsRow B e s v n ws) (hT : e ≠ 141) : ∀ k cs, Fo v k → w.heap[k]? = some (.cells cs 141 (0, 0)) → False := by
  intro k cs hk h
  rcases ho.2 with ⟨rfl, _⟩ | ⟨g, _, _, rfl, _, hg1, _⟩
  · simp [Fo, Value.ownBlock] at hk
  · obtain rfl : g = k := by simpa [Fo, Value.ownBlock] using hk
    exact blk_ne hg1 h hT rfl
theorem row_notB {w : World} {base e s n g T : Nat} {v : Value} {vs : List Value} {cs : Array Value} (hg : w.heap[g]? = some (.cells cs T (0, 0))) (hT : T ≠ e) (h : w.ownsRow base e s v n vs) : ¬ Fo v g := fun hf => by
  rcases h.2 with ⟨rfl, _⟩ | ⟨g', cap, cur, rfl, _, hgg, _⟩
  · simp [Fo, Value.ownBlock] at hf
  · obtain rfl : g' = g := by simpa [Fo, Value.ownBlock] using hf
    exact blk_ne hg hgg hT rfl
/-- The list that the closure fills, in its box. -/
def CB (w : World) (lo B : Nat) (ts : List Tr) : Prop :=
  ∃ A n c us, w.heap[B]? = some (.cells #[.slice A n c] 208 (0, 0)) ∧ w.ownsRow lo 72 1 (.slice A n c) n us ∧ AreT w lo w.heap.size us ts ∧ lo ≤ B
/-- What becomes of it when a tree is appended and the box is set. -/
theorem CB.put {w w5 : World} {lo B n c5 : Nat} {v : Value} {us : List Value} {ts : List Tr} {A5 : Option Addr} {p : Option Addr} {t : Tr} (hx : w.heap[B]? = some (.cells #[v] 208 (0, 0))) (ho : w.ownsRow lo 72 1 v n us) (ha : AreT w lo w.heap.size us ts) (hlo : lo ≤ B)
    (ht : IsT w lo w.heap.size (.pointer p) t) (ho5 : w5.ownsRow lo 72 1 (.slice A5 (n + 1) c5) (n + 1) (us ++ [.pointer p])) (hg : w.grownBy w5 v.ownBlock) :
    CB (w5.setCell ⟨B, 0, none⟩ (.slice A5 (n + 1) c5)) lo B (ts ++ [t]) ∧ w5.cell? ⟨B, 0, none⟩ = some v ∧ w5.frozen? ⟨B, 0, none⟩ = false := by
  have hx5 := blk_ch hx (ch_row hg) (row_notB hx (by decide) ho)
  have ha5 := ha.chT (ch_row hg) (row_noT ho (by decide))
  have ht5 := IsT.chT (ch_row hg) (row_noT ho (by decide)) ht
  have hnb := row_notB hx5 (by decide) ho5
  refine ⟨⟨A5, n + 1, c5, us ++ [.pointer p], by simpa using blk_set hx5 0 (.slice A5 (n + 1) c5), own_ch ho5 (ch_set w5 B 0 _) (fun k h1 h2 => by subst h2; exact hnb h1), ?_, hlo⟩, blk_cell hx5 0 rfl, blk_free hx5 0⟩
  have hG : ∀ k cs, k = B → w5.heap[k]? = some (.cells cs 141 (0, 0)) → False := fun k cs hk h => by subst hk; exact blk_ne hx5 h (by decide) rfl
  exact (ha5.snoc ht5).chT (ch_set w5 B 0 _) hG
def itemT (x : Cmd) (body : List Cmd) : Tr := if x.k = 0 then .node (tagTr 7) (codeE x.e) else .node (tagTr 9) (.node (codeE x.e) (codeC body))
def ClP (w : World) (lo B : Nat) (ts : List Tr) (e : Ending) (w' : World) : Prop := e = .returned (.tuple #[]) ∧ CB w' lo B ts ∧ Below lo w w'
set_option maxHeartbeats 8000000 in
set_option maxRecDepth 100000 in
theorem codeClo_set (w : World) (lo B : Nat) (x : Cmd) (A : Option Addr) (n c : Nat) (Ab : Option Addr) (nb cb : Nat) (ts : List Tr) (hr : RdE w A n x.e) (hwf : wfE x.e = true) (hnc : n ≤ c) (hk : x.k = 0) (hcb : CB w lo B ts) (hlo : lo ≤ w.heap.size) (hts : ts.length ≤ 1000000) :
    Calls Tryz.prog 165 #[.agg #[.int .i64 x.k, .int .i64 x.v, .int .i64 x.l, .slice A n c], .slice Ab nb cb, .pointer (some ⟨B, 0, none⟩)] w (ClP w lo B (ts ++ [.node (tagTr 7) (codeE x.e)])) := by
  obtain ⟨xk, xv, xl, xe⟩ := x
  simp only at hr hwf hk ⊢
  subst hk
  obtain ⟨y, rfl, hg, hl, ho⟩ := wfE_ex hwf
  have hn40 : n ≤ 40 := by have := rdE_len hr; omega
  have HCE : Hid (codeE y.els = y.code) := Lib.hid (codeE_els hg)
  rw [HCE.out]
  have hcn := y.code_nodes
  have htn := tag_nodes 7
  have hbb := below_new w (.cells #[.int .i64 0, .int .i64 xv, .int .i64 xl, .slice A n c] 44)
  have hbx := box_new w #[.int .i64 0, .int .i64 xv, .int .i64 xl, .slice A n c] 44
  have z0 := blk_cell hbx 0 rfl
  have z3 := blk_cell hbx 3 rfl
  have hr1 := hr.below hbb (Nat.le_refl _)
  obtain ⟨A1, m, c1, us, hx, hro, ha, hlB⟩ := hcb
  have hm : m ≤ 1000000 := by have h1 := hro.1; have h2 := ha.1; simp at h1; omega
  have hBw := blk_lt hx
  have HX := Lib.hid (blk_bel hx hbb)
  have HO := Lib.hid (own_below hro hbb (Nat.le_refl _))
  have HA := Lib.hid (ha.up hbb)
  have HBX := Lib.hid hbx
  have HBB := Lib.hid hbb
  clear hx hro ha hbx hbb hr
  go_enter Tryz.func165, Tryz.ntmps165
  go_wp2_with fail
  refine (codeOfExpr_any y _ _ _ _ hg ho hr1 hn40 hnc).mono ?_
  rintro e w2 ⟨v2, rfl, hv2, hb2⟩
  obtain ⟨p2, rfl⟩ := hv2.isPtr
  have hz2 := blk_bel HBX.out hb2
  clear z0 z3
  have z0 := blk_cell hz2 0 rfl
  have q2 := blk_cell (blk_bel HX.out hb2) 0 rfl
  have HX2 := Lib.hid (blk_bel HX.out hb2)
  have HO2 := Lib.hid (own_below HO.out hb2 (Nat.le_refl _))
  have HA2 := Lib.hid (HA.out.up hb2)
  have HB2 := Lib.hid (HBB.out.trans (hb2.mono HBB.out.size))
  have hl2 : lo ≤ w2.heap.size := Nat.le_trans hlo HB2.out.size
  have hv2' : IsT w2 lo w2.heap.size (.pointer p2) y.code := hv2.wide (Nat.le_trans hlo HBB.out.size) (Nat.le_refl _)
  clear hz2 hb2 hv2
  go_wp2_with fail
  (first | (go_region_law (first
    | (refine step_app1P eltP (by rfl) _ _ (by rfl) w4 _ (.pointer p4) (by rfl) lo _ m us (by rfl) (by exact HO4.out) (by rfl) (by rfl) (by exact hl4) (by omega) ?_
       intro A5 c5 w5 ho5 hg5
       have hput := CB.put HX4.out HO4.out HA4.out hlB hv4 ho5 hg5
       have HP := Lib.hid hput.1
       have q5 := hput.2.1
       have f5 := hput.2.2
       have HG5 := Lib.hid hg5
       clear hput)
    | (go_simp; go_at_call 60
       refine (pair_any _ lo _ _ (tagTr 7) y.code (by exact hv3) (by exact hv23) (by exact hl3) (by omega) (by omega)).mono ?_
       rintro e w4 ⟨v4, rfl, hv4, hb4⟩
       obtain ⟨p4, rfl⟩ := hv4.isPtr
       have q4 := blk_cell (blk_bel HX3.out hb4) 0 rfl
       have HX4 := Lib.hid (blk_bel HX3.out hb4)
       have HO4 := Lib.hid (own_below HO3.out hb4 (Nat.le_refl _))
       have HA4 := Lib.hid (HA3.out.up hb4)
       have HB4 := Lib.hid (HB3.out.trans (hb4.mono HB3.out.size))
       have hl4 : lo ≤ w4.heap.size := Nat.le_trans hlo HB4.out.size
       have hB4 : B < w4.heap.size := blk_lt HX4.out
       clear hb4)
    | (go_simp; go_at_call 68
       refine (tagTree_any _ 7 (by omega) _ rfl).mono ?_
       rintro e w3 ⟨v3, rfl, hv3, hb3⟩
       obtain ⟨p3, rfl⟩ := hv3.isPtr
       (try replace hb3 := below_undrew hb3)
       replace hv3 := hv3.wide (lo' := lo) hl2 (Nat.le_refl _)
       have q3 := blk_cell (blk_bel HX2.out hb3) 0 rfl
       have HX3 := Lib.hid (blk_bel HX2.out hb3)
       have HO3 := Lib.hid (own_below HO2.out hb3 (Nat.le_refl _))
       have HA3 := Lib.hid (HA2.out.up hb3)
       have hv23 := hv2'.up hb3
       have HB3 := Lib.hid (HB2.out.trans (hb3.mono HB2.out.size))
       have hl3 : lo ≤ w3.heap.size := Nat.le_trans hlo HB3.out.size
       clear hb3))) | fail)
  all_goals
    go_wp2_with fail
    go_end0
    exact ⟨rfl, HP.out, (below_ch (HB4.out.mono hlo) (ch_row HG5.out) (fun k hk => (HO4.out.lt k hk).1) hl4).setCell hlB _⟩
end Go.Proofs.YtadmbphefpfbmaaGreatDoor
/- The code of a program: the program's functions, on. Written by mk_cdi2.py. -/
namespace Go.Proofs.YtadmbphefpfbmaaGreatDoor
open Go.RowKit
set_option linter.unusedVariables false
set_option linter.unusedSimpArgs false
set_option maxHeartbeats 8000000 in
set_option maxRecDepth 100000 in
theorem codeClo_wh (w : World) (lo B : Nat) (x : Cmd) (A : Option Addr) (n c : Nat) (Ab : Option Addr) (nb cb : Nat) (ts : List Tr) (hr : RdE w A n x.e) (hwf : wfE x.e = true) (hnc : n ≤ c) (hk : x.k = 1) (body : List Cmd) (hbn : (codeC body).nodes ≤ 1000000) (hbody : ∀ w2, Below w.heap.size w w2 → Calls Tryz.prog 121 #[.slice Ab nb cb] w2 (RetTr w2 w2.heap.size (codeC body))) (hcb : CB w lo B ts) (hlo : lo ≤ w.heap.size) (hts : ts.length ≤ 1000000) :
    Calls Tryz.prog 165 #[.agg #[.int .i64 x.k, .int .i64 x.v, .int .i64 x.l, .slice A n c], .slice Ab nb cb, .pointer (some ⟨B, 0, none⟩)] w (ClP w lo B (ts ++ [.node (tagTr 9) (.node (codeE x.e) (codeC body))])) := by
  obtain ⟨xk, xv, xl, xe⟩ := x
  simp only at hr hwf hk ⊢
  have HBODY := Lib.hid hbody
  clear hbody
  subst hk
  obtain ⟨y, rfl, hg, hl, ho⟩ := wfE_ex hwf
  have hn40 : n ≤ 40 := by have := rdE_len hr; omega
  have HCE : Hid (codeE y.els = y.code) := Lib.hid (codeE_els hg)
  rw [HCE.out]
  have hcn := y.code_nodes
  have htn := tag_nodes 9
  have hbb := below_new w (.cells #[.int .i64 1, .int .i64 xv, .int .i64 xl, .slice A n c] 44)
  have hbx := box_new w #[.int .i64 1, .int .i64 xv, .int .i64 xl, .slice A n c] 44
  have z0 := blk_cell hbx 0 rfl
  have z3 := blk_cell hbx 3 rfl
  have hr1 := hr.below hbb (Nat.le_refl _)
  obtain ⟨A1, m, c1, us, hx, hro, ha, hlB⟩ := hcb
  have hm : m ≤ 1000000 := by have h1 := hro.1; have h2 := ha.1; simp at h1; omega
  have hBw := blk_lt hx
  have HX := Lib.hid (blk_bel hx hbb)
  have HO := Lib.hid (own_below hro hbb (Nat.le_refl _))
  have HA := Lib.hid (ha.up hbb)
  have HBX := Lib.hid hbx
  have HBB := Lib.hid hbb
  clear hx hro ha hbx hbb hr
  go_enter Tryz.func165, Tryz.ntmps165
  go_wp2_with fail
  refine (codeOfExpr_any y _ _ _ _ hg ho hr1 hn40 hnc).mono ?_
  rintro e w2 ⟨v2, rfl, hv2, hb2⟩
  obtain ⟨p2, rfl⟩ := hv2.isPtr
  have hz2 := blk_bel HBX.out hb2
  clear z0 z3
  have z0 := blk_cell hz2 0 rfl
  have q2 := blk_cell (blk_bel HX.out hb2) 0 rfl
  have HX2 := Lib.hid (blk_bel HX.out hb2)
  have HO2 := Lib.hid (own_below HO.out hb2 (Nat.le_refl _))
  have HA2 := Lib.hid (HA.out.up hb2)
  have HB2 := Lib.hid (HBB.out.trans (hb2.mono HBB.out.size))
  have hl2 : lo ≤ w2.heap.size := Nat.le_trans hlo HB2.out.size
  have hv2' : IsT w2 lo w2.heap.size (.pointer p2) y.code := hv2.wide (Nat.le_trans hlo HBB.out.size) (Nat.le_refl _)
  clear hz2 hb2 hv2
  go_wp2_with fail
  (first | (go_region_law (first
    | (refine step_app1P eltP (by rfl) _ _ (by rfl) w4 _ (.pointer p4) (by rfl) lo _ m us (by rfl) (by exact HO4.out) (by rfl) (by rfl) (by exact hl4) (by omega) ?_
       intro A9 c9 w9 ho9 hg9
       have hput := CB.put HX4.out HO4.out HA4.out hlB hv4 ho9 hg9
       have HP := Lib.hid hput.1
       have q9 := hput.2.1
       have f9 := hput.2.2
       have HG9 := Lib.hid hg9
       clear hput)
    | (go_simp; go_at_call 60
       refine (pair_any _ lo _ _ (tagTr 9) (.node y.code (codeC body)) (by exact hv36) (by exact hv6) (by exact hl6) (by omega) (by simp only [Tr.nodes]; omega)).mono ?_
       rintro e w4 ⟨v4, rfl, hv4, hb4⟩
       obtain ⟨p4, rfl⟩ := hv4.isPtr
       have q4 := blk_cell (blk_bel HX6.out hb4) 0 rfl
       have HX4 := Lib.hid (blk_bel HX6.out hb4)
       have HO4 := Lib.hid (own_below HO6.out hb4 (Nat.le_refl _))
       have HA4 := Lib.hid (HA6.out.up hb4)
       have HB4 := Lib.hid (HB6.out.trans (hb4.mono HB6.out.size))
       have hl4 : lo ≤ w4.heap.size := Nat.le_trans hlo HB4.out.size
       have hB4 : B < w4.heap.size := blk_lt HX4.out
       clear hb4)
    | (go_simp; go_at_call 60
       refine (pair_any _ lo _ _ y.code (codeC body) (by exact hv25) (by exact hv5) (by exact hl5) (by omega) (by omega)).mono ?_
       rintro e w6 ⟨v6, rfl, hv6, hb6⟩
       obtain ⟨p6, rfl⟩ := hv6.isPtr
       have q6 := blk_cell (blk_bel HX5.out hb6) 0 rfl
       have HX6 := Lib.hid (blk_bel HX5.out hb6)
       have HO6 := Lib.hid (own_below HO5.out hb6 (Nat.le_refl _))
       have HA6 := Lib.hid (HA5.out.up hb6)
       have hv36 := hv35.up hb6
       have HB6 := Lib.hid (HB5.out.trans (hb6.mono HB5.out.size))
       have hl6 : lo ≤ w6.heap.size := Nat.le_trans hlo HB6.out.size
       clear hb6)
    | (go_simp; go_at_call 121
       refine (HBODY.out _ (by exact HB3.out)).mono ?_
       rintro e w5 ⟨v5, rfl, hv5, hb5⟩
       obtain ⟨p5, rfl⟩ := hv5.isPtr
       replace hv5 := hv5.wide (lo' := lo) hl3 (Nat.le_refl _)
       have q5 := blk_cell (blk_bel HX3.out hb5) 0 rfl
       have HX5 := Lib.hid (blk_bel HX3.out hb5)
       have HO5 := Lib.hid (own_below HO3.out hb5 (Nat.le_refl _))
       have HA5 := Lib.hid (HA3.out.up hb5)
       have hv25 := hv23.up hb5
       have hv35 := hv3.up hb5
       have HB5 := Lib.hid (HB3.out.trans (hb5.mono HB3.out.size))
       have hl5 : lo ≤ w5.heap.size := Nat.le_trans hlo HB5.out.size
       clear hb5)
    | (go_simp; go_at_call 68
       refine (tagTree_any _ 9 (by omega) _ rfl).mono ?_
       rintro e w3 ⟨v3, rfl, hv3, hb3⟩
       obtain ⟨p3, rfl⟩ := hv3.isPtr
       (try replace hb3 := below_undrew hb3)
       replace hv3 := hv3.wide (lo' := lo) hl2 (Nat.le_refl _)
       have q3 := blk_cell (blk_bel HX2.out hb3) 0 rfl
       have HX3 := Lib.hid (blk_bel HX2.out hb3)
       have HO3 := Lib.hid (own_below HO2.out hb3 (Nat.le_refl _))
       have HA3 := Lib.hid (HA2.out.up hb3)
       have hv23 := hv2'.up hb3
       have HB3 := Lib.hid (HB2.out.trans (hb3.mono HB2.out.size))
       have hl3 : lo ≤ w3.heap.size := Nat.le_trans hlo HB3.out.size
       clear hb3))) | fail)
  all_goals
    go_wp2_with fail
    go_end0
    exact ⟨rfl, HP.out, (below_ch (HB4.out.mono hlo) (ch_row HG9.out) (fun k hk => (HO4.out.lt k hk).1) hl4).setCell hlB _⟩
end Go.Proofs.YtadmbphefpfbmaaGreatDoor
/- The code of a program: blocks, codeOfWhile, codedWhile, CodeWhile of the program. -/
namespace Go.Proofs.YtadmbphefpfbmaaGreatDoor
open Go.RowKit
set_option linter.unusedVariables false
set_option linter.unusedSimpArgs false
set_option maxHeartbeats 1600000 in
theorem treeOfListA_any (w : World) (lo : Nat) (A : Option Addr) (n c : Nat) (us : List Value) (ts : List Tr) (hr : Rd w A n us) (ha : AreT w lo w.heap.size us ts) (hlo : lo ≤ w.heap.size) (hnn : (lstA ts .nil).nodes ≤ 1000000) :
    Calls Tryz.prog 167 #[.slice A n c] w (RetTr w lo (lstA ts .nil)) := by
  have HL : Hid (ts.length = n) := Lib.hid (by rw [← ha.1]; exact hr.1)
  have HLU : Hid (us.length = n) := Lib.hid hr.1
  have hn : n ≤ 1000000 := by have h1 := lstA_len ts; have h2 := HL.out; omega
  go_enter Tryz.func167, Tryz.ntmps167
  go_wp2_with fail
  go_loopw [3, 4] (fun v i wr => ∃ j : Nat, i = .int .i64 ((j : Int) - 1) ∧ j ≤ n ∧ IsT wr lo wr.heap.size v (lstA (ts.drop j) .nil) ∧ Below w.heap.size w wr) (fun _ i _ => (intOf i + 1).toNat)
  case atStart => exact ⟨n, rfl, Nat.le_refl _, by rw [List.drop_of_length_le (by rw [HL.out]; omega)]; rfl, Below.refl _ _⟩
  case round =>
    obtain ⟨j, rfl, hj, hi, hb⟩ := hrel
    obtain ⟨o, rfl⟩ := hi.isPtr
    rcases Nat.eq_zero_or_pos j with h0 | h0
    · subst h0
      rw [List.drop_zero] at hi
      go_wp2_with fail
      go_ret
      exact ⟨_, rfl, hi, hb⟩
    · obtain ⟨k, rfl⟩ : ∃ k, j = k + 1 := ⟨j - 1, by omega⟩
      have ek : (((k + 1 : Nat) : Int) - 1) = (k : Int) := by omega
      rw [ek]
      clear ek
      obtain ⟨t, ht⟩ := get_some (xs := ts) (k := k) (by rw [HL.out]; omega)
      obtain ⟨u, hu⟩ := get_some (xs := us) (k := k) (by rw [HLU.out]; omega)
      have hit := ha.2 k u t hu ht
      obtain ⟨ou, rfl⟩ := hit.isPtr
      obtain ⟨b, off, rfl, hbs, hc⟩ := hr.at_ hu
      have hc1 := (hb.cell (p := ⟨b, off + k, none⟩) hbs).trans hc
      have hit1 := (hit.below hb (Nat.le_refl _)).wide (Nat.le_refl _) hb.size
      have HD : Hid (lstA (ts.drop k) .nil = .node t (lstA (ts.drop (k + 1)) .nil)) := Lib.hid (by rw [drop_get ht]; rfl)
      have htn : t.nodes ≤ 1000000 := Nat.le_trans (lstA_mem (List.mem_of_getElem? ht)) hnn
      have hln : (lstA (ts.drop (k + 1)) .nil).nodes ≤ 1000000 := Nat.le_trans (lstA_part ts (k + 1)) hnn
      have hkn : k < n := by omega
      clear hc ht hu hit
      go_wp2_with fail
      refine (pair_any _ lo _ _ _ _ hit1 hi (Nat.le_trans hlo hb.size) (by omega) (by omega)).mono ?_
      rintro e w4 ⟨v4, rfl, h4, hb4⟩
      obtain ⟨o4, rfl⟩ := h4.isPtr
      rw [← HD.out] at h4
      go_wp2_with fail
      go_roundw
      case rel => exact ⟨k, by go_num, by omega, h4, hb.trans (hb4.mono hb.size)⟩
      case measure => simp [intOf] <;> omega
def BlkP (w0 : World) (B : Nat) (cs : List Cmd) (e : Ending) (w' : World) : Prop := e = .returned (.tuple #[]) ∧ (∃ ts, codeC cs = lstA ts .nil ∧ CB w' w0.heap.size B ts) ∧ Below w0.heap.size w0 w'
theorem drop_wh {cs : List Cmd} {k l : Nat} {x : Cmd} (hx : cs[k]? = some x) (h1 : x.k = 1) (hl : x.l = (l : Int)) : codeC (cs.drop k) = .node (.node (tagTr 9) (.node (codeE x.e) (codeC ((cs.drop (k + 1)).take l)))) (codeC (cs.drop (k + l + 1))) := by
  rw [drop_get hx, codeC_wh h1, hl, List.drop_drop, show k + 1 + (l : Int).toNat = k + l + 1 by omega]; rfl
set_option maxHeartbeats 8000000 in
set_option maxRecDepth 100000 in
theorem blocks_any (n : Nat) (w0 : World) (A : Option Addr) (c : Nat) (cs : List Cmd) (hr : RdC w0 A n cs) (hn : n ≤ 80) (hnc : n ≤ c) (hok : okC cs = true)
    (HR : Hid (∀ m, m < n → ∀ (w : World) (A : Option Addr) (c : Nat) (bs : List Cmd), RdC w A m bs → m ≤ c → okC bs = true → Calls Tryz.prog 121 #[.slice A m c] w (RetTr w w.heap.size (codeC bs))))
    (w : World) (B : Nat) (hb0 : Below w0.heap.size w0 w) (hcb : CB w w0.heap.size B []) :
    Calls Tryz.prog 164 #[.slice A n c, .func (.func 165) #[] #[.pointer (some ⟨B, 0, none⟩)]] w (BlkP w0 B cs) := by
  have HL : Hid (cs.length = n) := Lib.hid hr.len
  have HOK := Lib.hid hok
  clear hok
  go_enter Tryz.func164, Tryz.ntmps164
  go_wp2_with fail
  go_loopw [4] (fun q wr => ∃ (k : Nat) (ts : List Tr), k ≤ n ∧ q = .int .i64 k ∧ CB wr w0.heap.size B ts ∧ Hid (codeC cs = lstA ts (codeC (cs.drop k))) ∧ Hid (okC (cs.drop k) = true) ∧ ts.length ≤ k ∧ Below w0.heap.size w0 wr) (fun q _ => n - (intOf q).toNat)
  case atStart => exact ⟨0, [], by omega, rfl, hcb, Lib.hid rfl, HOK, by simp, hb0⟩
  case round =>
    clear hcb hb0
    obtain ⟨k, ts, hk, rfl, hcb, HK, HD, htk, hb⟩ := hrel
    by_cases hlt : k < n
    · have hlt' : (k : Int) < (n : Int) := by omega
      obtain ⟨x, hx⟩ := get_some (xs := cs) (k := k) (by rw [HL.out]; exact hlt)
      obtain ⟨b, off, A', n', c', hA, hbs, q0, q1, q2, q3, hn', hc', hre⟩ := hr.at_ hx
      subst hA
      replace q0 := (hb.cell (p := ⟨b, off + k * 4, none⟩) hbs).trans q0
      replace q1 := (hb.cell (p := ⟨b, off + k * 4 + 1, none⟩) hbs).trans q1
      replace q2 := (hb.cell (p := ⟨b, off + k * 4 + 2, none⟩) hbs).trans q2
      replace q3 := (hb.cell (p := ⟨b, off + k * 4 + 3, none⟩) hbs).trans q3
      replace hre := hre.below hb (Nat.le_refl _)
      have HX := Lib.hid hx
      have hsp := okC_split (x := x) (r := cs.drop (k + 1)) (by rw [← drop_get hx]; exact HD.out)
      clear hx
      obtain ⟨hwf, hcase⟩ := hsp
      have HWF := Lib.hid hwf
      have g0 : (0 : Int) ≤ (k : Int) + 1 := by omega
      clear hwf
      rcases hcase with ⟨hk0, hl0, hrest⟩ | ⟨hk1, hl0, hl1, hbod, hrest⟩
      · have HQ : Hid (codeC cs = lstA (ts ++ [.node (tagTr 7) (codeE x.e)]) (codeC (cs.drop (k + 1)))) := Lib.hid (by rw [lstA_snoc, HK.out, drop_get HX.out, codeC_set hk0])
        have HRS := Lib.hid hrest
        clear hrest
        obtain ⟨xk, xv, xl, xe⟩ := x
        simp only at q0 q1 q2 hre hk0 hl0
        subst hk0 hl0
        have hclo := fun (Ab : Option Addr) (cb : Nat) => codeClo_set wr w0.heap.size B ⟨0, xv, 0, xe⟩ A' n' c' Ab 0 cb ts hre HWF.out hc' rfl hcb hb.size (by omega)
        have HCLO := Lib.hid hclo
        clear hclo hcb hre
        have g2 : (k : Int) + 1 ≤ (c : Int) := by omega
        by_cases hck : c = k + 1
        · subst hck
          go_wp2_with fail
          refine (HCLO.out _ _).mono ?_
          rintro e w2 ⟨rfl, hcb2, hb2⟩
          go_wp2_with fail
          go_roundw
          case rel => exact ⟨k + 1, _, by omega, by go_num, hcb2, HQ, HRS, by simp; omega, hb.trans hb2⟩
          case measure => simp [intOf]; omega
        · go_wp2_with fail
          refine (HCLO.out _ _).mono ?_
          rintro e w2 ⟨rfl, hcb2, hb2⟩
          go_wp2_with fail
          go_roundw
          case rel => exact ⟨k + 1, _, by omega, by go_num, hcb2, HQ, HRS, by simp; omega, hb.trans hb2⟩
          case measure => simp [intOf]; omega
      · obtain ⟨l, hl⟩ : ∃ l : Nat, x.l = (l : Int) := ⟨x.l.toNat, by omega⟩
        have hln : k + 1 + l ≤ n := by have := HL.out; rw [List.length_drop] at hl1; omega
        have hlt2 : x.l.toNat = l := by omega
        rw [hlt2] at hbod hrest
        have HQ : Hid (codeC cs = lstA (ts ++ [.node (tagTr 9) (.node (codeE x.e) (codeC ((cs.drop (k + 1)).take l)))]) (codeC (cs.drop (k + l + 1)))) := Lib.hid (by rw [lstA_snoc, HK.out, drop_wh HX.out hk1 hl])
        have HRS : Hid (okC (cs.drop (k + l + 1)) = true) := Lib.hid (by rw [List.drop_drop, show k + 1 + l = k + l + 1 by omega] at hrest; exact hrest)
        have HBD := Lib.hid hbod
        have hbn : (codeC ((cs.drop (k + 1)).take l)).nodes ≤ 1000000 := by
          have h1 := codeC_nodes _ _ (Nat.le_refl _) hbod
          have h2 : ((cs.drop (k + 1)).take l).length ≤ 80 := by rw [List.length_take]; omega
          omega
        have HCT : Hid (RdC w0 (some ⟨b, off + (k + 1) * 4, none⟩) l ((cs.drop (k + 1)).take l)) := Lib.hid (by
          have h := hr.cut (i := k + 1) (j := k + 1 + l) (by omega) (by omega)
          rwa [Nat.add_sub_cancel_left] at h)
        clear hrest hbod hl0 hl1 hlt2
        obtain ⟨xk, xv, xl, xe⟩ := x
        simp only at q0 q1 q2 hre hk1 hl
        subst hk1 hl
        have g1 : (k : Int) + 1 ≤ (k : Int) + 1 + (l : Int) := by omega
        have g2 : (k : Int) + 1 + (l : Int) ≤ (c : Int) := by omega
        by_cases hck : c = k + 1
        · have hl0 : l = 0 := by omega
          subst hl0 hck
          have hclo := fun (Ab : Option Addr) (cb : Nat) => codeClo_wh wr w0.heap.size B ⟨1, xv, 0, xe⟩ A' n' c' Ab 0 cb ts hre HWF.out hc' rfl ((cs.drop (k + 1)).take 0) hbn (fun w2 _ => HR.out 0 (by omega) w2 Ab cb _ (RdC.nil _ _) (by omega) HBD.out) hcb hb.size (by omega)
          have HCLO := Lib.hid hclo
          clear hclo hcb hre
          simp only [Nat.add_zero] at HQ HRS
          go_wp2_with fail
          refine (HCLO.out _ _).mono ?_
          rintro e w2 ⟨rfl, hcb2, hb2⟩
          go_wp2_with fail
          go_roundw
          case rel => exact ⟨k + 1, _, by omega, by go_num, hcb2, HQ, HRS, by simp; omega, hb.trans hb2⟩
          case measure => simp [intOf]; omega
        · have hclo := codeClo_wh wr w0.heap.size B ⟨1, xv, (l : Int), xe⟩ A' n' c' (some ⟨b, off + (k + 1) * 4, none⟩) l (c - (k + 1)) ts hre HWF.out hc' rfl ((cs.drop (k + 1)).take l) hbn (fun w2 hb2 => HR.out l (by omega) w2 _ _ _ ((HCT.out.below hb (Nat.le_refl _)).below hb2 (Nat.le_refl _)) (by omega) HBD.out) hcb hb.size (by omega)
          have HCLO := Lib.hid hclo
          clear hclo hcb hre
          go_wp2_with fail
          refine HCLO.out.mono ?_
          rintro e w2 ⟨rfl, hcb2, hb2⟩
          go_wp2_with fail
          go_roundw
          case rel => exact ⟨k + l + 1, _, by omega, by go_num, hcb2, HQ, HRS, by simp; omega, hb.trans hb2⟩
          case measure => simp [intOf]; omega
    · obtain rfl : k = n := by omega
      have HQ : Hid (codeC cs = lstA ts .nil) := Lib.hid (by rw [HK.out, List.drop_of_length_le (by rw [HL.out]; omega)]; rfl)
      go_wp2_with fail
      go_end0
      exact ⟨rfl, ⟨ts, HQ.out, hcb⟩, hb⟩
set_option maxHeartbeats 4000000 in
theorem codeOfWhile_any : ∀ (n : Nat) (w : World) (A : Option Addr) (c : Nat) (cs : List Cmd), RdC w A n cs → n ≤ c → okC cs = true → n ≤ 80 → Calls Tryz.prog 121 #[.slice A n c] w (RetTr w w.heap.size (codeC cs)) := by
  intro n
  induction n using Nat.strongRecOn with
  | _ n ih =>
  intro w A c cs hr hnc hok hn
  have HR : Hid (∀ m, m < n → ∀ (w : World) (A : Option Addr) (c : Nat) (bs : List Cmd), RdC w A m bs → m ≤ c → okC bs = true → Calls Tryz.prog 121 #[.slice A m c] w (RetTr w w.heap.size (codeC bs))) := Lib.hid (fun m hm w A c bs h1 h2 h3 => ih m hm w A c bs h1 h2 h3 (by omega))
  clear ih
  have HL : Hid (cs.length = n) := Lib.hid hr.len
  have hnd : (codeC cs).nodes ≤ 1000000 := by
    have h1 := codeC_nodes _ _ (Nat.le_refl _) hok
    have h2 := HL.out
    omega
  have hown := (own_lit w #[] 0 72 rfl (by omega)).alloc (.cells #[.slice (some ⟨w.heap.size, 0, none⟩) 0 0] 208)
  have hbx := box_new (w.alloc (.cells #[] 72)) #[.slice (some ⟨w.heap.size, 0, none⟩) 0 0] 208
  simp only [World.size_alloc] at hbx
  have hbb := (below_new w (.cells #[] 72)).trans ((below_new (w.alloc (.cells #[] 72)) (.cells #[.slice (some ⟨w.heap.size, 0, none⟩) 0 0] 208)).mono (by simp))
  have hcb : CB ((w.alloc (.cells #[] 72)).alloc (.cells #[.slice (some ⟨w.heap.size, 0, none⟩) 0 0] 208)) w.heap.size (w.heap.size + 1) [] := ⟨_, 0, 0, [], hbx, hown, AreT.nil _ _ _, by omega⟩
  have HBK := Lib.hid (blocks_any n w A c cs hr hn hnc hok HR _ (w.heap.size + 1) hbb hcb)
  clear hown hbx hbb hcb hok hr
  go_enter Tryz.func121, Tryz.ntmps121
  go_wp2_with fail
  refine HBK.out.mono ?_
  rintro e w2 ⟨rfl, ⟨ts, hts, A2, n2, c2, us, hx, ho, ha, _⟩, hb2⟩
  have q := blk_cell hx 0 rfl
  have HTS := Lib.hid hts
  rw [hts] at hnd
  clear hts hx
  go_wp2_with fail
  refine (treeOfListA_any _ w.heap.size _ _ _ us ts (own_rd ho) ha hb2.size hnd).mono ?_
  rintro e w3 ⟨v3, rfl, h3, hb3⟩
  obtain ⟨o3, rfl⟩ := h3.isPtr
  go_wp2_with fail
  go_ret
  exact ⟨_, rfl, by rw [HTS.out]; exact h3, hb2.trans (hb3.mono hb2.size)⟩
def CdP (w : World) (cs : List Cmd) (e : Ending) (w' : World) : Prop :=
  ∃ p, e = .returned (.tuple #[.pointer p, .int .i64 (cdwP cs).2]) ∧ ((cdwP cs).2 = 0 → IsT w' w.heap.size w'.heap.size (.pointer p) (codeC cs)) ∧ Below w.heap.size w w'
theorem CdP.none_ {w w' : World} {cs : List Cmd} {k : Int} (h : cdwP cs = ([], k)) (hk : k ≠ 0) (hb : Below w.heap.size w w') : CdP w cs (.returned (.tuple #[.pointer none, .int .i64 k])) w' :=
  ⟨none, by rw [h], fun h0 => by rw [h] at h0; exact absurd h0 hk, hb⟩
set_option maxHeartbeats 1000000 in
theorem ValidWhileX_any (w : World) (A : Option Addr) (n c : Nat) (cs : List Cmd) (hr : RdC w A n cs) (hn : n ≤ 1099511627776) (hnc : n ≤ c) : Calls Tryz.prog 94 #[.slice A n c] w (RetV w (.bool (isW cs))) := by
  have hl := hr.len
  by_cases h80 : n ≤ 80
  · exact ValidWhile_any w A n c cs hr (by omega) hnc
  · have HW : Hid (isW cs = false) := Lib.hid (by simp [isW, hl, h80])
    clear hl
    go_enter Tryz.func94, Tryz.ntmps94
    go_wp2_with fail
    go_ret
    exact ⟨by rw [HW.out]; rfl, Below.refl _ _⟩
set_option maxHeartbeats 1000000 in
theorem l22IsX_any (w : World) (A : Option Addr) (n c : Nat) (cs : List Cmd) (hr : RdC w A n cs) (hn : n ≤ 1099511627776) : Calls Tryz.prog 56 #[.slice A n c] w (RetV w (.bool (isW cs))) := by
  have hl := hr.len
  by_cases h80 : n ≤ 80
  · exact l22Is_any w A n c cs hr (by omega)
  · have HW : Hid (isW cs = false) := Lib.hid (by simp [isW, hl, h80])
    clear hl
    go_enter Tryz.func56, Tryz.ntmps56
    go_wp2_with fail
    go_ret
    exact ⟨by rw [HW.out]; rfl, Below.refl _ _⟩
set_option maxHeartbeats 4000000 in
theorem codedWhile_any (w : World) (A : Option Addr) (n c : Nat) (cs : List Cmd) (hr : RdC w A n cs) (hn : n ≤ 1099511627776) (hnc : n ≤ c) : Calls Tryz.prog 78 #[.slice A n c] w (CdP w cs) := by
  cases hv : isW cs with
  | false =>
    have HV := Lib.hid hv
    have HQ := Lib.hid (cdw_bad hv)
    clear hv
    go_enter Tryz.func78, Tryz.ntmps78
    go_wp2_with (go_at_call 94; go_must (refine (ValidWhileX_any _ _ _ _ _ hr hn hnc).mono ?_; rw [HV.out]; rintro e w2 ⟨rfl, hb2⟩))
    go_ret2
    exact CdP.none_ HQ.out (by decide) hb2
  | true =>
    have HV := Lib.hid hv
    obtain ⟨h80, hok⟩ := isW_ok hv
    have hn80 : n ≤ 80 := by have := hr.len; omega
    cases hz : ozW cs with
    | false =>
      have HQ := Lib.hid (cdw_var hv hz)
      have HZ : Hid ((if ozW cs then (0 : Int) else 2) = 2) := Lib.hid (by rw [hz]; rfl)
      clear hv hz
      go_enter Tryz.func78, Tryz.ntmps78
      go_wp2_with (first
        | (go_at_call 94; go_must (refine (ValidWhileX_any _ _ _ _ _ hr hn hnc).mono ?_; rw [HV.out]; rintro e w2 ⟨rfl, hb2⟩))
        | (go_at_call 120; go_must (refine (zeroCode_any _ _ _ _ _ (hr.below hb2 (Nat.le_refl _)) (by omega)).mono ?_; rw [HZ.out]; rintro e w3 ⟨rfl, hb3⟩)))
      go_ret2
      exact CdP.none_ HQ.out (by decide) (hb2.trans (hb3.mono hb2.size))
    | true =>
      have HZ : Hid ((if ozW cs then (0 : Int) else 2) = 0) := Lib.hid (by rw [hz]; rfl)
      have HOK := Lib.hid hok
      have hnd : (codeC cs).nodes ≤ 1000000 := by have h1 := codeC_nodes _ _ (Nat.le_refl _) hok; omega
      by_cases hf : (codeC cs).nodes ≤ 2000
      · have HQ := Lib.hid (cdw_ok hv hz hf)
        clear hv hz hok h80
        go_enter Tryz.func78, Tryz.ntmps78
        go_wp2_with (first
          | (go_at_call 94; go_must (refine (ValidWhileX_any _ _ _ _ _ hr hn hnc).mono ?_; rw [HV.out]; rintro e w2 ⟨rfl, hb2⟩))
          | (go_at_call 120; go_must (refine (zeroCode_any _ _ _ _ _ (hr.below hb2 (Nat.le_refl _)) (by omega)).mono ?_; rw [HZ.out]; rintro e w3 ⟨rfl, hb3⟩)))
        refine (codeOfWhile_any n _ _ _ _ ((hr.below hb2 (Nat.le_refl _)).below hb3 (Nat.le_refl _)) hnc HOK.out hn80).mono ?_
        rintro e w4 ⟨v4, rfl, h4, hb4⟩
        obtain ⟨o4, rfl⟩ := h4.isPtr
        have HB4 := Lib.hid ((hb2.trans (hb3.mono hb2.size)).trans (hb4.mono (Nat.le_trans hb2.size hb3.size)))
        have H4 := Lib.hid (h4.wide (lo' := w.heap.size) (Nat.le_trans hb2.size hb3.size) (Nat.le_refl _))
        go_wp2_with fail
        refine (nodesOf_any _ _ _ _ _ h4).mono ?_
        rintro e w' ⟨rfl, rfl⟩
        go_wp2_with fail
        go_ret2
        exact ⟨o4, by rw [HQ.out]; rfl, fun _ => H4.out, HB4.out⟩
      · have HQ := Lib.hid (cdw_full hv hz hf)
        clear hv hz hok h80
        go_enter Tryz.func78, Tryz.ntmps78
        go_wp2_with (first
          | (go_at_call 94; go_must (refine (ValidWhileX_any _ _ _ _ _ hr hn hnc).mono ?_; rw [HV.out]; rintro e w2 ⟨rfl, hb2⟩))
          | (go_at_call 120; go_must (refine (zeroCode_any _ _ _ _ _ (hr.below hb2 (Nat.le_refl _)) (by omega)).mono ?_; rw [HZ.out]; rintro e w3 ⟨rfl, hb3⟩)))
        refine (codeOfWhile_any n _ _ _ _ ((hr.below hb2 (Nat.le_refl _)).below hb3 (Nat.le_refl _)) hnc HOK.out hn80).mono ?_
        rintro e w4 ⟨v4, rfl, h4, hb4⟩
        obtain ⟨o4, rfl⟩ := h4.isPtr
        have HB4 := Lib.hid ((hb2.trans (hb3.mono hb2.size)).trans (hb4.mono (Nat.le_trans hb2.size hb3.size)))
        go_wp2_with fail
        refine (nodesOf_any _ _ _ _ _ h4).mono ?_
        rintro e w' ⟨rfl, rfl⟩
        go_wp2_with fail
        go_ret2
        exact CdP.none_ HQ.out (by decide) HB4.out
theorem cdw_zero {cs : List Cmd} (h : (cdwP cs).2 = 0) : cdwP cs = ((codeC cs).bits, 0) ∧ (codeC cs).nodes ≤ 2000 := by
  unfold cdwP at h ⊢
  split at h
  · rename_i hw
    simp only [hw, if_true]
    split at h
    · rename_i hz
      simp only [hz, if_true]
      split at h
      · rename_i hf
        simp only [hf, if_true]
        exact ⟨trivial, trivial⟩
      · simp at h
    · simp at h
  · simp at h
theorem cdw_some {cs : List Cmd} (h : (cdwP cs).2 ≠ 0) : (cdwP cs).1 = [] := by
  unfold cdwP at h ⊢
  split at h
  · rename_i hw
    simp only [hw, if_true]
    split at h
    · rename_i hz
      simp only [hz, if_true]
      split at h
      · simp at h
      · rename_i hf
        simp only [if_neg hf]
    · rename_i hz; simp [hz]
  · rename_i hw; simp [hw]
end Go.Proofs.YtadmbphefpfbmaaGreatDoor
/- CodeWhile of the reference; UniversalInput and MakePackage of both. -/
namespace Go.Proofs.YtadmbphefpfbmaaGreatDoor
open Go.RowKit
set_option linter.unusedVariables false
set_option linter.unusedSimpArgs false
set_option maxHeartbeats 400000 in
theorem l21FitsN_any (w : World) (A : Option Addr) (n c : Nat) (hn : ¬ n ≤ 2000) : Calls Tryz.prog 188 #[.slice A n c] w fun e w' => e = .returned (.tuple #[.slice none 0 0, .int .i64 5]) ∧ w = w' := by
  have h : (2000 : Int) < (n : Int) := by omega
  go_enter Tryz.func188, Tryz.ntmps188
  go_wp2_with fail
  go_ret2
  exact ⟨rfl, rfl⟩
theorem l23ListAll_any (w : World) (A : Option Addr) (n c : Nat) (cs : List Cmd) (hr : RdC w A n cs) (hv : isW cs = true) : Calls Tryz.prog 189 #[.slice A n c, .int .i64 0, .int .i64 n] w (RetS w 4 (bools (codeC cs).bits)) := by
  obtain ⟨h80, hok⟩ := isW_ok hv
  have hl := hr.len
  have hs : seg cs 0 n = cs := by rw [← hl]; exact seg_all cs
  have h := l23List_any (n - 0) w A n c cs 0 n hr (by omega) rfl (Nat.zero_le _) (Nat.le_refl _) (by rw [hs]; exact hok)
  rw [hs] at h
  exact h
set_option maxHeartbeats 2000000 in
theorem l23CodeWhile_any (w : World) (A : Option Addr) (n c : Nat) (cs : List Cmd) (hr : RdC w A n cs) (hv : isW cs = true) : Calls Tryz.prog 155 #[.slice A n c] w (RetSI w 4 (bools (cdwP cs).1) (cdwP cs).2) := by
  have HV := Lib.hid hv
  have hn : n ≤ 1000000 := by have h1 := (isW_ok hv).1; have h2 := hr.len; omega
  cases hz : ozW cs with
  | false =>
    have HQ := Lib.hid (cdw_var hv hz)
    have HZ := Lib.hid hz
    rw [HQ.out]
    clear hz hv
    go_enter Tryz.func155, Tryz.ntmps155
    go_wp2_with (go_at_call 187; go_must (refine (l23OnlyAll_any _ _ _ _ _ hr hn).mono ?_; rw [HZ.out]; rintro e w2 ⟨rfl, hb2⟩))
    go_ret2
    exact ⟨none, 0, 0, rfl, own_nil _ _ _, hb2⟩
  | true =>
    have HZ := Lib.hid hz
    by_cases hf : (codeC cs).nodes ≤ 2000
    · have HQ := Lib.hid (cdw_ok hv hz hf)
      rw [HQ.out]
      clear hz hv
      go_enter Tryz.func155, Tryz.ntmps155
      go_wp2_with (go_at_call 187; go_must (refine (l23OnlyAll_any _ _ _ _ _ hr hn).mono ?_; rw [HZ.out]; rintro e w2 ⟨rfl, hb2⟩))
      refine (l23ListAll_any _ _ _ _ _ (hr.below hb2 (Nat.le_refl _)) HV.out).mono ?_
      rintro e w3 ⟨A3, n3, c3, rfl, ho3, hb3⟩
      have hn3 : n3 ≤ 2000 := by have h1 := ho3.1; simp [Tr.bits_len] at h1; omega
      go_wp2_with fail
      refine (l21Fits_any _ _ _ _ hn3).mono ?_
      rintro e w5 ⟨rfl, rfl⟩
      go_wp2_with fail
      go_ret2
      exact ⟨A3, n3, c3, rfl, own_base ho3 hb2.size, hb2.trans (hb3.mono hb2.size)⟩
    · have HQ := Lib.hid (cdw_full hv hz hf)
      rw [HQ.out]
      clear hz hv
      go_enter Tryz.func155, Tryz.ntmps155
      go_wp2_with (go_at_call 187; go_must (refine (l23OnlyAll_any _ _ _ _ _ hr hn).mono ?_; rw [HZ.out]; rintro e w2 ⟨rfl, hb2⟩))
      refine (l23ListAll_any _ _ _ _ _ (hr.below hb2 (Nat.le_refl _)) HV.out).mono ?_
      rintro e w3 ⟨A3, n3, c3, rfl, ho3, hb3⟩
      have hn3 : ¬ n3 ≤ 2000 := by have h1 := ho3.1; simp [Tr.bits_len] at h1; omega
      go_wp2_with fail
      refine (l21FitsN_any _ _ _ _ hn3).mono ?_
      rintro e w5 ⟨rfl, rfl⟩
      go_wp2_with fail
      go_ret2
      exact ⟨none, 0, 0, rfl, own_nil _ _ _, hb2.trans (hb3.mono hb2.size)⟩
set_option maxHeartbeats 2000000 in
theorem specCodeWhile_any (w : World) (A : Option Addr) (n c : Nat) (cs : List Cmd) (hr : RdC w A n cs) (hn : n ≤ 1099511627776) : Calls Tryz.prog 112 #[.slice A n c] w (RetSI w 4 (bools (cdwP cs).1) (cdwP cs).2) := by
  cases hv : isW cs with
  | false =>
    have HV := Lib.hid hv
    rw [cdw_bad hv]
    clear hv
    go_enter Tryz.func112, Tryz.ntmps112
    go_wp2_with (go_at_call 56; go_must (refine (l22IsX_any _ _ _ _ _ hr hn).mono ?_; rw [HV.out]; rintro e w2 ⟨rfl, hb2⟩))
    go_ret2
    exact ⟨none, 0, 0, rfl, own_nil _ _ _, hb2⟩
  | true =>
    have HV := Lib.hid hv
    clear hv
    generalize hq : cdwP cs = q
    have HQ := Lib.hid hq
    clear hq
    obtain ⟨qb, qc⟩ := q
    go_enter Tryz.func112, Tryz.ntmps112
    go_wp2_with (go_at_call 56; go_must (refine (l22IsX_any _ _ _ _ _ hr hn).mono ?_; rw [HV.out]; rintro e w2 ⟨rfl, hb2⟩))
    refine (l23CodeWhile_any _ _ _ _ _ (hr.below hb2 (Nat.le_refl _)) HV.out).mono ?_
    rw [HQ.out]
    rintro e w3 ⟨A3, n3, c3, rfl, ho3, hb3⟩
    go_wp2_with fail
    go_ret2
    exact ⟨A3, n3, c3, rfl, own_base ho3 hb2.size, hb2.trans (hb3.mono hb2.size)⟩
theorem cdw_len (cs : List Cmd) : (cdwP cs).1.length ≤ 1000000 := by
  unfold cdwP
  split
  · split
    · split
      · rw [Tr.bits_len]; omega
      · simp
    · simp
  · simp
def fit2 (t : Tr) : List Bool × Int := if t.nodes ≤ 2000 then (t.bits, 0) else ([], 5)
theorem fit2_len (t : Tr) : (fit2 t).1.length ≤ 1000000 := by
  unfold fit2
  split
  · rw [Tr.bits_len]; omega
  · simp
def pkP (cs : List Cmd) (d : Tr) : List Bool × Int := if cs.length ≤ 80 then (if (cdwP cs).2 = 0 then fit2 (.node (codeC cs) d) else ([], (cdwP cs).2)) else ([], 5)
theorem pk_long {cs : List Cmd} {d : Tr} (h : ¬ cs.length ≤ 80) : pkP cs d = ([], 5) := by simp only [pkP, if_neg h]
theorem pk_err {cs : List Cmd} {d : Tr} (h : cs.length ≤ 80) (h2 : (cdwP cs).2 ≠ 0) : pkP cs d = ([], (cdwP cs).2) := by simp only [pkP, if_pos h, if_neg h2]
theorem pk_ok {cs : List Cmd} {d : Tr} (h : cs.length ≤ 80) (h2 : (cdwP cs).2 = 0) : pkP cs d = fit2 (.node (codeC cs) d) := by simp only [pkP, if_pos h, if_pos h2]
theorem pk_len (cs : List Cmd) (d : Tr) : (pkP cs d).1.length ≤ 1000000 := by
  unfold pkP
  split
  · split
    · exact fit2_len _
    · simp
  · simp
theorem checked2_any (w : World) (lo : Nat) (v : Value) (t : Tr) (h : IsT w lo w.heap.size v t) (hn : t.nodes ≤ 1000000) : Calls Tryz.prog 79 #[v] w (RetSI w 4 (bools (fit2 t).1) (fit2 t).2) := by
  have hc := checked_any w lo v t h hn
  unfold fit2
  split
  · rename_i hf
    simpa [hf] using hc
  · rename_i hf
    simpa [hf] using hc
set_option maxHeartbeats 2000000 in
theorem packaged_any (w : World) (lo : Nat) (A : Option Addr) (n c : Nat) (cs : List Cmd) (v : Value) (d : Tr) (hr : RdC w A n cs) (hn : n ≤ 1099511627776) (hnc : n ≤ c) (hd : IsT w lo w.heap.size v d) (hlo : lo ≤ w.heap.size) (hdn : d.nodes ≤ 900000) : Calls Tryz.prog 49 #[.slice A n c, v] w (RetSI w 4 (bools (pkP cs d).1) (pkP cs d).2) := by
  obtain ⟨pd, rfl⟩ := hd.isPtr
  have hl := hr.len
  by_cases h80 : n ≤ 80
  · have h80' : cs.length ≤ 80 := by omega
    have hcd := codedWhile_any w A n c cs hr hn hnc
    by_cases h0 : (cdwP cs).2 = 0
    · have hz := cdw_zero h0
      rw [pk_ok h80' h0]
      have HF := Lib.hid hz.2
      have H0 := Lib.hid h0
      clear hl h80' h0 hz
      go_enter Tryz.func49, Tryz.ntmps49
      go_wp2_with fail
      refine hcd.mono ?_
      rintro e w2 ⟨p, rfl, h2, hb2⟩
      rw [H0.out]
      have h3 := (h2 H0.out).wide (lo' := lo) hlo (Nat.le_refl _)
      have hd2 := hd.up hb2
      clear h2
      go_wp2_with fail
      refine (pair_any _ lo _ _ _ _ h3 hd2 (Nat.le_trans hlo hb2.size) (by have := HF.out; omega) (by omega)).mono ?_
      rintro e w3 ⟨v3, rfl, h4, hb3⟩
      obtain ⟨p3, rfl⟩ := h4.isPtr
      go_wp2_with fail
      refine (checked2_any _ lo _ _ h4 (by have := HF.out; simp only [Tr.nodes]; omega)).mono ?_
      rintro e w4 ⟨A4, n4, c4, rfl, ho4, hb4⟩
      have HB3 := Lib.hid (hb2.trans (hb3.mono hb2.size))
      generalize fit2 (.node (codeC cs) d) = q at *
      obtain ⟨qb, qc⟩ := q
      go_wp2_with fail
      go_ret2
      exact ⟨A4, n4, c4, rfl, own_base ho4 HB3.out.size, HB3.out.trans (hb4.mono HB3.out.size)⟩
    · rw [pk_err h80' h0]
      have b0 : ((cdwP cs).2 == 0) = false := by simpa using h0
      have b1 : ((cdwP cs).2 != 0) = true := by simpa using h0
      clear hl h80'
      go_enter Tryz.func49, Tryz.ntmps49
      go_wp2_with fail
      refine hcd.mono ?_
      rintro e w2 ⟨p, rfl, h2, hb2⟩
      clear h2
      go_wp2_with fail
      go_ret2
      exact ⟨none, 0, 0, rfl, own_nil _ _ _, hb2⟩
  · rw [pk_long (by omega)]
    clear hl
    go_enter Tryz.func49, Tryz.ntmps49
    go_wp2_with fail
    go_ret2
    exact ⟨none, 0, 0, rfl, own_nil _ _ _, Below.refl _ _⟩
def uinP (cs : List Cmd) (bs : List Bool) : List Bool × Int := if isW cs && isTr bs then pkP cs (treeB bs) else ([], 1)
theorem uin_bad1 {cs : List Cmd} {bs : List Bool} (h : isW cs = false) : uinP cs bs = ([], 1) := by simp [uinP, h]
theorem uin_bad2 {cs : List Cmd} {bs : List Bool} (h : isTr bs = false) : uinP cs bs = ([], 1) := by simp [uinP, h]
theorem uin_ok {cs : List Cmd} {t : Tr} (h : isW cs = true) (ht : t.nodes ≤ 2000) : uinP cs t.bits = pkP cs t := by simp [uinP, h, isTr_bits ht, treeB_bits]
theorem uin_len (cs : List Cmd) (bs : List Bool) : (uinP cs bs).1.length ≤ 1000000 := by
  unfold uinP
  split
  · exact pk_len _ _
  · simp
theorem pk_bits {cs : List Cmd} (h : (cdwP cs).2 = 0) : (cdwP cs).1 = (codeC cs).bits ∧ (codeC cs).nodes ≤ 2000 := by
  obtain ⟨h1, h2⟩ := cdw_zero h
  exact ⟨by rw [h1], h2⟩
set_option maxHeartbeats 2000000 in
theorem l24Make_any (w : World) (A : Option Addr) (n c : Nat) (cs : List Cmd) (hr : RdC w A n cs) (hn : n ≤ 1099511627776) (hv : isW cs = true) (A1 : Option Addr) (n1 c1 : Nat) (d : Tr) (hd : Rd w A1 n1 (bools d.bits)) (hdn : d.nodes ≤ 900000) : Calls Tryz.prog 45 #[.slice A n c, .slice A1 n1 c1] w (RetSI w 4 (bools (pkP cs d).1) (pkP cs d).2) := by
  have HV := Lib.hid hv
  have h80 := (isW_ok hv).1
  have hn1 : n1 ≤ 900000 := by have := hd.1; simp [Tr.bits_len] at this; omega
  have HN1 : Hid (n1 = d.nodes) := Lib.hid (by have := hd.1; simp [Tr.bits_len] at this; exact this.symm)
  have hco : Hid (∀ w', Below w.heap.size w w' → Calls Tryz.prog 73 #[.slice A n c] w' (RetSI w' 4 (bools (cdwP cs).1) (cdwP cs).2)) := Lib.hid (fun w' hb => by
    have hr' := hr.below hb (Nat.le_refl _)
    generalize hq : cdwP cs = q
    have HQ := Lib.hid hq
    clear hq
    obtain ⟨qb, qc⟩ := q
    go_enter Tryz.func73, Tryz.ntmps73
    go_wp2_with (go_at_call 56; go_must (refine (l22IsX_any _ _ _ _ _ hr' hn).mono ?_; rw [HV.out]; rintro e w2 ⟨rfl, hb2⟩))
    refine (specCodeWhile_any _ _ _ _ _ (hr'.below hb2 (Nat.le_refl _)) hn).mono ?_
    rw [HQ.out]
    rintro e w3 ⟨A3, n3, c3, rfl, ho3, hb3⟩
    go_wp2_with fail
    go_ret2
    exact ⟨A3, n3, c3, rfl, own_base ho3 hb2.size, hb2.trans (hb3.mono hb2.size)⟩)
  by_cases h0 : (cdwP cs).2 = 0
  · obtain ⟨hb1, hb2⟩ := pk_bits h0
    rw [pk_ok h80 h0]
    have HBI := Lib.hid hb1
    have HNO := Lib.hid hb2
    have H0 := Lib.hid h0
    clear hb1 hb2 h0 hv
    by_cases hf : (Tr.node (codeC cs) d).nodes ≤ 2000
    · have HQ : Hid (fit2 (.node (codeC cs) d) = ((Tr.node (codeC cs) d).bits, 0)) := Lib.hid (by simp only [fit2, if_pos hf])
      rw [HQ.out]
      go_enter Tryz.func45, Tryz.ntmps45
      go_wp2_with fail
      refine (hco.out _ (Below.refl _ _)).mono ?_
      rw [H0.out, HBI.out]
      rintro e w2 ⟨A2, n2, c2, rfl, ho2, hb2⟩
      have hn2 : n2 ≤ 2000 := by have h1 := ho2.1; have h2 := HNO.out; simp [Tr.bits_len] at h1; omega
      go_wp2_with fail
      refine (l21PairT_any _ _ _ _ (codeC cs) (own_rd ho2) (by omega) _ _ _ d (hd.below hb2 (Nat.le_refl _)) (by omega)).mono ?_
      rintro e w3 ⟨A3, n3, c3, rfl, ho3, hb3⟩
      have hn3 : n3 ≤ 2000 := by have h1 := ho3.1; simp only [bools, List.length_map, Tr.bits_len] at h1; omega
      go_wp2_with fail
      go_ret2
      exact ⟨A3, n3, c3, rfl, own_base ho3 hb2.size, hb2.trans (hb3.mono hb2.size)⟩
    · have HQ : Hid (fit2 (.node (codeC cs) d) = ([], 5)) := Lib.hid (by simp only [fit2, if_neg hf])
      rw [HQ.out]
      go_enter Tryz.func45, Tryz.ntmps45
      go_wp2_with fail
      refine (hco.out _ (Below.refl _ _)).mono ?_
      rw [H0.out, HBI.out]
      rintro e w2 ⟨A2, n2, c2, rfl, ho2, hb2⟩
      have hn2 : n2 ≤ 2000 := by have h1 := ho2.1; have h2 := HNO.out; simp [Tr.bits_len] at h1; omega
      go_wp2_with fail
      refine (l21PairT_any _ _ _ _ (codeC cs) (own_rd ho2) (by omega) _ _ _ d (hd.below hb2 (Nat.le_refl _)) (by omega)).mono ?_
      rintro e w3 ⟨A3, n3, c3, rfl, ho3, hb3⟩
      have hn3 : ¬ n3 ≤ 2000 := by have h1 := ho3.1; simp only [bools, List.length_map, Tr.bits_len] at h1; omega
      go_wp2_with fail
      go_ret2
      exact ⟨none, 0, 0, rfl, own_nil _ _ _, hb2.trans (hb3.mono hb2.size)⟩
  · rw [pk_err h80 h0]
    have b0 : ((cdwP cs).2 == 0) = false := by simpa using h0
    have b1 : ((cdwP cs).2 != 0) = true := by simpa using h0
    clear hv
    go_enter Tryz.func45, Tryz.ntmps45
    go_wp2_with fail
    refine (hco.out _ (Below.refl _ _)).mono ?_
    rintro e w2 ⟨A2, n2, c2, rfl, ho2, hb2⟩
    go_wp2_with fail
    go_ret2
    exact ⟨none, 0, 0, rfl, own_nil _ _ _, hb2⟩
end Go.Proofs.YtadmbphefpfbmaaGreatDoor
/- Opened packages: parcelsOf; OpenPackage of both. -/
namespace Go.Proofs.YtadmbphefpfbmaaGreatDoor
open Go.RowKit
set_option linter.unusedVariables false
set_option linter.unusedSimpArgs false
theorem infoPc : (Tryz.prog.info? 74).map (fun i => (i.zero, i.size, i.bytes)) = some (some (.agg #[.slice none 0 0, .pointer none]), 2, 32) := by kernel_rfl
theorem eltPc : EltN Tryz.prog 67 74 (.agg #[.slice none 0 0, .pointer none]) 2 := EltN.mk_ Tryz.underlying67 infoPc rfl (by decide) (by decide)
def flatP : List (Value × Value) → List Value
  | [] => []
  | q :: r => q.1 :: q.2 :: flatP r
theorem flatP_len (ps : List (Value × Value)) : (flatP ps).length = ps.length * 2 := by
  induction ps with
  | nil => rfl
  | cons q r ih => simp only [flatP, List.length_cons, ih]; omega
theorem flatP_app (ps : List (Value × Value)) (q : Value × Value) : flatP (ps ++ [q]) = flatP ps ++ [q.1, q.2] := by
  induction ps with
  | nil => rfl
  | cons p r ih => simp [flatP, ih]
theorem flatP_get : ∀ {ps : List (Value × Value)} {k : Nat} {q : Value × Value}, ps[k]? = some q → (flatP ps)[k * 2]? = some q.1 ∧ (flatP ps)[k * 2 + 1]? = some q.2
  | [], k, q, h => by simp at h
  | p :: r, 0, q, h => by
    obtain rfl : p = q := by simpa using h
    exact ⟨rfl, rfl⟩
  | p :: r, k + 1, q, h => by
    have := flatP_get (ps := r) (k := k) (q := q) (by simpa using h)
    rw [show (k + 1) * 2 = k * 2 + 1 + 1 by omega]
    exact this
theorem OwnC.grownP {w w' : World} {F : Nat → Prop} {n c B m e s : Nat} {A : Option Addr} {cs : List Cmd} {v : Value} {ws : List Value} (h : OwnC w F A n c cs) (ho : w.ownsRow B e s v m ws) (he1 : 44 ≠ e) (he2 : 110 ≠ e) (hg : w.grownBy w' v.ownBlock) : OwnC w' F A n c cs := by
  obtain ⟨us, h1, h2, h3, h4⟩ := h
  refine ⟨us, own_ch h1 (ch_row hg) (own_types h1 ho he1), h2, h3.apart (ch_row hg) (fun i u hu => ?_), fun k hk => Nat.lt_of_lt_of_le (h4 k hk) hg.size⟩
  obtain ⟨x, hx⟩ := get_some (xs := cs) (k := i) (by rw [← h3.1]; exact (List.getElem?_eq_some_iff.1 hu).1)
  obtain ⟨_, _, _, rfl, _, hew, _⟩ := h3.2.1 i u x hu hx
  exact own_types hew ho he2
/-- What an opened package is in memory. -/
def PcOk1 (w : World) (B : Nat) (q : Value × Value) (t : Tr) : Prop :=
  ∃ A n c F p, q = (.slice A n c, .pointer p) ∧ OwnC w F A n c (opProg t) ∧ (∀ k, F k → B ≤ k ∧ k < w.heap.size) ∧ IsT w B w.heap.size (.pointer p) t.tl
def PcOk (w : World) (B : Nat) (ps : List (Value × Value)) (ts : List Tr) : Prop :=
  ps.length = ts.length ∧ ∀ (i : Nat) (q : Value × Value) (t : Tr), ps[i]? = some q → ts[i]? = some t → PcOk1 w B q t
theorem PcOk1.below {w w' : World} {B : Nat} {q : Value × Value} {t : Tr} (h : PcOk1 w B q t) (hb : Below w.heap.size w w') : PcOk1 w' B q t := by
  obtain ⟨A, n, c, F, p, e, h1, h2, h3⟩ := h
  exact ⟨A, n, c, F, p, e, h1.below hb, fun k hk => ⟨(h2 k hk).1, Nat.lt_of_lt_of_le (h2 k hk).2 hb.size⟩, h3.up hb⟩
theorem PcOk.below {w w' : World} {B : Nat} {ps : List (Value × Value)} {ts : List Tr} (h : PcOk w B ps ts) (hb : Below w.heap.size w w') : PcOk w' B ps ts := ⟨h.1, fun i q t hq ht => (h.2 i q t hq ht).below hb⟩
theorem PcOk1.grown {w w' : World} {B B' n : Nat} {v : Value} {ws : List Value} {q : Value × Value} {t : Tr} (h : PcOk1 w B q t) (ho : w.ownsRow B' 74 2 v n ws) (hg : w.grownBy w' v.ownBlock) : PcOk1 w' B q t := by
  obtain ⟨A, n, c, F, p, e, h1, h2, h3⟩ := h
  exact ⟨A, n, c, F, p, e, h1.grownP ho (by decide) (by decide) hg, fun k hk => ⟨(h2 k hk).1, Nat.lt_of_lt_of_le (h2 k hk).2 hg.size⟩, IsT.chT (ch_row hg) (row_noT ho (by decide)) h3⟩
theorem PcOk.grown {w w' : World} {B B' n : Nat} {v : Value} {ws : List Value} {ps : List (Value × Value)} {ts : List Tr} (h : PcOk w B ps ts) (ho : w.ownsRow B' 74 2 v n ws) (hg : w.grownBy w' v.ownBlock) : PcOk w' B ps ts := ⟨h.1, fun i q t hq ht => (h.2 i q t hq ht).grown ho hg⟩
theorem PcOk.snoc {w : World} {B : Nat} {ps : List (Value × Value)} {ts : List Tr} {q : Value × Value} {t : Tr} (h : PcOk w B ps ts) (h1 : PcOk1 w B q t) : PcOk w B (ps ++ [q]) (ts ++ [t]) := by
  refine ⟨by simp [h.1], fun i p s hp hs => ?_⟩
  have hl := h.1
  by_cases hi : i < ps.length
  · rw [List.getElem?_append_left hi] at hp
    rw [List.getElem?_append_left (by omega)] at hs
    exact h.2 i p s hp hs
  · rw [List.getElem?_append_right (by omega)] at hp hs
    have hi0 : i - ps.length = 0 := by
      rcases Nat.eq_zero_or_pos (i - ps.length) with h | h
      · exact h
      · rw [List.getElem?_eq_none (by simp; omega)] at hp; cases hp
    rw [hi0] at hp
    rw [show i - ts.length = 0 by omega] at hs
    simp at hp hs
    subst hp hs
    exact h1
def prcC (code : Int) (xss : List (List Bool)) : Int := if allTr xss then (if code = 0 then (if (xss.map treeB).all opOk then 0 else 9) else code) else 1
theorem prc_bad {code : Int} {xss : List (List Bool)} (h : allTr xss = false) : prcC code xss = 1 := by simp [prcC, h]
theorem prc_code {code : Int} {xss : List (List Bool)} (h : allTr xss = true) (hc : code ≠ 0) : prcC code xss = code := by simp only [prcC, h, if_true, if_neg hc]
theorem prc_no {xss : List (List Bool)} (h : allTr xss = true) (hc : (xss.map treeB).all opOk = false) : prcC 0 xss = 9 := by simp [prcC, h, hc]
theorem prc_ok {xss : List (List Bool)} (h : allTr xss = true) (hc : (xss.map treeB).all opOk = true) : prcC 0 xss = 0 := by simp only [prcC, h, hc, if_true]
theorem allTr_at {xss : List (List Bool)} {k : Nat} {xs : List Bool} (h : allTr xss = true) (hx : xss[k]? = some xs) : ∃ t : Tr, xs = t.bits ∧ t.nodes ≤ 2000 := by
  simp only [allTr, List.all_eq_true] at h
  exact isTr_tree (h xs (List.mem_of_getElem? hx))
def PrcP (w : World) (code : Int) (xss : List (List Bool)) (e : Ending) (w' : World) : Prop :=
  ∃ A n c, e = .returned (.tuple #[.slice A n c, .int .i64 (prcC code xss)]) ∧ (prcC code xss = 0 → ∃ ps, w'.ownsRow w.heap.size 74 2 (.slice A n c) n (flatP ps) ∧ PcOk w' w.heap.size ps (xss.map treeB)) ∧ Below w.heap.size w w'
theorem PrcP.none_ {w w' : World} {code k : Int} {xss : List (List Bool)} (h : prcC code xss = k) (hk : k ≠ 0) (hb : Below w.heap.size w w') : PrcP w code xss (.returned (.tuple #[.slice none 0 0, .int .i64 k])) w' :=
  ⟨none, 0, 0, by rw [h], fun h0 => by rw [h] at h0; exact absurd h0 hk, hb⟩
set_option maxHeartbeats 4000000 in
set_option maxRecDepth 100000 in
theorem parcelsOf_any (w : World) (code : Int) (A : Option Addr) (m c : Nat) (xss : List (List Bool)) (hr : RdB w A m xss) (hm : m ≤ 1000000) : Calls Tryz.prog 47 #[.int .i64 code, .slice A m c] w (PrcP w code xss) := by
  cases hv : allTr xss with
  | false =>
    have HQ := Lib.hid (prc_bad (code := code) hv)
    have HV := Lib.hid hv
    clear hv
    go_enter Tryz.func47, Tryz.ntmps47
    go_wp2_with (go_at_call 74; go_must (refine (areTrees_any _ _ _ _ _ hr (by omega)).mono ?_; rw [HV.out]; rintro e w' ⟨rfl, rfl⟩))
    go_ret2
    exact PrcP.none_ HQ.out (by decide) (Below.refl _ _)
  | true =>
    have HV := Lib.hid hv
    by_cases hc : code = 0
    · subst hc
      have HL : Hid (xss.length = m) := Lib.hid hr.len
      have hlit := ownN_lit w #[] 0 2 74 rfl (by omega)
      have hbb := below_new w (.cells #[] 74)
      clear hv
      go_enter Tryz.func47, Tryz.ntmps47
      go_wp2_with (go_at_call 74; go_must (refine (areTrees_any _ _ _ _ _ hr (by omega)).mono ?_; rw [HV.out]; rintro e w' ⟨rfl, rfl⟩))
      go_loopw [6, 21] (fun p q wr => ∃ (k : Nat) (A : Option Addr) (n c : Nat) (ps : List (Value × Value)), k ≤ m ∧ q = .int .i64 k ∧ p = .slice A n c ∧ wr.ownsRow w.heap.size 74 2 (.slice A n c) n (flatP ps) ∧ PcOk wr w.heap.size ps ((xss.map treeB).take k) ∧ Hid (((xss.map treeB).take k).all opOk = true) ∧ n ≤ k ∧ Below w.heap.size w wr) (fun _ q _ => m - (intOf q).toNat)
      case atStart => exact ⟨0, _, 0, 0, [], by omega, rfl, rfl, hlit, ⟨by simp, by simp⟩, Lib.hid (by simp), by omega, hbb⟩
      case round =>
        clear hlit hbb
        obtain ⟨k, A1, n1, c1, ps, hk, rfl, rfl, hown, hpc, HA, hnk, hb⟩ := hrel
        by_cases hlt : k < m
        · have hlt' : (k : Int) < (m : Int) := by omega
          obtain ⟨xs, hx⟩ := get_some (xs := xss) (k := k) (by rw [HL.out]; exact hlt)
          obtain ⟨b, off, A', n', c', hAA, hbs, q0, hn', hrx⟩ := hr.at_ hx
          subst hAA
          replace q0 := (hb.cell (p := ⟨b, off + k, none⟩) hbs).trans q0
          replace hrx := hrx.below hb (Nat.le_refl _)
          obtain ⟨t, rfl, htn⟩ := allTr_at HV.out hx
          have HT : Hid ((xss.map treeB)[k]? = some t) := Lib.hid (by simp [hx, treeB_bits])
          have hn2 : n' ≤ 2000 := by have := hrx.1; simp [Tr.bits_len] at this; omega
          have HOW := Lib.hid hown
          have HPC := Lib.hid hpc
          have HB := Lib.hid hb
          clear hx hown hpc hb
          go_wp2_with fail
          refine (treeOf_any _ _ _ _ t hrx (by omega)).mono ?_
          rintro e w2 ⟨v2, rfl, h2, hb2⟩
          obtain ⟨p2, rfl⟩ := h2.isPtr
          have HOW2 := Lib.hid (ownN_below HOW.out hb2 (Nat.le_refl _))
          have HPC2 := Lib.hid (HPC.out.below hb2)
          have HB2 := Lib.hid (HB.out.trans (hb2.mono HB.out.size))
          have h22 := h2.wide (lo' := w.heap.size) HB.out.size (Nat.le_refl _)
          clear hb2 h2 hrx
          go_wp2_with fail
          refine (opened_any _ w.heap.size _ t h22 HB2.out.size (by omega)).mono ?_
          rintro e w3 ⟨A3, n3, c3, F3, p3, rfl, ho3, hF3, ht3, hb3⟩
          have HOW3 := Lib.hid (ownN_below HOW2.out hb3 (Nat.le_refl _))
          have HPC3 := Lib.hid (HPC2.out.below hb3)
          have HB3 := Lib.hid (HB2.out.trans (hb3.mono HB2.out.size))
          have HP1 : Hid (PcOk1 w3 w.heap.size (.slice A3 n3 c3, .pointer p3) t) := Lib.hid ⟨A3, n3, c3, F3, p3, rfl, ho3, fun k hk => ⟨Nat.le_trans HB2.out.size (hF3 k hk).1, (hF3 k hk).2⟩, ht3⟩
          clear ho3 hF3 ht3 hb3 h22
          cases hop : opOk t with
          | false =>
            have HQ := Lib.hid (prc_no HV.out (all_out HT.out hop))
            clear hop
            go_wp2_with fail
            go_ret2
            exact PrcP.none_ HQ.out (by decide) HB3.out
          | true =>
            have HA2 := Lib.hid (all_step HA.out HT.out hop)
            clear hop
            have hH := HOW3.out
            go_wp2_with (at_builtin; go_must (refine wpList_app1N eltPc (by rfl) _ _ (by rfl) w3 w.heap.size _ n1 _ (by rfl) hH _ (by rfl) (by intro y hy; simp at hy; rcases hy with rfl | rfl <;> rfl) (by rfl) HB3.out.size (by omega) ?_; rintro A4 c4 w4 ho4 hb4 hg4))
            have HPN := Lib.hid ((HPC3.out.grown HOW3.out hg4).snoc (HP1.out.grown HOW3.out hg4))
            have HTK : Hid ((xss.map treeB).take (k + 1) = (xss.map treeB).take k ++ [t]) := Lib.hid (by rw [List.take_add_one, HT.out]; rfl)
            have HO4 : Hid (w4.ownsRow w.heap.size 74 2 (.slice A4 (n1 + 1) c4) (n1 + 1) (flatP (ps ++ [(.slice A3 n3 c3, .pointer p3)]))) := Lib.hid (by rw [flatP_app]; exact ho4)
            go_roundw
            case rel => exact ⟨k + 1, A4, n1 + 1, c4, _, by omega, by go_num, rfl, HO4.out, by rw [HTK.out]; exact HPN.out, HA2, by omega, HB3.out.trans hb4⟩
            case measure => simp [intOf]; omega
        · obtain rfl : k = m := by omega
          have hall : (xss.map treeB).take k = xss.map treeB := List.take_of_length_le (by rw [List.length_map, HL.out]; omega)
          have HQ := Lib.hid (prc_ok HV.out (by have h := HA.out; rw [hall] at h; exact h))
          rw [hall] at hpc
          clear hall
          go_wp2_with fail
          go_ret2
          exact ⟨A1, n1, c1, by rw [HQ.out]; rfl, fun _ => ⟨ps, hown, hpc⟩, hb⟩
    · have HQ := Lib.hid (prc_code hv hc)
      have HC := Lib.hid hc
      have b0 : (code == 0) = false := by simpa using hc
      have b1 : (code != 0) = true := by simpa using hc
      clear hv
      go_enter Tryz.func47, Tryz.ntmps47
      go_wp2_with (go_at_call 74; go_must (refine (areTrees_any _ _ _ _ _ hr (by omega)).mono ?_; rw [HV.out]; rintro e w' ⟨rfl, rfl⟩))
      go_ret2
      exact PrcP.none_ HQ.out HC.out (Below.refl _ _)
theorem RdB.lit1 {w : World} {A : Option Addr} {n c : Nat} {xs : List Bool} (h : Rd w A n (bools xs)) (hn : n ≤ 1000000000) : RdB (w.alloc (.cells #[.slice A n c] 22)) (some ⟨w.heap.size, 0, none⟩) 1 [xs] := by
  refine ⟨[.slice A n c], own_rd (own_lit w #[.slice A n c] 1 22 rfl (by omega)), rfl, fun i v ys hv hy => ?_⟩
  cases i with
  | zero => simp at hv hy; subst hv hy; exact ⟨A, n, c, rfl, hn, h.alloc _⟩
  | succ i => simp at hv
def opkC (bs : List Bool) : Int := if isTr bs then (if opOk (treeB bs) then 0 else 9) else 1
def opkL (bs : List Bool) : List Cmd := if opkC bs = 0 then opProg (treeB bs) else []
def opkB (bs : List Bool) : List Bool := if opkC bs = 0 then opData (treeB bs) else []
theorem prc_one (bs : List Bool) : prcC 0 [bs] = opkC bs := by
  simp only [prcC, opkC, allTr, List.all_cons, List.all_nil, Bool.and_true, List.map_cons, List.map_nil, if_true]
def OpkP (w : World) (bs : List Bool) (e : Ending) (w' : World) : Prop :=
  ∃ A n c F A' n' c', e = .returned (.tuple #[.slice A n c, .slice A' n' c', .int .i64 (opkC bs)]) ∧ OwnC w' F A n c (opkL bs) ∧ (∀ k, F k → w.heap.size ≤ k ∧ k < w'.heap.size) ∧ w'.ownsRow w.heap.size 4 1 (.slice A' n' c') n' (bools (opkB bs)) ∧ (∀ k, F k → Fo (.slice A' n' c') k → False) ∧ Below w.heap.size w w'
theorem OpkP.none_ {w w' : World} {bs : List Bool} {k : Int} (h : opkC bs = k) (hk : k ≠ 0) (hb : Below w.heap.size w w') : OpkP w bs (.returned (.tuple #[.slice none 0 0, .slice none 0 0, .int .i64 k])) w' := by
  have h0 : ¬ opkC bs = 0 := by rw [h]; exact hk
  exact ⟨none, 0, 0, fun _ => False, none, 0, 0, by rw [h], by rw [opkL, if_neg h0]; exact OwnC.nil _, by simp, by rw [opkB, if_neg h0]; exact own_nil _ _ _, by simp, hb⟩
theorem opk_data {t : Tr} (h : opOk t = true) : opData t = t.tl.bits := by
  cases t with
  | nil => simp [opOk] at h
  | node a b => rfl
theorem opk_zero {bs : List Bool} (h : opkC bs = 0) : ∃ t : Tr, bs = t.bits ∧ t.nodes ≤ 2000 ∧ opOk t = true := by
  unfold opkC at h
  split at h
  · rename_i ht
    obtain ⟨t, rfl, htn⟩ := isTr_tree ht
    rw [treeB_bits] at h
    split at h
    · exact ⟨t, rfl, htn, by assumption⟩
    · simp at h
  · simp at h
theorem opk_tr {t : Tr} (h : t.nodes ≤ 2000) : opkC t.bits = if opOk t then 0 else 9 := by simp [opkC, isTr_bits h, treeB_bits]
end Go.Proofs.YtadmbphefpfbmaaGreatDoor
