/- Automata (reference): all that is reached. Written by mk_auc.py. -/
import Derived.Test.YtcpkhhammafchaaAuS
import Derived.Test.YtcpkhhammafchaaGI
import Derived.Test.YtcpkhhammafchaaLawB
import Derived.Deep.OwnRows
namespace Go.Proofs.Ytcpkhhammafchaa
open Go.RowKit
set_option linter.unusedVariables false
set_option linter.unusedSimpArgs false
attribute [local go_sem ↓] Go.wp_at_zero Go.wp_at_succ
theorem run_mkb (n : Nat) (hn : n ≤ 10000000) (w : World) : (Instr.makeSlice 196 (.int .i64 (n : Int)) (.int .i64 (n : Int))).run Try.prog w = .ok (.slice (some ⟨w.heap.size, 0, none⟩) n n) (w.alloc (.cells (madeCells #[.bool false] n) 4)) := by
  obtain ⟨ht, hzc, i, hi, hz, hs1, hb⟩ := eltB
  have hbn : i.bytes * n ≤ 24 * n := Nat.mul_le_mul_right _ hb
  exact run_make_row _ _ i _ ht hi hz hs1 hzc .i64 .i64 n (by omega) (by omega) w
theorem own_mkb (n : Nat) (hn : n ≤ 10000000) (w : World) : (w.alloc (.cells (madeCells #[.bool false] n) 4)).ownsRow w.heap.size 4 1 (.slice (some ⟨w.heap.size, 0, none⟩) n n) n (bools (List.replicate n false)) := by
  have e : (madeCells #[Value.bool false] n).toList = bools (List.replicate n false) := by rw [toList_madeCells_one]; simp only [bools, List.map_replicate]
  have hs : (madeCells #[Value.bool false] n).size = n := by have h := congrArg List.length e; simpa using h
  have h := own_lit w (madeCells #[.bool false] n) n 4 hs (by omega)
  rwa [e] at h
/-- Rows of numbers, each in a block of numbers. -/
def RowsT (w : World) (us : List Value) (xss : List (List Int)) : Prop := us.length = xss.length ∧ ∀ (i : Nat) (u : Value) (xs : List Int), us[i]? = some u → xss[i]? = some xs → ∃ A n c, u = .slice A n c ∧ n ≤ 1000000000 ∧ w.ownsRow 0 2 1 (.slice A n c) n (ints xs)
theorem RowsT.ch {w w' : World} {F : Nat → Prop} {us : List Value} {xss : List (List Int)} (h : RowsT w us xss) (hc : Ch F w w') (hd : ∀ k cs, F k → w.heap[k]? = some (.cells cs 2 (0, 0)) → False) : RowsT w' us xss :=
  ⟨h.1, fun i u xs hu hx => by
    obtain ⟨A, n, c, rfl, hn, ho⟩ := h.2 i u xs hu hx
    exact ⟨A, n, c, rfl, hn, own_ch ho hc (fun k a b => by obtain ⟨cs, hcs⟩ := own_fo ho a; exact hd k cs b hcs)⟩⟩
theorem RowsT.below {w w' : World} {us : List Value} {xss : List (List Int)} (h : RowsT w us xss) (hb : Below w.heap.size w w') : RowsT w' us xss := h.ch (ch_below (F := fun _ => False) hb) (fun _ _ h _ => h)
theorem RowsT.of {w : World} {F : Nat → Prop} {us : List Value} {xss : List (List Int)} (h : InnerP w F us xss) : RowsT w us xss :=
  ⟨h.1, fun i u xs hu hx => by obtain ⟨A, n, c, e, hn, ho, _⟩ := h.2.1 i u xs hu hx; exact ⟨A, n, c, e, hn, ho⟩⟩
theorem RowsT.snoc {w : World} {us : List Value} {xss : List (List Int)} {A : Option Addr} {n c : Nat} {xs : List Int} (h : RowsT w us xss) (hn : n ≤ 1000000000) (ho : w.ownsRow 0 2 1 (.slice A n c) n (ints xs)) : RowsT w (us ++ [.slice A n c]) (xss ++ [xs]) := by
  refine ⟨by simp [h.1], fun i u ys hu hx => ?_⟩
  by_cases hi : i < us.length
  · rw [List.getElem?_append_left hi] at hu
    rw [List.getElem?_append_left (by rw [← h.1]; exact hi)] at hx
    exact h.2 i u ys hu hx
  · have hlt := (List.getElem?_eq_some_iff.1 hu).1
    simp only [List.length_append, List.length_cons, List.length_nil] at hlt
    have e : i = us.length := by omega
    subst e
    rw [List.getElem?_append_right (Nat.le_refl _), Nat.sub_self] at hu
    rw [h.1, List.getElem?_append_right (Nat.le_refl _), Nat.sub_self] at hx
    obtain rfl : Value.slice A n c = u := by simpa using hu
    obtain rfl : xs = ys := by simpa using hx
    exact ⟨A, n, c, rfl, hn, ho⟩
structure ClS (w : World) (lo gs N : Nat) (s t b : Int) (A8 : Option Addr) (m8 c8 : Nat) (us : List Value) (L : List (List Int)) : Prop where
  seen : w.ownsRow 0 4 1 (.slice (some ⟨gs, 0, none⟩) N N) N (bools (seenA s t b N L))
  row : w.ownsRow 0 25 1 (.slice A8 m8 c8) m8 us
  rows : RowsT w us L
  hs : lo ≤ gs
  hl : ∀ q, Fo (.slice A8 m8 c8) q → lo ≤ q
section
variable {w w1 w4 : World} {lo gs N : Nat} {s t b : Int} {A8 : Option Addr} {m8 c8 : Nat} {us : List Value} {L : List (List Int)}
theorem ClS.below (h : ClS w lo gs N s t b A8 m8 c8 us L) (hb : Below w.heap.size w w1) : ClS w1 lo gs N s t b A8 m8 c8 us L :=
  ⟨ownN_below h.seen hb (Nat.le_refl _), ownN_below h.row hb (Nat.le_refl _), h.rows.below hb, h.hs, h.hl⟩
theorem ClS.len (h : ClS w lo gs N s t b A8 m8 c8 us L) : L.length = m8 := by have h1 := h.row.1; have h2 := h.rows.1; simp only [Nat.mul_one] at h1; omega
theorem row_types {w : World} {A : Option Addr} {n c e : Nat} {vs : List Value} (h : w.ownsRow 0 e 1 (.slice A n c) n vs) (he : e ≠ 2) : ∀ k cs, Fo (.slice A n c) k → w.heap[k]? = some (.cells cs 2 (0, 0)) → False := fun k cs a b => by
  obtain ⟨ds, h1⟩ := own_fo h a
  exact blk_ne h1 b he rfl
theorem fo_gs {gs N : Nat} : ∀ q, q = gs → Fo (.slice (some ⟨gs, 0, none⟩) N N) q := fun q e => by subst e; simp [Fo, Value.ownBlock]
/-- A mark, and then a row more. -/
theorem ClS.add (h : ClS w lo gs N s t b A8 m8 c8 us L) {x : List Int} {k : Nat} (hk : keyA s t b x = (k : Int)) (hkN : k < N) (hw1 : w1 = w.setCell ⟨gs, k, none⟩ (.bool true)) {A5 : Option Addr} {n5 c5 : Nat} (hn5 : n5 ≤ 1000000000) (ho5 : w.ownsRow 0 2 1 (.slice A5 n5 c5) n5 (ints x)) (hlo : lo ≤ w.heap.size) :
    w1.ownsRow 0 25 1 (.slice A8 m8 c8) m8 us ∧ ∀ (A' : Option Addr) (c' : Nat) (w4 : World), w4.ownsRow 0 25 1 (.slice A' (m8 + 1) c') (m8 + 1) (us ++ [.slice A5 n5 c5]) → Ch (Fo (.slice A8 m8 c8)) w1 w4 → (∀ q, Fo (.slice A' (m8 + 1) c') q → Fo (.slice A8 m8 c8) q ∨ w1.heap.size ≤ q) → ClS w4 lo gs N s t b A' (m8 + 1) c' (us ++ [.slice A5 n5 c5]) (L ++ [x]) := by
  have hs1 : Ch (· = gs) w w1 := by rw [hw1]; exact ch_set w gs k _
  have hrow1 := own_ch h.row hs1 (fun q a b => own_types2 h.row h.seen (by decide) q a (fo_gs q b))
  have hsz : w.heap.size ≤ w1.heap.size := hs1.size
  refine ⟨hrow1, fun A' c' w4 ho4 hc4 hf4 => ?_⟩
  have hsn1 : w1.ownsRow 0 4 1 (.slice (some ⟨gs, 0, none⟩) N N) N (bools (seenA s t b N (L ++ [x]))) := by
    rw [hw1, ← seen_put hk hkN]
    have h2 := own_put h.seen k (.bool true)
    simpa only [bools, List.map_set] using h2
  have hr1 : RowsT w1 us L := h.rows.ch hs1 (fun q cs a => row_types h.seen (by decide) q cs (fo_gs q a))
  have ho51 := own_ch ho5 hs1 (fun q a b => own_types2 ho5 h.seen (by decide) q a (fo_gs q b))
  have hr4 : RowsT w4 us L := hr1.ch hc4 (fun q cs a => row_types hrow1 (by decide) q cs a)
  have ho54 := own_ch ho51 hc4 (fun q a b => own_types2 ho51 hrow1 (by decide) q a b)
  refine ⟨own_ch hsn1 hc4 (fun q a b => own_types2 hsn1 hrow1 (by decide) q a b), ho4, hr4.snoc hn5 ho54, h.hs, fun q a => ?_⟩
  rcases hf4 q a with c | c
  · exact h.hl q c
  · omega
end
/-- What the closure leaves. -/
def ClP (w : World) (s t a b : Int) (rs : List Rul) (xs ys : List Int) (e : Ending) (w' : World) : Prop :=
  (ClA s rs xs ys a0 0 none ∧ e = .returned (.tuple #[.slice none 0 0, .bool false]) ∧ Below w.heap.size w w') ∨
  (∃ (L out : List (List Int)) (A : Option Addr) (n c : Nat), ClA s rs xs ys a0 0 (some L) ∧ (∀ z ∈ out, okA s t a b z) ∧ (∀ z, z ∈ out ↔ z ∈ L) ∧ n ≤ 10000000 ∧ e = .returned (.tuple #[.slice A n c, .bool true]) ∧ RdL w' A n out ∧ Below w.heap.size w w')
/-- The abstractions among the first numbers. -/
noncomputable def outA (s t b : Int) (N : Nat) (L : List (List Int)) (k : Nat) : List (List Int) := ((List.range k).filter (fun j => (seenA s t b N L).getD j false)).map (fun j : Nat => unkA s t b (j : Int))
theorem outA_yes {s t b : Int} {N k : Nat} {L : List (List Int)} (h : (seenA s t b N L)[k]? = some true) : outA s t b N L (k + 1) = outA s t b N L k ++ [unkA s t b (k : Int)] := by
  have e : (seenA s t b N L).getD k false = true := by rw [List.getD_eq_getElem?_getD, h]; rfl
  unfold outA
  rw [List.range_succ, List.filter_append]
  simp only [List.filter_cons, List.filter_nil, e, if_true, List.map_append, List.map_cons, List.map_nil]
theorem outA_no {s t b : Int} {N k : Nat} {L : List (List Int)} (h : (seenA s t b N L)[k]? = some false) : outA s t b N L (k + 1) = outA s t b N L k := by
  have e : (seenA s t b N L).getD k false = false := by rw [List.getD_eq_getElem?_getD, h]; rfl
  unfold outA
  rw [List.range_succ, List.filter_append]
  simp only [List.filter_cons, List.filter_nil, e, Bool.false_eq_true, if_false, List.append_nil]
theorem outA_len (s t b : Int) (N : Nat) (L : List (List Int)) (k : Nat) : (outA s t b N L k).length ≤ k := by
  unfold outA
  rw [List.length_map]
  exact Nat.le_trans (List.length_filter_le _ _) (by simp)
theorem outA_mem {s t a b : Int} {N : Nat} {L : List (List Int)} (hL : ∀ z ∈ L, okA s t a b z) (hN : (N : Int) = a * t * s * b) (z : List Int) : z ∈ outA s t b N L N ↔ z ∈ L := by
  unfold outA
  constructor
  · intro h
    obtain ⟨j, hj, rfl⟩ := List.mem_map.1 h
    obtain ⟨h1, h2⟩ := List.mem_filter.1 hj
    have hjN := List.mem_range.1 h1
    obtain ⟨bv, hb⟩ := get_some (xs := seenA s t b N L) (k := j) (by rw [seen_len]; exact hjN)
    rw [List.getD_eq_getElem?_getD, hb] at h2
    have h3 : bv = true := h2
    obtain ⟨x, hx, he⟩ := ((seen_get hjN).1 hb).1 h3
    rw [← he, unk_key (hL x hx)]
    exact hx
  · intro h
    have hk := key_bd (hL z h)
    obtain ⟨k, hkk⟩ : ∃ k : Nat, keyA s t b z = (k : Int) := ⟨(keyA s t b z).toNat, by omega⟩
    have hkN : k < N := by omega
    refine List.mem_map.2 ⟨k, List.mem_filter.2 ⟨List.mem_range.2 hkN, ?_⟩, ?_⟩
    · rw [List.getD_eq_getElem?_getD, seen_at hL (hL z h) hkk hkN, decide_eq_true h]; rfl
    · rw [← hkk, unk_key (hL z h)]
set_option maxHeartbeats 16000000 in
set_option maxRecDepth 100000 in
theorem l28Closure_any (w : World) (gm : Nat) (s t : Int) (A : Option Addr) (n c : Nat) (hm : BM w gm s t A n c) (rs : List Rul) (hr : Rd w A (n * 3) (ints (flatR rs))) (hok : okM s t rs = true) (g1 : Nat) (a : Int) (A1 : Option Addr) (n1 c1 : Nat) (h1 : BD w g1 a A1 n1 c1) (xs : List Int) (hr1 : Rd w A1 n1 (ints xs)) (hx : dfB a xs s = true) (g2 : Nat) (b : Int) (A2 : Option Addr) (n2 c2 : Nat) (h2 : BD w g2 b A2 n2 c2) (ys : List Int) (hr2 : Rd w A2 n2 (ints ys)) (hy : dfB b ys s = true) :
    Calls Try.prog 102 #[.pointer (some ⟨gm, 0, none⟩), .pointer (some ⟨g1, 0, none⟩), .pointer (some ⟨g2, 0, none⟩)] w (ClP w s t a b rs xs ys) := by
  have HM := Lib.hid hm; have H1 := Lib.hid h1; have H2 := Lib.hid h2; have HR := Lib.hid hr; have HR1 := Lib.hid hr1; have HR2 := Lib.hid hr2; have HX := Lib.hid hx; have HY := Lib.hid hy; have HOK := Lib.hid hok
  obtain ⟨hs, ht, _⟩ := okM_all hok
  obtain ⟨_, ha, _⟩ := dfB_all hx
  obtain ⟨_, hb, _⟩ := dfB_all hy
  have HS := Lib.hid hs; have HT := Lib.hid ht; have HA := Lib.hid ha; have HBb := Lib.hid hb
  have e1 := mul_bd (c := 20) (d := 1000) (show 0 ≤ a by omega) (by omega) (show 0 ≤ t by omega) (by omega)
  have e2 := mul_bd (c := 20000) (d := 6) e1.1 (by omega) (show 0 ≤ s by omega) (by omega)
  have e3 := mul_bd (c := 120000) (d := 20) e2.1 (by omega) (show 0 ≤ b by omega) (by omega)
  have e4 : 0 < a * t * s * b := Int.mul_pos (Int.mul_pos (Int.mul_pos (by omega) (by omega)) (by omega)) (by omega)
  obtain ⟨N, hN⟩ : ∃ N : Nat, (N : Int) = a * t * s * b := ⟨(a * t * s * b).toNat, by omega⟩
  have HN := Lib.hid hN
  have HNB : Hid (1 ≤ N ∧ N ≤ 2400000) := Lib.hid (by omega)
  have w1 := wr_of e1.1 (by omega)
  have w2' := wr_of e2.1 (by omega)
  have w3' : IntKind.i64.wrap (a * t * s * b) = (N : Int) := (wr_of e3.1 (by omega)).trans hN.symm
  obtain ⟨z0, z1, z2⟩ := hm.cells
  obtain ⟨y0, y1⟩ := h1.cells
  obtain ⟨v0, v1⟩ := h2.cells
  have hmk := fun w => run_mkb N (by omega) w
  have HKB : Hid (∀ z, okA s t a b z → ∃ k : Nat, keyA s t b z = (k : Int) ∧ k < N) := Lib.hid (fun z hz => by
    have hk := key_bd hz
    exact ⟨(keyA s t b z).toNat, by omega, by have := HN.out; omega⟩)
  have HOA0 : Hid (∀ z ∈ a0, okA s t a b z) := Lib.hid (a0_ok hok hx hy)
  have HST : Hid (∀ (wx : World) (A5 : Option Addr) (n5 c5 : Nat) (x : List Int), Below w.heap.size w wx → Rd wx A5 n5 (ints x) → okA s t a b x → Calls Try.prog 140 #[.pointer (some ⟨gm, 0, none⟩), .pointer (some ⟨g1, 0, none⟩), .pointer (some ⟨g2, 0, none⟩), .slice A5 n5 c5] wx (RetP wx (succA s rs xs ys x))) := Lib.hid (fun wx A5 n5 c5 x hbx hrx hox => l28Steps_any wx gm s t A n c (HM.out.bel hbx) rs (HR.out.below hbx (Nat.le_refl _)) HOK.out g1 a A1 n1 c1 (H1.out.bel hbx) xs (HR1.out.below hbx (Nat.le_refl _)) HX.out g2 b A2 n2 c2 (H2.out.bel hbx) ys (HR2.out.below hbx (Nat.le_refl _)) HY.out A5 n5 c5 x hrx hox)
  have HKY : Hid (∀ (wx : World) (A5 : Option Addr) (n5 c5 : Nat) (x : List Int) (k : Nat), Below w.heap.size w wx → Rd wx A5 n5 (ints x) → okA s t a b x → keyA s t b x = (k : Int) → Calls Try.prog 141 #[.pointer (some ⟨gm, 0, none⟩), .pointer (some ⟨g1, 0, none⟩), .pointer (some ⟨g2, 0, none⟩), .slice A5 n5 c5] wx (DrP wx (.int .i64 (k : Int)))) := Lib.hid (fun wx A5 n5 c5 x k hbx hrx hox hk => by
    have h := l28Key_any wx gm s t A n c (HM.out.bel hbx) HS.out HT.out (.pointer (some ⟨g1, 0, none⟩)) a HA.out.2 g2 b A2 n2 c2 (H2.out.bel hbx) HBb.out A5 n5 c5 x hrx hox
    rw [hk] at h
    exact h)
  have HSL : Hid (∀ x, (succA s rs xs ys x).length ≤ 120) := Lib.hid (fun x => succ_len hx hy)
  have HSO : Hid (∀ x, okA s t a b x → ∀ z ∈ succA s rs xs ys x, okA s t a b z) := Lib.hid (fun x hox => succ_ok hok hx hy hox)
  clear hm hr hok h1 hr1 hx h2 hr2 hy hs ht ha hb e1 e2 e3 e4 hN z2 y1 v1
  go_enter Try.func102, Try.ntmps102
  go_upto_region 1 with fail
  (first | (go_region_held3 (fun w' => w'.cell? ⟨gm, 0, none⟩ = some (.int .i64 s) ∧ w'.cell? ⟨gm, 1, none⟩ = some (.int .i64 t) ∧ w'.cell? ⟨g1, 0, none⟩ = some (.int .i64 a) ∧ w'.cell? ⟨g2, 0, none⟩ = some (.int .i64 b)) (first | exact ⟨z0, z1, y0, v0⟩ | go_keep) (fail)) | fail)
  all_goals
    as_aux_lemma =>
    clear w1 w2' w3' hmk z0 z1 y0 v0
    go_upto_region 3 with fail
    obtain ⟨w2, hw2⟩ : ∃ w2, w2 = (((w.alloc (.cells (madeCells #[.bool false] N) 4)).alloc (.cells #[.int .i64 0, .int .i64 0, .int .i64 0, .int .i64 0] 2)).alloc (.cells #[.slice (some ⟨w.heap.size + 1, 0, none⟩) 4 4] 25)).drew := ⟨_, rfl⟩
    rw [← hw2]
    have HB2 : Hid (Below w.heap.size w w2) := Lib.hid (by rw [hw2]; exact bqd (bqa (bqa (bqa (Below.refl _ _)))))
    have hsn : w2.ownsRow 0 4 1 (.slice (some ⟨w.heap.size, 0, none⟩) N N) N (bools (seenA s t b N [])) := by
      rw [seen_nil, hw2]
      exact ownN_base (ownN_below (own_mkb N (by have := HNB.out; omega) w) (bqd (bqa (bqa (Below.refl _ _)))) (Nat.le_refl _)) (Nat.zero_le _)
    have hrow : w2.ownsRow 0 25 1 (.slice (some ⟨w.heap.size + 1 + 1, 0, none⟩) 1 1) 1 [.slice (some ⟨w.heap.size + 1, 0, none⟩) 4 4] := by
      rw [hw2]
      have h := own_lit ((w.alloc (.cells (madeCells #[.bool false] N) 4)).alloc (.cells #[.int .i64 0, .int .i64 0, .int .i64 0, .int .i64 0] 2)) #[.slice (some ⟨w.heap.size + 1, 0, none⟩) 4 4] 1 25 rfl (by omega)
      simp only [World.size_alloc] at h
      exact ownN_base (ownN_below h (bqd (Below.refl _ _)) (Nat.le_refl _)) (Nat.zero_le _)
    have ho4 : w2.ownsRow 0 2 1 (.slice (some ⟨w.heap.size + 1, 0, none⟩) 4 4) 4 (ints [0, 0, 0, 0]) := by
      rw [hw2]
      have h := own4 (w.alloc (.cells (madeCells #[.bool false] N) 4)) 0 0 0 0
      simp only [World.size_alloc] at h
      exact ownN_base (ownN_below h (bqd (bqa (Below.refl _ _))) (Nat.le_refl _)) (Nat.zero_le _)
    clear hw2
    obtain ⟨w3, hw3⟩ : ∃ w3, w3 = w2.setCell ⟨w.heap.size, 0, none⟩ (.bool true) := ⟨_, rfl⟩
    have hs1 : Ch (· = w.heap.size) w2 w3 := by rw [hw3]; exact ch_set w2 w.heap.size 0 _
    have HC0 : Hid (ClS w3 w.heap.size w.heap.size N s t b (some ⟨w.heap.size + 1 + 1, 0, none⟩) 1 1 [.slice (some ⟨w.heap.size + 1, 0, none⟩) 4 4] a0) := Lib.hid (by
      refine ⟨?_, own_ch hrow hs1 (fun q a b => own_types2 hrow hsn (by decide) q a (fo_gs q b)), ⟨rfl, fun i u xs hu hx => ?_⟩, Nat.le_refl _, fun q hq => ?_⟩
      · have h2 := own_put hsn 0 (.bool true)
        rw [← hw3] at h2
        have h3 : (seenA s t b N []).set 0 true = seenA s t b N ([] ++ [[0, 0, 0, 0]]) := seen_put (k := 0) (by simp [keyA]) (by have := HNB.out; omega)
        show w3.ownsRow 0 4 1 _ N (bools (seenA s t b N ([] ++ [[0, 0, 0, 0]])))
        rw [← h3]
        simpa only [bools, List.map_set] using h2
      · match i, hu, hx with
        | 0, hu, hx =>
          obtain rfl : Value.slice (some ⟨w.heap.size + 1, 0, none⟩) 4 4 = u := by simpa using hu
          obtain rfl : [0, 0, 0, 0] = xs := by simpa [a0] using hx
          exact ⟨_, 4, 4, rfl, by omega, own_ch ho4 hs1 (fun q a b => own_types2 ho4 hsn (by decide) q a (fo_gs q b))⟩
        | i + 1, hu, hx => simp at hu
      · have h1 : w.heap.size + 1 + 1 = q := by simpa [Fo, Value.ownBlock] using hq
        omega)
    have HB3 : Hid (Below w.heap.size w w3) := Lib.hid (below_ch HB2.out hs1 (fun q e => by have e2 : q = w.heap.size := e; omega) HB2.out.size)
    obtain ⟨⟨vz, hvz⟩, hfz⟩ := own_cell0 hsn (j := 0) (by have := HNB.out; omega)
    have i0 : (0 : Int) < (N : Int) := by have := HNB.out; omega
    clear hs1 hsn hrow ho4
    go_upto_region 4 with fail
    rw [← hw3]
    clear hw3 hvz hfz i0
    as_aux_lemma =>
    go_wp2_with fail
    go_loopw [9, 10] (fun l i wr => ∃ (k : Nat) (L : List (List Int)) (A8 : Option Addr) (m8 c8 : Nat) (us : List Value), k ≤ m8 ∧ i = .int .i64 k ∧ l = .slice A8 m8 c8 ∧ Hid (m8 ≤ 3000) ∧ Hid (∀ z ∈ L, okA s t a b z) ∧ Hid (ClS wr w.heap.size w.heap.size N s t b A8 m8 c8 us L) ∧ Hid (∀ res, ClA s rs xs ys L k res → ClA s rs xs ys a0 0 res) ∧ Hid (Below w.heap.size w wr)) (fun _ i _ => 3001 - (intOf i).toNat)
    case atStart => exact ⟨0, a0, _, 1, 1, _, by omega, rfl, rfl, Lib.hid (by omega), HOA0, HC0, Lib.hid (fun _ h => h), HB3⟩
    case round =>
      as_aux_lemma =>
      obtain ⟨k, L, A8, m8, c8, us, hk, rfl, rfl, HM8, HLO, HCL, HRES, HBR⟩ := hrel
      have hm8 : m8 ≤ 3000 := HM8.out
      by_cases hlt : k < m8
      · as_aux_lemma =>
        have HLT := Lib.hid hlt
        have hlti : (k : Int) < (m8 : Int) := by omega
        have hk0 : (0 : Int) ≤ (k : Int) := by omega
        obtain ⟨x, hx⟩ := get_some (xs := L) (k := k) (by rw [HCL.out.len]; exact hlt)
        obtain ⟨u, hu⟩ := get_some (xs := us) (k := k) (by rw [HCL.out.rows.1, HCL.out.len]; exact hlt)
        obtain ⟨A5, n5, c5, rfl, hn5, ho5⟩ := HCL.out.rows.2 k u x hu hx
        obtain ⟨b3, o3, e3, hl3, hc3⟩ := (own_rd HCL.out.row).at_ hu
        subst e3
        have HXK := Lib.hid hx
        have HOX : Hid (okA s t a b x) := Lib.hid (HLO.out x (List.mem_of_getElem? hx))
        have HSX := Lib.hid (HST.out wr A5 n5 c5 x HBR.out (own_rd ho5) HOX.out)
        obtain ⟨nx, hnx⟩ : ∃ nx, nx = succA s rs xs ys x := ⟨_, rfl⟩
        rw [← hnx] at HSX
        have HNX := Lib.hid hnx
        have HNL : Hid (nx.length ≤ 120) := Lib.hid (by rw [hnx]; exact HSL.out x)
        have HNO : Hid (∀ z ∈ nx, okA s t a b z) := Lib.hid (by rw [hnx]; exact HSO.out x HOX.out)
        clear hx hu ho5 hl3 hn5 hnx
        go_wp2_with fail
        refine HSX.out.mono ?_
        rintro e w4 ⟨A11, n11, c11, F11, rfl, ⟨u11, ho11, hf11, hin11, hlt11⟩, hF11, hb4⟩
        have HO11 := Lib.hid ho11
        have HT11 := Lib.hid (RowsT.of hin11)
        have HN11 : Hid (nx.length = n11) := Lib.hid (by have h1 := ho11.1; have h2 := hin11.1; simp only [Nat.mul_one] at h1; omega)
        have HF11 : Hid (∀ q, Fo (.slice A11 n11 c11) q → wr.heap.size ≤ q) := Lib.hid (fun q hq => (hF11 q (hf11 q hq)).1)
        have HCL4 := Lib.hid (HCL.out.below hb4)
        have HB4 : Hid (Below w.heap.size w w4) := Lib.hid (bqc hb4 HBR.out)
        have HD4 : Hid (∀ q, Fo (.slice (some ⟨b3, o3, none⟩) m8 c8) q → Fo (.slice A11 n11 c11) q → False) := Lib.hid (fun q c d => by
          have h1 := HF11.out q d
          obtain ⟨cs, h2⟩ := own_fo HCL.out.row c
          have h3 := blk_lt h2
          omega)
        have hn11 : n11 ≤ 120 := by have h1 := HN11.out; have h2 := HNL.out; omega
        have HM4 : Hid (L.length = m8) := Lib.hid HCL.out.len
        clear ho11 hf11 hin11 hlt11 hF11 hb4 hc3
        as_aux_lemma =>
        go_wp2_with fail
        go_loopw [9, 12] (fun l i wx => ∃ (j : Nat) (Lx : List (List Int)) (A9 : Option Addr) (m9 c9 : Nat) (us9 : List Value), j ≤ n11 ∧ i = .int .i64 j ∧ l = .slice A9 m9 c9 ∧ Hid (m9 ≤ 3000 + j) ∧ Hid (Lx = (nx.take j).foldl addA L) ∧ Hid (∀ z ∈ Lx, okA s t a b z) ∧ Hid (ClS wx w.heap.size w.heap.size N s t b A9 m9 c9 us9 Lx) ∧ Hid (wx.ownsRow 0 25 1 (.slice A11 n11 c11) n11 u11) ∧ Hid (RowsT wx u11 nx) ∧ Hid (∀ q, Fo (.slice A9 m9 c9) q → Fo (.slice A11 n11 c11) q → False) ∧ Hid (Below w.heap.size w wx)) (fun _ i _ => n11 - (intOf i).toNat)
        case atStart => exact ⟨0, L, _, m8, c8, us, Nat.zero_le _, rfl, rfl, Lib.hid (by omega), Lib.hid rfl, HLO, HCL4, HO11, HT11, HD4, HB4⟩
        case round =>
          as_aux_lemma =>
          obtain ⟨j, Lx, A9, m9, c9, us9, hj, rfl, rfl, HM9, HLX, HLO9, HCL9, HO12, HT12, HD9, HB9⟩ := hrel
          obtain ⟨wv, rfl⟩ : ∃ v, v = wr := ⟨_, rfl⟩
          by_cases hjlt : j < n11
          · as_aux_lemma =>
            have HJLT := Lib.hid hjlt
            have hjlti : (j : Int) < (n11 : Int) := by omega
            have hj0 : (0 : Int) ≤ (j : Int) := by omega
            obtain ⟨y, hy⟩ := get_some (xs := nx) (k := j) (by rw [HN11.out]; exact hjlt)
            obtain ⟨v, hv⟩ := get_some (xs := u11) (k := j) (by have h1 := HO12.out.1; simp only [Nat.mul_one] at h1; omega)
            obtain ⟨A6, n6, c6, rfl, hn6, ho6⟩ := HT12.out.2 j v y hv hy
            obtain ⟨b7, o7, e7, hl7, hc7⟩ := (own_rd HO12.out).at_ hv
            subst e7
            have HOY : Hid (okA s t a b y) := Lib.hid (HNO.out y (List.mem_of_getElem? hy))
            obtain ⟨kk, hkk, hkN⟩ := HKB.out y HOY.out
            have HKK := Lib.hid hkk
            have HKN := Lib.hid hkN
            have HKC := Lib.hid (HKY.out wv A6 n6 c6 y kk HB9.out (own_rd ho6) HOY.out hkk)
            have HN6 := Lib.hid hn6
            have HO6 := Lib.hid ho6
            have HL7 := Lib.hid hl7; have HC7 := Lib.hid hc7
            have HST1 : Hid ((nx.take (j + 1)).foldl addA L = addA Lx y) := Lib.hid (by rw [List.take_add_one, hy, List.foldl_append, HLX.out]; rfl)
            clear hy hv hl7 hkk hkN hn6 ho6
            go_wp2_with fail
            refine HKC.out.mono ?_
            rintro e w5 ⟨rfl, j5, rfl⟩
            obtain ⟨w5, hw5⟩ : ∃ w5, w5 = wv.drewN j5 := ⟨_, rfl⟩
            have HB5 : Hid (Below wv.heap.size wv w5) := Lib.hid (by rw [hw5]; exact below_drewN (Below.refl _ _))
            rw [← hw5]
            clear hw5 hc7
            have HCL5 := Lib.hid (HCL9.out.below HB5.out)
            have hc7 := (HB5.out.cell (p := ⟨b7, o7 + j, none⟩) HL7.out).trans HC7.out
            have HB5W : Hid (Below w.heap.size w w5) := Lib.hid (bqc HB5.out HB9.out)
            have hki : (kk : Int) < (N : Int) := by have := HKN.out; omega
            have hk0' : (0 : Int) ≤ (kk : Int) := by omega
            have hsat := seen_at HLO9.out HOY.out HKK.out HKN.out
            obtain ⟨g', hg', -, -, hsc, hsf⟩ := own_get HCL5.out.seen (k := kk) (u := .bool (decide (y ∈ Lx))) (by simp only [bools, List.getElem?_map, hsat]; rfl)
            injection hg' with hg'
            injection hg' with hg'
            subst hg'
            clear hsat
            by_cases hyn : y ∈ Lx
            · as_aux_lemma =>
              have HYN := Lib.hid hyn
              rw [decide_eq_true hyn] at hsc
              clear hyn
              go_wp2_with fail
              go_roundw
              case rel => exact ⟨j + 1, Lx, A9, m9, c9, us9, HJLT.out, by go_num, rfl, Lib.hid (by have := HM9.out; omega), Lib.hid (by rw [HST1.out]; unfold addA; rw [if_pos HYN.out]), HLO9, HCL5, Lib.hid (ownN_below HO12.out HB5.out (Nat.le_refl _)), Lib.hid (HT12.out.below HB5.out), HD9, HB5W⟩
              case measure => have := HJLT.out; simp [intOf]; omega
            · as_aux_lemma =>
              have HYN := Lib.hid hyn
              rw [decide_eq_false hyn] at hsc
              clear hyn
              obtain ⟨w6, hw6⟩ : ∃ w6, w6 = w5.setCell ⟨w.heap.size, kk, none⟩ (.bool true) := ⟨_, rfl⟩
              obtain ⟨hr6, hadd⟩ := HCL5.out.add HKK.out HKN.out hw6 HN6.out (ownN_below HO6.out HB5.out (Nat.le_refl _)) HB5W.out.size
              have HR6 := Lib.hid hr6; have HADD := Lib.hid hadd
              have hs6 : Ch (· = w.heap.size) w5 w6 := by rw [hw6]; exact ch_set w5 w.heap.size kk _
              have HS6 := Lib.hid hs6
              have ho12 := ownN_below HO12.out HB5.out (Nat.le_refl _)
              have HO126 : Hid (w6.ownsRow 0 25 1 (.slice (some ⟨b7, o7, none⟩) n11 c11) n11 u11) := Lib.hid (own_ch ho12 hs6 (fun q a b => own_types2 ho12 HCL5.out.seen (by decide) q a (fo_gs q b)))
              have HT126 : Hid (RowsT w6 u11 nx) := Lib.hid ((HT12.out.below HB5.out).ch hs6 (fun q cs a => row_types HCL5.out.seen (by decide) q cs (fo_gs q a)))
              have HB6 : Hid (Below w.heap.size w w6) := Lib.hid (below_ch HB5W.out hs6 (fun q e => by have e2 : q = w.heap.size := e; omega) HB5W.out.size)
              obtain ⟨b8, o8, e8, hl8, hc8⟩ := (own_rd HO126.out).at_ (k := j) (u := .slice A6 n6 c6) (by
                obtain ⟨b8, o8, e8, _, _⟩ := (own_rd HO12.out).at_ (k := j) (u := .slice A6 n6 c6) (by
                  obtain ⟨v2, hv2⟩ := get_some (xs := u11) (k := j) (by have h1 := HO12.out.1; simp only [Nat.mul_one] at h1; have := HJLT.out; omega)
                  obtain ⟨b9, o9, e9, _, hc9⟩ := (own_rd HO12.out).at_ hv2
                  injection e9 with e9
                  injection e9 with e9 e10
                  subst e9 e10
                  rw [HC7.out] at hc9
                  rw [hv2]; exact hc9.symm)
                obtain ⟨v2, hv2⟩ := get_some (xs := u11) (k := j) (by have h1 := HO12.out.1; simp only [Nat.mul_one] at h1; have := HJLT.out; omega)
                obtain ⟨b9, o9, e9, _, hc9⟩ := (own_rd HO12.out).at_ hv2
                injection e9 with e9
                injection e9 with e9 e10
                subst e9 e10
                rw [HC7.out] at hc9
                rw [hv2]; exact hc9.symm)
              injection e8 with e8
              injection e8 with e8 e9
              subst e8 e9
              have HM9B : Hid (m9 ≤ 1000000000) := Lib.hid (by have := HM9.out; omega)
              clear hr6 hadd hs6 ho12 hl8
              go_upto_region 14 with fail
              rw [← hw6]
              clear hw6 hsc hsf hc7
              go_wp2_with (at_builtin
                           go_must (refine wpList_app1O Try.eltS rfl _ _ rfl w6 0 A9 m9 c9 us9 (by rfl) HR6.out (.slice A6 n6 c6) rfl (by rfl) HM9B.out ?_)
                           rintro A10 c10 w10 ho10 hc10 hf10)
              have HCN := Lib.hid (HADD.out A10 c10 w10 ho10 hc10 hf10)
              have HLN : Hid ((nx.take (j + 1)).foldl addA L = Lx ++ [y]) := Lib.hid (by rw [HST1.out]; unfold addA; rw [if_neg HYN.out])
              have hD : ∀ q, Fo (.slice (some ⟨b7, o7, none⟩) n11 c11) q → Fo (.slice A9 m9 c9) q → False := fun q a b => HD9.out q b a
              have HON := Lib.hid (own_ch HO126.out hc10 hD)
              have HTN := Lib.hid (HT126.out.ch hc10 (fun q cs a => row_types HR6.out (by decide) q cs a))
              have HDN : Hid (∀ q, Fo (.slice A10 (m9 + 1) c10) q → Fo (.slice (some ⟨b7, o7, none⟩) n11 c11) q → False) := Lib.hid (fun q c d => by
                rcases hf10 q c with h | h
                · exact HD9.out q h d
                · obtain ⟨cs, h2⟩ := own_fo HO126.out d
                  have h3 := blk_lt h2
                  omega)
              have HBN : Hid (Below w.heap.size w w10) := Lib.hid (below_ch HB6.out hc10 (fun q c => HCL5.out.hl q c) HB6.out.size)
              clear ho10 hc10 hf10 hD hc8
              go_wp2_with fail
              go_roundw
              case rel => exact ⟨j + 1, Lx ++ [y], A10, m9 + 1, c10, _, HJLT.out, by go_num, rfl, Lib.hid (by have := HM9.out; omega), Lib.hid HLN.out.symm, Lib.hid (fun z hz => by
                rcases List.mem_append.1 hz with hz | hz
                · exact HLO9.out z hz
                · obtain rfl := List.mem_singleton.1 hz
                  exact HOY.out), HCN, HON, HTN, HDN, HBN⟩
              case measure => have := HJLT.out; simp [intOf]; omega
          · as_aux_lemma =>
            have HLF : Hid (Lx = nx.foldl addA L) := Lib.hid (by rw [HLX.out, List.take_of_length_le (by have := HN11.out; omega)])
            have HLL : Hid (Lx.length = m9) := Lib.hid HCL9.out.len
            by_cases hbig : 3000 < m9
            · have hbi : (3000 : Int) < (m9 : Int) := by omega
              have HCA : Hid (ClA s rs xs ys a0 0 none) := Lib.hid (HRES.out none (.full HXK.out (by rw [← HNX.out, ← HLF.out, HLL.out]; exact hbig)))
              go_wp2_with fail
              go_ret2
              exact .inl ⟨HCA.out, rfl, HB9.out⟩
            · have hbi : ¬ (3000 : Int) < (m9 : Int) := by omega
              have HBIG := Lib.hid hbig
              have HLE : Hid (k + 1 ≤ m9) := Lib.hid (by
                have h1 := (addF_len (zs := nx) (L := L)).1
                rw [← HLF.out, HLL.out] at h1
                have h2 := HM4.out
                have h3 := HLT.out
                omega)
              clear hbig
              go_wp2_with fail
              go_roundw
              case rel => exact ⟨k + 1, Lx, A9, m9, c9, us9, HLE.out, by go_num, rfl, Lib.hid (by have := HBIG.out; omega), HLO9, HCL9, Lib.hid (fun res h => HRES.out res (.more HXK.out (by rw [← HNX.out, ← HLF.out, HLL.out]; exact HBIG.out) (by rw [← HNX.out, ← HLF.out]; exact h))), HB9⟩
              case measure => have := HLT.out; have := HM8.out; simp [intOf]; omega
      · as_aux_lemma =>
        have hlti : ¬ (k : Int) < (m8 : Int) := by omega
        have HCA : Hid (ClA s rs xs ys a0 0 (some L)) := Lib.hid (HRES.out (some L) (.done (by rw [HCL.out.len]; omega)))
        have HBO := Lib.hid (Bld.nil wr 25 rfl)
        obtain ⟨w3, hw3⟩ : ∃ w3, w3 = wr.alloc (.cells #[] 25) := ⟨_, rfl⟩
        rw [← hw3] at HBO
        have HB3 : Hid (Below wr.heap.size wr w3) := Lib.hid (by rw [hw3]; exact below_new _ _)
        obtain ⟨wo, rfl⟩ : ∃ v, v = wr := ⟨_, rfl⟩
        go_upto_region 18 with fail
        rw [← hw3]
        clear hw3 hlti hlt hk
        as_aux_lemma =>
        go_wp2_with fail
        go_loopw [14, 15] (fun o i wx => ∃ (j : Nat) (A9 : Option Addr) (m9 c9 : Nat), j ≤ N ∧ i = .int .i64 j ∧ o = .slice A9 m9 c9 ∧ Hid (Bld wx wo.heap.size A9 m9 c9 (outA s t b N L j)) ∧ Hid (Below wo.heap.size wo wx)) (fun _ i _ => N - (intOf i).toNat)
        case atStart => exact ⟨0, _, 0, 0, Nat.zero_le _, rfl, rfl, Lib.hid HBO.out, HB3⟩
        case round =>
          as_aux_lemma =>
          obtain ⟨j, A9, m9, c9, hj, rfl, rfl, HBD, HBX⟩ := hrel
          obtain ⟨wv, rfl⟩ : ∃ v, v = wr := ⟨_, rfl⟩
          have hN24 : N ≤ 2400000 := HNB.out.2
          have HM9 : Hid (m9 ≤ 2400000) := Lib.hid (by
            have h1 := HBD.out.len
            have h2 := outA_len s t b N L j
            omega)
          by_cases hjlt : j < N
          · as_aux_lemma =>
            have HJLT := Lib.hid hjlt
            have hjlti : (j : Int) < (N : Int) := by omega
            have hj0 : (0 : Int) ≤ (j : Int) := by omega
            obtain ⟨bv, hbv⟩ := get_some (xs := seenA s t b N L) (k := j) (by rw [seen_len]; exact hjlt)
            obtain ⟨g', hg', -, -, hsc, hsf⟩ := own_get (HCL.out.below HBX.out).seen (k := j) (u := .bool bv) (by simp only [bools, List.getElem?_map, hbv]; rfl)
            injection hg' with hg'
            injection hg' with hg'
            subst hg'
            cases bv with
            | false =>
              as_aux_lemma =>
              have HFL := Lib.hid (outA_no hbv)
              clear hbv
              go_wp2_with fail
              go_roundw
              case rel => exact ⟨j + 1, A9, m9, c9, HJLT.out, by go_num, rfl, Lib.hid (by rw [HFL.out]; exact HBD.out), HBX⟩
              case measure => have := HJLT.out; simp [intOf]; omega
            | true =>
              as_aux_lemma =>
              have hbs := HBb.out; have hss := HS.out; have hts := HT.out
              have hb0 : ¬ b = 0 := by omega
              have hs0 : ¬ s = 0 := by omega
              have ht0 : ¬ t = 0 := by omega
              obtain ⟨q1, hq1⟩ : ∃ q1, q1 = (j : Int) / b := ⟨_, rfl⟩
              obtain ⟨q2, hq2⟩ : ∃ q2, q2 = q1 / s := ⟨_, rfl⟩
              have HFL : Hid (outA s t b N L (j + 1) = outA s t b N L j ++ [[q2 / t, q2 % t, q1 % s, (j : Int) % b]]) := Lib.hid (by rw [outA_yes hbv, hq2, hq1]; rfl)
              have b1 : 0 ≤ q1 ∧ q1 ≤ (j : Int) := by rw [hq1]; exact ⟨Int.ediv_nonneg hj0 (by omega), Int.ediv_le_self _ hj0⟩
              have b2 : 0 ≤ q2 ∧ q2 ≤ q1 := by rw [hq2]; exact ⟨Int.ediv_nonneg b1.1 (by omega), Int.ediv_le_self _ b1.1⟩
              have b3 : 0 ≤ q2 / t ∧ q2 / t ≤ q2 := ⟨Int.ediv_nonneg b2.1 (by omega), Int.ediv_le_self _ b2.1⟩
              have d1 := (tq (i := (j : Int)) (s := b) hj0 (by omega)).2
              rw [← hq1] at d1
              have d2 := (tq (i := q1) (s := s) b1.1 (by omega)).2
              rw [← hq2] at d2
              have d3 := (tq (i := q2) (s := t) b2.1 (by omega)).2
              have m1 := (tq (i := (j : Int)) (s := b) hj0 (by omega)).1
              have m2 := (tq (i := q1) (s := s) b1.1 (by omega)).1
              have m3 := (tq (i := q2) (s := t) b2.1 (by omega)).1
              have v1 := wr_of b1.1 (by omega)
              have v2 := wr_of b2.1 (by omega)
              have v3 := wr_of b3.1 (by omega)
              have HBWX : Hid (Below w.heap.size w wv) := Lib.hid (bqc HBX.out HBR.out)
              obtain ⟨z0, z1, -⟩ := (HM.out.bel HBWX.out).cells
              obtain ⟨v0, -⟩ := (H2.out.bel HBWX.out).cells
              obtain ⟨w5, hw5⟩ : ∃ w5, w5 = (wv.alloc (.cells #[.int .i64 (q2 / t), .int .i64 (q2 % t), .int .i64 (q1 % s), .int .i64 ((j : Int) % b)] 2)).drew := ⟨_, rfl⟩
              have HB75 : Hid (Below wv.heap.size wv w5) := Lib.hid (by rw [hw5]; exact bqd (bqa (Below.refl _ _)))
              have ho5 : w5.ownsRow wv.heap.size 2 1 (.slice (some ⟨wv.heap.size, 0, none⟩) 4 4) 4 (ints [q2 / t, q2 % t, q1 % s, (j : Int) % b]) := by
                rw [hw5]
                exact ownN_below (own4 wv _ _ _ _) (bqd (Below.refl _ _)) (Nat.le_refl _)
              have HLO7 : Hid (wo.heap.size ≤ wv.heap.size) := Lib.hid HBX.out.size
              obtain ⟨us8, hu1, hu2⟩ := HBD.out.step HB75.out ho5 (by omega) HLO7.out
              have HU1 := Lib.hid hu1; have HU2 := Lib.hid hu2
              have HB25 : Hid (Below wo.heap.size wo w5) := Lib.hid (bqc HB75.out HBX.out)
              have HLO5 : Hid (wo.heap.size ≤ w5.heap.size) := Lib.hid HB25.out.size
              have HBW5 := bqc HB25.out HBR.out
              obtain ⟨e0, e1, -⟩ := (HM.out.bel HBW5).cells
              obtain ⟨e2, -⟩ := (H2.out.bel HBW5).cells
              clear ho5 hu1 hu2 hq1 hq2 b1 b2 b3 hbs hss hts hbv HBW5
              go_wp2_with fail
              refine wp_region_held_drew (S := fun w' => w'.cell? ⟨gm, 0, none⟩ = some (.int .i64 s) ∧ w'.cell? ⟨gm, 1, none⟩ = some (.int .i64 t) ∧ w'.cell? ⟨g2, 0, none⟩ = some (.int .i64 b)) (by kernel_rfl) ?_ (fun hHeld => ?_)
              · (first | exact ⟨z0, z1, v0⟩ | exact ⟨cell_alX z0, cell_alX z1, cell_alX v0⟩ | exact ⟨e0, e1, e2⟩ | exact ⟨cell_alX e0, cell_alX e1, cell_alX e2⟩ | exact ⟨j0, j1, j2⟩ | go_keep)
              refine wpAnyH_take (i := 0) (oi := _) (v := ?_) rfl (by kernel_rfl) (by kernel_rfl) (by kernel_rfl) (fun _ _ _ h => h) (Or.inl ⟨by rfl, ?_⟩) (by assumption) ?_
              rotate_left
              · intro wS hSw
                (try dsimp only at hSw)
                simp only [List.getElem_toArray, List.getElem_cons_succ, List.getElem_cons_zero]
                first | (go_simp; done) | (go_simp; with_reducible rfl)
              try simp only [Act.put, List.setIfInBounds_toArray, List.set_cons_zero, List.set_cons_succ, List.getElem_toArray, List.getElem_cons_succ, List.getElem_cons_zero]
              refine wpAnyH_take (i := 1) (oi := _) (v := ?_) rfl (by kernel_rfl) (by kernel_rfl) (by kernel_rfl) (fun _ _ _ h => h) (Or.inl ⟨by rfl, ?_⟩) (by assumption) ?_
              rotate_left
              · intro wS hSw
                (try dsimp only at hSw)
                simp only [List.getElem_toArray, List.getElem_cons_succ, List.getElem_cons_zero]
                first | (go_simp; done) | (go_simp; with_reducible rfl)
              try simp only [Act.put, List.setIfInBounds_toArray, List.set_cons_zero, List.set_cons_succ, List.getElem_toArray, List.getElem_cons_succ, List.getElem_cons_zero]
              refine wpAnyH_take (i := 2) (oi := _) (v := ?_) rfl (by kernel_rfl) (by kernel_rfl) (by kernel_rfl) (fun _ _ _ h => h) (Or.inl ⟨by rfl, ?_⟩) (by assumption) ?_
              rotate_left
              · intro wS hSw
                (try dsimp only at hSw)
                simp only [List.getElem_toArray, List.getElem_cons_succ, List.getElem_cons_zero]
                first | (go_simp; done) | (go_simp; with_reducible rfl)
              try simp only [Act.put, List.setIfInBounds_toArray, List.set_cons_zero, List.set_cons_succ, List.getElem_toArray, List.getElem_cons_succ, List.getElem_cons_zero]
              refine wpAnyH_take (i := 3) (oi := _) (v := ?_) rfl (by kernel_rfl) (by kernel_rfl) (by kernel_rfl) (fun _ _ _ h => h) (Or.inl ⟨by rfl, ?_⟩) (by assumption) ?_
              rotate_left
              · intro wS hSw
                (try dsimp only at hSw)
                simp only [List.getElem_toArray, List.getElem_cons_succ, List.getElem_cons_zero]
                first | (go_simp; done) | (go_simp; with_reducible rfl)
              try simp only [Act.put, List.setIfInBounds_toArray, List.set_cons_zero, List.set_cons_succ, List.getElem_toArray, List.getElem_cons_succ, List.getElem_cons_zero]
              refine wpAnyH_take (i := 4) (oi := _) (v := ?_) rfl (by kernel_rfl) (by kernel_rfl) (by kernel_rfl) (fun _ _ _ h => h) (Or.inl ⟨by rfl, ?_⟩) (by assumption) ?_
              rotate_left
              · intro wS hSw
                (try dsimp only at hSw)
                simp only [List.getElem_toArray, List.getElem_cons_succ, List.getElem_cons_zero]
                first | (go_simp; done) | (go_simp; with_reducible rfl)
              try simp only [Act.put, List.setIfInBounds_toArray, List.set_cons_zero, List.set_cons_succ, List.getElem_toArray, List.getElem_cons_succ, List.getElem_cons_zero]
              refine wpAnyH_take (i := 5) (oi := _) (v := ?_) rfl (by kernel_rfl) (by kernel_rfl) (by kernel_rfl) (fun _ _ _ h => h) (Or.inl ⟨by rfl, ?_⟩) (by assumption) ?_
              rotate_left
              · intro wS hSw
                (try dsimp only at hSw)
                simp only [List.getElem_toArray, List.getElem_cons_succ, List.getElem_cons_zero]
                first | (go_simp; done) | (go_simp; with_reducible rfl)
              try simp only [Act.put, List.setIfInBounds_toArray, List.set_cons_zero, List.set_cons_succ, List.getElem_toArray, List.getElem_cons_succ, List.getElem_cons_zero]
              refine wpAnyH_take (i := 6) (oi := _) (v := ?_) rfl (by kernel_rfl) (by kernel_rfl) (by kernel_rfl) (fun _ _ _ h => h) (Or.inl ⟨by rfl, ?_⟩) (by assumption) ?_
              rotate_left
              · intro wS hSw
                (try dsimp only at hSw)
                simp only [List.getElem_toArray, List.getElem_cons_succ, List.getElem_cons_zero]
                first | (go_simp; done) | (go_simp; with_reducible rfl)
              try simp only [Act.put, List.setIfInBounds_toArray, List.set_cons_zero, List.set_cons_succ, List.getElem_toArray, List.getElem_cons_succ, List.getElem_cons_zero]
              refine wpAnyH_take (i := 7) (oi := _) (v := ?_) rfl (by kernel_rfl) (by kernel_rfl) (by kernel_rfl) (fun _ _ _ h => h) (Or.inl ⟨by rfl, ?_⟩) (by assumption) ?_
              rotate_left
              · intro wS hSw
                (try dsimp only at hSw)
                simp only [List.getElem_toArray, List.getElem_cons_succ, List.getElem_cons_zero]
                first | (go_simp; done) | (go_simp; with_reducible rfl)
              try simp only [Act.put, List.setIfInBounds_toArray, List.set_cons_zero, List.set_cons_succ, List.getElem_toArray, List.getElem_cons_succ, List.getElem_cons_zero]
              refine wpAnyH_take (i := 8) (oi := _) (v := ?_) rfl (by kernel_rfl) (by kernel_rfl) (by kernel_rfl) (fun _ _ _ h => h) (Or.inl ⟨by rfl, ?_⟩) (by assumption) ?_
              rotate_left
              · intro wS hSw
                (try dsimp only at hSw)
                simp only [List.getElem_toArray, List.getElem_cons_succ, List.getElem_cons_zero]
                first | (go_simp; done) | (go_simp; with_reducible rfl)
              try simp only [Act.put, List.setIfInBounds_toArray, List.set_cons_zero, List.set_cons_succ, List.getElem_toArray, List.getElem_cons_succ, List.getElem_cons_zero]
              refine wpAnyH_take (i := 9) (oi := _) (v := ?_) rfl (by kernel_rfl) (by kernel_rfl) (by kernel_rfl) (fun _ _ _ h => h) (Or.inl ⟨by rfl, ?_⟩) (by assumption) ?_
              rotate_left
              · intro wS hSw
                (try dsimp only at hSw)
                simp only [List.getElem_toArray, List.getElem_cons_succ, List.getElem_cons_zero]
                first | (go_simp; done) | (go_simp; with_reducible rfl)
              try simp only [Act.put, List.setIfInBounds_toArray, List.set_cons_zero, List.set_cons_succ, List.getElem_toArray, List.getElem_cons_succ, List.getElem_cons_zero]
              refine wpAnyH_take (i := 10) (oi := _) (v := ?_) rfl (by kernel_rfl) (by kernel_rfl) (by kernel_rfl) (fun _ _ _ h => h) (Or.inl ⟨by rfl, ?_⟩) (by assumption) ?_
              rotate_left
              · intro wS hSw
                (try dsimp only at hSw)
                simp only [List.getElem_toArray, List.getElem_cons_succ, List.getElem_cons_zero]
                first | (go_simp; done) | (go_simp; with_reducible rfl)
              try simp only [Act.put, List.setIfInBounds_toArray, List.set_cons_zero, List.set_cons_succ, List.getElem_toArray, List.getElem_cons_succ, List.getElem_cons_zero]
              refine wpAnyH_take (i := 11) (oi := _) (v := ?_) rfl (by kernel_rfl) (by kernel_rfl) (by kernel_rfl) (fun _ _ _ h => h) (Or.inl ⟨by rfl, ?_⟩) (by assumption) ?_
              rotate_left
              · intro wS hSw
                (try dsimp only at hSw)
                simp only [List.getElem_toArray, List.getElem_cons_succ, List.getElem_cons_zero]
                first | (go_simp; done) | (go_simp; with_reducible rfl)
              try simp only [Act.put, List.setIfInBounds_toArray, List.set_cons_zero, List.set_cons_succ, List.getElem_toArray, List.getElem_cons_succ, List.getElem_cons_zero]
              refine wpAnyH_take (i := 12) (oi := _) (v := ?_) rfl (by kernel_rfl) (by kernel_rfl) (by kernel_rfl) (fun _ _ _ h => h) (Or.inl ⟨by rfl, ?_⟩) (by assumption) ?_
              rotate_left
              · intro wS hSw
                (try dsimp only at hSw)
                simp only [List.getElem_toArray, List.getElem_cons_succ, List.getElem_cons_zero]
                first | (go_simp; done) | (go_simp; with_reducible rfl)
              try simp only [Act.put, List.setIfInBounds_toArray, List.set_cons_zero, List.set_cons_succ, List.getElem_toArray, List.getElem_cons_succ, List.getElem_cons_zero]
              refine wpAnyH_take (i := 13) (oi := _) (v := ?_) rfl (by kernel_rfl) (by kernel_rfl) (by kernel_rfl) (fun _ _ _ h => h) (Or.inl ⟨by rfl, ?_⟩) (by assumption) ?_
              rotate_left
              · intro wS hSw
                (try dsimp only at hSw)
                simp only [List.getElem_toArray, List.getElem_cons_succ, List.getElem_cons_zero]
                first | (go_simp; done) | (go_simp; with_reducible rfl)
              try simp only [Act.put, List.setIfInBounds_toArray, List.set_cons_zero, List.set_cons_succ, List.getElem_toArray, List.getElem_cons_succ, List.getElem_cons_zero]
              refine wpAnyH_take (i := 14) (oi := _) (v := ?_) rfl (by kernel_rfl) (by kernel_rfl) (by kernel_rfl) (fun _ _ _ h => h) (Or.inl ⟨by rfl, ?_⟩) (by assumption) ?_
              rotate_left
              · intro wS hSw
                (try dsimp only at hSw)
                simp only [List.getElem_toArray, List.getElem_cons_succ, List.getElem_cons_zero]
                first | (go_simp; done) | (go_simp; with_reducible rfl)
              try simp only [Act.put, List.setIfInBounds_toArray, List.set_cons_zero, List.set_cons_succ, List.getElem_toArray, List.getElem_cons_succ, List.getElem_cons_zero]
              refine wpAnyH_take (i := 15) (oi := _) (v := ?_) rfl (by kernel_rfl) (by kernel_rfl) (by kernel_rfl) (fun _ _ _ h => h) (Or.inl ⟨by rfl, ?_⟩) (by assumption) ?_
              rotate_left
              · intro wS hSw
                (try dsimp only at hSw)
                simp only [List.getElem_toArray, List.getElem_cons_succ, List.getElem_cons_zero]
                first | (go_simp; done) | (go_simp; with_reducible rfl)
              try simp only [Act.put, List.setIfInBounds_toArray, List.set_cons_zero, List.set_cons_succ, List.getElem_toArray, List.getElem_cons_succ, List.getElem_cons_zero]
              refine wpAnyH_take (i := 16) (oi := _) (v := ?_) rfl (by kernel_rfl) (by kernel_rfl) (by kernel_rfl) (fun _ _ _ h => h) (Or.inl ⟨by rfl, ?_⟩) (by assumption) ?_
              rotate_left
              · intro wS hSw
                (try dsimp only at hSw)
                simp only [List.getElem_toArray, List.getElem_cons_succ, List.getElem_cons_zero]
                first | (go_simp; done) | (go_simp; with_reducible rfl)
              try simp only [Act.put, List.setIfInBounds_toArray, List.set_cons_zero, List.set_cons_succ, List.getElem_toArray, List.getElem_cons_succ, List.getElem_cons_zero]
              refine wpAnyH_take (i := 17) (oi := _) (v := ?_) rfl (by kernel_rfl) (by kernel_rfl) (by kernel_rfl) (fun _ _ _ h => h) (Or.inl ⟨by rfl, ?_⟩) (by assumption) ?_
              rotate_left
              · intro wS hSw
                (try dsimp only at hSw)
                simp only [List.getElem_toArray, List.getElem_cons_succ, List.getElem_cons_zero]
                first | (go_simp; done) | (go_simp; with_reducible rfl)
              try simp only [Act.put, List.setIfInBounds_toArray, List.set_cons_zero, List.set_cons_succ, List.getElem_toArray, List.getElem_cons_succ, List.getElem_cons_zero]
              refine wpAnyH_take (i := 18) (oi := _) (v := ?_) rfl (by kernel_rfl) (by kernel_rfl) (by kernel_rfl) (fun _ _ _ h => h) (Or.inl ⟨by rfl, ?_⟩) (by assumption) ?_
              rotate_left
              · intro wS hSw
                (try dsimp only at hSw)
                simp only [List.getElem_toArray, List.getElem_cons_succ, List.getElem_cons_zero]
                first | (go_simp; done) | (go_simp; with_reducible rfl)
              try simp only [Act.put, List.setIfInBounds_toArray, List.set_cons_zero, List.set_cons_succ, List.getElem_toArray, List.getElem_cons_succ, List.getElem_cons_zero]
              refine wpAnyH_take (i := 19) (oi := _) (v := ?_) rfl (by kernel_rfl) (by kernel_rfl) (by kernel_rfl) (fun _ _ _ h => h) (Or.inl ⟨by rfl, ?_⟩) (by assumption) ?_
              rotate_left
              · intro wS hSw
                (try dsimp only at hSw)
                simp only [List.getElem_toArray, List.getElem_cons_succ, List.getElem_cons_zero]
                first | (go_simp; done) | (go_simp; with_reducible rfl)
              try simp only [Act.put, List.setIfInBounds_toArray, List.set_cons_zero, List.set_cons_succ, List.getElem_toArray, List.getElem_cons_succ, List.getElem_cons_zero]
              refine wpAnyH_take (i := 20) (oi := _) (v := ?_) rfl (by kernel_rfl) (by kernel_rfl) (by kernel_rfl) (fun _ _ _ h => h) (Or.inl ⟨by rfl, ?_⟩) (by assumption) ?_
              rotate_left
              · intro wS hSw
                (try dsimp only at hSw)
                simp only [List.getElem_toArray, List.getElem_cons_succ, List.getElem_cons_zero]
                first | (go_simp; done) | (go_simp; with_reducible rfl)
              try simp only [Act.put, List.setIfInBounds_toArray, List.set_cons_zero, List.set_cons_succ, List.getElem_toArray, List.getElem_cons_succ, List.getElem_cons_zero]
              refine wpAnyH_take (i := 21) (oi := _) (v := ?_) rfl (by kernel_rfl) (by kernel_rfl) (by kernel_rfl) (fun _ _ _ h => h) (Or.inl ⟨by rfl, ?_⟩) (by assumption) ?_
              rotate_left
              · intro wS hSw
                (try dsimp only at hSw)
                simp only [List.getElem_toArray, List.getElem_cons_succ, List.getElem_cons_zero]
                first | (go_simp; done) | (go_simp; with_reducible rfl)
              try simp only [Act.put, List.setIfInBounds_toArray, List.set_cons_zero, List.set_cons_succ, List.getElem_toArray, List.getElem_cons_succ, List.getElem_cons_zero]
              refine wpAnyH_take (i := 22) (oi := _) (v := ?_) rfl (by kernel_rfl) (by kernel_rfl) (by kernel_rfl) (fun _ _ _ h => h) (Or.inl ⟨by rfl, ?_⟩) (by assumption) ?_
              rotate_left
              · intro wS hSw
                (try dsimp only at hSw)
                simp only [List.getElem_toArray, List.getElem_cons_succ, List.getElem_cons_zero]
                first | (go_simp; done) | (go_simp; with_reducible rfl)
              try simp only [Act.put, List.setIfInBounds_toArray, List.set_cons_zero, List.set_cons_succ, List.getElem_toArray, List.getElem_cons_succ, List.getElem_cons_zero]
              refine wpAnyH_take (i := 23) (oi := _) (v := ?_) rfl (by kernel_rfl) (by kernel_rfl) (by kernel_rfl) (fun _ _ _ h => h) (Or.inl ⟨by rfl, ?_⟩) (by assumption) ?_
              rotate_left
              · intro wS hSw
                (try dsimp only at hSw)
                simp only [List.getElem_toArray, List.getElem_cons_succ, List.getElem_cons_zero]
                first | (go_simp; done) | (go_simp; with_reducible rfl)
              try simp only [Act.put, List.setIfInBounds_toArray, List.set_cons_zero, List.set_cons_succ, List.getElem_toArray, List.getElem_cons_succ, List.getElem_cons_zero]
              refine wpAnyH_take (i := 24) (oi := _) (v := ?_) rfl (by kernel_rfl) (by kernel_rfl) (by kernel_rfl) (fun _ _ _ h => h) (Or.inl ⟨by rfl, ?_⟩) (by assumption) ?_
              rotate_left
              · intro wS hSw
                (try dsimp only at hSw)
                simp only [List.getElem_toArray, List.getElem_cons_succ, List.getElem_cons_zero]
                first | (go_simp; done) | (go_simp; with_reducible rfl)
              try simp only [Act.put, List.setIfInBounds_toArray, List.set_cons_zero, List.set_cons_succ, List.getElem_toArray, List.getElem_cons_succ, List.getElem_cons_zero]
              refine wpAnyH_ready (rs := [25]) (by kernel_rfl) (by simp) ?_
              refine AllReadyH.cons (o := _) rfl (fun K hK => ?_) AllReadyH.nil
              try simp only [List.getElem_toArray, List.getElem_cons_succ, List.getElem_cons_zero]
              go_simp
              refine hK.out _ _ ?_ (fun hHeld => ?_)
              · (first | exact ⟨z0, z1, v0⟩ | exact ⟨cell_alX z0, cell_alX z1, cell_alX v0⟩ | exact ⟨e0, e1, e2⟩ | exact ⟨cell_alX e0, cell_alX e1, cell_alX e2⟩ | exact ⟨j0, j1, j2⟩ | go_keep)
              clear hK K
              try simp only [Act.put, List.setIfInBounds_toArray, List.set_cons_zero, List.set_cons_succ, List.getElem_toArray, List.getElem_cons_succ, List.getElem_cons_zero]
              rw [← hw5]
              clear hw5
              refine wpAnyH_ready (rs := [26]) (by kernel_rfl) (by simp) ?_
              refine AllReadyH.cons (o := _) rfl (fun K hK => ?_) AllReadyH.nil
              try simp only [List.getElem_toArray, List.getElem_cons_succ, List.getElem_cons_zero]
              go_simp
              refine hK.out _ _ ?_ (fun hHeld => ?_)
              · (first | exact ⟨z0, z1, v0⟩ | exact ⟨cell_alX z0, cell_alX z1, cell_alX v0⟩ | exact ⟨e0, e1, e2⟩ | exact ⟨cell_alX e0, cell_alX e1, cell_alX e2⟩ | exact ⟨j0, j1, j2⟩ | go_keep)
              clear hK K
              try simp only [Act.put, List.setIfInBounds_toArray, List.set_cons_zero, List.set_cons_succ, List.getElem_toArray, List.getElem_cons_succ, List.getElem_cons_zero]
              refine wpAnyH_ready (rs := [27]) (by kernel_rfl) (by simp) ?_
              refine AllReadyH.cons (o := _) rfl (fun K hK => ?_) AllReadyH.nil
              try simp only [List.getElem_toArray, List.getElem_cons_succ, List.getElem_cons_zero]
              refine step_app1H Try.eltS (by rfl) _ _ (by rfl) w5 _ (.slice (some ⟨wv.heap.size, 0, none⟩) 4 4) (by rfl) wo.heap.size (.slice A9 m9 c9) m9 us8 (by rfl) (by exact HU1.out) (by rfl) (by rfl) (by exact HLO5.out) (by have := HM9.out; omega) ?_
              intro A10 c10 w10 ho10 hg10
              have hb10 : Below wo.heap.size w5 w10 := below_grown hg10 HLO5.out (fun q hq => (HU1.out.lt q hq).1)
              have HB10 : Hid (Below wo.heap.size wo w10) := Lib.hid (HB25.out.trans hb10)
              have HBW10 := bqc HB10.out HBR.out
              obtain ⟨j0, j1, -⟩ := (HM.out.bel HBW10).cells
              obtain ⟨j2, -⟩ := (H2.out.bel HBW10).cells
              have HBN := Lib.hid (HU2.out _ _ _ ho10 hg10)
              clear ho10 hg10 hb10 HBW10
              refine hK.out _ _ ?_ (fun hHeld => ?_)
              · (first | exact ⟨z0, z1, v0⟩ | exact ⟨cell_alX z0, cell_alX z1, cell_alX v0⟩ | exact ⟨e0, e1, e2⟩ | exact ⟨cell_alX e0, cell_alX e1, cell_alX e2⟩ | exact ⟨j0, j1, j2⟩ | go_keep)
              clear hK K
              try simp only [Act.put, List.setIfInBounds_toArray, List.set_cons_zero, List.set_cons_succ, List.getElem_toArray, List.getElem_cons_succ, List.getElem_cons_zero]
              refine wpAnyH_ready (rs := [28]) (by kernel_rfl) (by simp) ?_
              refine AllReadyH.cons (o := _) rfl (fun K hK => ?_) AllReadyH.nil
              try simp only [List.getElem_toArray, List.getElem_cons_succ, List.getElem_cons_zero]
              go_simp
              refine hK.out _ _ ?_ (fun hHeld => ?_)
              · (first | exact ⟨z0, z1, v0⟩ | exact ⟨cell_alX z0, cell_alX z1, cell_alX v0⟩ | exact ⟨e0, e1, e2⟩ | exact ⟨cell_alX e0, cell_alX e1, cell_alX e2⟩ | exact ⟨j0, j1, j2⟩ | go_keep)
              clear hK K
              try simp only [Act.put, List.setIfInBounds_toArray, List.set_cons_zero, List.set_cons_succ, List.getElem_toArray, List.getElem_cons_succ, List.getElem_cons_zero]
              refine wpAnyH_done (by kernel_rfl) ?_ _
              clear e0 e1 e2 j0 j1 j2 z0 z1 v0 d1 d2 d3 m1 m2 m3 v1 v2 v3 hsc hsf
              go_wp2_with fail
              go_roundw
              case rel => exact ⟨j + 1, A10, m9 + 1, c10, HJLT.out, by go_num, rfl, Lib.hid (by rw [HFL.out]; exact HBN.out), HB10⟩
              case measure => have := HJLT.out; simp [intOf]; omega
          · as_aux_lemma =>
            obtain rfl : j = N := by omega
            have hjlti : ¬ (j : Int) < (j : Int) := by omega
            go_wp2_with fail
            go_ret2
            exact .inr ⟨L, _, A9, m9, c9, HCA.out, fun z hz => HLO.out z ((outA_mem HLO.out HN.out z).1 hz), outA_mem HLO.out HN.out, by have := HM9.out; omega, rfl, HBD.out.ownp.rdl, bqc HBX.out HBR.out⟩
end Go.Proofs.Ytcpkhhammafchaa
