/- Texts in one file: NcS, Fw, NcI. -/
import Derived.Test.YtanicbbgneobpaaGreatGF
import Derived.Test.YtanicbbgneobpaaGreatGJ
import Derived.Test.YtanicbbgneobpaaGreatGK
import Derived.Test.YtanicbbgneobpaaGreatGE
import Derived.Deep.DrawnRows
/- NextContexts (reference). Written by mk_nc.py. -/
namespace Go.Proofs.YtanicbbgneobpaaGreat
open Go.RowKit
set_option linter.unusedVariables false
set_option linter.unusedSimpArgs false
/-- What NextContexts leaves. -/
def NcPost (w : World) (r : Int × List (List Int) × Int) (e : Ending) (w' : World) : Prop := ∃ (A : Option Addr) (n c : Nat) (F : Nat → Prop), e = .returned (.tuple #[.int .i64 r.1, .slice A n c, .int .i64 r.2.2]) ∧ OwnP w' F A n c r.2.1 ∧ (∀ k, F k → w.heap.size ≤ k ∧ k < w'.heap.size) ∧ Below w.heap.size w w'
theorem nc_none {w w' : World} {z : Int} (h : Below w.heap.size w w') : NcPost w (0, [], z) (.returned (.tuple #[.int .i64 0, .slice none 0 0, .int .i64 z])) w' := ⟨none, 0, 0, fun _ => False, rfl, OwnP.nil _, by simp, h⟩
theorem drp_bel {w w' : World} (h : ∃ m, w' = w.drewN m) : Below w.heap.size w w' := by obtain ⟨m, rfl⟩ := h; exact below_drewN (Below.refl _ _)
theorem win_no {m s : Int} {ls : List (List Int)} {n : Nat} (hs : s ≤ 6) (hm : m ≤ 9) (hn : ls.length = n) (h : allTo (lenUp ls m) n = false ∨ overB s ls = false) : winB m s ls = false := by
  rw [← winB_spec hs hm, hn]
  rcases h with h | h <;> simp [h]
theorem win_yes {m s : Int} {ls : List (List Int)} {n : Nat} (hs : s ≤ 6) (hm : m ≤ 9) (hn : ls.length = n) (h1 : allTo (lenUp ls m) n = true) (h2 : overB s ls = true) : winB m s ls = true := by
  rw [← winB_spec hs hm, hn, h1, h2]; rfl
theorem take0 {xs : List Int} {f0 : Int} {h : Nat} (h1 : 1 ≤ h) (h2 : xs[0]? = some f0) : xs.take h = f0 :: (xs.take h).drop 1 := by
  cases xs with
  | nil => simp at h2
  | cons x r =>
    obtain rfl : x = f0 := by simpa using h2
    cases h with
    | zero => omega
    | succ h => simp
theorem ctx_sm {s t st : Int} {rs : List Rul} {xs : List Int} (h : ctxC s t rs st xs = 0) : ∀ x ∈ xs, SmI x := by
  obtain ⟨h1, _, _, h4, _⟩ := ctx_zero h
  obtain ⟨hs, _⟩ := okM_all h1
  intro x hx
  have := allIn_true.1 h4 x hx
  unfold SmI
  omega
end Go.Proofs.YtanicbbgneobpaaGreat
/- The contexts that can follow (program). Written by mk_fw.py. -/
namespace Go.Proofs.YtanicbbgneobpaaGreat
open Go.RowKit
set_option linter.unusedVariables false
set_option linter.unusedSimpArgs false
attribute [local go_sem ↓] Go.wp_at_zero Go.wp_at_succ
theorem rdL4 {w : World} {A1 A2 A3 A4 : Option Addr} {n1 c1 n2 c2 n3 c3 n4 c4 T : Nat} {x1 x2 x3 x4 : List Int} (h1 : Rd w A1 n1 (ints x1)) (h2 : Rd w A2 n2 (ints x2)) (h3 : Rd w A3 n3 (ints x3)) (h4 : Rd w A4 n4 (ints x4)) (b1 : n1 ≤ 1000000000) (b2 : n2 ≤ 1000000000) (b3 : n3 ≤ 1000000000) (b4 : n4 ≤ 1000000000) :
    RdL (w.alloc (.cells #[.slice A1 n1 c1, .slice A2 n2 c2, .slice A3 n3 c3, .slice A4 n4 c4] T)) (some ⟨w.heap.size, 0, none⟩) 4 [x1, x2, x3, x4] := by
  refine ⟨[.slice A1 n1 c1, .slice A2 n2 c2, .slice A3 n3 c3, .slice A4 n4 c4], own_rd (own_lit w #[.slice A1 n1 c1, .slice A2 n2 c2, .slice A3 n3 c3, .slice A4 n4 c4] 4 T rfl (by omega)), rfl, ?_⟩
  intro i v zs hv hz
  match i, hv, hz with
  | 0, hv, hz =>
    obtain rfl : Value.slice A1 n1 c1 = v := by simpa using hv
    obtain rfl : x1 = zs := by simpa using hz
    exact ⟨A1, n1, c1, rfl, b1, h1.alloc _⟩
  | 1, hv, hz =>
    obtain rfl : Value.slice A2 n2 c2 = v := by simpa using hv
    obtain rfl : x2 = zs := by simpa using hz
    exact ⟨A2, n2, c2, rfl, b2, h2.alloc _⟩
  | 2, hv, hz =>
    obtain rfl : Value.slice A3 n3 c3 = v := by simpa using hv
    obtain rfl : x3 = zs := by simpa using hz
    exact ⟨A3, n3, c3, rfl, b3, h3.alloc _⟩
  | 3, hv, hz =>
    obtain rfl : Value.slice A4 n4 c4 = v := by simpa using hv
    obtain rfl : x4 = zs := by simpa using hz
    exact ⟨A4, n4, c4, rfl, b4, h4.alloc _⟩
  | i + 4, hv, hz => simp at hv
theorem rdl_dr {w : World} {A : Option Addr} {n : Nat} {xss : List (List Int)} (h : RdL w A n xss) : RdL w.drew A n xss := h
theorem rd_pair {w : World} {At : Option Addr} {nt ct : Nat} {F : List Int} {x : Int} (h : Rd w At nt (ints F)) (hn : nt ≤ 1000000000) (T I : Nat) : RdL ((w.alloc (.cells #[.int .i64 x] I)).alloc (.cells #[.slice At nt ct, .slice (some ⟨w.heap.size, 0, none⟩) 1 1] T)) (some ⟨w.heap.size + 1, 0, none⟩) 2 [F, [x]] := by
  have h1 := rdL2 (c3 := ct) (c4 := 1) (T := T) (h.below (below_new w (.cells #[.int .i64 x] I)) (Nat.le_refl _)) (own_rd (tmp_new w (.int .i64 x) I) : Rd _ _ 1 (ints [x])) hn (by omega)
  rw [World.size_alloc] at h1
  exact h1
theorem rd_fourR {w : World} {A2 A3 A4 : Option Addr} {n2 c2 n3 c3 n4 c4 T I : Nat} {x2 x3 x4 : List Int} {y : Int} (h2 : Rd w A2 n2 (ints x2)) (h3 : Rd w A3 n3 (ints x3)) (h4 : Rd w A4 n4 (ints x4)) (b2 : n2 ≤ 1000000000) (b3 : n3 ≤ 1000000000) (b4 : n4 ≤ 1000000000) :
    RdL ((w.alloc (.cells #[.int .i64 y] I)).alloc (.cells #[.slice (some ⟨w.heap.size, 0, none⟩) 1 1, .slice A2 n2 c2, .slice A3 n3 c3, .slice A4 n4 c4] T)) (some ⟨w.heap.size + 1, 0, none⟩) 4 [[y], x2, x3, x4] := by
  have hb := below_new w (.cells #[.int .i64 y] I)
  have h1 := rdL4 (c1 := 1) (c2 := c2) (c3 := c3) (c4 := c4) (T := T) (own_rd (tmp_new w (.int .i64 y) I) : Rd _ _ 1 (ints [y])) (h2.below hb (Nat.le_refl _)) (h3.below hb (Nat.le_refl _)) (h4.below hb (Nat.le_refl _)) (by omega) b2 b3 b4
  rw [World.size_alloc] at h1
  exact h1
theorem rd_fourL {w : World} {A1 A2 A4 : Option Addr} {n1 c1 n2 c2 n4 c4 T I : Nat} {x1 x2 x4 : List Int} {y : Int} (h1 : Rd w A1 n1 (ints x1)) (h2 : Rd w A2 n2 (ints x2)) (h4 : Rd w A4 n4 (ints x4)) (b1 : n1 ≤ 1000000000) (b2 : n2 ≤ 1000000000) (b4 : n4 ≤ 1000000000) :
    RdL ((w.alloc (.cells #[.int .i64 y] I)).alloc (.cells #[.slice A1 n1 c1, .slice A2 n2 c2, .slice (some ⟨w.heap.size, 0, none⟩) 1 1, .slice A4 n4 c4] T)) (some ⟨w.heap.size + 1, 0, none⟩) 4 [x1, x2, [y], x4] := by
  have hb := below_new w (.cells #[.int .i64 y] I)
  have h3 := rdL4 (c1 := c1) (c2 := c2) (c3 := 1) (c4 := c4) (T := T) (h1.below hb (Nat.le_refl _)) (h2.below hb (Nat.le_refl _)) (own_rd (tmp_new w (.int .i64 y) I) : Rd _ _ 1 (ints [y])) (h4.below hb (Nat.le_refl _)) b1 b2 (by omega) b4
  rw [World.size_alloc] at h3
  exact h3
theorem row_two {w w7 : World} {o o' : Obj} {A : Option Addr} {n c : Nat} {xs : List Int} (ho : w7.ownsRow ((w.alloc o).alloc o').drew.heap.size 2 1 (.slice A n c) n (ints xs)) (hb : Below ((w.alloc o).alloc o').drew.heap.size ((w.alloc o).alloc o').drew w7) : Row w w7 A n c xs := by
  have h7 := und1 hb
  have hs : w.heap.size ≤ ((w.alloc o).alloc o').heap.size := by simp; omega
  exact Row.of (own_base (base' := w.heap.size) ho hs) (((((Below.refl w.heap.size w).alloc (Nat.le_refl _) o)).alloc (by simp) o').trans (h7.mono hs))
/-- What the walk through the symbols has. -/
structure FS (w0 wr : World) (A : Option Addr) (m c : Nat) (us : List Value) (xss : List (List Int)) : Prop where
  out : OwnX wr A m c us xss
  lo : ∀ q, FX A m c us q → w0.heap.size ≤ q
  bel : Below w0.heap.size w0 wr
theorem FS.below {w0 wr w' : World} {A : Option Addr} {m c : Nat} {us : List Value} {xss : List (List Int)} (h : FS w0 wr A m c us xss) (hb : Below wr.heap.size wr w') : FS w0 w' A m c us xss := ⟨h.out.below hb, h.lo, h.bel.trans (hb.mono h.bel.size)⟩
theorem FS.put {w0 w w2 w4 : World} {A A4 A2 : Option Addr} {m c c4 n2 c2 : Nat} {ys : List Int} {us : List Value} {xss : List (List Int)} (h : FS w0 w A m c us xss) (hr : Row w w2 A2 n2 c2 ys) (hn : n2 ≤ 1000000000) (ho4 : w4.ownsRow 0 25 1 (.slice A4 (m + 1) c4) (m + 1) (us ++ [.slice A2 n2 c2])) (hc4 : Ch (Fo (.slice A m c)) w2 w4) (hf : ∀ q, Fo (.slice A4 (m + 1) c4) q → Fo (.slice A m c) q ∨ w2.heap.size ≤ q) : FS w0 w4 A4 (m + 1) c4 (us ++ [.slice A2 n2 c2]) (xss ++ [ys]) := by
  obtain ⟨h1, h2⟩ := h.out.put hr hn ho4 hc4 hf
  have hb := h.bel.trans (hr.bel.mono h.bel.size)
  exact ⟨h1, fun q hq => (h2 q hq).elim (h.lo q) (fun h3 => Nat.le_trans h.bel.size h3), below_ch hb hc4 (fun q hq => h.lo q (.inl hq)) hb.size⟩
theorem al_hfw {P Q : Nat → Prop} {w : World} {o : Obj} (h : ∀ q, P q → Q q ∨ (w.alloc o).heap.size ≤ q) : ∀ q, P q → Q q ∨ w.heap.size ≤ q := fun q hq => (h q hq).elim .inl (fun h2 => .inr (by simp at h2; omega))
theorem below_alq {w0 w : World} {o : Obj} (h : Below w0.heap.size w0 w) : Below w0.heap.size w0 (w.alloc o) := h.alloc h.size _
set_option maxHeartbeats 16000000 in
set_option maxRecDepth 100000 in
theorem following_r (w : World) (s : Nat) (t : Int) (A : Option Addr) (n c : Nat) (hs : s ≤ 6) (ra rc : Int) (A1 : Option Addr) (n1 c1 h : Nat) (xs : List Int) (hr1 : Rd w A1 n1 (ints xs)) (hc1 : n1 ≤ c1) (hn1 : n1 = 2 * h + 1) (hh : 1 ≤ h ∧ h ≤ 4) (gl ml gr mr : Nat) (ln : Int) (ws : List (List Int)) (hset : IsSet w gr mr ln ws) (hws : ∀ ys ∈ ws, Gw ys ∧ ys.length = h) (f0 : Int) (F bh P Q : List Int)
    (hF : xs.drop (h + 2) = F) (hf0 : xs[h + 1]? = some f0) (hbh : bh = ra :: xs.take (h - 1)) (hP : P = bh ++ [f0]) (hQ : Q = []) (hgF : ∀ x ∈ F, SmI x) :
    Calls Tryz.prog 128 #[mchV (s : Int) t A n c, rulV ⟨ra, 1, rc⟩, .slice A1 n1 c1, .pointer (some ⟨gl, 0, none⟩), .pointer (some ⟨gr, 0, none⟩)] w (RetP w (nx P F Q ws s)) := by
  obtain ⟨w0, hw0⟩ : ∃ w0, w0 = (w.alloc (.cells #[.int .i64 (s : Int), .int .i64 t, .slice A n c] 37)).alloc (.cells #[.int .i64 ra, .int .i64 (1), .int .i64 rc] 97) := ⟨_, rfl⟩
  have hB : Below w.heap.size w w0 := by rw [hw0]; exact (below_new w _).trans ((below_new _ _).mono (by simp))
  have hx5 : w0.heap[w.heap.size]? = some (.cells #[.int .i64 (s : Int), .int .i64 t, .slice A n c] 37 (0, 0)) := by rw [hw0]; exact blk_alloc (box_new w _ _) _
  have hx6 : w0.heap[w.heap.size + 1]? = some (.cells #[.int .i64 ra, .int .i64 (1), .int .i64 rc] 97 (0, 0)) := by rw [hw0]; have h := box_new (w.alloc (.cells #[.int .i64 (s : Int), .int .i64 t, .slice A n c] 37)) #[.int .i64 ra, .int .i64 (1), .int .i64 rc] 97; simpa using h
  have hl : xs.length = n1 := by simpa using hr1.1
  have ed : Int.tdiv (n1 : Int) 2 = (h : Int) := by rw [Int.tdiv_eq_ediv_of_nonneg (by omega)]; omega
  have hwh : IntKind.i64.wrap ((h : Int) + 1) = (h : Int) + 1 := IntWalk.i64_in _ (by omega)
  have hwh2 : IntKind.i64.wrap ((h : Int) + 2) = (h : Int) + 2 := IntWalk.i64_in _ (by omega)
  have hwh3 : IntKind.i64.wrap (2 * (h : Int)) = 2 * (h : Int) := IntWalk.i64_in _ (by omega)
  have hwm : IntKind.i64.wrap ((h : Int) - 1) = ((h - 1 : Nat) : Int) := by rw [IntWalk.i64_in _ (by omega)]; omega
  have hcT := fun (w : World) => run_cutF Tryz.underlying25 Tryz.szI w A1 n1 c1 (h + 2) ((h : Int) + 2) .i64 (by push_cast; rfl) (by omega)
  have hc2 := fun (w : World) => run_cutH Tryz.underlying25 Tryz.szI w A1 n1 c1 (h - 1) ((h - 1 : Nat) : Int) .i64 rfl (by omega)
  have hc3 := fun (w : World) => run_cutFH Tryz.underlying25 Tryz.szI w A1 n1 c1 (h + 1) (h + 2) ((h : Int) + 1) ((h : Int) + 2) .i64 .i64 (by push_cast; rfl) (by push_cast; rfl) (by omega) (by omega)
  have eT : n1 - (h + 2) = h - 1 := by omega
  have e3 : (h + 2) - (h + 1) = 1 := by omega
  rw [e3] at hc3
  rw [eT] at hcT
  have hrT : Rd w (cutA A1 (h + 2) c1 1) (h - 1) (ints F) := by
    have h := hr1.cut (h + 2) c1 (by omega) hc1; rwa [eT, ← List.map_drop, hF] at h
  have hr2 : Rd w A1 (h - 1) (ints (xs.take (h - 1))) := by
    have h := hr1.take (h - 1) (by omega); rwa [← List.map_take] at h
  have hr3 : Rd w (cutA A1 (h + 1) c1 1) 1 (ints [f0]) := by
    have h2 := (hr1.cut (h + 1) c1 (by omega) hc1).take 1 (by omega); have e : ((ints xs).drop (h + 1)).take 1 = ints [f0] := by rw [← List.map_drop, drop_get hf0]; rfl
    rwa [e] at h2
  have hFl : F.length = h - 1 := by have h1 := hrT.1; simpa using h1
  generalize (cutA A1 (h + 2) c1 1) = AT at *
  generalize c1 - (h + 2) = cT at *
  generalize cutA A1 (h + 1) c1 1 = A3 at *
  generalize c1 - (h + 1) = c3 at *
  have HFL := Lib.hid hFl
  have HPQ : Hid (∀ j : Nat, ([[ra], xs.take (h - 1), [f0], F ++ [(j : Int)]] : List (List Int)).flatten = P ++ F ++ [(j : Int)] ++ Q) := Lib.hid (fun j => by rw [hP, hQ, hbh]; simp)
  have HPL : Hid (∀ j : Nat, (([[ra], xs.take (h - 1), [f0], F ++ [(j : Int)]] : List (List Int)).flatten).length ≤ 100) := Lib.hid (fun j => by simp [hFl, List.length_take, hl]; omega)
  have HRT := Lib.hid (hrT.below hB (Nat.le_refl _)); have HRP2 := Lib.hid (hr2.below hB (Nat.le_refl _)); have HRP3 := Lib.hid (hr3.below hB (Nat.le_refl _))
  have HSET := Lib.hid (hset.below hB)
  have HWS := Lib.hid hws
  have HGF := Lib.hid hgF
  have HB := Lib.hid hB
  have HX5 := Lib.hid hx5; have HX6 := Lib.hid hx6
  have HU1 : Hid (∀ A n c, ∀ u ∈ [Value.slice A n c], u.oneCell' = true) := Lib.hid (by simp [Value.oneCell'])
  have HHM : Hid (h - 1 ≤ 1000000000) := Lib.hid (by omega)
  have HHB : Hid (1 ≤ h ∧ h ≤ 4 ∧ h - 1 + 1 = h) := Lib.hid ⟨hh.1, hh.2, by omega⟩
  have h1le : (1 : Int) ≤ (h : Int) := by omega
  have i2 : (h : Int) ≤ 4 := by omega
  have i2' : h < n1 := by omega
  have j1 : (h : Int) + 1 ≤ (n1 : Int) := by omega
  have j2 : h + 1 ≤ n1 := by omega
  have j3 : (h : Int) ≤ (c1 : Int) := by omega
  have j4 : h ≤ c1 := by omega
  have j5 : h - 1 ≤ 3 := by omega
  have hmv : (((1) : Int) == 1) = true := by decide
  generalize hhm : h - 1 = hm1 at *
  have y0 := blk_cell hx5 0 rfl
  clear hB hx5 hx6 hr1 hr2 hr3 hrT hset hws hF hf0 hbh hP hQ hgF hFl hl hhm eT e3 hn1 hc1 hh
  go_enter Tryz.func128, Tryz.ntmps128
  go_upto_region 1 with fail
  rw [← hw0]
  clear hw0
  as_aux_lemma =>
  go_upto_region 2 with fail
  obtain ⟨w4, hw4⟩ : ∃ w4, w4 = w0.alloc (.cells #[] 25) := ⟨_, rfl⟩
  have HNS : Hid (FS w0 w4 (some ⟨w0.heap.size, 0, none⟩) 0 0 [] (nx P F Q ws 0)) := Lib.hid (by
    rw [hw4]
    have ho := own_lit w0 #[] 0 25 rfl (by omega)
    refine ⟨⟨ownN_base ho (Nat.zero_le _), InnerP.nil _ _⟩, fun q hq => ?_, below_new _ _⟩
    rcases hq with hq | ⟨u, hu, _⟩
    · exact (ho.lt q hq).1
    · simp at hu)
  rw [← hw4]
  clear hw4 y0
  have y0 := blk_cell (blk_bel HX5.out HNS.out.bel) 0 rfl
  as_aux_lemma =>
  go_wp2_with fail
  go_loopw [12, 22] (fun qo qx wr => ∃ (j m : Nat) (A : Option Addr) (c : Nat) (us : List Value), j ≤ s ∧ qx = .int .i64 j ∧ qo = .slice A m c ∧ FS w0 wr A m c us (nx P F Q ws j)) (fun _ qx _ => s - (intOf qx).toNat)
  case atStart => exact ⟨0, 0, _, _, _, by omega, rfl, rfl, HNS.out⟩
  case round =>
    as_aux_lemma =>
    obtain ⟨j, m, A, c, us, hj, rfl, rfl, hns⟩ := hrel
    have HN := Lib.hid hns
    have HMJ : Hid (m + 1 ≤ 1099511627776) := Lib.hid (by have h1 := hns.out.ownp.len; have h2 := nx_len P F Q ws j; omega)
    have hx5 := blk_bel HX5.out hns.bel
    have hx6 := blk_bel HX6.out hns.bel
    have x0 := blk_cell hx6 0 rfl
    have x1 := blk_cell hx6 1 rfl
    have HBW := Lib.hid hns.bel
    clear y0 hns hx5 hx6
    by_cases hlt : j < s
    · as_aux_lemma =>
      have hlt' : (j : Int) < (s : Int) := by omega
      have hwj : IntKind.i64.wrap ((j : Int) + 1) = (j : Int) + 1 := IntWalk.i64_in _ (by omega)
      have HQT := Lib.hid (HRT.out.below HBW.out (Nat.le_refl _))
      go_wp2_with fail
      refine (joined_any _ _ 2 _ [F, [(j : Int)]] (rd_pair HQT.out HHM.out _ _) (by decide) (by have h1 := HFL.out; have h2 := HHB.out; simp; omega)).mono ?_
      rintro e w5 ⟨A5, k5, c5, rfl, ho5, hb5⟩
      have HR5 : Hid (Row wr w5 A5 k5 c5 (F ++ [(j : Int)])) := Lib.hid (by
        have e : [F, [(j : Int)]].flatten = F ++ [(j : Int)] := by simp
        rw [e] at ho5
        exact Row.of (own_base (base' := wr.heap.size) ho5 (by simp; omega)) ((below_alq (below_alq (Below.refl wr.heap.size wr))).trans (hb5.mono (by simp; omega))))
      have HK5 : Hid (k5 ≤ 1000000000) := Lib.hid (HR5.out.bd (by have h1 := HFL.out; have h2 := HHB.out; simp; omega))
      have HGX : Hid (Gw (F ++ [(j : Int)])) := Lib.hid (by
        refine ⟨by have h1 := HFL.out; have h2 := HHB.out; simp; omega, fun x hx => ?_⟩
        rcases List.mem_append.1 hx with hx | hx
        · exact HGF.out x hx
        · simp at hx; subst hx; unfold SmI; omega)
      have HWX : Hid (∀ ys ∈ ws, Gw ys ∧ ys.length = (F ++ [(j : Int)]).length) := Lib.hid (fun ys hy => by
        have h1 := HWS.out ys hy; have h2 := HFL.out; have h3 := HHB.out
        exact ⟨h1.1, by rw [h1.2]; simp; omega⟩)
      clear ho5 hb5 x0 x1
      as_aux_lemma =>
      go_wp2_with fail
      refine (has_any _ gr mr ln ws (HSET.out.below (HBW.out.trans (HR5.out.bel.mono HBW.out.size))) A5 k5 c5 (F ++ [(j : Int)]) (own_rd HR5.out.own) HGX.out HWX.out).mono ?_
      rintro e w6 ⟨rfl, hb6⟩
      have HR6 : Hid (Row wr w6 A5 k5 c5 (F ++ [(j : Int)])) := Lib.hid (HR5.out.below hb6)
      have HN6 : Hid (FS w0 w6 A m c us (nx P F Q ws j)) := Lib.hid (HN.out.below HR6.out.bel)
      have hx6 := blk_bel HX6.out HN6.out.bel
      have hx5 := blk_bel HX5.out HN6.out.bel
      have x0 := blk_cell hx6 0 rfl
      have x1 := blk_cell hx6 1 rfl
      have HBW6 := Lib.hid HN6.out.bel
      clear hb6 hx6 hx5
      by_cases hin : F ++ [(j : Int)] ∈ ws
      · have HIN := Lib.hid hin
        rw [decide_eq_true hin]
        clear hin
        as_aux_lemma =>
        have HQS := Lib.hid (own_rd HR6.out.own)
        have HQ2 := Lib.hid (HRP2.out.below HBW6.out (Nat.le_refl _)); have HQ3 := Lib.hid (HRP3.out.below HBW6.out (Nat.le_refl _))
        have HPJ := Lib.hid (HPL.out j)
        have HPX := Lib.hid (HPQ.out j)
        have HKL : Hid ((([[ra], xs.take hm1, [f0], F ++ [(j : Int)]] : List (List Int)).flatten).length ≤ 1000000000) := Lib.hid (Nat.le_trans HPJ.out (by decide))
        have HK100 : Hid (∀ k : Nat, k ≤ 100 → k ≤ 1000000000) := Lib.hid (fun k h => by omega)
        go_wp2_with fail
        have hx6 := blk_bel HX6.out HN6.out.bel
        have z0 := blk_cell hx6 0 rfl
        have z1 := blk_cell (blk_alloc hx6 (.cells #[.int .i64 ra] 2)) 0 rfl
        have z2 := blk_cell (blk_alloc (blk_alloc hx6 (.cells #[.int .i64 ra] 2)) (.cells #[.slice (some ⟨w6.heap.size, 0, none⟩) 1 1, .slice A1 hm1 c1, .slice A3 1 c3, .slice A5 k5 c5] 25)) 0 rfl
        clear hx6
        (first
          | (go_region_held3 (fun w' => w'.cell? ⟨w.heap.size + 1, 0, none⟩ = some (.int .i64 ra)) (first | exact z0 | exact z1 | exact z2 | exact z3 | exact z4 | exact z5) ((first
              | (have hq := HR7.out
                 clear hq
                 refine step_appOz Tryz.eltS (by rfl) (.tmp 39) (.tmp 56) (by rfl) _ 0 A _ m c 1 _ us [.slice A7 k7 c7] (by rfl) (by exact ((HN6.out.below HR7.out.bel).out.below (below_new _ _)).1) (by rfl) (by exact own_rd (base := 0) (c := 1) (e := 25) (tmp_new _ _ _)) (by exact HU1.out _ _ _) (by exact HMJ.out) ?_
                 intro A8 c8 w8 ho8 hch8 hfo8
                 have HP := Lib.hid (HN6.out.put HR7.out (HK100.out _ HK7.out) ho8 ((ch_alloc (Fo (.slice A m c)) w7 (.cells #[.slice A7 k7 c7] 25)).trans hch8) (al_hfw hfo8))
                 have z5 := blk_cell (blk_bel HX6.out HP.out.bel) 0 rfl
                 clear ho8 hch8 hfo8)
              | (go_simp
                 go_at_call 40
                 refine (joined_any _ _ 4 _ [[ra], xs.take hm1, [f0], F ++ [(j : Int)]] (by first | exact rdl_dr (rd_fourR HQ2.out HQ3.out HQS.out HHM.out (by decide) HK5.out) | exact rd_fourR HQ2.out HQ3.out HQS.out HHM.out (by decide) HK5.out) (by decide) (by exact HKL.out)).mono ?_
                 rintro e w7 ⟨A7, k7, c7, rfl, ho7, hb7⟩
                 have HR7 : Hid (Row w6 w7 A7 k7 c7 (P ++ F ++ [(j : Int)] ++ Q)) := Lib.hid (by rw [HPX.out] at ho7; exact row_two ho7 hb7)
                 have HK7 : Hid (k7 ≤ 100) := Lib.hid (HR7.out.bd (by rw [← HPX.out]; exact HPJ.out))
                 have hx7 := blk_bel HX6.out (HBW6.out.trans (HR7.out.bel.mono HBW6.out.size))
                 have z3 := blk_cell hx7 0 rfl
                 have z4 := blk_cell (blk_alloc hx7 (.cells #[.slice A7 k7 c7] 25)) 0 rfl
                 clear hx7
                 clear ho7 hb7))))
          | fail)
        all_goals
          as_aux_lemma =>
          go_wp2_with fail
          go_roundw
          case rel => exact ⟨j + 1, m + 1, A8, c8, _, by omega, by go_num, rfl, by rw [nx_yes HIN.out]; exact HP.out⟩
          case measure => simp [intOf]; omega
      · have HIN := Lib.hid hin
        rw [decide_eq_false hin]
        clear hin
        as_aux_lemma =>
        go_wp2_with fail
        go_roundw
        case rel => exact ⟨j + 1, m, A, c, us, by omega, by go_num, rfl, by rw [nx_no HIN.out]; exact HN6.out⟩
        case measure => simp [intOf]; omega
    · obtain rfl : s = j := by omega
      as_aux_lemma =>
      go_wp2_with fail
      go_ret
      have hz := HB.out.trans (HBW.out.mono HB.out.size)
      exact ⟨A, m, c, FX A m c us, rfl, HN.out.out.ownp, fun q hq => ⟨Nat.le_trans HB.out.size (HN.out.lo q hq), HN.out.out.lt hq⟩, hz⟩
set_option maxHeartbeats 16000000 in
set_option maxRecDepth 100000 in
theorem following_l (w : World) (s : Nat) (t : Int) (A : Option Addr) (n c : Nat) (hs : s ≤ 6) (ra rc : Int) (A1 : Option Addr) (n1 c1 h : Nat) (xs : List Int) (hr1 : Rd w A1 n1 (ints xs)) (hc1 : n1 ≤ c1) (hn1 : n1 = 2 * h + 1) (hh : 1 ≤ h ∧ h ≤ 4) (gl ml gr mr : Nat) (ln : Int) (ws : List (List Int)) (hset : IsSet w gl ml ln ws) (hws : ∀ ys ∈ ws, Gw ys ∧ ys.length = h) (f0 : Int) (F bh P Q : List Int)
    (hF : (xs.take h).drop 1 = F) (hf0 : xs[0]? = some f0) (hbh : bh = ra :: (xs.drop (h + 1)).take (h - 1)) (hP : P = []) (hQ : Q = [f0] ++ bh) (hgF : ∀ x ∈ F, SmI x) :
    Calls Tryz.prog 128 #[mchV (s : Int) t A n c, rulV ⟨ra, -1, rc⟩, .slice A1 n1 c1, .pointer (some ⟨gl, 0, none⟩), .pointer (some ⟨gr, 0, none⟩)] w (RetP w (nx P F Q ws s)) := by
  obtain ⟨w0, hw0⟩ : ∃ w0, w0 = (w.alloc (.cells #[.int .i64 (s : Int), .int .i64 t, .slice A n c] 37)).alloc (.cells #[.int .i64 ra, .int .i64 (-1), .int .i64 rc] 97) := ⟨_, rfl⟩
  have hB : Below w.heap.size w w0 := by rw [hw0]; exact (below_new w _).trans ((below_new _ _).mono (by simp))
  have hx5 : w0.heap[w.heap.size]? = some (.cells #[.int .i64 (s : Int), .int .i64 t, .slice A n c] 37 (0, 0)) := by rw [hw0]; exact blk_alloc (box_new w _ _) _
  have hx6 : w0.heap[w.heap.size + 1]? = some (.cells #[.int .i64 ra, .int .i64 (-1), .int .i64 rc] 97 (0, 0)) := by rw [hw0]; have h := box_new (w.alloc (.cells #[.int .i64 (s : Int), .int .i64 t, .slice A n c] 37)) #[.int .i64 ra, .int .i64 (-1), .int .i64 rc] 97; simpa using h
  have hl : xs.length = n1 := by simpa using hr1.1
  have ed : Int.tdiv (n1 : Int) 2 = (h : Int) := by rw [Int.tdiv_eq_ediv_of_nonneg (by omega)]; omega
  have hwh : IntKind.i64.wrap ((h : Int) + 1) = (h : Int) + 1 := IntWalk.i64_in _ (by omega)
  have hwh2 : IntKind.i64.wrap ((h : Int) + 2) = (h : Int) + 2 := IntWalk.i64_in _ (by omega)
  have hwh3 : IntKind.i64.wrap (2 * (h : Int)) = 2 * (h : Int) := IntWalk.i64_in _ (by omega)
  have hwm : IntKind.i64.wrap ((h : Int) - 1) = ((h - 1 : Nat) : Int) := by rw [IntWalk.i64_in _ (by omega)]; omega
  have hcT := fun (w : World) => run_cutFH Tryz.underlying25 Tryz.szI w A1 n1 c1 1 h 1 (h : Int) .i64 .i64 rfl rfl (by omega) (by omega)
  have hc2 := fun (w : World) => run_cutH Tryz.underlying25 Tryz.szI w A1 n1 c1 1 1 .i64 rfl (by omega)
  have hc3 := fun (w : World) => run_cutFH Tryz.underlying25 Tryz.szI w A1 n1 c1 (h + 1) (2 * h) ((h : Int) + 1) (2 * (h : Int)) .i64 .i64 (by push_cast; rfl) (by push_cast; rfl) (by omega) (by omega)
  have eT : h - 1 = h - 1 := by omega
  have e3 : 2 * h - (h + 1) = h - 1 := by omega
  rw [e3] at hc3
  
  have hrT : Rd w (cutA A1 1 c1 1) (h - 1) (ints F) := by
    have h2 := (hr1.take h (by omega)); rw [← List.map_take] at h2; have h3 := h2.cut 1 c1 (by omega) (by omega); rwa [← List.map_drop, hF] at h3
  have hr2 : Rd w A1 1 (ints [f0]) := by
    have h2 := hr1.take 1 (by omega); have e : (ints xs).take 1 = ints [f0] := by rw [← List.map_take, ← List.drop_zero (l := xs), drop_get hf0]; rfl
    rwa [e] at h2
  have hr3 : Rd w (cutA A1 (h + 1) c1 1) (h - 1) (ints ((xs.drop (h + 1)).take (h - 1))) := by
    have h2 := (hr1.cut (h + 1) c1 (by omega) hc1).take (h - 1) (by omega); rwa [← List.map_drop, ← List.map_take] at h2
  have hFl : F.length = h - 1 := by have h1 := hrT.1; simpa using h1
  generalize (cutA A1 1 c1 1) = AT at *
  generalize c1 - 1 = cT at *
  generalize cutA A1 (h + 1) c1 1 = A3 at *
  generalize c1 - (h + 1) = c3 at *
  have HFL := Lib.hid hFl
  have HPQ : Hid (∀ j : Nat, ([F ++ [(j : Int)], [f0], [ra], (xs.drop (h + 1)).take (h - 1)] : List (List Int)).flatten = P ++ F ++ [(j : Int)] ++ Q) := Lib.hid (fun j => by rw [hP, hQ, hbh]; simp)
  have HPL : Hid (∀ j : Nat, (([F ++ [(j : Int)], [f0], [ra], (xs.drop (h + 1)).take (h - 1)] : List (List Int)).flatten).length ≤ 100) := Lib.hid (fun j => by simp [hFl, List.length_take, hl]; omega)
  have HRT := Lib.hid (hrT.below hB (Nat.le_refl _)); have HRP2 := Lib.hid (hr2.below hB (Nat.le_refl _)); have HRP3 := Lib.hid (hr3.below hB (Nat.le_refl _))
  have HSET := Lib.hid (hset.below hB)
  have HWS := Lib.hid hws
  have HGF := Lib.hid hgF
  have HB := Lib.hid hB
  have HX5 := Lib.hid hx5; have HX6 := Lib.hid hx6
  have HU1 : Hid (∀ A n c, ∀ u ∈ [Value.slice A n c], u.oneCell' = true) := Lib.hid (by simp [Value.oneCell'])
  have HHM : Hid (h - 1 ≤ 1000000000) := Lib.hid (by omega)
  have HHB : Hid (1 ≤ h ∧ h ≤ 4 ∧ h - 1 + 1 = h) := Lib.hid ⟨hh.1, hh.2, by omega⟩
  have h1le : (1 : Int) ≤ (h : Int) := by omega
  have i2 : (h : Int) ≤ 4 := by omega
  have i2' : h < n1 := by omega
  have j1 : (h : Int) + 1 ≤ (n1 : Int) := by omega
  have j2 : h + 1 ≤ n1 := by omega
  have j3 : (h : Int) ≤ (c1 : Int) := by omega
  have j4 : h ≤ c1 := by omega
  have j5 : h - 1 ≤ 3 := by omega
  have hmv : (((-1) : Int) == 1) = false := by decide
  generalize hhm : h - 1 = hm1 at *
  have y0 := blk_cell hx5 0 rfl
  clear hB hx5 hx6 hr1 hr2 hr3 hrT hset hws hF hf0 hbh hP hQ hgF hFl hl hhm eT e3 hn1 hc1 hh
  go_enter Tryz.func128, Tryz.ntmps128
  go_upto_region 1 with fail
  rw [← hw0]
  clear hw0
  as_aux_lemma =>
  go_upto_region 2 with fail
  obtain ⟨w4, hw4⟩ : ∃ w4, w4 = w0.alloc (.cells #[] 25) := ⟨_, rfl⟩
  have HNS : Hid (FS w0 w4 (some ⟨w0.heap.size, 0, none⟩) 0 0 [] (nx P F Q ws 0)) := Lib.hid (by
    rw [hw4]
    have ho := own_lit w0 #[] 0 25 rfl (by omega)
    refine ⟨⟨ownN_base ho (Nat.zero_le _), InnerP.nil _ _⟩, fun q hq => ?_, below_new _ _⟩
    rcases hq with hq | ⟨u, hu, _⟩
    · exact (ho.lt q hq).1
    · simp at hu)
  rw [← hw4]
  clear hw4 y0
  have y0 := blk_cell (blk_bel HX5.out HNS.out.bel) 0 rfl
  as_aux_lemma =>
  go_wp2_with fail
  go_loopw [12, 22] (fun qo qx wr => ∃ (j m : Nat) (A : Option Addr) (c : Nat) (us : List Value), j ≤ s ∧ qx = .int .i64 j ∧ qo = .slice A m c ∧ FS w0 wr A m c us (nx P F Q ws j)) (fun _ qx _ => s - (intOf qx).toNat)
  case atStart => exact ⟨0, 0, _, _, _, by omega, rfl, rfl, HNS.out⟩
  case round =>
    as_aux_lemma =>
    obtain ⟨j, m, A, c, us, hj, rfl, rfl, hns⟩ := hrel
    have HN := Lib.hid hns
    have HMJ : Hid (m + 1 ≤ 1099511627776) := Lib.hid (by have h1 := hns.out.ownp.len; have h2 := nx_len P F Q ws j; omega)
    have hx5 := blk_bel HX5.out hns.bel
    have hx6 := blk_bel HX6.out hns.bel
    have x0 := blk_cell hx6 0 rfl
    have x1 := blk_cell hx6 1 rfl
    have HBW := Lib.hid hns.bel
    clear y0 hns hx5 hx6
    by_cases hlt : j < s
    · as_aux_lemma =>
      have hlt' : (j : Int) < (s : Int) := by omega
      have hwj : IntKind.i64.wrap ((j : Int) + 1) = (j : Int) + 1 := IntWalk.i64_in _ (by omega)
      have HQT := Lib.hid (HRT.out.below HBW.out (Nat.le_refl _))
      go_wp2_with fail
      refine (joined_any _ _ 2 _ [F, [(j : Int)]] (rd_pair HQT.out HHM.out _ _) (by decide) (by have h1 := HFL.out; have h2 := HHB.out; simp; omega)).mono ?_
      rintro e w5 ⟨A5, k5, c5, rfl, ho5, hb5⟩
      have HR5 : Hid (Row wr w5 A5 k5 c5 (F ++ [(j : Int)])) := Lib.hid (by
        have e : [F, [(j : Int)]].flatten = F ++ [(j : Int)] := by simp
        rw [e] at ho5
        exact Row.of (own_base (base' := wr.heap.size) ho5 (by simp; omega)) ((below_alq (below_alq (Below.refl wr.heap.size wr))).trans (hb5.mono (by simp; omega))))
      have HK5 : Hid (k5 ≤ 1000000000) := Lib.hid (HR5.out.bd (by have h1 := HFL.out; have h2 := HHB.out; simp; omega))
      have HGX : Hid (Gw (F ++ [(j : Int)])) := Lib.hid (by
        refine ⟨by have h1 := HFL.out; have h2 := HHB.out; simp; omega, fun x hx => ?_⟩
        rcases List.mem_append.1 hx with hx | hx
        · exact HGF.out x hx
        · simp at hx; subst hx; unfold SmI; omega)
      have HWX : Hid (∀ ys ∈ ws, Gw ys ∧ ys.length = (F ++ [(j : Int)]).length) := Lib.hid (fun ys hy => by
        have h1 := HWS.out ys hy; have h2 := HFL.out; have h3 := HHB.out
        exact ⟨h1.1, by rw [h1.2]; simp; omega⟩)
      clear ho5 hb5 x0 x1
      as_aux_lemma =>
      go_wp2_with fail
      refine (has_any _ gl ml ln ws (HSET.out.below (HBW.out.trans (HR5.out.bel.mono HBW.out.size))) A5 k5 c5 (F ++ [(j : Int)]) (own_rd HR5.out.own) HGX.out HWX.out).mono ?_
      rintro e w6 ⟨rfl, hb6⟩
      have HR6 : Hid (Row wr w6 A5 k5 c5 (F ++ [(j : Int)])) := Lib.hid (HR5.out.below hb6)
      have HN6 : Hid (FS w0 w6 A m c us (nx P F Q ws j)) := Lib.hid (HN.out.below HR6.out.bel)
      have hx6 := blk_bel HX6.out HN6.out.bel
      have hx5 := blk_bel HX5.out HN6.out.bel
      have x0 := blk_cell hx6 0 rfl
      have x1 := blk_cell hx6 1 rfl
      have HBW6 := Lib.hid HN6.out.bel
      clear hb6 hx6 hx5
      by_cases hin : F ++ [(j : Int)] ∈ ws
      · have HIN := Lib.hid hin
        rw [decide_eq_true hin]
        clear hin
        as_aux_lemma =>
        have HQS := Lib.hid (own_rd HR6.out.own)
        have HQ2 := Lib.hid (HRP2.out.below HBW6.out (Nat.le_refl _)); have HQ3 := Lib.hid (HRP3.out.below HBW6.out (Nat.le_refl _))
        have HPJ := Lib.hid (HPL.out j)
        have HPX := Lib.hid (HPQ.out j)
        have HKL : Hid ((([F ++ [(j : Int)], [f0], [ra], (xs.drop (h + 1)).take hm1] : List (List Int)).flatten).length ≤ 1000000000) := Lib.hid (Nat.le_trans HPJ.out (by decide))
        have HK100 : Hid (∀ k : Nat, k ≤ 100 → k ≤ 1000000000) := Lib.hid (fun k h => by omega)
        go_wp2_with fail
        have hx6 := blk_bel HX6.out HN6.out.bel
        have z0 := blk_cell hx6 0 rfl
        have z1 := blk_cell (blk_alloc hx6 (.cells #[.int .i64 ra] 2)) 0 rfl
        have z2 := blk_cell (blk_alloc (blk_alloc hx6 (.cells #[.int .i64 ra] 2)) (.cells #[.slice A5 k5 c5, .slice A1 1 c1, .slice (some ⟨w6.heap.size, 0, none⟩) 1 1, .slice A3 hm1 c3] 25)) 0 rfl
        clear hx6
        (first
          | (go_region_held3 (fun w' => w'.cell? ⟨w.heap.size + 1, 0, none⟩ = some (.int .i64 ra)) (first | exact z0 | exact z1 | exact z2 | exact z3 | exact z4 | exact z5) ((first
              | (have hq := HR7.out
                 clear hq
                 refine step_appOz Tryz.eltS (by rfl) (.tmp 68) (.tmp 83) (by rfl) _ 0 A _ m c 1 _ us [.slice A7 k7 c7] (by rfl) (by exact ((HN6.out.below HR7.out.bel).out.below (below_new _ _)).1) (by rfl) (by exact own_rd (base := 0) (c := 1) (e := 25) (tmp_new _ _ _)) (by exact HU1.out _ _ _) (by exact HMJ.out) ?_
                 intro A8 c8 w8 ho8 hch8 hfo8
                 have HP := Lib.hid (HN6.out.put HR7.out (HK100.out _ HK7.out) ho8 ((ch_alloc (Fo (.slice A m c)) w7 (.cells #[.slice A7 k7 c7] 25)).trans hch8) (al_hfw hfo8))
                 have z5 := blk_cell (blk_bel HX6.out HP.out.bel) 0 rfl
                 clear ho8 hch8 hfo8)
              | (go_simp
                 go_at_call 40
                 refine (joined_any _ _ 4 _ [F ++ [(j : Int)], [f0], [ra], (xs.drop (h + 1)).take hm1] (by first | exact rdl_dr (rd_fourL HQS.out HQ2.out HQ3.out HK5.out (by decide) HHM.out) | exact rd_fourL HQS.out HQ2.out HQ3.out HK5.out (by decide) HHM.out) (by decide) (by exact HKL.out)).mono ?_
                 rintro e w7 ⟨A7, k7, c7, rfl, ho7, hb7⟩
                 have HR7 : Hid (Row w6 w7 A7 k7 c7 (P ++ F ++ [(j : Int)] ++ Q)) := Lib.hid (by rw [HPX.out] at ho7; exact row_two ho7 hb7)
                 have HK7 : Hid (k7 ≤ 100) := Lib.hid (HR7.out.bd (by rw [← HPX.out]; exact HPJ.out))
                 have hx7 := blk_bel HX6.out (HBW6.out.trans (HR7.out.bel.mono HBW6.out.size))
                 have z3 := blk_cell hx7 0 rfl
                 have z4 := blk_cell (blk_alloc hx7 (.cells #[.slice A7 k7 c7] 25)) 0 rfl
                 clear hx7
                 clear ho7 hb7))))
          | fail)
        all_goals
          as_aux_lemma =>
          go_wp2_with fail
          go_roundw
          case rel => exact ⟨j + 1, m + 1, A8, c8, _, by omega, by go_num, rfl, by rw [nx_yes HIN.out]; exact HP.out⟩
          case measure => simp [intOf]; omega
      · have HIN := Lib.hid hin
        rw [decide_eq_false hin]
        clear hin
        as_aux_lemma =>
        go_wp2_with fail
        go_roundw
        case rel => exact ⟨j + 1, m, A, c, us, by omega, by go_num, rfl, by rw [nx_no HIN.out]; exact HN6.out⟩
        case measure => simp [intOf]; omega
    · obtain rfl : s = j := by omega
      as_aux_lemma =>
      go_wp2_with fail
      go_ret
      have hz := HB.out.trans (HBW.out.mono HB.out.size)
      exact ⟨A, m, c, FX A m c us, rfl, HN.out.out.ownp, fun q hq => ⟨Nat.le_trans HB.out.size (HN.out.lo q hq), HN.out.out.lt hq⟩, hz⟩
end Go.Proofs.YtanicbbgneobpaaGreat
/- NextContexts (program). Written by mk_nci.py. -/
namespace Go.Proofs.YtanicbbgneobpaaGreat
open Go.RowKit
set_option linter.unusedVariables false
set_option linter.unusedSimpArgs false
theorem following_any (w : World) (s : Nat) (t : Int) (A : Option Addr) (n c : Nat) (hs : s ≤ 6) (ra mv rc : Int) (hmv : mv = 1 ∨ mv = -1) (A1 : Option Addr) (n1 c1 h : Nat) (xs : List Int) (hr1 : Rd w A1 n1 (ints xs)) (hc1 : n1 ≤ c1) (hn1 : n1 = 2 * h + 1) (hh : 1 ≤ h ∧ h ≤ 4) (hsm : ∀ x ∈ xs, SmI x) (gl ml gr mr : Nat) (ln ln' : Int) (ls ws : List (List Int)) (hl : IsSet w gl ml ln ls) (hr : IsSet w gr mr ln' ws) (hls : ∀ ys ∈ ls, Gw ys ∧ ys.length = h) (hws : ∀ ys ∈ ws, Gw ys ∧ ys.length = h) :
    Calls Tryz.prog 128 #[mchV (s : Int) t A n c, rulV ⟨ra, mv, rc⟩, .slice A1 n1 c1, .pointer (some ⟨gl, 0, none⟩), .pointer (some ⟨gr, 0, none⟩)] w (RetP w (nextsOf s ⟨ra, mv, rc⟩ xs ls ws)) := by
  have hl1 : xs.length = 2 * h + 1 := by have h1 := hr1.1; simp at h1; omega
  rcases hmv with rfl | rfl
  · obtain ⟨f0, F, bh, P, Q, hF, hf0, hbh, hP, hQ, hg, hE⟩ := nexts_r (s := s) (ls := ls) (ws := ws) (ra := ra) (rc := rc) hl1 hh.1 hsm
    rw [hE]
    exact following_r w s t A n c hs ra rc A1 n1 c1 h xs hr1 hc1 hn1 hh gl ml gr mr ln' ws hr hws f0 F bh P Q hF hf0 hbh hP hQ hg
  · obtain ⟨f0, F, bh, P, Q, hF, hf0, hbh, hP, hQ, hg, hE⟩ := nexts_l (s := s) (ls := ls) (ws := ws) (ra := ra) (rc := rc) hl1 hh.1 hsm
    rw [hE]
    exact following_l w s t A n c hs ra rc A1 n1 c1 h xs hr1 hc1 hn1 hh gl ml gr mr ln ls hl hls f0 F bh P Q hF hf0 hbh hP hQ hg
theorem win_no1 {m s : Int} {ls : List (List Int)} (h : ls.all (lenB m (s - 1)) = false ∨ rises ls = false) : winB m s ls = false := by
  unfold winB
  rcases h with h | h <;> simp [h]
end Go.Proofs.YtanicbbgneobpaaGreat
