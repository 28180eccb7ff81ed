/- Prefix codes: R8Codes. Written by mk_pc6.py. -/
import Derived.Test.YtbecofpklndpaaaPc5
namespace Go.Proofs.Ytbecofpklndpaaa
open Go.RowKit
set_option linter.unusedVariables false
set_option linter.unusedSimpArgs false
def R8C (w : World) (e : Ending) (w' : World) : Prop := ∃ (A : Option Addr) (n c : Nat) (xss : List (List Int)) (A2 : Option Addr) (m c2 : Nat) (ns : List Nat), e = .returned (.tuple #[.slice A n c, .slice A2 m c2]) ∧ RdLc w' A n xss ∧ Code xss ∧ Rd w' A2 m (ints (nats ns)) ∧ m ≤ 8 ∧ (∀ j ∈ ns, j < n) ∧ Below w.heap.size w w'
theorem nats_snoc (ns : List Nat) (j : Nat) : ints (nats ns) ++ [.int .i64 j] = ints (nats (ns ++ [j])) := by simp [nats]
theorem rows_lit {w : World} {lo : Nat} {us : List Value} {xss : List (List Int)} (h : Rows w lo us xss) (cs : Array Value) (xs : List Int) (n S : Nat) (hS : w.heap.size = S) (hl : lo ≤ S) (hcs : cs.toList = ints xs) (hn : cs.size = n) (h5 : n ≤ 1000) :
    Rows (w.alloc (.cells cs 2)) lo (us ++ [.slice (some ⟨S, 0, none⟩) n n]) (xss ++ [xs]) := by
  subst hS
  exact (rows_alloc h _).snoc (lit_row w cs xs lo n hcs hn hl h5) (by omega)
theorem outer_lit (w : World) (cs : Array Value) (n S lo : Nat) (hS : w.heap.size = S) (hl : lo ≤ S) (hn : cs.size = n) (h5 : n ≤ 1000) : (w.alloc (.cells cs 25)).ownsRow lo 25 1 (.slice (some ⟨S, 0, none⟩) n n) n cs.toList := by
  subst hS
  exact own_base (own_lit w cs n 25 hn (by omega)) hl
theorem lits_A (w : World) (lo : Nat) (hl : lo ≤ w.heap.size) : ∃ us, ((((w.alloc (.cells #[.int .i64 0] 2)).alloc (.cells #[.int .i64 1, .int .i64 0] 2)).alloc (.cells #[.int .i64 1, .int .i64 1] 2)).alloc (.cells #[.slice (some ⟨w.heap.size, 0, none⟩) 1 1, .slice (some ⟨w.heap.size + 1, 0, none⟩) 2 2, .slice (some ⟨w.heap.size + 1 + 1, 0, none⟩) 2 2] 25)).ownsRow lo 25 1 (.slice (some ⟨w.heap.size + 1 + 1 + 1, 0, none⟩) 3 3) 3 us ∧
    Rows ((((w.alloc (.cells #[.int .i64 0] 2)).alloc (.cells #[.int .i64 1, .int .i64 0] 2)).alloc (.cells #[.int .i64 1, .int .i64 1] 2)).alloc (.cells #[.slice (some ⟨w.heap.size, 0, none⟩) 1 1, .slice (some ⟨w.heap.size + 1, 0, none⟩) 2 2, .slice (some ⟨w.heap.size + 1 + 1, 0, none⟩) 2 2] 25)) lo us cA := by
  refine ⟨_, outer_lit _ _ 3 _ lo (by simp) (by omega) rfl (by omega), ?_⟩
  exact rows_alloc (rows_lit (rows_lit (rows_lit (Rows.nil w lo) _ [0] 1 _ rfl hl rfl rfl (by omega)) _ [1, 0] 2 _ (by simp) (by omega) rfl rfl (by omega)) _ [1, 1] 2 _ (by simp) (by omega) rfl rfl (by omega)) _
theorem lits_B (w : World) (lo : Nat) (hl : lo ≤ w.heap.size) : ∃ us, (((((w.alloc (.cells #[.int .i64 0, .int .i64 0] 2)).alloc (.cells #[.int .i64 0, .int .i64 1] 2)).alloc (.cells #[.int .i64 1] 2)).alloc (.cells #[.int .i64 2] 2)).alloc (.cells #[.slice (some ⟨w.heap.size, 0, none⟩) 2 2, .slice (some ⟨w.heap.size + 1, 0, none⟩) 2 2, .slice (some ⟨w.heap.size + 1 + 1, 0, none⟩) 1 1, .slice (some ⟨w.heap.size + 1 + 1 + 1, 0, none⟩) 1 1] 25)).ownsRow lo 25 1 (.slice (some ⟨w.heap.size + 1 + 1 + 1 + 1, 0, none⟩) 4 4) 4 us ∧
    Rows (((((w.alloc (.cells #[.int .i64 0, .int .i64 0] 2)).alloc (.cells #[.int .i64 0, .int .i64 1] 2)).alloc (.cells #[.int .i64 1] 2)).alloc (.cells #[.int .i64 2] 2)).alloc (.cells #[.slice (some ⟨w.heap.size, 0, none⟩) 2 2, .slice (some ⟨w.heap.size + 1, 0, none⟩) 2 2, .slice (some ⟨w.heap.size + 1 + 1, 0, none⟩) 1 1, .slice (some ⟨w.heap.size + 1 + 1 + 1, 0, none⟩) 1 1] 25)) lo us cB := by
  refine ⟨_, outer_lit _ _ 4 _ lo (by simp) (by omega) rfl (by omega), ?_⟩
  exact rows_alloc (rows_lit (rows_lit (rows_lit (rows_lit (Rows.nil w lo) _ [0, 0] 2 _ rfl hl rfl rfl (by omega)) _ [0, 1] 2 _ (by simp) (by omega) rfl rfl (by omega)) _ [1] 1 _ (by simp) (by omega) rfl rfl (by omega)) _ [2] 1 _ (by simp) (by omega) rfl rfl (by omega)) _
theorem own_types {w : World} {b1 b2 e1 e2 s1 s2 n1 n2 : Nat} {v1 v2 : Value} {vs1 vs2 : List Value} (h1 : w.ownsRow b1 e1 s1 v1 n1 vs1) (h2 : w.ownsRow b2 e2 s2 v2 n2 vs2) (hT : e2 ≠ e1) : ∀ k, Fo v1 k → Fo v2 k → False := fun k a b => by
  rcases h2.2 with ⟨rfl, _⟩ | ⟨g', cap, cur, rfl, _, hgg, _⟩
  · simp [Fo, Value.ownBlock] at b
  · obtain rfl : g' = k := by simpa [Fo, Value.ownBlock] using b
    exact own_blk_not hgg hT h1 a
theorem pick_if (k : Nat) (h : 1 ≤ k) : (if (k : Int) ≤ 1 then (0 : Int) else (k : Int) - 1) = (k : Int) - 1 := by split <;> omega
set_option maxHeartbeats 16000000 in
set_option maxRecDepth 100000 in
theorem R8Codes_any (w : World) (A : Option Addr) (n c : Nat) (bs : List Int) (hr : Rd w A n (bytesV bs)) (hbs : ∀ b ∈ bs, 0 ≤ b ∧ b ≤ 255) (hn : n ≤ 1000000000) :
    Calls Try.prog 16 #[.slice A n c] w (R8C w) := by
  have HBS := Lib.hid hbs; clear hbs
  have hA : ∀ b off, A = some ⟨b, off, none⟩ → 0 < n → b < w.heap.size := fun b off e hp => by
    obtain ⟨b', off', e', hlt, _⟩ := hr.2 hp
    rw [e] at e'; injection e' with e'; injection e' with e1; omega
  have HGA := Lib.hid (fun (hp : 0 < n) b off (e : A = some ⟨b, off, none⟩) => (by have := hA b off e hp; omega : b ≠ w.heap.size))
  clear hA
  go_enter Try.func16, Try.ntmps16
  go_wp2_with fail
  refine (l00From_any w A n c).mono ?_
  rintro e w1 ⟨rfl, hw1⟩
  have hb1 : Below w.heap.size w w1 := by rw [hw1]; exact below_new _ _
  have hs1 : w.heap.size + 1 ≤ w1.heap.size := by rw [hw1]; simp
  have hg1 : w1.heap[w.heap.size]? = some (.cells #[.slice A n c, .int .i64 ((0 : Nat) : Int), .int .u64 0] 210 (0, 0)) := by rw [hw1]; exact box_new _ _ _
  clear hw1
  go_wp2_with fail
  obtain ⟨us4, ho4, hr4⟩ := lits_A w1 (w.heap.size + 1) hs1
  have hb4 := (((hb1.alloc (o := .cells #[.int .i64 0] 2) hb1.size).alloc (o := .cells #[.int .i64 1, .int .i64 0] 2) (by simp; omega)).alloc (o := .cells #[.int .i64 1, .int .i64 1] 2) (by simp; omega)).alloc (o := .cells #[.slice (some ⟨w1.heap.size, 0, none⟩) 1 1, .slice (some ⟨w1.heap.size + 1, 0, none⟩) 2 2, .slice (some ⟨w1.heap.size + 1 + 1, 0, none⟩) 2 2] 25) (by simp; omega)
  have hg4 := blk_alloc (blk_alloc (blk_alloc (blk_alloc hg1 (.cells #[.int .i64 0] 2)) (.cells #[.int .i64 1, .int .i64 0] 2)) (.cells #[.int .i64 1, .int .i64 1] 2)) (.cells #[.slice (some ⟨w1.heap.size, 0, none⟩) 1 1, .slice (some ⟨w1.heap.size + 1, 0, none⟩) 2 2, .slice (some ⟨w1.heap.size + 1 + 1, 0, none⟩) 2 2] 25)
  generalize (((w1.alloc (.cells #[.int .i64 0] 2)).alloc (.cells #[.int .i64 1, .int .i64 0] 2)).alloc (.cells #[.int .i64 1, .int .i64 1] 2)).alloc (.cells #[.slice (some ⟨w1.heap.size, 0, none⟩) 1 1, .slice (some ⟨w1.heap.size + 1, 0, none⟩) 2 2, .slice (some ⟨w1.heap.size + 1 + 1, 0, none⟩) 2 2] 25) = w4 at *
  refine (pick_any w4 w.heap.size A n c 0 0 hg4 bs (hr.below hb4 (Nat.le_refl _)) HGA.out HBS.out hn (by omega) 3 (by omega)).mono ?_
  rintro e w5 ⟨x, s5, k5, rfl, hx0, hx1, hk5, hg5, hc5⟩
  simp at hx1
  have hb5 := below_ch hb4 hc5 (fun k h => by omega) hb4.size
  have ho5 := own_ch ho4 hc5 (fun k h1 h2 => by have := (ho4.lt k h1).1; omega)
  have hr5 := hr4.ch hc5 (fun A' n' c' xs ho k h1 h2 => by have := (ho.lt k h1).1; omega)
  have hl5 := blk_lt hg5
  clear ho4 hr4 hb4 hg4 hc5 hb1 hg1
  have hx : x = 0 ∨ x = 1 ∨ x = 2 := by omega
  clear hx0 hx1
  rcases hx with rfl | rfl | rfl
  · clear ho5 hr5
    go_wp2_with fail
    obtain ⟨us6, ho6, hr6⟩ := lits_B w5 (w.heap.size + 1) (by omega)
    have hb6 := ((((hb5.alloc (o := .cells #[.int .i64 0, .int .i64 0] 2) hb5.size).alloc (o := .cells #[.int .i64 0, .int .i64 1] 2) (by simp; omega)).alloc (o := .cells #[.int .i64 1] 2) (by simp; omega)).alloc (o := .cells #[.int .i64 2] 2) (by simp; omega)).alloc (o := .cells #[.slice (some ⟨w5.heap.size, 0, none⟩) 2 2, .slice (some ⟨w5.heap.size + 1, 0, none⟩) 2 2, .slice (some ⟨w5.heap.size + 1 + 1, 0, none⟩) 1 1, .slice (some ⟨w5.heap.size + 1 + 1 + 1, 0, none⟩) 1 1] 25) (by simp; omega)
    have hg6 := blk_alloc (blk_alloc (blk_alloc (blk_alloc (blk_alloc hg5 (.cells #[.int .i64 0, .int .i64 0] 2)) (.cells #[.int .i64 0, .int .i64 1] 2)) (.cells #[.int .i64 1] 2)) (.cells #[.int .i64 2] 2)) (.cells #[.slice (some ⟨w5.heap.size, 0, none⟩) 2 2, .slice (some ⟨w5.heap.size + 1, 0, none⟩) 2 2, .slice (some ⟨w5.heap.size + 1 + 1, 0, none⟩) 1 1, .slice (some ⟨w5.heap.size + 1 + 1 + 1, 0, none⟩) 1 1] 25)
    have hs6 : (((((w5.alloc (.cells #[.int .i64 0, .int .i64 0] 2)).alloc (.cells #[.int .i64 0, .int .i64 1] 2)).alloc (.cells #[.int .i64 1] 2)).alloc (.cells #[.int .i64 2] 2)).alloc (.cells #[.slice (some ⟨w5.heap.size, 0, none⟩) 2 2, .slice (some ⟨w5.heap.size + 1, 0, none⟩) 2 2, .slice (some ⟨w5.heap.size + 1 + 1, 0, none⟩) 1 1, .slice (some ⟨w5.heap.size + 1 + 1 + 1, 0, none⟩) 1 1] 25)).heap.size = w5.heap.size + 1 + 1 + 1 + 1 + 1 := by simp
    generalize ((((w5.alloc (.cells #[.int .i64 0, .int .i64 0] 2)).alloc (.cells #[.int .i64 0, .int .i64 1] 2)).alloc (.cells #[.int .i64 1] 2)).alloc (.cells #[.int .i64 2] 2)).alloc (.cells #[.slice (some ⟨w5.heap.size, 0, none⟩) 2 2, .slice (some ⟨w5.heap.size + 1, 0, none⟩) 2 2, .slice (some ⟨w5.heap.size + 1 + 1, 0, none⟩) 1 1, .slice (some ⟨w5.heap.size + 1 + 1 + 1, 0, none⟩) 1 1] 25) = w6 at *
    have HS6 := Lib.hid hs6; clear hs6
    have hkk : k5 ≤ 20 := by omega
    have HLH := Lib.hid (rdlh_of ho6 hr6)
    have HCO := Lib.hid code_B
    clear hb5 hg5 ho6 hr6
    refine (pick_any (w6.alloc (.cells #[] 2)) w.heap.size A n c k5 s5 (blk_alloc hg6 _) bs (by exact (hr.below hb6 (Nat.le_refl _)).alloc _) HGA.out HBS.out hn (by omega) 9 (by omega)).mono ?_
    rintro e w7 ⟨z, s7, k7, rfl, hz0, hz1, hk7, hg7, hc7⟩
    simp at hz1
    obtain ⟨Z, rfl⟩ := Int.eq_ofNat_of_zero_le hz0
    have hl6 := blk_lt hg6
    have HC7 : Hid (Ch (fun k => k = w.heap.size ∨ w6.heap.size ≤ k) w6 w7) := Lib.hid ((ch_alloc _ w6 _).trans (hc7.mono (fun k h => .inl h)))
    have ho7 : w7.ownsRow w6.heap.size 2 1 (.slice (some ⟨w5.heap.size + 1 + 1 + 1 + 1 + 1, 0, none⟩) 0 0) 0 (ints (nats [])) := by
      rw [← HS6.out]
      exact own_ch (own_lit w6 #[] 0 2 rfl (by omega)) hc7 (fun k h1 h2 => by have : w6.heap.size = k := (by simpa [Fo, Value.ownBlock] using h1); omega)
    clear hc7 hz0
    go_wp2_with fail
    go_loopw [7, 8] (fun v q wr => ∃ (q' : Nat) (A2 : Option Addr) (m2 c2 : Nat) (ns : List Nat) (a2 : Nat) (s2 : Int), q = .int .i64 q' ∧ v = .slice A2 m2 c2 ∧ q' + m2 ≤ 8 ∧ a2 + 2 * q' ≤ 100 ∧ wr.ownsRow w6.heap.size 2 1 (.slice A2 m2 c2) m2 (ints (nats ns)) ∧ Hid (∀ j ∈ ns, j < 4) ∧ wr.heap[w.heap.size]? = some (.cells #[.slice A n c, .int .i64 a2, .int .u64 s2] 210 (0, 0)) ∧ Hid (Ch (fun k => k = w.heap.size ∨ w6.heap.size ≤ k) w6 wr)) (fun _ q _ => (intOf q).toNat)
    case atStart => exact ⟨Z, _, 0, 0, [], k7, s7, rfl, rfl, by omega, by omega, ho7, Lib.hid (by simp), hg7, HC7⟩
    case round =>
      obtain ⟨q', A2, m2, c2, ns, a2, s2, rfl, rfl, hq, ha2, ho, HNS, hg, HCH⟩ := hrel
      have hbw : Below w.heap.size w wr := below_ch hb6 HCH.out (fun k h => h.elim (fun h => by omega) (fun h => by have := hb6.size; omega)) hb6.size
      by_cases h0 : 0 < q'
      · go_wp2_with fail
        refine (pick_any wr w.heap.size A n c a2 s2 hg bs (hr.below hbw (Nat.le_refl _)) HGA.out HBS.out hn (by omega) _ (by omega)).mono ?_
        rintro e w9 ⟨j, s9, k9, rfl, hj0, hj1, hk9, hg9, hc9⟩
        obtain ⟨j, rfl⟩ := Int.eq_ofNat_of_zero_le hj0
        have hjl : j < 4 := by first | (simp at hj1; omega) | (split at hj1 <;> omega)
        have ho9 := own_ch ho hc9 (fun k h1 h2 => by have := (ho.lt k h1).1; omega)
        have hbw9 : w6.heap.size ≤ w9.heap.size := Nat.le_trans HCH.out.size hc9.size
        clear hj1 hj0
        go_wp2_with (at_builtin; go_must (refine wpList_app1g Try.eltI rfl _ _ rfl w9 w6.heap.size _ m2 _ (by rfl) ho9 _ (by rfl) (by rfl) (by exact hbw9) (by omega) ?_); rintro A9 c9 w10 ho10 hb10 hgr10)
        have hg10 := blk_ch hg9 (ch_row hgr10) (own_blk_not hg9 (by decide) ho9)
        have HO10 := Lib.hid ho10; clear ho10
        have HCX : Hid (Ch (fun k => k = w.heap.size ∨ w6.heap.size ≤ k) w6 w10) := Lib.hid (HCH.out.trans ((hc9.mono (fun k h => .inl h)).trans ((ch_row hgr10).mono (fun k h => .inr (ho9.lt k h).1))))
        go_wp2_with fail
        go_roundw
        case rel => exact ⟨q' - 1, A9, m2 + 1, c9, ns ++ [j], k9, s9, by congr 1; omega, rfl, by omega, by omega, by rw [← nats_snoc]; exact HO10.out, Lib.hid (fun i hi => (List.mem_append.1 hi).elim (fun h => HNS.out i h) (fun h => by rw [List.mem_singleton.1 h]; exact hjl)), hg10, HCX⟩
        case measure => simp [intOf]; omega
      · obtain rfl : q' = 0 := by omega
        go_wp2_with fail
        go_ret2
        exact ⟨_, 4, _, cB, A2, m2, c2, ns, rfl, (HLH.out.ch HCH.out (fun k h1 h2 h => h.elim (fun h => by omega) (fun h => by omega))).rdlc, HCO.out, own_rd ho, by omega, HNS.out, hbw⟩
  · clear ho5 hr5
    go_wp2_with fail
    have hb5a := hb5.alloc (o := .cells #[] 25) hb5.size
    have hg5a := blk_alloc hg5 (.cells #[] 25)
    have ho5a := outer_lit w5 #[] 0 w5.heap.size (w.heap.size + 1) rfl (by omega) rfl (by omega)
    generalize w5.alloc (.cells #[] 25) = w5a at *
    refine (pick_any w5a w.heap.size A n c k5 s5 hg5a bs (hr.below hb5a (Nat.le_refl _)) HGA.out HBS.out hn (by omega) 4 (by omega)).mono ?_
    rintro e w5b ⟨y, s5b, k5b, rfl, hy0, hy1, hk5b, hg5b, hc5b⟩
    simp at hy1
    have hb5b := below_ch hb5a hc5b (fun k h => by omega) hb5a.size
    have ho5b := own_ch ho5a hc5b (fun k h1 h2 => by have := (ho5a.lt k h1).1; omega)
    obtain ⟨M, hM⟩ : ∃ M : Nat, 1 + y = (M : Int) := ⟨(1 + y).toNat, by omega⟩
    have hM1 : 1 ≤ M := by omega
    have hM4 : M ≤ 4 := by omega
    have hwm : IntKind.i64.wrap (1 + y) = (M : Int) := by rw [IntWalk.i64_in _ (by omega), hM]
    have HWM := Lib.hid hwm; have HM := Lib.hid hM
    clear hwm hM ho5a hg5a hb5a hc5b hb5 hg5
    go_wp2_with fail
    rw [HM.out]
    have HC0 : Hid (cD M M = []) := Lib.hid (by simp [cD])
    go_loopw [5, 6] (fun v q wr => ∃ (k : Nat) (A1 : Option Addr) (c1 : Nat) (us : List Value), k ≤ M ∧ q = .int .i64 k ∧ v = .slice A1 (M - k) c1 ∧ wr.ownsRow (w.heap.size + 1) 25 1 (.slice A1 (M - k) c1) (M - k) us ∧ Rows wr (w.heap.size + 1) us (cD M k) ∧ wr.heap[w.heap.size]? = some (.cells #[.slice A n c, .int .i64 k5b, .int .u64 s5b] 210 (0, 0)) ∧ Below w.heap.size w wr) (fun _ q _ => (intOf q).toNat)
    case atStart => exact ⟨M, _, 0, _, Nat.le_refl _, rfl, by rw [Nat.sub_self], by rw [Nat.sub_self]; exact ho5b, by rw [HC0.out]; exact Rows.nil _ _, hg5b, hb5b⟩
    case round =>
      obtain ⟨k, A1, c1, us, hk, rfl, rfl, ho, hrw, hg, hb⟩ := hrel
      have hgl := blk_lt hg
      rcases Nat.eq_zero_or_pos k with h0 | h0
      · subst h0
        rw [Nat.sub_zero] at ho ⊢
        go_wp2_with fail
        obtain ⟨w6, rfl⟩ : ∃ w6, w6 = wr := ⟨_, rfl⟩
        have hb6 := hb
        have hg6 := hg
        have HLH := Lib.hid (rdlh_of ho hrw)
        have HCO := Lib.hid (code_D M hM1 hM4)
        have HS6 : Hid (w6.heap.size = w6.heap.size) := Lib.hid rfl
        have hkk : k5b ≤ 20 := by omega
        clear ho hrw hg hb
        refine (pick_any (w6.alloc (.cells #[] 2)) w.heap.size A n c k5b s5b (blk_alloc hg6 _) bs (by exact (hr.below hb6 (Nat.le_refl _)).alloc _) HGA.out HBS.out hn (by omega) 9 (by omega)).mono ?_
        rintro e w7 ⟨z, s7, k7, rfl, hz0, hz1, hk7, hg7, hc7⟩
        simp at hz1
        obtain ⟨Z, rfl⟩ := Int.eq_ofNat_of_zero_le hz0
        have hl6 := blk_lt hg6
        have HC7 : Hid (Ch (fun k => k = w.heap.size ∨ w6.heap.size ≤ k) w6 w7) := Lib.hid ((ch_alloc _ w6 _).trans (hc7.mono (fun k h => .inl h)))
        have ho7 : w7.ownsRow w6.heap.size 2 1 (.slice (some ⟨w6.heap.size, 0, none⟩) 0 0) 0 (ints (nats [])) := by
          rw [← HS6.out]
          exact own_ch (own_lit w6 #[] 0 2 rfl (by omega)) hc7 (fun k h1 h2 => by have : w6.heap.size = k := (by simpa [Fo, Value.ownBlock] using h1); omega)
        clear hc7 hz0
        go_wp2_with fail
        go_loopw [7, 8] (fun v q wr => ∃ (q' : Nat) (A2 : Option Addr) (m2 c2 : Nat) (ns : List Nat) (a2 : Nat) (s2 : Int), q = .int .i64 q' ∧ v = .slice A2 m2 c2 ∧ q' + m2 ≤ 8 ∧ a2 + 2 * q' ≤ 100 ∧ wr.ownsRow w6.heap.size 2 1 (.slice A2 m2 c2) m2 (ints (nats ns)) ∧ Hid (∀ j ∈ ns, j < M) ∧ wr.heap[w.heap.size]? = some (.cells #[.slice A n c, .int .i64 a2, .int .u64 s2] 210 (0, 0)) ∧ Hid (Ch (fun k => k = w.heap.size ∨ w6.heap.size ≤ k) w6 wr)) (fun _ q _ => (intOf q).toNat)
        case atStart => exact ⟨Z, _, 0, 0, [], k7, s7, rfl, rfl, by omega, by omega, ho7, Lib.hid (by simp), hg7, HC7⟩
        case round =>
          obtain ⟨q', A2, m2, c2, ns, a2, s2, rfl, rfl, hq, ha2, ho, HNS, hg, HCH⟩ := hrel
          have hbw : Below w.heap.size w wr := below_ch hb6 HCH.out (fun k h => h.elim (fun h => by omega) (fun h => by have := hb6.size; omega)) hb6.size
          by_cases h0 : 0 < q'
          · go_wp2_with fail
            refine (pick_any wr w.heap.size A n c a2 s2 hg bs (hr.below hbw (Nat.le_refl _)) HGA.out HBS.out hn (by omega) _ (by omega)).mono ?_
            rintro e w9 ⟨j, s9, k9, rfl, hj0, hj1, hk9, hg9, hc9⟩
            obtain ⟨j, rfl⟩ := Int.eq_ofNat_of_zero_le hj0
            have hjl : j < M := by first | (simp at hj1; omega) | (split at hj1 <;> omega)
            have ho9 := own_ch ho hc9 (fun k h1 h2 => by have := (ho.lt k h1).1; omega)
            have hbw9 : w6.heap.size ≤ w9.heap.size := Nat.le_trans HCH.out.size hc9.size
            clear hj1 hj0
            go_wp2_with (at_builtin; go_must (refine wpList_app1g Try.eltI rfl _ _ rfl w9 w6.heap.size _ m2 _ (by rfl) ho9 _ (by rfl) (by rfl) (by exact hbw9) (by omega) ?_); rintro A9 c9 w10 ho10 hb10 hgr10)
            have hg10 := blk_ch hg9 (ch_row hgr10) (own_blk_not hg9 (by decide) ho9)
            have HO10 := Lib.hid ho10; clear ho10
            have HCX : Hid (Ch (fun k => k = w.heap.size ∨ w6.heap.size ≤ k) w6 w10) := Lib.hid (HCH.out.trans ((hc9.mono (fun k h => .inl h)).trans ((ch_row hgr10).mono (fun k h => .inr (ho9.lt k h).1))))
            go_wp2_with fail
            go_roundw
            case rel => exact ⟨q' - 1, A9, m2 + 1, c9, ns ++ [j], k9, s9, by congr 1; omega, rfl, by omega, by omega, by rw [← nats_snoc]; exact HO10.out, Lib.hid (fun i hi => (List.mem_append.1 hi).elim (fun h => HNS.out i h) (fun h => by rw [List.mem_singleton.1 h]; exact hjl)), hg10, HCX⟩
            case measure => simp [intOf]; omega
          · obtain rfl : q' = 0 := by omega
            go_wp2_with fail
            go_ret2
            exact ⟨_, M, _, (cD M 0), A2, m2, c2, ns, rfl, (HLH.out.ch HCH.out (fun k h1 h2 h => h.elim (fun h => by omega) (fun h => by omega))).rdlc, HCO.out, own_rd ho, by omega, HNS.out, hbw⟩
      · obtain ⟨k, rfl⟩ : ∃ j, k = j + 1 := ⟨k - 1, by omega⟩
        have HCS := Lib.hid (cD_snoc M k hk)
        have hbA := hb.alloc (o := .cells #[.int .i64 1] 2) hb.size
        have hone : Rd (wr.alloc (.cells #[.int .i64 1] 2)) (some ⟨wr.heap.size, 0, none⟩) 1 (ints [1]) := rd_one _ _ _
        go_wp2_with fail
        refine (l03Power_one _ _ _ (k + 1) hone (by omega)).mono ?_
        rintro e w2 ⟨A2, m2, c2, rfl, ho2, hb2⟩
        have hm2 : m2 = k + 1 := by have := ho2.1; simpa using this.symm
        subst hm2
        have HCH : Hid (Ch (fun z => wr.heap.size ≤ z) wr w2) := Lib.hid ((ch_alloc _ wr _).trans (ch_below hb2))
        have hB2 := hbA.trans (hb2.mono hbA.size)
        have hs2 : wr.heap.size + 1 ≤ w2.heap.size := by have := hb2.size; simp at this; exact this
        have ho2' := own_base ho2 (base' := wr.heap.size + 1) (by simp)
        have HOO := Lib.hid ho; have HRW := Lib.hid hrw; have HHG := Lib.hid hg; have HHB := Lib.hid hB2
        clear ho hrw hg hb hbA hB2
        go_wp2_with (first
          | (refine wpList_app1g (o := ⟨some 39, _, _, _, _, _⟩) Try.eltI rfl _ _ rfl w2 (wr.heap.size + 1) _ (k + 1) _ (by rfl) ho2' (.int .i64 0) (by rfl) (by rfl) (by omega) (by omega) ?_
             rintro A3 c3 w3 ho3 hb3 hgr3
             have HC3 : Hid (Ch (fun z => wr.heap.size ≤ z) wr w3) := Lib.hid (HCH.out.trans ((ch_row hgr3).mono (fun z h => by have := (ho2'.lt z h).1; omega)))
             have HO3 := Lib.hid (own_ch HOO.out HC3.out (fun z h1 h2 => by have := (HOO.out.lt z h1).2; omega))
             have HR3 := Lib.hid (HRW.out.ch HC3.out (fun A' n' c' xs ho z h1 h2 => by have := (ho.lt z h1).2; omega))
             have hs3 := hb3.size)
          | (refine wpList_app1g (o := ⟨some 41, _, _, _, _, _⟩) Try.eltS rfl _ _ rfl w3 (w.heap.size + 1) _ (M - (k + 1)) _ (by rfl) HO3.out (.slice A3 (k + 1 + 1) c3) (by rfl) (by rfl) (by omega) (by omega) ?_
             rintro A4 c4 w4' ho4 hb4 hgr4))
        have HO4 := Lib.hid ho4
        have HR4 : Hid (Rows w4' (w.heap.size + 1) (us ++ [.slice A3 (k + 1 + 1) c3]) (cD M k)) := Lib.hid (by
          rw [HCS.out]
          refine (HR3.out.snoc (own_base (by simpa using ho3) (by omega)) (by omega)).ch (ch_row hgr4) (fun A' n' c' xs ho z h1 h2 => ?_)
          exact own_types ho HO3.out (by decide) z h1 h2)
        have hg4' := blk_ch (blk_ch HHG.out HC3.out (by omega)) (ch_row hgr4) (own_blk_not (blk_ch HHG.out HC3.out (by omega)) (by decide) HO3.out)
        have HB4 := Lib.hid ((HHB.out.trans (hb3.mono (by omega))).trans (hb4.mono (by omega)))
        clear ho4 ho3 hgr3 hgr4
        go_wp2_with fail
        go_roundw
        case rel => exact ⟨k, A4, c4, _, by omega, by first | rfl | (congr 1; omega), by first | rfl | (congr 1; omega), by have h := HO4.out; rw [show M - (k + 1) + 1 = M - k by omega] at h; exact h, HR4.out, hg4', HB4.out⟩
        case measure => first | (simp [intOf]; done) | (simp [intOf]; omega)
  · go_wp2_with fail
    obtain ⟨w6, rfl⟩ : ∃ w6, w6 = w5 := ⟨_, rfl⟩
    have hb6 := hb5
    have hg6 := hg5
    have HLH := Lib.hid (rdlh_of ho5 hr5)
    have HCO := Lib.hid code_A
    have HS6 : Hid (w6.heap.size = w6.heap.size) := Lib.hid rfl
    have hkk : k5 ≤ 20 := by omega
    clear hb5 hg5 ho5 hr5
    refine (pick_any (w6.alloc (.cells #[] 2)) w.heap.size A n c k5 s5 (blk_alloc hg6 _) bs (by exact (hr.below hb6 (Nat.le_refl _)).alloc _) HGA.out HBS.out hn (by omega) 9 (by omega)).mono ?_
    rintro e w7 ⟨z, s7, k7, rfl, hz0, hz1, hk7, hg7, hc7⟩
    simp at hz1
    obtain ⟨Z, rfl⟩ := Int.eq_ofNat_of_zero_le hz0
    have hl6 := blk_lt hg6
    have HC7 : Hid (Ch (fun k => k = w.heap.size ∨ w6.heap.size ≤ k) w6 w7) := Lib.hid ((ch_alloc _ w6 _).trans (hc7.mono (fun k h => .inl h)))
    have ho7 : w7.ownsRow w6.heap.size 2 1 (.slice (some ⟨w6.heap.size, 0, none⟩) 0 0) 0 (ints (nats [])) := by
      rw [← HS6.out]
      exact own_ch (own_lit w6 #[] 0 2 rfl (by omega)) hc7 (fun k h1 h2 => by have : w6.heap.size = k := (by simpa [Fo, Value.ownBlock] using h1); omega)
    clear hc7 hz0
    go_wp2_with fail
    go_loopw [7, 8] (fun v q wr => ∃ (q' : Nat) (A2 : Option Addr) (m2 c2 : Nat) (ns : List Nat) (a2 : Nat) (s2 : Int), q = .int .i64 q' ∧ v = .slice A2 m2 c2 ∧ q' + m2 ≤ 8 ∧ a2 + 2 * q' ≤ 100 ∧ wr.ownsRow w6.heap.size 2 1 (.slice A2 m2 c2) m2 (ints (nats ns)) ∧ Hid (∀ j ∈ ns, j < 3) ∧ wr.heap[w.heap.size]? = some (.cells #[.slice A n c, .int .i64 a2, .int .u64 s2] 210 (0, 0)) ∧ Hid (Ch (fun k => k = w.heap.size ∨ w6.heap.size ≤ k) w6 wr)) (fun _ q _ => (intOf q).toNat)
    case atStart => exact ⟨Z, _, 0, 0, [], k7, s7, rfl, rfl, by omega, by omega, ho7, Lib.hid (by simp), hg7, HC7⟩
    case round =>
      obtain ⟨q', A2, m2, c2, ns, a2, s2, rfl, rfl, hq, ha2, ho, HNS, hg, HCH⟩ := hrel
      have hbw : Below w.heap.size w wr := below_ch hb6 HCH.out (fun k h => h.elim (fun h => by omega) (fun h => by have := hb6.size; omega)) hb6.size
      by_cases h0 : 0 < q'
      · go_wp2_with fail
        refine (pick_any wr w.heap.size A n c a2 s2 hg bs (hr.below hbw (Nat.le_refl _)) HGA.out HBS.out hn (by omega) _ (by omega)).mono ?_
        rintro e w9 ⟨j, s9, k9, rfl, hj0, hj1, hk9, hg9, hc9⟩
        obtain ⟨j, rfl⟩ := Int.eq_ofNat_of_zero_le hj0
        have hjl : j < 3 := by first | (simp at hj1; omega) | (split at hj1 <;> omega)
        have ho9 := own_ch ho hc9 (fun k h1 h2 => by have := (ho.lt k h1).1; omega)
        have hbw9 : w6.heap.size ≤ w9.heap.size := Nat.le_trans HCH.out.size hc9.size
        clear hj1 hj0
        go_wp2_with (at_builtin; go_must (refine wpList_app1g Try.eltI rfl _ _ rfl w9 w6.heap.size _ m2 _ (by rfl) ho9 _ (by rfl) (by rfl) (by exact hbw9) (by omega) ?_); rintro A9 c9 w10 ho10 hb10 hgr10)
        have hg10 := blk_ch hg9 (ch_row hgr10) (own_blk_not hg9 (by decide) ho9)
        have HO10 := Lib.hid ho10; clear ho10
        have HCX : Hid (Ch (fun k => k = w.heap.size ∨ w6.heap.size ≤ k) w6 w10) := Lib.hid (HCH.out.trans ((hc9.mono (fun k h => .inl h)).trans ((ch_row hgr10).mono (fun k h => .inr (ho9.lt k h).1))))
        go_wp2_with fail
        go_roundw
        case rel => exact ⟨q' - 1, A9, m2 + 1, c9, ns ++ [j], k9, s9, by congr 1; omega, rfl, by omega, by omega, by rw [← nats_snoc]; exact HO10.out, Lib.hid (fun i hi => (List.mem_append.1 hi).elim (fun h => HNS.out i h) (fun h => by rw [List.mem_singleton.1 h]; exact hjl)), hg10, HCX⟩
        case measure => simp [intOf]; omega
      · obtain rfl : q' = 0 := by omega
        go_wp2_with fail
        go_ret2
        exact ⟨_, 3, _, cA, A2, m2, c2, ns, rfl, (HLH.out.ch HCH.out (fun k h1 h2 h => h.elim (fun h => by omega) (fun h => by omega))).rdlc, HCO.out, own_rd ho, by omega, HNS.out, hbw⟩
end Go.Proofs.Ytbecofpklndpaaa
