/- Natural numbers that are drawn: l02DrawOk, B10Naturals. -/
import Derived.Test.YtfjlbfnjnkaooaaGen
import Derived.Test.YtfjlbfnjnkaooaaNu0
import Derived.Test.YtfjlbfnjnkaooaaNu1
namespace Go.Proofs.Ytfjlbfnjnkaooaa
open Go.RowKit Limb
set_option linter.unusedVariables false
set_option linter.unusedSimpArgs false
theorem ch_then {F G : Nat → Prop} {w w1 w2 : World} (h : Ch F w w1) (k : Ch G w1 w2) (hG : ∀ q, G q → w.heap.size ≤ q ∨ F q) : Ch F w w2 :=
  ⟨k.os.trans h.os, k.tape.trans h.tape, k.output.trans h.output, Nat.le_trans h.size k.size, fun q hq hf => (k.block q (Nat.lt_of_lt_of_le hq h.size) (fun hg => (hG q hg).elim (fun h1 => by omega) hf)).trans (h.block q hq hf)⟩
theorem ch_snd {F : Nat → Prop} {w w1 w2 : World} (h : Ch F w w1) (k : Below w1.heap.size w1 w2) : Ch F w w2 := h.trans (ch_below k)
def DrawP (w : World) (g : Nat) (A : Option Addr) (n c : Nat) (bs : List Int) (K : Nat) (e : Ending) (w' : World) : Prop := ∃ (A2 : Option Addr) (m c2 X : Nat), e = .returned (.slice A2 m c2) ∧ (limbs X).length ≤ 40 ∧ w'.ownsRow w.heap.size 2 1 (.slice A2 m c2) m (ints (limbs X)) ∧ SrcS w' g A n c bs (K + 1000) ∧ Ch (· = g) w w'
theorem draw_list : ∀ y ∈ ([0, 1, 2, 3, 6, 7, 9, 10, 24, 64, 97, 99, 100, 720, 999999, 1000000, 1000001, 30030] : List Int), 0 ≤ y ∧ y ≤ 1000001 := by decide
theorem draw_limb {a b y : Int} (ha : 0 ≤ a ∧ a ≤ 999) (hb : 0 ≤ b ∧ b ≤ 999) (hy : y ∈ ([0, 1, 2, 999999, 500000, a, b * 1000] : List Int)) : 0 ≤ y ∧ y < 1000000 := by
  simp only [List.mem_cons, List.not_mem_nil, or_false] at hy
  rcases hy with rfl | rfl | rfl | rfl | rfl | rfl | rfl <;> omega
theorem ok_snoc {xs : List Int} {y : Int} (h : Ok xs) (hy : 0 ≤ y ∧ y < 1000000) : Ok (xs ++ [y]) := fun x hx => by
  rcases List.mem_append.1 hx with hx | hx
  · exact h x hx
  · rw [List.mem_singleton.1 hx]; exact hy
/-- What a loop that draws limbs has. -/
structure DrS (w wr : World) (g : Nat) (A : Option Addr) (n c : Nat) (bs : List Int) (K : Nat) (A1 : Option Addr) (L c1 : Nat) (xs : List Int) : Prop where
  own : wr.ownsRow w.heap.size 2 1 (.slice A1 L c1) L (ints xs)
  ok : Ok xs
  src : SrcS wr g A n c bs K
  ch : Ch (· = g) w wr
theorem DrS.size {w wr : World} {g n c K L c1 : Nat} {A A1 : Option Addr} {bs xs : List Int} (h : DrS w wr g A n c bs K A1 L c1 xs) : w.heap.size ≤ wr.heap.size := h.ch.size
theorem DrS.ownAt {w wr wx : World} {g n c K L c1 : Nat} {A A1 : Option Addr} {bs xs : List Int} (h : DrS w wr g A n c bs K A1 L c1 xs) (hg : g < w.heap.size) (hc : Ch (· = g) wr wx) : wx.ownsRow w.heap.size 2 1 (.slice A1 L c1) L (ints xs) := own_ch h.own hc (fun k h1 h2 => by have := (h.own.lt k h1).1; omega)
theorem DrS.push {w wr wx w5 : World} {g n c K K' L c1 c5 : Nat} {A A1 A5 : Option Addr} {bs xs : List Int} {y : Int} (h : DrS w wr g A n c bs K A1 L c1 xs) (hg : g < w.heap.size) (hA : 0 < n → ∀ b off, A = some ⟨b, off, none⟩ → b < w.heap.size) (hc : Ch (· = g) wr wx) (hs : SrcS wx g A n c bs K') (hy : 0 ≤ y ∧ y < 1000000)
    (ho5 : w5.ownsRow w.heap.size 2 1 (.slice A5 (L + 1) c5) (L + 1) (ints xs ++ [.int .i64 y])) (hg5 : wx.grownBy w5 (Value.slice A1 L c1).ownBlock) : DrS w w5 g A n c bs K' A5 (L + 1) c5 (xs ++ [y]) := by
  have hox := h.ownAt hg hc
  refine ⟨by rw [ints_snoc] at ho5; exact ho5, ok_snoc h.ok hy, hs.far (ch_row hg5) hox hg (fun b off e hp => hA hp b off e), ch_then (h.ch.trans hc) (ch_row hg5) (fun q hq => .inl (hox.lt q hq).1)⟩
theorem DrS.dn {w wr : World} {g n c K K' L c1 : Nat} {A A1 : Option Addr} {bs xs : List Int} (h : DrS w wr g A n c bs K A1 L c1 xs) (hk : K ≤ K') : DrS w wr g A n c bs K' A1 L c1 xs := ⟨h.own, h.ok, h.src.mono hk, h.ch⟩
set_option maxHeartbeats 8000000 in
set_option maxRecDepth 100000 in
theorem l02DrawOk_s (w : World) (g : Nat) (A : Option Addr) (n c : Nat) (bs : List Int) (K : Nat) (h : SrcS w g A n c bs K) (hK : K ≤ 100000000) :
    Calls Try.prog 42 #[.pointer (some ⟨g, 0, none⟩)] w (DrawP w g A n c bs K) := by
  have HG : Hid (g < w.heap.size) := Lib.hid h.lt
  have HA : Hid (0 < n → ∀ b off, A = some ⟨b, off, none⟩ → b < w.heap.size) := Lib.hid (fun hp b off e => by
    obtain ⟨b', off', e', hlt, _⟩ := h.rd.2 hp
    rw [e] at e'; injection e' with e'; injection e' with e1; omega)
  have HNE : Hid (∀ q, w.heap.size ≤ q → q ≠ g) := Lib.hid (fun q hq => by have := HG.out; omega)
  have H := Lib.hid h; clear h
  go_enter Try.func42, Try.ntmps42
  go_wp2_with fail
  refine (one_s w g A n c bs K H.out (by omega) 2 (by omega) (by omega)).mono ?_
  rintro e w1 ⟨x1, rfl, hs1, hc1⟩
  have HS1 := Lib.hid hs1; have HC1 := Lib.hid hc1
  clear hs1 hc1
  have HZ1 : Hid (w.heap.size ≤ w1.heap.size) := Lib.hid HC1.out.size
  cases x1 with
  | true =>
    go_wp2_with fail
    refine (among_s _ g A n c bs (K + 2) (HS1.out.alloc _) (by omega) _ 18 18 [0, 1, 2, 3, 6, 7, 9, 10, 24, 64, 97, 99, 100, 720, 999999, 1000000, 1000001, 30030] (own_rd (own_lit w1 _ 18 2 rfl (by omega))) (by omega) (by omega) (by rintro b off e; injection e with e; injection e with e1; rw [← e1]; exact HNE.out _ HZ1.out)).mono ?_
    rintro e w2 ⟨x, rfl, hx, hs2, hc2⟩
    have hx2 := draw_list x hx
    have HS2 := Lib.hid hs2
    have HC2 : Hid (Ch (· = g) w w2) := Lib.hid ((HC1.out.trans (ch_alloc _ w1 _)).trans hc2)
    clear hx hs2 hc2
    go_wp2_with fail
    refine (l02Of_any w2 x (by omega)).mono ?_
    rintro e w3 ⟨A3, n3, c3, rfl, ho3, hb3⟩
    go_wp2_with fail
    go_ret
    have hlen := limbs_len_small (n := x.toNat) (by omega)
    clear hx2
    refine ⟨A3, n3, c3, x.toNat, rfl, ?_, ?_, ?_, ?_⟩
    · exact Nat.le_trans hlen (by omega)
    · exact own_base ho3 HC2.out.size
    · have h5 := HS2.out.below hb3
      exact h5.mono (by omega)
    · exact ch_snd HC2.out hb3
  | false =>
    go_wp2_with fail
    have HO1 : Hid (DrS w (w1.alloc (.cells #[] 2)) g A n c bs (K + 2) (some ⟨w1.heap.size, 0, none⟩) 0 0 []) := Lib.hid ⟨own_base (own_lit w1 #[] 0 2 rfl (by omega)) HZ1.out, ok_nil, HS1.out.alloc _, HC1.out.trans (ch_alloc _ w1 _)⟩
    generalize w1.alloc (.cells #[] 2) = w2 at *
    refine (pick_s w2 g A n c bs (K + 2) HO1.out.src (by omega) 5 (by omega) 4 (by omega) (by omega)).mono ?_
    rintro e w3 ⟨x3, rfl, hx0, hx1, hs3, hc3⟩
    have HO3 : Hid (DrS w w3 g A n c bs (K + 4) (some ⟨w1.heap.size, 0, none⟩) 0 0 []) := Lib.hid ⟨HO1.out.ownAt HG.out hc3, ok_nil, hs3, HO1.out.ch.trans hc3⟩
    obtain ⟨M, rfl⟩ := Int.eq_ofNat_of_zero_le hx0
    have hM5 : M ≤ 4 := by omega
    clear hx0 hx1 hs3 hc3
    go_wp2_with fail
    go_loopw [3, 4] (fun o q wr => ∃ (k L : Nat) (A1 : Option Addr) (c1 : Nat) (xs : List Int), o = .slice A1 L c1 ∧ q = .int .i64 k ∧ L + k ≤ 5 ∧ DrS w wr g A n c bs (K + 4 + 6 * L) A1 L c1 xs) (fun _ q _ => (intOf q).toNat)
    case atStart => exact ⟨1 + M, 0, _, 0, [], rfl, by congr 1, by omega, HO3.out⟩
    case round =>
      obtain ⟨k, L, A1, c1, xs, rfl, rfl, hLk, hd⟩ := hrel
      have HD := Lib.hid hd; clear hd
      by_cases hk : 0 < k
      · have hk' : (0 : Int) < (k : Int) := by omega
        go_wp2_with fail
        refine (pick_s wr g A n c bs (K + 4 + 6 * L) HD.out.src (by omega) 1000 (by omega) 999 (by omega) (by omega)).mono ?_
        rintro e w4 ⟨a, rfl, ha0, ha1, hs4, hc4⟩
        have HS4 := Lib.hid hs4; have HC4 := Lib.hid hc4
        clear hs4 hc4
        go_wp2_with fail
        refine (pick_s w4 g A n c bs (K + 4 + 6 * L + 2) HS4.out (by omega) 1000 (by omega) 999 (by omega) (by omega)).mono ?_
        rintro e w5 ⟨b, rfl, hb0, hb1, hs5, hc5⟩
        have HS5 := Lib.hid hs5; have HC5 := Lib.hid (HC4.out.trans hc5)
        clear hs5 hc5
        have hbw : IntKind.i64.wrap (b * 1000) = b * 1000 := IntWalk.i64_in _ (by omega)
        have HZ5 : Hid (w.heap.size ≤ w5.heap.size) := Lib.hid (Nat.le_trans HD.out.size HC5.out.size)
        go_wp2_with fail
        refine (among_s _ g A n c bs (K + 4 + 6 * L + 4) (HS5.out.alloc _) (by omega) _ 7 7 [0, 1, 2, 999999, 500000, a, b * 1000] (own_rd (own_lit w5 _ 7 2 rfl (by omega))) (by omega) (by omega) (by rintro b off e; injection e with e; injection e with e1; rw [← e1]; exact HNE.out _ HZ5.out)).mono ?_
        rintro e w6 ⟨y, rfl, hy, hs6, hc6⟩
        have HY := Lib.hid (draw_limb ⟨ha0, ha1⟩ ⟨hb0, hb1⟩ hy)
        have HS6 := Lib.hid hs6
        have HC6 : Hid (Ch (· = g) wr w6) := Lib.hid ((HC5.out.trans (ch_alloc _ w5 _)).trans hc6)
        clear hy hs6 hc6 ha0 ha1 hb0 hb1 hbw
        have HZ6 : Hid (w.heap.size ≤ w6.heap.size) := Lib.hid (Nat.le_trans HD.out.size HC6.out.size)
        have ho6 := HD.out.ownAt HG.out HC6.out
        go_wp2_with (at_builtin; go_must (refine wpList_app1g Try.eltI rfl _ _ rfl w6 w.heap.size _ L _ (by rfl) ho6 _ (by rfl) (by rfl) (by exact HZ6.out) (by omega) ?_); rintro A7 c7 w7 ho7 hb7 hg7)
        have HD7 := Lib.hid (HD.out.push HG.out HA.out HC6.out HS6.out HY.out ho7 hg7)
        clear ho6 ho7 hb7 hg7
        go_wp2_with fail
        go_roundw
        case rel => exact ⟨k - 1, L + 1, A7, c7, _, rfl, by congr 1; omega, by omega, HD7.out.dn (by omega)⟩
        case measure => simp [intOf]; omega
      · obtain rfl : k = 0 := by omega
        go_wp2_with fail
        refine (one_s wr g A n c bs (K + 4 + 6 * L) HD.out.src (by omega) 12 (by omega) (by omega)).mono ?_
        rintro e w4 ⟨x4, rfl, hs4, hc4⟩
        have HD4 : Hid (DrS w w4 g A n c bs (K + 100) A1 L c1 xs) := Lib.hid ⟨HD.out.ownAt HG.out hc4, HD.out.ok, hs4.mono (by omega), HD.out.ch.trans hc4⟩
        have HEND : Hid (∀ (wz : World) (A2 : Option Addr) (m c2 : Nat) (ys : List Int), m ≤ 40 → DrS w wz g A n c bs (K + 100) A2 m c2 ys → DrawP w g A n c bs K (.returned (.slice A2 (trim ys).length c2)) wz) := Lib.hid (fun wz A2 m c2 ys hm hd => by
          have ho := own_trim hd.own
          have e := trim_eq hd.ok
          refine ⟨A2, (trim ys).length, c2, (val ys).toNat, rfl, ?_, by rw [← e]; exact ho, hd.src.mono (by omega), hd.ch⟩
          rw [← e]
          have h1 := trim_le ys
          have h2 := hd.own.1
          simp at h2
          omega)
        clear hs4 hc4
        cases x4 with
        | true =>
          go_wp2_with fail
          go_loopw [3] (fun o wr => ∃ (L : Nat) (A1 : Option Addr) (c1 : Nat) (xs : List Int), o = .slice A1 L c1 ∧ L ≤ 40 ∧ DrS w wr g A n c bs (K + 100) A1 L c1 xs) (fun o _ => 40 - (match o with | .slice _ l _ => l | _ => 0))
          case atStart => exact ⟨L, A1, c1, xs, rfl, by omega, HD4.out⟩
          case round =>
            obtain ⟨L2, A2, c2, ys, rfl, hL2, hd2⟩ := hrel
            have HD2 := Lib.hid hd2; clear hd2
            by_cases h40 : L2 < 40
            · have h40' : (L2 : Int) < 40 := by omega
              have ho2 := HD2.out.own
              have HZ2 : Hid (w.heap.size ≤ wr.heap.size) := Lib.hid HD2.out.size
              go_wp2_with (at_builtin; go_must (refine wpList_app1g Try.eltI rfl _ _ rfl _ w.heap.size _ L2 _ (by rfl) ho2 (.int .i64 999999) (by rfl) (by rfl) (by exact HZ2.out) (by omega) ?_); rintro A7 c7 w7 ho7 hb7 hg7)
              have HD7 := Lib.hid (HD2.out.push HG.out HA.out (Ch.refl _ _) HD2.out.src ⟨by omega, by omega⟩ ho7 hg7)
              clear ho2 ho7 hb7 hg7
              go_wp2_with fail
              go_roundw
              case rel => exact ⟨L2 + 1, A7, c7, _, rfl, by omega, HD7.out⟩
              case measure => simp; omega
            · have h40' : ¬ (L2 : Int) < 40 := by omega
              go_wp2_with fail
              refine (l02Trim_any _ w.heap.size A2 L2 c2 ys HD2.out.own (by omega)).mono ?_
              rintro e w5 ⟨rfl, rfl⟩
              go_wp2_with fail
              go_ret
              exact HEND.out _ _ _ _ _ hL2 HD2.out
        | false =>
          go_wp2_with fail
          refine (l02Trim_any _ w.heap.size A1 L c1 xs HD4.out.own (by omega)).mono ?_
          rintro e w5 ⟨rfl, rfl⟩
          go_wp2_with fail
          go_ret
          exact HEND.out _ _ _ _ _ (by omega) HD4.out
/-- Two naturals are drawn. -/
def TwoP (w : World) (e : Ending) (w' : World) : Prop := ∃ (A : Option Addr) (n c X : Nat) (A' : Option Addr) (n' c' Y : Nat), e = .returned (.tuple #[.slice A n c, .slice A' n' c']) ∧ (limbs X).length ≤ 40 ∧ (limbs Y).length ≤ 40 ∧ Rd w' A n (ints (limbs X)) ∧ Rd w' A' n' (ints (limbs Y)) ∧ Below w.heap.size w w'
set_option maxHeartbeats 2000000 in
theorem B10Naturals_any (w : World) (A : Option Addr) (n c : Nat) (bs : List Int) (hr : Rd w A n (bytesV bs)) (hbs : ∀ b ∈ bs, 0 ≤ b ∧ b ≤ 255) (hn : n ≤ 1000000000) :
    Calls Try.prog 14 #[.slice A n c] w (TwoP w) := by
  have HBS := Lib.hid hbs; clear hbs
  go_enter Try.func14, Try.ntmps14
  go_wp2_with fail
  refine (l00From_any w A n c).mono ?_
  rintro e w1 ⟨rfl, hw1⟩
  have hb1 : Below w.heap.size w w1 := by rw [hw1]; exact below_new _ _
  have HS1 : Hid (SrcS w1 w.heap.size A n c bs 0) := Lib.hid ⟨⟨0, 0, Nat.le_refl _, by rw [hw1]; exact box_new _ _ _⟩, hr.below hb1 (Nat.le_refl _), fun hp b off e hq => by
    obtain ⟨b', off', e', hlt, _⟩ := hr.2 hp
    rw [e] at e'; injection e' with e'; injection e' with e1; omega, HBS.out, hn⟩
  have HB1 := Lib.hid hb1
  clear hw1 hb1
  go_wp2_with fail
  refine (l02DrawOk_s w1 w.heap.size A n c bs 0 HS1.out (by omega)).mono ?_
  rintro e w2 ⟨A2, m2, c2, X, rfl, hX, ho2, hs2, hc2⟩
  have HX := Lib.hid hX; have HO2 := Lib.hid ho2; have HS2 := Lib.hid hs2; have HC2 := Lib.hid hc2
  clear hX ho2 hs2 hc2
  go_wp2_with fail
  refine (l02DrawOk_s w2 w.heap.size A n c bs _ HS2.out (by omega)).mono ?_
  rintro e w3 ⟨A3, m3, c3, Y, rfl, hY, ho3, hs3, hc3⟩
  have HY := Lib.hid hY; have HO3 := Lib.hid ho3; have HC3 := Lib.hid hc3
  clear hY ho3 hs3 hc3
  go_wp2_with fail
  go_ret2
  have hb2 := below_ch HB1.out HC2.out (fun k h => by omega) HB1.out.size
  exact ⟨A2, m2, c2, X, A3, m3, c3, Y, rfl, HX.out, HY.out, own_rd (own_ch HO2.out HC3.out (fun k h1 h2 => by have := (HO2.out.lt k h1).1; have := HS1.out.lt; omega)), own_rd HO3.out, below_ch hb2 HC3.out (fun k h => by omega) hb2.size⟩
end Go.Proofs.Ytfjlbfnjnkaooaa
