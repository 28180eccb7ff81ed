/- Programs of fractions that are drawn: l08DrawOk, B10Fractions. -/
import Derived.Test.YtfjlbfnjnkaooaaFq5
import Derived.Test.YtfjlbfnjnkaooaaDv
namespace Go.Proofs.Ytfjlbfnjnkaooaa
open Go.RowKit Limb
set_option linter.unusedSimpArgs false
set_option linter.unusedVariables false
/-- What a loop that draws fractions has. -/
structure FrS (w wr : World) (g : Nat) (A : Option Addr) (n c : Nat) (bs : List Int) (K : Nat) (A1 : Option Addr) (L c1 : Nat) (fs : List Fr) : Prop where
  own : wr.ownsRow w.heap.size 39 2 (.slice A1 L c1) L (ints (flatF fs))
  ok : ∀ x ∈ fs, okF x
  src : SrcS wr g A n c bs K
  ch : Ch (· = g) w wr
theorem FrS.ownAt {w wr wx : World} {g n c K L c1 : Nat} {A A1 : Option Addr} {bs : List Int} {fs : List Fr} (h : FrS w wr g A n c bs K A1 L c1 fs) (hg : g < w.heap.size) (hc : Ch (· = g) wr wx) : wx.ownsRow w.heap.size 39 2 (.slice A1 L c1) L (ints (flatF fs)) := own_ch h.own hc (fun k h1 h2 => by have := (h.own.lt k h1).1; omega)
theorem FrS.push {w wr wx w5 : World} {g n c K K' L c1 c5 : Nat} {A A1 A5 : Option Addr} {bs : List Int} {fs : List Fr} {x : Fr} (h : FrS w wr g A n c bs K A1 L c1 fs) (hg : g < w.heap.size) (hA : 0 < n → ∀ b off, A = some ⟨b, off, none⟩ → b < w.heap.size) (hc : Ch (· = g) wr wx) (hs : SrcS wx g A n c bs K') (hx : okF x)
    (ho5 : w5.ownsRow w.heap.size 39 2 (.slice A5 (L + 1) c5) (L + 1) (ints (flatF fs) ++ [.int .i64 (x.up : Int), .int .i64 (x.dn : Int)])) (hg5 : wx.grownBy w5 (Value.slice A1 L c1).ownBlock) : FrS w w5 g A n c bs K' A5 (L + 1) c5 (fs ++ [x]) := by
  have hox := h.ownAt hg hc
  refine ⟨by rw [ints_pair] at ho5; exact ho5, fun y hy => ?_, hs.far (ch_row hg5) hox hg (fun b off e hp => hA hp b off e), ch_then (h.ch.trans hc) (ch_row hg5) (fun q hq => .inl (hox.lt q hq).1)⟩
  rcases List.mem_append.1 hy with hy | hy
  · exact h.ok y hy
  · rw [List.mem_singleton.1 hy]; exact hx
theorem FrS.len {w wr : World} {g n c K L c1 : Nat} {A A1 : Option Addr} {bs : List Int} {fs : List Fr} (h : FrS w wr g A n c bs K A1 L c1 fs) : fs.length = L := by
  have h1 := h.own.1
  simp [flatF_len] at h1
  omega
def FrDP (w : World) (g : Nat) (A : Option Addr) (n c : Nat) (bs : List Int) (K : Nat) (e : Ending) (w' : World) : Prop := ∃ (fs : List Fr) (A2 : Option Addr) (m c2 : Nat), e = .returned (.slice A2 m c2) ∧ OkFs fs ∧ w'.ownsRow w.heap.size 39 2 (.slice A2 m c2) m (ints (flatF fs)) ∧ SrcS w' g A n c bs (K + 1000) ∧ Ch (· = g) w w'
theorem among_fr : ∀ y ∈ ([1, 2, 3, 5, 6, 7, 10, 15, 21, 4, 9] : List Int), 1 ≤ y ∧ y ≤ 21 := by decide
set_option maxHeartbeats 8000000 in
set_option maxRecDepth 100000 in
theorem l08DrawOk_s (w : World) (g : Nat) (A : Option Addr) (n c : Nat) (bs : List Int) (K : Nat) (h : SrcS w g A n c bs K) (hK : K ≤ 100000000) :
    Calls Try.prog 29 #[.pointer (some ⟨g, 0, none⟩)] w (FrDP w g A n c bs K) := by
  have HG : Hid (g < w.heap.size) := Lib.hid h.lt
  have HA : Hid (0 < n → ∀ b off, A = some ⟨b, off, none⟩ → b < w.heap.size) := Lib.hid (fun hp b off e => by
    obtain ⟨b', off', e', hlt, _⟩ := h.rd.2 hp
    rw [e] at e'; injection e' with e'; injection e' with e1; omega)
  have HNE : Hid (∀ q, w.heap.size ≤ q → q ≠ g) := Lib.hid (fun q hq => by have := HG.out; omega)
  have H := Lib.hid h; clear h
  go_enter Try.func29, Try.ntmps29
  go_wp2_with fail
  refine (one_s w g A n c bs K H.out (by omega) 3 (by omega) (by omega)).mono ?_
  rintro e w1 ⟨x1, rfl, hs1, hc1⟩
  have HS1 := Lib.hid hs1; have HC1 := Lib.hid hc1
  clear hs1 hc1
  have HZ1 : Hid (w.heap.size ≤ w1.heap.size) := Lib.hid HC1.out.size
  cases x1 with
  | true =>
    go_wp2_with fail
    refine (pick_s w1 g A n c bs (K + 2) HS1.out (by omega) 3 (by omega) 2 (by omega) (by omega)).mono ?_
    rintro e w2 ⟨x, rfl, _, _, hs2, hc2⟩
    have HS2 := Lib.hid hs2
    have HC2 : Hid (Ch (· = g) w w2) := Lib.hid (HC1.out.trans hc2)
    clear hs2 hc2
    go_wp2_with fail
    refine (l08Known_any w2 x).mono ?_
    rintro e w3 ⟨fs, A3, n3, c3, rfl, hok, ho3, hb3⟩
    have HOK := Lib.hid hok
    clear hok
    go_wp2_with fail
    go_ret
    exact ⟨fs, A3, n3, c3, rfl, HOK.out, ownN_base ho3 HC2.out.size, (HS2.out.below hb3).mono (by omega), ch_snd HC2.out hb3⟩
  | false =>
    go_wp2_with fail
    have HO1 : Hid (FrS w (w1.alloc (.cells #[] 39)) g A n c bs (K + 2) (some ⟨w1.heap.size, 0, none⟩) 0 0 []) := Lib.hid ⟨ownN_base (ownN_lit w1 #[] 0 2 39 rfl (by omega)) HZ1.out, by simp, HS1.out.alloc _, HC1.out.trans (ch_alloc _ w1 _)⟩
    generalize w1.alloc (.cells #[] 39) = w2 at *
    refine (pick_s w2 g A n c bs (K + 2) HO1.out.src (by omega) 4 (by omega) 3 (by omega) (by omega)).mono ?_
    rintro e w3 ⟨x3, rfl, hx0, hx1, hs3, hc3⟩
    have HO3 : Hid (FrS w w3 g A n c bs (K + 4) (some ⟨w1.heap.size, 0, none⟩) 0 0 []) := Lib.hid ⟨HO1.out.ownAt HG.out hc3, by simp, hs3, HO1.out.ch.trans hc3⟩
    obtain ⟨M, rfl⟩ := Int.eq_ofNat_of_zero_le hx0
    have hM5 : M ≤ 3 := by omega
    clear hx0 hx1 hs3 hc3
    go_wp2_with fail
    go_loopw [3, 4] (fun o q wr => ∃ (k L : Nat) (A1 : Option Addr) (c1 : Nat) (fs : List Fr), o = .slice A1 L c1 ∧ q = .int .i64 k ∧ L + k ≤ 4 ∧ 1 ≤ L + k ∧ FrS w wr g A n c bs (K + 4 + 4 * L) A1 L c1 fs) (fun _ q _ => (intOf q).toNat)
    case atStart => exact ⟨1 + M, 0, _, 0, [], rfl, by congr 1, by omega, by omega, HO3.out⟩
    case round =>
      obtain ⟨k, L, A1, c1, fs, rfl, rfl, hLk, hLk1, hd⟩ := hrel
      have HD := Lib.hid hd; clear hd
      by_cases hk : 0 < k
      · have hk' : (0 : Int) < (k : Int) := by omega
        have HZr : Hid (w.heap.size ≤ wr.heap.size) := Lib.hid HD.out.ch.size
        go_wp2_with fail
        obtain ⟨w4, hw4⟩ : ∃ w4, w4 = wr.alloc (.cells #[.int .i64 1, .int .i64 2, .int .i64 3, .int .i64 5, .int .i64 6, .int .i64 7, .int .i64 10, .int .i64 15, .int .i64 21, .int .i64 4, .int .i64 9] 2) := ⟨_, rfl⟩
        have HRL : Hid (Rd w4 (some ⟨wr.heap.size, 0, none⟩) 11 (ints [1, 2, 3, 5, 6, 7, 10, 15, 21, 4, 9])) := Lib.hid (by rw [hw4]; exact own_rd (own_lit wr _ 11 2 rfl (by omega)))
        have HS4 : Hid (SrcS w4 g A n c bs (K + 4 + 4 * L)) := Lib.hid (by rw [hw4]; exact HD.out.src.alloc _)
        have HC4 : Hid (Ch (· = g) wr w4) := Lib.hid (by rw [hw4]; exact ch_alloc _ wr _)
        rw [← hw4]
        clear hw4
        refine (among_s _ g A n c bs (K + 4 + 4 * L) HS4.out (by omega) _ 11 11 [1, 2, 3, 5, 6, 7, 10, 15, 21, 4, 9] HRL.out (by omega) (by omega) (by rintro b off e; injection e with e; injection e with e1; rw [← e1]; exact HNE.out _ HZr.out)).mono ?_
        rintro e w5 ⟨u, rfl, hu, hs5, hc5⟩
        have hu2 := among_fr u hu
        have HRL5 := Lib.hid (ch_rd HRL.out hc5 (fun _ b off e hf => by injection e with e; injection e with e1; exact HNE.out _ HZr.out (e1.trans hf)))
        have HS5 := Lib.hid hs5; have HC5 := Lib.hid (HC4.out.trans hc5)
        clear hu hs5 hc5 HRL HS4 HC4
        go_wp2_with fail
        refine (among_s _ g A n c bs (K + 4 + 4 * L + 2) HS5.out (by omega) _ 11 11 [1, 2, 3, 5, 6, 7, 10, 15, 21, 4, 9] HRL5.out (by omega) (by omega) (by rintro b off e; injection e with e; injection e with e1; rw [← e1]; exact HNE.out _ HZr.out)).mono ?_
        rintro e w6 ⟨d, rfl, hd, hs6, hc6⟩
        have hd2 := among_fr d hd
        have HS6 := Lib.hid hs6; have HC6 := Lib.hid (HC5.out.trans hc6)
        clear hd hs6 hc6 HRL5 HS5 HC5
        have ho6 := HD.out.ownAt HG.out HC6.out
        have HZ6 : Hid (w.heap.size ≤ w6.heap.size) := Lib.hid (Nat.le_trans HZr.out HC6.out.size)
        obtain ⟨un, rfl⟩ := Int.eq_ofNat_of_zero_le (show 0 ≤ u by omega)
        obtain ⟨dn, rfl⟩ := Int.eq_ofNat_of_zero_le (show 0 ≤ d by omega)
        have HX : Hid (okF ⟨un, dn⟩) := Lib.hid (by refine ⟨?_, ?_, ?_, ?_⟩ <;> simp only <;> omega)
        go_wp2_with (at_builtin; go_must (refine wpList_app1N eltF rfl _ _ rfl w6 w.heap.size (.slice A1 L c1) L (ints (flatF fs)) (by rfl) ho6 #[.int .i64 (un : Int), .int .i64 (dn : Int)] rfl (by simp [Value.oneCell']) (by rfl) (by exact HZ6.out) (by omega) ?_); rintro A7 c7 w7 ho7 hb7 hg7)
        have HD7 := Lib.hid (HD.out.push (x := ⟨un, dn⟩) HG.out HA.out HC6.out HS6.out HX.out ho7 hg7)
        clear ho6 ho7 hb7 hg7 hu2 hd2
        go_wp2_with fail
        go_roundw
        case rel => exact ⟨k - 1, L + 1, A7, c7, _, rfl, by congr 1; omega, by omega, by omega, ⟨HD7.out.own, HD7.out.ok, HD7.out.src.mono (by omega), HD7.out.ch⟩⟩
        case measure => simp [intOf]; omega
      · obtain rfl : k = 0 := by omega
        go_wp2_with fail
        go_ret
        have hl := HD.out.len
        exact ⟨fs, A1, L, c1, rfl, ⟨by omega, by omega, HD.out.ok⟩, HD.out.own, HD.out.src.mono (by omega), HD.out.ch⟩
end Go.Proofs.Ytfjlbfnjnkaooaa
