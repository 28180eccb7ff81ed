/- The contracts of the laws' own helpers on slices of slices of int64. -/
import Derived.Test.YtdpkcnjoklnoeaaRoot3
namespace Go.Proofs.Ytdpkcnjoklnoeaa
open Go.RowKit Limb

theorem Try.infoS : (Try.prog.info? 22).map (fun i => (i.zero, i.size, i.bytes)) = some (some (.slice none 0 0), 1, 24) := by kernel_rfl
theorem Try.eltS : Elt Try.prog 36 22 (.slice none 0 0) := Elt.mk_ Try.underlying36 Try.infoS rfl (by decide)

/-- Memory outside a range of blocks is as it was. -/
structure Outside (lo hi : Nat) (w w' : World) : Prop where
  os : w'.os = w.os
  tape : w'.tape = w.tape
  output : w'.output = w.output
  size : w.heap.size ≤ w'.heap.size
  block : ∀ k, k < w.heap.size → (k < lo ∨ hi ≤ k) → w'.heap[k]? = w.heap[k]?
theorem Outside.refl (lo hi : Nat) (w : World) : Outside lo hi w w := ⟨rfl, rfl, rfl, Nat.le_refl _, fun _ _ _ => rfl⟩
theorem Outside.trans {lo hi : Nat} {a b c : World} (h : Outside lo hi a b) (k : Outside lo hi b c) : Outside lo hi a c :=
  ⟨k.os.trans h.os, k.tape.trans h.tape, k.output.trans h.output, Nat.le_trans h.size k.size, fun i hi' ho => (k.block i (Nat.lt_of_lt_of_le hi' h.size) ho).trans (h.block i hi' ho)⟩
theorem out_grown {lo hi : Nat} {w w' : World} {row : Option Nat} (hg : w.grownBy w' row) (hr : ∀ k, row = some k → lo ≤ k ∧ k < hi) : Outside lo hi w w' :=
  ⟨hg.os, hg.tape, hg.output, hg.size, fun k hk ho => hg.block k hk (fun e => by have := hr k e.symm; omega)⟩
theorem below_out {B lo hi : Nat} {a w w' : World} (h : Below B a w) (ho : Outside lo hi w w') (hB : B ≤ lo) (hs : B ≤ w.heap.size) : Below B a w' :=
  h.trans ⟨ho.os, ho.tape, ho.output, ho.size, fun k hk => ho.block k (by omega) (.inl (by omega))⟩
theorem own_out {w w' : World} {base e n lo hi a b : Nat} {v : Value} {vs : List Value} (h : w.ownsRow base e 1 v n vs) (hr : ∀ k, v.ownBlock = some k → a ≤ k ∧ k < b) (ho : Outside lo hi w w') (hd : b ≤ lo ∨ hi ≤ a) : w'.ownsRow base e 1 v n vs := by
  refine ⟨h.1, ?_⟩
  rcases h.2 with h' | ⟨g, cap, cur, rfl, hb, hg, r⟩
  · exact .inl h'
  · have := hr g rfl
    exact .inr ⟨g, cap, cur, rfl, hb, (ho.block g (Array.getElem?_eq_some_iff.1 hg).1 (by omega)).trans hg, r⟩

/-- Rows of the call's own, each in a block of its own, that read as lists. -/
def Inner (w : World) (lo hi : Nat) (us : List Value) (xss : List (List Int)) : Prop :=
  us.length = xss.length ∧ (∀ (i : Nat) (u : Value) (xs : List Int), us[i]? = some u → xss[i]? = some xs → ∃ A n c, u = .slice A n c ∧ n ≤ 1000000000 ∧ w.ownsRow lo 2 1 (.slice A n c) n (ints xs) ∧ ∀ k, u.ownBlock = some k → lo ≤ k ∧ k < hi) ∧
    ∀ (i j : Nat) (u v : Value), us[i]? = some u → us[j]? = some v → ∀ k, u.ownBlock = some k → v.ownBlock = some k → i = j
theorem Inner.nil (w : World) (lo hi : Nat) : Inner w lo hi [] [] := ⟨rfl, by simp, by simp⟩
theorem Inner.mono {w w' : World} {lo hi hi' : Nat} {us : List Value} {xss : List (List Int)} (h : Inner w lo hi us xss) (hk : ∀ k, k < hi → lo ≤ k → k < w.heap.size → w'.heap[k]? = w.heap[k]?) (hh : hi ≤ hi') : Inner w' lo hi' us xss := by
  obtain ⟨h1, h2, h3⟩ := h
  refine ⟨h1, fun i u xs hu hx => ?_, h3⟩
  obtain ⟨A, n, c, rfl, hn, ho, hb⟩ := h2 i u xs hu hx
  refine ⟨A, n, c, rfl, hn, ⟨ho.1, ?_⟩, fun k hk' => by have := hb k hk'; omega⟩
  rcases ho.2 with h' | ⟨g, cap, cur, h', hbs, hg, r⟩
  · exact .inl h'
  · refine .inr ⟨g, cap, cur, h', hbs, ?_, r⟩
    have hgb := hb g (by rw [h']; rfl)
    rw [hk g hgb.2 hgb.1 (Array.getElem?_eq_some_iff.1 hg).1]; exact hg
theorem Inner.below {w w' : World} {lo hi hi' B : Nat} {us : List Value} {xss : List (List Int)} (h : Inner w lo hi us xss) (hb : Below B w w') (hB : hi ≤ B) (hh : hi ≤ hi') : Inner w' lo hi' us xss :=
  h.mono (fun k hk _ _ => hb.block k (by omega)) hh
theorem Inner.out {w w' : World} {lo hi a b : Nat} {us : List Value} {xss : List (List Int)} (h : Inner w lo hi us xss) (ho : Outside a b w w') (hd : hi ≤ a ∨ b ≤ lo) : Inner w' lo hi us xss :=
  h.mono (fun k hk hl hs => ho.block k hs (by omega)) (Nat.le_refl _)
theorem Inner.far {w : World} {lo hi g i T : Nat} {us : List Value} {xss : List (List Int)} {cs : Array Value} {v : Value} (h : Inner w lo hi us xss) (hg : w.heap[g]? = some (.cells cs T (0, 0))) (hT : T ≠ 2) : Inner (w.setCell ⟨g, i, none⟩ v) lo hi us xss := by
  obtain ⟨h1, h2, h3⟩ := h
  refine ⟨h1, fun j u xs hu hx => ?_, h3⟩
  obtain ⟨A, n, c, rfl, hn, ho, hb⟩ := h2 j u xs hu hx
  exact ⟨A, n, c, rfl, hn, own_set_far ho hg hT, hb⟩
theorem Inner.snoc {w : World} {lo hi S n c : Nat} {us : List Value} {xss : List (List Int)} {A : Option Addr} {xs : List Int} (h : Inner w lo hi us xss) (ho : w.ownsRow S 2 1 (.slice A n c) n (ints xs)) (hS : hi ≤ S) (hl : lo ≤ hi) (hn : n ≤ 1000000000) : Inner w lo w.heap.size (us ++ [.slice A n c]) (xss ++ [xs]) := by
  obtain ⟨h1, h2, h3⟩ := h
  have hlt := ho.lt
  refine ⟨by simp [h1], fun i u ys hu hx => ?_, fun i j u v hu hv k hk hk' => ?_⟩
  · by_cases hi : i < us.length
    · rw [List.getElem?_append_left hi] at hu
      rw [List.getElem?_append_left (by omega)] at hx
      obtain ⟨A', n', c', rfl, hn', ho', hb'⟩ := h2 i u ys hu hx
      exact ⟨A', n', c', rfl, hn', ho', fun k hk => ⟨(hb' k hk).1, (ho'.lt k hk).2⟩⟩
    · rw [List.getElem?_append_right (by omega)] at hu hx
      have hi0 : i - us.length = 0 := by
        rcases Nat.eq_zero_or_pos (i - us.length) with h | h
        · exact h
        · rw [List.getElem?_eq_none (by simp; omega)] at hu; cases hu
      rw [hi0] at hu
      rw [show i - xss.length = 0 by omega] at hx
      simp at hu hx
      subst hu hx
      exact ⟨A, n, c, rfl, hn, own_base ho (by omega), fun k hk => ⟨by have := (hlt k hk).1; omega, (hlt k hk).2⟩⟩
  · have hold : ∀ (i : Nat) (u : Value), i < us.length → (us ++ [Value.slice A n c])[i]? = some u → ∀ k, u.ownBlock = some k → k < hi := by
      intro i u hi' hu k hk
      rw [List.getElem?_append_left hi'] at hu
      obtain ⟨ys, hy⟩ := get_some (xs := xss) (k := i) (by omega)
      obtain ⟨_, _, _, rfl, _, _, hb'⟩ := h2 i u ys hu hy
      exact (hb' k hk).2
    have hnew : ∀ (i : Nat) (u : Value), ¬ i < us.length → (us ++ [Value.slice A n c])[i]? = some u → i = us.length ∧ u = .slice A n c := by
      intro i u hi' hu
      rw [List.getElem?_append_right (by omega)] at hu
      have hi0 : i - us.length = 0 := by
        rcases Nat.eq_zero_or_pos (i - us.length) with h | h
        · exact h
        · rw [List.getElem?_eq_none (by simp; omega)] at hu; cases hu
      rw [hi0] at hu
      simp at hu
      exact ⟨by omega, hu.symm⟩
    by_cases hi' : i < us.length <;> by_cases hj' : j < us.length
    · rw [List.getElem?_append_left hi'] at hu
      rw [List.getElem?_append_left hj'] at hv
      exact h3 i j u v hu hv k hk hk'
    · obtain ⟨_, rfl⟩ := hnew j v hj' hv
      have := hold i u hi' hu k hk
      have := (hlt k hk').1
      omega
    · obtain ⟨_, rfl⟩ := hnew i u hi' hu
      have := hold j v hj' hv k hk'
      have := (hlt k hk).1
      omega
    · have := (hnew i u hi' hu).1
      have := (hnew j v hj' hv).1
      omega
theorem Inner.rdl {w : World} {lo hi n : Nat} {A : Option Addr} {us : List Value} {xss : List (List Int)} (h : Inner w lo hi us xss) (hr : Rd w A n us) : RdL w A n xss := by
  refine ⟨us, hr, h.1, fun i v xs hv hx => ?_⟩
  obtain ⟨A', n', c', rfl, hn', ho', _⟩ := h.2.1 i v xs hv hx
  exact ⟨A', n', c', rfl, hn', own_rd ho'⟩

/-- A slice of slices of the call's own: all its blocks lie in a range. -/
def OwnL (w : World) (lo hi : Nat) (A : Option Addr) (n c : Nat) (xss : List (List Int)) : Prop :=
  ∃ us, w.ownsRow lo 22 1 (.slice A n c) n us ∧ (∀ k, (Value.slice A n c).ownBlock = some k → lo ≤ k ∧ k < hi) ∧ Inner w lo hi us xss
theorem OwnL.rdl {w : World} {lo hi n c : Nat} {A : Option Addr} {xss : List (List Int)} (h : OwnL w lo hi A n c xss) : RdL w A n xss := by
  obtain ⟨us, h1, _, h3⟩ := h; exact h3.rdl (own_rd h1)
theorem OwnL.len {w : World} {lo hi n c : Nat} {A : Option Addr} {xss : List (List Int)} (h : OwnL w lo hi A n c xss) : xss.length = n := h.rdl.len
theorem OwnL.below {w w' : World} {lo hi n c B : Nat} {A : Option Addr} {xss : List (List Int)} (h : OwnL w lo hi A n c xss) (hb : Below B w w') (hB : w.heap.size ≤ B) (hh : hi ≤ w.heap.size) : OwnL w' lo hi A n c xss := by
  obtain ⟨us, h1, h2, h3⟩ := h
  exact ⟨us, own_below h1 hb hB, h2, h3.below hb (by omega) (Nat.le_refl _)⟩
theorem OwnL.out {w w' : World} {lo hi n c a b : Nat} {A : Option Addr} {xss : List (List Int)} (h : OwnL w lo hi A n c xss) (ho : Outside a b w w') (hd : hi ≤ a ∨ b ≤ lo) : OwnL w' lo hi A n c xss := by
  obtain ⟨us, h1, h2, h3⟩ := h
  exact ⟨us, own_out h1 h2 ho hd, h2, h3.out ho hd⟩
/-- What a call that returns a new slice of slices leaves. -/
def RetL (w : World) (xss : List (List Int)) (en : Ending) (w' : World) : Prop :=
  ∃ A n c, en = .returned (.slice A n c) ∧ OwnL w' w.heap.size w'.heap.size A n c xss ∧ Below w.heap.size w w'
def RetLI (w : World) (xss : List (List Int)) (code : Int) (en : Ending) (w' : World) : Prop :=
  ∃ A n c, en = .returned (.tuple #[.slice A n c, .int .i64 code]) ∧ OwnL w' w.heap.size w'.heap.size A n c xss ∧ Below w.heap.size w w'
theorem OwnL.nil (w : World) (lo hi : Nat) : OwnL w lo hi none 0 0 [] := ⟨[], own_nil _ _ _, by simp [Value.ownBlock], Inner.nil _ _ _⟩

theorem fillL_get (us : List Value) (n k : Nat) (h : us.length = k) (hk : k < n) : (us ++ List.replicate (n - k) (Value.slice none 0 0))[k]? = some (.slice none 0 0) := by
  rw [List.getElem?_append_right (by omega), h]; simp [List.getElem?_replicate]; omega
theorem fillL_set (us : List Value) (n k : Nat) (h : us.length = k) (hk : k < n) (u : Value) : (us ++ List.replicate (n - k) (Value.slice none 0 0)).set k u = (us ++ [u]) ++ List.replicate (n - (k + 1)) (Value.slice none 0 0) := by
  obtain ⟨m, hm⟩ : ∃ m, n - k = m + 1 := ⟨n - k - 1, by omega⟩
  rw [hm, show n - (k + 1) = m by omega, List.replicate_succ, List.set_append_right _ _ (by omega), h]
  simp

set_option maxHeartbeats 1000000 in
theorem toInt64SS_any (w : World) (A : Option Addr) (n c : Nat) (xss : List (List Int)) (hr : RdL w A n xss) (hn : n ≤ 1000000000) :
    Calls Try.prog 35 #[.slice A n c] w (RetL w xss) := by
  have HL : Hid (xss.length = n) := Lib.hid hr.len
  go_enter Try.func35, Try.ntmps35
  go_wp2_with (at_make; go_must (refine wpList_mk Try.eltS rfl _ _ rfl w _ _ n (by rfl) (by rfl) (by omega) (by omega) (by omega) ?_); rintro w1 hown1 hb1 hs1)
  go_loopw [4] (fun i wr => ∃ (k : Nat) (us : List Value), k ≤ n ∧ i = .int .i64 k ∧ Hid (us.length = k) ∧ wr.ownsRow w.heap.size 22 1 (.slice (some ⟨w.heap.size, 0, none⟩) n n) n (us ++ List.replicate (n - k) (.slice none 0 0)) ∧ Inner wr w.heap.size wr.heap.size us (xss.take k) ∧ Below w.heap.size w wr) (fun i _ => n - (intOf i).toNat)
  case atStart => exact ⟨0, [], Nat.zero_le _, rfl, Lib.hid rfl, by simpa using hown1, Inner.nil _ _ _, hb1⟩
  case round =>
    obtain ⟨k, us, hk, rfl, HU, hown, hin, hb⟩ := hrel
    clear hown1 hb1 hs1
    by_cases hlt : k < n
    · obtain ⟨xs, hx⟩ := get_some (xs := xss) (k := k) (by rw [HL.out]; exact hlt)
      obtain ⟨b, off, A', n', c', rfl, hbs, hc, hn', hr'⟩ := hr.at_ hx
      have hc1 := (hb.cell (p := ⟨b, off + k, none⟩) hbs).trans hc
      have HX := Lib.hid hx
      clear hx hc
      go_wp2_with fail
      refine (toInt64S_any _ _ _ _ xs (hr'.below hb (Nat.le_refl _)) (by omega)).mono ?_
      rintro e w2 ⟨A2, n2, c2, rfl, ho2, hb2⟩
      have hn2 : n2 = n' := by have h1 := ho2.1; have h2 := hr'.1; simp at h1 h2; omega
      have HN2 : Hid (n2 ≤ 1000000000) := Lib.hid (by omega)
      have hown2 := own_below hown hb2 (Nat.le_refl _)
      have hin2 := hin.below hb2 (Nat.le_refl _) (Nat.le_refl _)
      have hB2 := hb.trans (hb2.mono hb.size)
      have hin3 := hin2.snoc ho2 (Nat.le_refl _) hb.size HN2.out
      obtain ⟨g, hg, hgb, hgs, hc2, hc3⟩ := own_get hown2 (fillL_get us n k HU.out hlt)
      obtain rfl : w.heap.size = g := by simpa using hg
      obtain ⟨cs, hcs⟩ := own_blk hown2
      have HS := Lib.hid (own_put hown2 k (.slice A2 n2 c2))
      have HI := Lib.hid (hin3.far (i := k) (v := .slice A2 n2 c2) hcs (by decide))
      have HB := Lib.hid hB2
      clear hown hin hb hown2 hin2 hin3 hB2 hg hcs hn2 hb2 ho2
      go_wp2_with fail
      go_roundw
      case rel =>
        refine ⟨k + 1, us ++ [.slice A2 n2 c2], by omega, by go_num, Lib.hid (by simp [HU.out]), ?_, ?_, HB.out.setCell (p := ⟨w.heap.size, k, none⟩) (Nat.le_refl _) _⟩
        · rw [← fillL_set us n k HU.out hlt]; exact HS.out
        · have h := HI.out
          rw [List.take_add_one, HX.out]
          simpa [World.setCell] using h
      case measure => simp [intOf]; omega
    · go_wp2_with fail
      go_ret
      obtain rfl : k = n := by omega
      rw [List.take_of_length_le (by rw [HL.out]; omega)] at hin
      refine ⟨some ⟨w.heap.size, 0, none⟩, k, k, rfl, ⟨us, by simpa using hown, ?_, hin⟩, hb⟩
      intro q hq
      exact hown.lt q hq
end Go.Proofs.Ytdpkcnjoklnoeaa
