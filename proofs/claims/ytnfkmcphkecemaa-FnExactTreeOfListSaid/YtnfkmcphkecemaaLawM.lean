/- The contracts of the laws' own helpers on slices of slices of bool (written by mk_lawm.py out of those on int64). -/
import Derived.Test.YtnfkmcphkecemaaTreeL
import Derived.Test.YtnfkmcphkecemaaMirr2
namespace Go.Proofs.Ytnfkmcphkecemaa
open Go.RowKit
/-- Rows of the call's own, each in a block of its own, that read as lists. -/
def InnerB (w : World) (lo hi : Nat) (us : List Value) (xss : List (List Bool)) : Prop :=
  us.length = xss.length ∧ (∀ (i : Nat) (u : Value) (xs : List Bool), us[i]? = some u → xss[i]? = some xs → ∃ A n c, u = .slice A n c ∧ n ≤ 1000000000 ∧ w.ownsRow lo 4 1 (.slice A n c) n (bools xs) ∧ ∀ k, u.ownBlock = some k → lo ≤ k ∧ k < hi) ∧
    ∀ (i j : Nat) (u v : Value), us[i]? = some u → us[j]? = some v → ∀ k, u.ownBlock = some k → v.ownBlock = some k → i = j
theorem InnerB.nil (w : World) (lo hi : Nat) : InnerB w lo hi [] [] := ⟨rfl, by simp, by simp⟩
theorem InnerB.mono {w w' : World} {lo hi hi' : Nat} {us : List Value} {xss : List (List Bool)} (h : InnerB w lo hi us xss) (hk : ∀ k, k < hi → lo ≤ k → k < w.heap.size → w'.heap[k]? = w.heap[k]?) (hh : hi ≤ hi') : InnerB w' lo hi' us xss := by
  obtain ⟨h1, h2, h3⟩ := h
  refine ⟨h1, fun i u xs hu hx => ?_, h3⟩
  obtain ⟨A, n, c, rfl, hn, ho, hb⟩ := h2 i u xs hu hx
  refine ⟨A, n, c, rfl, hn, ⟨ho.1, ?_⟩, fun k hk' => by have := hb k hk'; omega⟩
  rcases ho.2 with h' | ⟨g, cap, cur, h', hbs, hg, r⟩
  · exact .inl h'
  · refine .inr ⟨g, cap, cur, h', hbs, ?_, r⟩
    have hgb := hb g (by rw [h']; rfl)
    rw [hk g hgb.2 hgb.1 (Array.getElem?_eq_some_iff.1 hg).1]; exact hg
theorem InnerB.below {w w' : World} {lo hi hi' B : Nat} {us : List Value} {xss : List (List Bool)} (h : InnerB w lo hi us xss) (hb : Below B w w') (hB : hi ≤ B) (hh : hi ≤ hi') : InnerB w' lo hi' us xss :=
  h.mono (fun k hk _ _ => hb.block k (by omega)) hh
theorem InnerB.out {w w' : World} {lo hi a b : Nat} {us : List Value} {xss : List (List Bool)} (h : InnerB w lo hi us xss) (ho : Outside a b w w') (hd : hi ≤ a ∨ b ≤ lo) : InnerB w' lo hi us xss :=
  h.mono (fun k hk hl hs => ho.block k hs (by omega)) (Nat.le_refl _)
theorem InnerB.far {w : World} {lo hi g i T : Nat} {us : List Value} {xss : List (List Bool)} {cs : Array Value} {v : Value} (h : InnerB w lo hi us xss) (hg : w.heap[g]? = some (.cells cs T (0, 0))) (hT : T ≠ 4) : InnerB (w.setCell ⟨g, i, none⟩ v) lo hi us xss := by
  obtain ⟨h1, h2, h3⟩ := h
  refine ⟨h1, fun j u xs hu hx => ?_, h3⟩
  obtain ⟨A, n, c, rfl, hn, ho, hb⟩ := h2 j u xs hu hx
  exact ⟨A, n, c, rfl, hn, own_set_far ho hg hT, hb⟩
theorem InnerB.snoc {w : World} {lo hi S n c : Nat} {us : List Value} {xss : List (List Bool)} {A : Option Addr} {xs : List Bool} (h : InnerB w lo hi us xss) (ho : w.ownsRow S 4 1 (.slice A n c) n (bools xs)) (hS : hi ≤ S) (hl : lo ≤ hi) (hn : n ≤ 1000000000) : InnerB w lo w.heap.size (us ++ [.slice A n c]) (xss ++ [xs]) := by
  obtain ⟨h1, h2, h3⟩ := h
  have hlt := ho.lt
  refine ⟨by simp [h1], fun i u ys hu hx => ?_, fun i j u v hu hv k hk hk' => ?_⟩
  · by_cases hi : i < us.length
    · rw [List.getElem?_append_left hi] at hu
      rw [List.getElem?_append_left (by omega)] at hx
      obtain ⟨A', n', c', rfl, hn', ho', hb'⟩ := h2 i u ys hu hx
      exact ⟨A', n', c', rfl, hn', ho', fun k hk => ⟨(hb' k hk).1, (ho'.lt k hk).2⟩⟩
    · rw [List.getElem?_append_right (by omega)] at hu hx
      have hi0 : i - us.length = 0 := by
        rcases Nat.eq_zero_or_pos (i - us.length) with h | h
        · exact h
        · rw [List.getElem?_eq_none (by simp; omega)] at hu; cases hu
      rw [hi0] at hu
      rw [show i - xss.length = 0 by omega] at hx
      simp at hu hx
      subst hu hx
      exact ⟨A, n, c, rfl, hn, own_base ho (by omega), fun k hk => ⟨by have := (hlt k hk).1; omega, (hlt k hk).2⟩⟩
  · have hold : ∀ (i : Nat) (u : Value), i < us.length → (us ++ [Value.slice A n c])[i]? = some u → ∀ k, u.ownBlock = some k → k < hi := by
      intro i u hi' hu k hk
      rw [List.getElem?_append_left hi'] at hu
      obtain ⟨ys, hy⟩ := get_some (xs := xss) (k := i) (by omega)
      obtain ⟨_, _, _, rfl, _, _, hb'⟩ := h2 i u ys hu hy
      exact (hb' k hk).2
    have hnew : ∀ (i : Nat) (u : Value), ¬ i < us.length → (us ++ [Value.slice A n c])[i]? = some u → i = us.length ∧ u = .slice A n c := by
      intro i u hi' hu
      rw [List.getElem?_append_right (by omega)] at hu
      have hi0 : i - us.length = 0 := by
        rcases Nat.eq_zero_or_pos (i - us.length) with h | h
        · exact h
        · rw [List.getElem?_eq_none (by simp; omega)] at hu; cases hu
      rw [hi0] at hu
      simp at hu
      exact ⟨by omega, hu.symm⟩
    by_cases hi' : i < us.length <;> by_cases hj' : j < us.length
    · rw [List.getElem?_append_left hi'] at hu
      rw [List.getElem?_append_left hj'] at hv
      exact h3 i j u v hu hv k hk hk'
    · obtain ⟨_, rfl⟩ := hnew j v hj' hv
      have := hold i u hi' hu k hk
      have := (hlt k hk').1
      omega
    · obtain ⟨_, rfl⟩ := hnew i u hi' hu
      have := hold j v hj' hv k hk'
      have := (hlt k hk).1
      omega
    · have := (hnew i u hi' hu).1
      have := (hnew j v hj' hv).1
      omega
theorem InnerB.rdb {w : World} {lo hi n : Nat} {A : Option Addr} {us : List Value} {xss : List (List Bool)} (h : InnerB w lo hi us xss) (hr : Rd w A n us) : RdB w A n xss := by
  refine ⟨us, hr, h.1, fun i v xs hv hx => ?_⟩
  obtain ⟨A', n', c', rfl, hn', ho', _⟩ := h.2.1 i v xs hv hx
  exact ⟨A', n', c', rfl, hn', own_rd ho'⟩

/-- A slice of slices of the call's own: all its blocks lie in a range. -/
def OwnB (w : World) (lo hi : Nat) (A : Option Addr) (n c : Nat) (xss : List (List Bool)) : Prop :=
  ∃ us, w.ownsRow lo 22 1 (.slice A n c) n us ∧ (∀ k, (Value.slice A n c).ownBlock = some k → lo ≤ k ∧ k < hi) ∧ InnerB w lo hi us xss
theorem OwnB.rdb {w : World} {lo hi n c : Nat} {A : Option Addr} {xss : List (List Bool)} (h : OwnB w lo hi A n c xss) : RdB w A n xss := by
  obtain ⟨us, h1, _, h3⟩ := h; exact h3.rdb (own_rd h1)
theorem OwnB.len {w : World} {lo hi n c : Nat} {A : Option Addr} {xss : List (List Bool)} (h : OwnB w lo hi A n c xss) : xss.length = n := h.rdb.len
theorem OwnB.below {w w' : World} {lo hi n c B : Nat} {A : Option Addr} {xss : List (List Bool)} (h : OwnB w lo hi A n c xss) (hb : Below B w w') (hB : w.heap.size ≤ B) (hh : hi ≤ w.heap.size) : OwnB w' lo hi A n c xss := by
  obtain ⟨us, h1, h2, h3⟩ := h
  exact ⟨us, own_below h1 hb hB, h2, h3.below hb (by omega) (Nat.le_refl _)⟩
theorem OwnB.out {w w' : World} {lo hi n c a b : Nat} {A : Option Addr} {xss : List (List Bool)} (h : OwnB w lo hi A n c xss) (ho : Outside a b w w') (hd : hi ≤ a ∨ b ≤ lo) : OwnB w' lo hi A n c xss := by
  obtain ⟨us, h1, h2, h3⟩ := h
  exact ⟨us, own_out h1 h2 ho hd, h2, h3.out ho hd⟩
/-- What a call that returns a new slice of slices leaves. -/
def RetM (w : World) (xss : List (List Bool)) (en : Ending) (w' : World) : Prop :=
  ∃ A n c, en = .returned (.slice A n c) ∧ OwnB w' w.heap.size w'.heap.size A n c xss ∧ Below w.heap.size w w'
def RetMI (w : World) (xss : List (List Bool)) (code : Int) (en : Ending) (w' : World) : Prop :=
  ∃ A n c, en = .returned (.tuple #[.slice A n c, .int .i64 code]) ∧ OwnB w' w.heap.size w'.heap.size A n c xss ∧ Below w.heap.size w w'
theorem OwnB.nil (w : World) (lo hi : Nat) : OwnB w lo hi none 0 0 [] := ⟨[], own_nil _ _ _, by simp [Value.ownBlock], InnerB.nil _ _ _⟩

theorem fillM_get (us : List Value) (n k : Nat) (h : us.length = k) (hk : k < n) : (us ++ List.replicate (n - k) (Value.slice none 0 0))[k]? = some (.slice none 0 0) := by
  rw [List.getElem?_append_right (by omega), h]; simp [List.getElem?_replicate]; omega
theorem fillM_set (us : List Value) (n k : Nat) (h : us.length = k) (hk : k < n) (u : Value) : (us ++ List.replicate (n - k) (Value.slice none 0 0)).set k u = (us ++ [u]) ++ List.replicate (n - (k + 1)) (Value.slice none 0 0) := by
  obtain ⟨m, hm⟩ : ∃ m, n - k = m + 1 := ⟨n - k - 1, by omega⟩
  rw [hm, show n - (k + 1) = m by omega, List.replicate_succ, List.set_append_right _ _ (by omega), h]
  simp

set_option maxHeartbeats 1000000 in
theorem toBoolSS_any (w : World) (A : Option Addr) (n c : Nat) (xss : List (List Bool)) (hr : RdB w A n xss) (hn : n ≤ 1000000000) :
    Calls Try.prog 18 #[.slice A n c] w (RetM w xss) := by
  have HL : Hid (xss.length = n) := Lib.hid hr.len
  go_enter Try.func18, Try.ntmps18
  go_wp2_with (at_make; go_must (refine wpList_mk eltSB rfl _ _ rfl w _ _ n (by rfl) (by rfl) (by omega) (by omega) (by omega) ?_); rintro w1 hown1 hb1 hs1)
  go_loopw [4] (fun i wr => ∃ (k : Nat) (us : List Value), k ≤ n ∧ i = .int .i64 k ∧ Hid (us.length = k) ∧ wr.ownsRow w.heap.size 22 1 (.slice (some ⟨w.heap.size, 0, none⟩) n n) n (us ++ List.replicate (n - k) (.slice none 0 0)) ∧ InnerB wr w.heap.size wr.heap.size us (xss.take k) ∧ Below w.heap.size w wr) (fun i _ => n - (intOf i).toNat)
  case atStart => exact ⟨0, [], Nat.zero_le _, rfl, Lib.hid rfl, by simpa using hown1, InnerB.nil _ _ _, hb1⟩
  case round =>
    obtain ⟨k, us, hk, rfl, HU, hown, hin, hb⟩ := hrel
    clear hown1 hb1 hs1
    by_cases hlt : k < n
    · obtain ⟨xs, hx⟩ := get_some (xs := xss) (k := k) (by rw [HL.out]; exact hlt)
      obtain ⟨b, off, A', n', c', rfl, hbs, hc, hn', hr'⟩ := hr.at_ hx
      have hc1 := (hb.cell (p := ⟨b, off + k, none⟩) hbs).trans hc
      have HX := Lib.hid hx
      clear hx hc
      go_wp2_with fail
      refine (toBoolS_any _ _ _ _ xs (hr'.below hb (Nat.le_refl _)) (by omega)).mono ?_
      rintro e w2 ⟨A2, n2, c2, rfl, ho2, hb2⟩
      have hn2 : n2 = n' := by have h1 := ho2.1; have h2 := hr'.1; simp at h1 h2; omega
      have HN2 : Hid (n2 ≤ 1000000000) := Lib.hid (by omega)
      have hown2 := own_below hown hb2 (Nat.le_refl _)
      have hin2 := hin.below hb2 (Nat.le_refl _) (Nat.le_refl _)
      have hB2 := hb.trans (hb2.mono hb.size)
      have hin3 := hin2.snoc ho2 (Nat.le_refl _) hb.size HN2.out
      obtain ⟨g, hg, hgb, hgs, hc2, hc3⟩ := own_get hown2 (fillM_get us n k HU.out hlt)
      obtain rfl : w.heap.size = g := by simpa using hg
      obtain ⟨cs, hcs⟩ := own_blk hown2
      have HS := Lib.hid (own_put hown2 k (.slice A2 n2 c2))
      have HI := Lib.hid (hin3.far (i := k) (v := .slice A2 n2 c2) hcs (by decide))
      have HB := Lib.hid hB2
      clear hown hin hb hown2 hin2 hin3 hB2 hg hcs hn2 hb2 ho2
      go_wp2_with fail
      go_roundw
      case rel =>
        refine ⟨k + 1, us ++ [.slice A2 n2 c2], by omega, by go_num, Lib.hid (by simp [HU.out]), ?_, ?_, HB.out.setCell (p := ⟨w.heap.size, k, none⟩) (Nat.le_refl _) _⟩
        · rw [← fillM_set us n k HU.out hlt]; exact HS.out
        · have h := HI.out
          rw [List.take_add_one, HX.out]
          simpa [World.setCell] using h
      case measure => simp [intOf]; omega
    · go_wp2_with fail
      go_ret
      obtain rfl : k = n := by omega
      rw [List.take_of_length_le (by rw [HL.out]; omega)] at hin
      refine ⟨some ⟨w.heap.size, 0, none⟩, k, k, rfl, ⟨us, by simpa using hown, ?_, hin⟩, hb⟩
      intro q hq
      exact hown.lt q hq

set_option maxHeartbeats 1000000 in
theorem eqM_same (w : World) (A : Option Addr) (n c : Nat) (xss : List (List Bool)) (hr : RdB w A n xss) (hn : n ≤ 1000000000) (A' : Option Addr) (n' c' : Nat) (hr' : RdB w A' n' xss) :
    Calls Try.prog 20 #[.slice A n c, .slice A' n' c'] w (RetV w (.bool true)) := by
  have HL : Hid (xss.length = n) := Lib.hid hr.len
  obtain rfl : n = n' := by rw [← hr.len, ← hr'.len]
  go_enter Try.func20, Try.ntmps20
  go_wp2_with fail
  go_loopw [5] (fun i wr => ∃ k : Nat, k ≤ n ∧ i = .int .i64 k ∧ Below w.heap.size w wr) (fun i _ => n - (intOf i).toNat)
  case atStart => exact ⟨0, Nat.zero_le _, rfl, Below.refl _ _⟩
  case round =>
    obtain ⟨k, hk, rfl, hb⟩ := hrel
    by_cases hlt : k < n
    · obtain ⟨xs, hx⟩ := get_some (xs := xss) (k := k) (by rw [HL.out]; exact hlt)
      obtain ⟨b, off, B, m, d, rfl, hbs, hc, hm, hrr⟩ := hr.at_ hx
      obtain ⟨b', off', B', m', d', rfl, hbs', hc', hm', hrr'⟩ := hr'.at_ hx
      have hc1 := (hb.cell (p := ⟨b, off + k, none⟩) hbs).trans hc
      have hc2 := (hb.cell (p := ⟨b', off' + k, none⟩) hbs').trans hc'
      have hq1 := hrr.below hb (Nat.le_refl _)
      have hq2 := hrr'.below hb (Nat.le_refl _)
      have hb1 : b < wr.heap.size := Nat.lt_of_lt_of_le hbs hb.size
      have hb2 : b' < wr.heap.size := Nat.lt_of_lt_of_le hbs' hb.size
      have HB := Lib.hid hb
      clear hx hc hc' hb
      go_wp2_with fail
      go_region_held3 (fun w' => w'.cell? ⟨b, off + k, none⟩ = some (.slice B m d) ∧ w'.cell? ⟨b', off' + k, none⟩ = some (.slice B' m' d')) (exact ⟨by assumption, by assumption⟩)
        (first
          | (go_at_call 11; refine (eqB_same _ _ _ _ xs (by exact hq1) (by omega) _ _ _ (by exact hq2)).mono ?_; rintro e w3 ⟨rfl, hb3⟩; (try replace hb3 := below_undrew hb3); have hc1 := (hb3.cell (p := ⟨b, off + k, none⟩) hb1).trans hc1; have hc2 := (hb3.cell (p := ⟨b', off' + k, none⟩) hb2).trans hc2))
      go_wp2_with fail
      go_roundw
      case rel => exact ⟨k + 1, by omega, by go_num, HB.out.trans (hb3.mono HB.out.size)⟩
      case measure => simp [intOf]; omega
    · go_wp2_with fail
      go_ret
      exact ⟨rfl, hb⟩

def totB : List (List Bool) → Nat
  | [] => 0
  | xs :: r => xs.length + totB r
def upsB : Int → List (List Bool) → List (List Bool)
  | _, [] => []
  | k, xs :: r => upB k xs.length :: upsB (k + xs.length) r
theorem upsB_len (k : Int) (xss : List (List Bool)) : (upsB k xss).length = xss.length := by
  induction xss generalizing k with
  | nil => rfl
  | cons xs r ih => simp [upsB, ih]
theorem totB_snoc (xss : List (List Bool)) (xs : List Bool) : totB (xss ++ [xs]) = totB xss + xs.length := by
  induction xss with
  | nil => simp [totB]
  | cons y r ih => simp only [List.cons_append, totB, ih]; omega
theorem totB_take_succ {xss : List (List Bool)} {i : Nat} {xs : List Bool} (h : xss[i]? = some xs) : totB (xss.take (i + 1)) = totB (xss.take i) + xs.length := by
  rw [List.take_add_one, h]; exact totB_snoc _ _
theorem upsB_snoc (k : Int) (xss : List (List Bool)) (xs : List Bool) : upsB k (xss ++ [xs]) = upsB k xss ++ [upB (k + totB xss) xs.length] := by
  induction xss generalizing k with
  | nil => simp [upsB, totB]
  | cons y r ih => simp only [List.cons_append, upsB, totB, ih]; congr 4; omega
theorem upsB_get {k : Int} {xss : List (List Bool)} {i : Nat} {xs : List Bool} (h : xss[i]? = some xs) : (upsB k xss)[i]? = some (upB (k + totB (xss.take i)) xs.length) := by
  induction xss generalizing k i with
  | nil => simp at h
  | cons y r ih =>
    cases i with
    | zero => simp at h; subst h; simp [upsB, totB]
    | succ i =>
      simp only [upsB, List.getElem?_cons_succ, List.take_succ_cons, totB]
      rw [ih (by simpa using h)]; congr 2; omega
theorem mkB_get {k : Int} {xss : List (List Bool)} {i : Nat} {xs : List Bool} (h : xss[i]? = some xs) : (upsB k (xss.take i) ++ xss.drop i)[i]? = some xs := by
  have hi := (List.getElem?_eq_some_iff.1 h).1
  have hl : (upsB k (xss.take i)).length = i := by rw [upsB_len]; simp; omega
  rw [List.getElem?_append_right (by omega), hl, Nat.sub_self, drop_get h]; rfl
theorem mkB_set {k : Int} {xss : List (List Bool)} {i : Nat} {xs : List Bool} (h : xss[i]? = some xs) : (upsB k (xss.take i) ++ xss.drop i).set i (upB (k + totB (xss.take i)) xs.length) = upsB k (xss.take (i + 1)) ++ xss.drop (i + 1) := by
  have hi := (List.getElem?_eq_some_iff.1 h).1
  have hl : (upsB k (xss.take i)).length = i := by rw [upsB_len]; simp; omega
  rw [List.set_append_right _ _ (by omega), hl, Nat.sub_self, drop_get h, List.set_cons_zero, List.take_add_one, h]
  show _ = upsB k (xss.take i ++ [xs]) ++ _
  rw [upsB_snoc]; simp

theorem InnerB.mark {w w' : World} {lo hi i n c : Nat} {us : List Value} {xss : List (List Bool)} {A : Option Addr} {ys : List Bool} (h : InnerB w lo hi us xss) (hu : us[i]? = some (.slice A n c)) (hn : n ≤ 1000000000) (hk : ∀ k, (Value.slice A n c).ownBlock = some k → lo ≤ k ∧ k < hi) (ho : w'.ownsRow lo 4 1 (.slice A n c) n (bools ys)) (hg : w.grownBy w' (Value.slice A n c).ownBlock) : InnerB w' lo hi us (xss.set i ys) := by
  obtain ⟨h1, h2, h3⟩ := h
  refine ⟨by simp [h1], fun j u xs hj hx => ?_, h3⟩
  by_cases hij : i = j
  · subst hij
    rw [hu] at hj
    injection hj with hj
    subst hj
    rw [List.getElem?_set_self (by have := (List.getElem?_eq_some_iff.1 hu).1; omega)] at hx
    injection hx with hx
    subst hx
    exact ⟨A, n, c, rfl, hn, ho, hk⟩
  · rw [List.getElem?_set_ne hij] at hx
    obtain ⟨A', n', c', rfl, hn', ho', hb'⟩ := h2 j u xs hj hx
    exact ⟨A', n', c', rfl, hn', own_apart ho' hg (fun k a b => hij (h3 i j _ _ hu hj k b a)), hb'⟩
theorem totB_take_le (xss : List (List Bool)) (i : Nat) : totB (xss.take i) ≤ totB xss := by
  induction xss generalizing i with
  | nil => simp [totB]
  | cons y r ih =>
    cases i with
    | zero => simp [totB]
    | succ i => simp only [List.take_succ_cons, totB]; have := ih i; omega

set_option maxHeartbeats 1000000 in
theorem markBoolSS_any (w : World) (lo hi : Nat) (A : Option Addr) (n c : Nat) (xss : List (List Bool)) (ho : OwnB w lo hi A n c xss) (hn : n ≤ 1000000000) (ht : totB xss ≤ 1000000000) (k : Int) (hk0 : 0 ≤ k) (hk1 : k ≤ 1000000000) :
    Calls Try.prog 21 #[.slice A n c, .int .i64 k] w fun e w' => e = .returned (.int .i64 (k + totB xss)) ∧ OwnB w' lo hi A n c (upsB k xss) ∧ Outside lo hi w w' := by
  have HL : Hid (xss.length = n) := Lib.hid ho.len
  go_enter Try.func21, Try.ntmps21
  go_wp2_with fail
  go_loopw [1, 5] (fun q i wr => ∃ j : Nat, j ≤ n ∧ i = .int .i64 j ∧ q = .int .i64 (k + totB (xss.take j)) ∧ OwnB wr lo hi A n c (upsB k (xss.take j) ++ xss.drop j) ∧ Outside lo hi w wr) (fun _ i _ => n - (intOf i).toNat)
  case atStart => exact ⟨0, Nat.zero_le _, rfl, by simp [totB], by simpa [upsB] using ho, Outside.refl _ _ _⟩
  case round =>
    obtain ⟨j, hj, rfl, rfl, hown, hO⟩ := hrel
    clear ho
    have htj : totB (xss.take j) ≤ 1000000000 := Nat.le_trans (totB_take_le xss j) ht
    by_cases hlt : j < n
    · obtain ⟨xs, hx⟩ := get_some (xs := xss) (k := j) (by rw [HL.out]; exact hlt)
      obtain ⟨us, h1, h2, h3⟩ := hown
      obtain ⟨u, hu⟩ := get_some (xs := us) (k := j) (by have := h1.1; simp at this; omega)
      obtain ⟨A', n', c', rfl, hn', ho', hb'⟩ := h3.2.1 j u xs hu (mkB_get hx)
      obtain ⟨b, off, rfl, hbs, hc⟩ := (own_rd h1).at_ hu
      have hn'x : xs.length = n' := by simpa using ho'.1
      have HX := Lib.hid hx; have HU := Lib.hid hu; have H1 := Lib.hid h1; have H2 := Lib.hid h2; have H3 := Lib.hid h3; have HO' := Lib.hid ho'; have HB' := Lib.hid hb'; have HNX := Lib.hid hn'x
      have HTS := Lib.hid (totB_take_succ hx)
      clear hx hu h1 h2 h3 ho' hb' hn'x
      go_wp2_with fail
      refine (markBoolS_any _ lo _ _ _ xs HO'.out (by omega) _ (by omega) (by omega)).mono ?_
      rintro e w2 ⟨rfl, hm2, hg2⟩
      have HI2 := Lib.hid (H3.out.mark HU.out hn' HB'.out hm2 hg2)
      have HO2 := Lib.hid (outer_keep H1.out HO'.out (by decide) hg2)
      have HT2 := Lib.hid (hO.trans (out_grown hg2 HB'.out))
      have HEQ : Hid (k + (totB (xss.take j) : Int) + (n' : Int) = k + (totB (xss.take (j + 1)) : Int)) := Lib.hid (by have h1 := HTS.out; have h2 := HNX.out; omega)
      clear hm2 hg2
      go_wp2_with fail
      go_roundw
      case rel =>
        refine ⟨j + 1, by omega, by go_num, by rw [HEQ.out], ⟨us, HO2.out, H2.out, ?_⟩, HT2.out⟩
        have h := HI2.out
        rw [← HNX.out, mkB_set HX.out] at h
        exact h
      case measure => simp [intOf]; omega
    · go_wp2_with fail
      go_ret
      have e1 : xss.take j = xss := List.take_of_length_le (by rw [HL.out]; omega)
      have e2 : xss.drop j = [] := List.drop_of_length_le (by rw [HL.out]; omega)
      rw [e1, e2, List.append_nil] at hown
      exact ⟨by rw [e1]; rfl, hown, hO⟩


/-- A slice of slices that came in: no bound on the inner lengths but the language's own. -/
def RdWB (w : World) (A : Option Addr) (n : Nat) (xss : List (List Bool)) : Prop :=
  ∃ vs : List Value, Rd w A n vs ∧ vs.length = xss.length ∧ ∀ (i : Nat) (v : Value) (xs : List Bool), vs[i]? = some v → xss[i]? = some xs → ∃ A' n' c', v = .slice A' n' c' ∧ n' ≤ 9223372036854775807 ∧ Rd w A' n' (bools xs)
theorem RdWB.len {w : World} {A : Option Addr} {n : Nat} {xss : List (List Bool)} (h : RdWB w A n xss) : xss.length = n := by
  obtain ⟨vs, h1, h2, _⟩ := h; rw [← h2, h1.1]
theorem RdWB.at_ {w : World} {A : Option Addr} {n k : Nat} {xss : List (List Bool)} {xs : List Bool} (h : RdWB w A n xss) (hx : xss[k]? = some xs) :
    ∃ b off A' n' c', A = some ⟨b, off, none⟩ ∧ b < w.heap.size ∧ w.cell? ⟨b, off + k, none⟩ = some (.slice A' n' c') ∧ n' ≤ 9223372036854775807 ∧ xs.length = n' := by
  obtain ⟨vs, h1, h2, h3⟩ := h
  have hk : k < vs.length := by rw [h2]; exact (List.getElem?_eq_some_iff.1 hx).1
  obtain ⟨v, hv⟩ := get_some hk
  obtain ⟨A', n', c', rfl, hn', hr'⟩ := h3 k v xs hv hx
  obtain ⟨b, off, e, hb, hc⟩ := h1.at_ hv
  exact ⟨b, off, A', n', c', e, hb, hc, hn', by simpa using hr'.1⟩
theorem totB_mem {xss : List (List Bool)} {xs : List Bool} (h : xs ∈ xss) : xs.length ≤ totB xss := by
  induction xss with
  | nil => simp at h
  | cons y r ih =>
    simp only [totB]
    rcases List.mem_cons.1 h with rfl | h
    · omega
    · have := ih h; omega
theorem RdWB.rdb {w : World} {A : Option Addr} {n : Nat} {xss : List (List Bool)} (h : RdWB w A n xss) (ht : totB xss ≤ 1000000000) : RdB w A n xss := by
  obtain ⟨vs, h1, h2, h3⟩ := h
  refine ⟨vs, h1, h2, fun i v xs hv hx => ?_⟩
  obtain ⟨A', n', c', rfl, hn', hr'⟩ := h3 i v xs hv hx
  refine ⟨A', n', c', rfl, ?_, hr'⟩
  have hl : xs.length = n' := by simpa using hr'.1
  have := totB_mem (List.mem_of_getElem? hx)
  omega
theorem OwnB.cap {w : World} {lo hi n c : Nat} {A : Option Addr} {xss : List (List Bool)} (h : OwnB w lo hi A n c xss) : n ≤ c := by
  obtain ⟨us, h1, _⟩ := h
  obtain ⟨_, _, e, hc, _⟩ := own_form h1
  injection e with _ _ e3
  omega

/-- What is left of a budget behind a list's length; below zero: -1. -/
def LeftB (w : World) (need : Nat) (left : Int) (e : Ending) (w' : World) : Prop := (∃ r : Int, e = .returned (.int .i64 r) ∧ (0 ≤ r → r + need = left) ∧ (r < 0 → r = -1 ∧ left < need)) ∧ w = w'

set_option maxHeartbeats 400000 in
theorem szBoolS_any (w : World) (A : Option Addr) (n c : Nat) (hn : n ≤ 9223372036854775807) (left : Int) (h0 : 0 ≤ left) (h1 : left ≤ 1048576) :
    Calls Try.prog 44 #[.slice A n c, .int .i64 left] w (LeftB w n left) := by
  by_cases h : left - n < 0
  · go_enter Try.func44, Try.ntmps44
    go_wp2_with fail
    go_ret
    exact ⟨⟨-1, rfl, by omega, by omega⟩, rfl⟩
  · go_enter Try.func44, Try.ntmps44
    go_wp2_with fail
    go_ret
    exact ⟨⟨left - n, rfl, by omega, by omega⟩, rfl⟩

def LeftM (w : World) (n : Nat) (xss : List (List Bool)) (left : Int) (e : Ending) (w' : World) : Prop := (∃ r : Int, e = .returned (.int .i64 r) ∧ (0 ≤ r → (n : Int) + totB xss ≤ left) ∧ (r < 0 → r = -1)) ∧ w = w'

set_option maxHeartbeats 1000000 in
theorem szBoolSS_any (w : World) (A : Option Addr) (n c : Nat) (xss : List (List Bool)) (hr : RdWB w A n xss) (hn : n ≤ 9223372036854775807) (left : Int) (h0 : 0 ≤ left) (h1 : left ≤ 1048576) :
    Calls Try.prog 16 #[.slice A n c, .int .i64 left] w (LeftM w n xss left) := by
  have HL : Hid (xss.length = n) := Lib.hid hr.len
  by_cases h : left - n < 0
  · go_enter Try.func16, Try.ntmps16
    go_wp2_with fail
    go_ret
    exact ⟨⟨-1, rfl, by omega, by omega⟩, rfl⟩
  · have hn2 : n ≤ 1048576 := by omega
    go_enter Try.func16, Try.ntmps16
    go_wp2_with fail
    go_loop [1, 5] (fun q i => ∃ (k : Nat) (r : Int), q = .int .i64 r ∧ i = .int .i64 k ∧ k ≤ n ∧ 0 ≤ r ∧ r ≤ 1048576 ∧ Hid (r + n + totB (xss.take k) = left)) (fun _ i => n - (intOf i).toNat)
    case atStart => exact ⟨0, left - n, rfl, rfl, by omega, by omega, by omega, Lib.hid (by simp [totB])⟩
    case round =>
      obtain ⟨k, r, rfl, rfl, hk, hr0, hr1, HE⟩ := hrel
      by_cases hlt : k < n
      · obtain ⟨xs, hx⟩ := get_some (xs := xss) (k := k) (by rw [HL.out]; exact hlt)
        obtain ⟨b, off, A', n', c', rfl, hbs, hc, hn', hxl⟩ := hr.at_ hx
        have HTS := Lib.hid (totB_take_succ hx); have HXL := Lib.hid hxl
        clear hx hxl
        go_wp2_with fail
        refine (szBoolS_any _ _ _ _ hn' r hr0 hr1).mono ?_
        rintro e w1 ⟨⟨r2, rfl, a1, a2⟩, rfl⟩
        have HA1 := Lib.hid a1; have HA2 := Lib.hid a2
        clear a1 a2
        by_cases hneg : r2 < 0
        · go_wp2_with fail
          go_ret
          exact ⟨⟨-1, rfl, by omega, by omega⟩, rfl⟩
        · have hr2 : r2 ≤ 1048576 := by have := HA1.out (by omega); omega
          go_wp2_with fail
          go_round
          case rel => exact ⟨k + 1, r2, rfl, by go_num, by omega, by omega, hr2, Lib.hid (by have h1 := HA1.out (by omega); have h2 := HTS.out; have h3 := HXL.out; have h4 := HE.out; omega)⟩
          case measure => simp [intOf]; omega
      · go_wp2_with fail
        go_ret
        have e := HE.out
        rw [List.take_of_length_le (by rw [HL.out]; omega)] at e
        exact ⟨⟨r, rfl, by omega, by omega⟩, rfl⟩

end Go.Proofs.Ytnfkmcphkecemaa
