/- The contracts of the laws' own helpers on slices of slices of int64: comparing, marking, looking at marks, sizes. -/
import Derived.Test.YtdpkcnjoklnoeaaLawL
namespace Go.Proofs.Ytdpkcnjoklnoeaa
open Go.RowKit Limb

set_option maxHeartbeats 1000000 in
theorem eqL_same (w : World) (A : Option Addr) (n c : Nat) (xss : List (List Int)) (hr : RdL w A n xss) (hn : n ≤ 1000000000) (A' : Option Addr) (n' c' : Nat) (hr' : RdL w A' n' xss) :
    Calls Try.prog 37 #[.slice A n c, .slice A' n' c'] w (RetV w (.bool true)) := by
  have HL : Hid (xss.length = n) := Lib.hid hr.len
  obtain rfl : n = n' := by rw [← hr.len, ← hr'.len]
  go_enter Try.func37, Try.ntmps37
  go_wp2_with fail
  go_loopw [5] (fun i wr => ∃ k : Nat, k ≤ n ∧ i = .int .i64 k ∧ Below w.heap.size w wr) (fun i _ => n - (intOf i).toNat)
  case atStart => exact ⟨0, Nat.zero_le _, rfl, Below.refl _ _⟩
  case round =>
    obtain ⟨k, hk, rfl, hb⟩ := hrel
    by_cases hlt : k < n
    · obtain ⟨xs, hx⟩ := get_some (xs := xss) (k := k) (by rw [HL.out]; exact hlt)
      obtain ⟨b, off, B, m, d, rfl, hbs, hc, hm, hrr⟩ := hr.at_ hx
      obtain ⟨b', off', B', m', d', rfl, hbs', hc', hm', hrr'⟩ := hr'.at_ hx
      have hc1 := (hb.cell (p := ⟨b, off + k, none⟩) hbs).trans hc
      have hc2 := (hb.cell (p := ⟨b', off' + k, none⟩) hbs').trans hc'
      have hq1 := hrr.below hb (Nat.le_refl _)
      have hq2 := hrr'.below hb (Nat.le_refl _)
      have hb1 : b < wr.heap.size := Nat.lt_of_lt_of_le hbs hb.size
      have hb2 : b' < wr.heap.size := Nat.lt_of_lt_of_le hbs' hb.size
      have HB := Lib.hid hb
      clear hx hc hc' hb
      go_wp2_with fail
      go_region_held3 (fun w' => w'.cell? ⟨b, off + k, none⟩ = some (.slice B m d) ∧ w'.cell? ⟨b', off' + k, none⟩ = some (.slice B' m' d')) (exact ⟨by assumption, by assumption⟩)
        (first
          | (go_at_call 18; refine (eq_same _ _ _ _ xs (by exact hq1) (by omega) _ _ _ (by exact hq2)).mono ?_; rintro e w3 ⟨rfl, hb3⟩; (try replace hb3 := below_undrew hb3); have hc1 := (hb3.cell (p := ⟨b, off + k, none⟩) hb1).trans hc1; have hc2 := (hb3.cell (p := ⟨b', off' + k, none⟩) hb2).trans hc2))
      go_wp2_with fail
      go_roundw
      case rel => exact ⟨k + 1, by omega, by go_num, HB.out.trans (hb3.mono HB.out.size)⟩
      case measure => simp [intOf]; omega
    · go_wp2_with fail
      go_ret
      exact ⟨rfl, hb⟩

def tot : List (List Int) → Nat
  | [] => 0
  | xs :: r => xs.length + tot r
def ups : Int → List (List Int) → List (List Int)
  | _, [] => []
  | k, xs :: r => up k xs.length :: ups (k + xs.length) r
theorem ups_len (k : Int) (xss : List (List Int)) : (ups k xss).length = xss.length := by
  induction xss generalizing k with
  | nil => rfl
  | cons xs r ih => simp [ups, ih]
theorem tot_snoc (xss : List (List Int)) (xs : List Int) : tot (xss ++ [xs]) = tot xss + xs.length := by
  induction xss with
  | nil => simp [tot]
  | cons y r ih => simp only [List.cons_append, tot, ih]; omega
theorem tot_take_succ {xss : List (List Int)} {i : Nat} {xs : List Int} (h : xss[i]? = some xs) : tot (xss.take (i + 1)) = tot (xss.take i) + xs.length := by
  rw [List.take_add_one, h]; exact tot_snoc _ _
theorem ups_snoc (k : Int) (xss : List (List Int)) (xs : List Int) : ups k (xss ++ [xs]) = ups k xss ++ [up (k + tot xss) xs.length] := by
  induction xss generalizing k with
  | nil => simp [ups, tot]
  | cons y r ih => simp only [List.cons_append, ups, tot, ih]; congr 4; omega
theorem ups_get {k : Int} {xss : List (List Int)} {i : Nat} {xs : List Int} (h : xss[i]? = some xs) : (ups k xss)[i]? = some (up (k + tot (xss.take i)) xs.length) := by
  induction xss generalizing k i with
  | nil => simp at h
  | cons y r ih =>
    cases i with
    | zero => simp at h; subst h; simp [ups, tot]
    | succ i =>
      simp only [ups, List.getElem?_cons_succ, List.take_succ_cons, tot]
      rw [ih (by simpa using h)]; congr 2; omega
theorem mk_get {k : Int} {xss : List (List Int)} {i : Nat} {xs : List Int} (h : xss[i]? = some xs) : (ups k (xss.take i) ++ xss.drop i)[i]? = some xs := by
  have hi := (List.getElem?_eq_some_iff.1 h).1
  have hl : (ups k (xss.take i)).length = i := by rw [ups_len]; simp; omega
  rw [List.getElem?_append_right (by omega), hl, Nat.sub_self, drop_get h]; rfl
theorem mk_set {k : Int} {xss : List (List Int)} {i : Nat} {xs : List Int} (h : xss[i]? = some xs) : (ups k (xss.take i) ++ xss.drop i).set i (up (k + tot (xss.take i)) xs.length) = ups k (xss.take (i + 1)) ++ xss.drop (i + 1) := by
  have hi := (List.getElem?_eq_some_iff.1 h).1
  have hl : (ups k (xss.take i)).length = i := by rw [ups_len]; simp; omega
  rw [List.set_append_right _ _ (by omega), hl, Nat.sub_self, drop_get h, List.set_cons_zero, List.take_add_one, h]
  show _ = ups k (xss.take i ++ [xs]) ++ _
  rw [ups_snoc]; simp

theorem Inner.mark {w w' : World} {lo hi i n c : Nat} {us : List Value} {xss : List (List Int)} {A : Option Addr} {ys : List Int} (h : Inner w lo hi us xss) (hu : us[i]? = some (.slice A n c)) (hn : n ≤ 1000000000) (hk : ∀ k, (Value.slice A n c).ownBlock = some k → lo ≤ k ∧ k < hi) (ho : w'.ownsRow lo 2 1 (.slice A n c) n (ints ys)) (hg : w.grownBy w' (Value.slice A n c).ownBlock) : Inner w' lo hi us (xss.set i ys) := by
  obtain ⟨h1, h2, h3⟩ := h
  refine ⟨by simp [h1], fun j u xs hj hx => ?_, h3⟩
  by_cases hij : i = j
  · subst hij
    rw [hu] at hj
    injection hj with hj
    subst hj
    rw [List.getElem?_set_self (by have := (List.getElem?_eq_some_iff.1 hu).1; omega)] at hx
    injection hx with hx
    subst hx
    exact ⟨A, n, c, rfl, hn, ho, hk⟩
  · rw [List.getElem?_set_ne hij] at hx
    obtain ⟨A', n', c', rfl, hn', ho', hb'⟩ := h2 j u xs hj hx
    exact ⟨A', n', c', rfl, hn', own_apart ho' hg (fun k a b => hij (h3 i j _ _ hu hj k b a)), hb'⟩
theorem outer_keep {w w' : World} {lo e T n : Nat} {v v2 : Value} {us : List Value} (h : w.ownsRow lo T 1 v n us) {m : Nat} {xs : List Value} (h2 : w.ownsRow lo e 1 v2 m xs) (hT : T ≠ e) (hg : w.grownBy w' v2.ownBlock) : w'.ownsRow lo T 1 v n us := by
  refine own_apart h hg (fun k a b => ?_)
  rcases h.2 with ⟨rfl, _⟩ | ⟨g, _, _, rfl, _, hg1, _⟩
  · simp [Value.ownBlock] at a
  · rcases h2.2 with ⟨rfl, _⟩ | ⟨g2, _, _, rfl, _, hg2, _⟩
    · simp [Value.ownBlock] at b
    · have e1 : g = k := by simpa [Value.ownBlock] using a
      have e2 : g2 = k := by simpa [Value.ownBlock] using b
      exact blk_ne hg1 hg2 hT (by omega)
theorem tot_take_le (xss : List (List Int)) (i : Nat) : tot (xss.take i) ≤ tot xss := by
  induction xss generalizing i with
  | nil => simp [tot]
  | cons y r ih =>
    cases i with
    | zero => simp [tot]
    | succ i => simp only [List.take_succ_cons, tot]; have := ih i; omega

set_option maxHeartbeats 1000000 in
theorem markInt64SS_any (w : World) (lo hi : Nat) (A : Option Addr) (n c : Nat) (xss : List (List Int)) (ho : OwnL w lo hi A n c xss) (hn : n ≤ 1000000000) (ht : tot xss ≤ 1000000000) (k : Int) (hk0 : 0 ≤ k) (hk1 : k ≤ 1000000000) :
    Calls Try.prog 38 #[.slice A n c, .int .i64 k] w fun e w' => e = .returned (.int .i64 (k + tot xss)) ∧ OwnL w' lo hi A n c (ups k xss) ∧ Outside lo hi w w' := by
  have HL : Hid (xss.length = n) := Lib.hid ho.len
  go_enter Try.func38, Try.ntmps38
  go_wp2_with fail
  go_loopw [1, 5] (fun q i wr => ∃ j : Nat, j ≤ n ∧ i = .int .i64 j ∧ q = .int .i64 (k + tot (xss.take j)) ∧ OwnL wr lo hi A n c (ups k (xss.take j) ++ xss.drop j) ∧ Outside lo hi w wr) (fun _ i _ => n - (intOf i).toNat)
  case atStart => exact ⟨0, Nat.zero_le _, rfl, by simp [tot], by simpa [ups] using ho, Outside.refl _ _ _⟩
  case round =>
    obtain ⟨j, hj, rfl, rfl, hown, hO⟩ := hrel
    clear ho
    have htj : tot (xss.take j) ≤ 1000000000 := Nat.le_trans (tot_take_le xss j) ht
    by_cases hlt : j < n
    · obtain ⟨xs, hx⟩ := get_some (xs := xss) (k := j) (by rw [HL.out]; exact hlt)
      obtain ⟨us, h1, h2, h3⟩ := hown
      obtain ⟨u, hu⟩ := get_some (xs := us) (k := j) (by have := h1.1; simp at this; omega)
      obtain ⟨A', n', c', rfl, hn', ho', hb'⟩ := h3.2.1 j u xs hu (mk_get hx)
      obtain ⟨b, off, rfl, hbs, hc⟩ := (own_rd h1).at_ hu
      have hn'x : xs.length = n' := by simpa using ho'.1
      have HX := Lib.hid hx; have HU := Lib.hid hu; have H1 := Lib.hid h1; have H2 := Lib.hid h2; have H3 := Lib.hid h3; have HO' := Lib.hid ho'; have HB' := Lib.hid hb'; have HNX := Lib.hid hn'x
      have HTS := Lib.hid (tot_take_succ hx)
      clear hx hu h1 h2 h3 ho' hb' hn'x
      go_wp2_with fail
      refine (markInt64S_any _ lo _ _ _ xs HO'.out (by omega) _ (by omega) (by omega)).mono ?_
      rintro e w2 ⟨rfl, hm2, hg2⟩
      have HI2 := Lib.hid (H3.out.mark HU.out hn' HB'.out hm2 hg2)
      have HO2 := Lib.hid (outer_keep H1.out HO'.out (by decide) hg2)
      have HT2 := Lib.hid (hO.trans (out_grown hg2 HB'.out))
      have HEQ : Hid (k + (tot (xss.take j) : Int) + (n' : Int) = k + (tot (xss.take (j + 1)) : Int)) := Lib.hid (by have h1 := HTS.out; have h2 := HNX.out; omega)
      clear hm2 hg2
      go_wp2_with fail
      go_roundw
      case rel =>
        refine ⟨j + 1, by omega, by go_num, by rw [HEQ.out], ⟨us, HO2.out, H2.out, ?_⟩, HT2.out⟩
        have h := HI2.out
        rw [← HNX.out, mk_set HX.out] at h
        exact h
      case measure => simp [intOf]; omega
    · go_wp2_with fail
      go_ret
      have e1 : xss.take j = xss := List.take_of_length_le (by rw [HL.out]; omega)
      have e2 : xss.drop j = [] := List.drop_of_length_le (by rw [HL.out]; omega)
      rw [e1, e2, List.append_nil] at hown
      exact ⟨by rw [e1]; rfl, hown, hO⟩

set_option maxHeartbeats 1000000 in
theorem heldInt64SS_any (w : World) (A : Option Addr) (n c : Nat) (xss : List (List Int)) (k : Int) (hr : RdL w A n (ups k xss)) (hn : n ≤ 1000000000) (ht : tot xss ≤ 1000000000) (hk0 : 0 ≤ k) (hk1 : k ≤ 1000000000) :
    Calls Try.prog 45 #[.slice A n c, .int .i64 k] w (RetV w (.int .i64 (k + tot xss))) := by
  have HL : Hid (xss.length = n) := Lib.hid (by rw [← ups_len k xss]; exact hr.len)
  go_enter Try.func45, Try.ntmps45
  go_wp2_with fail
  go_loopw [1, 5] (fun q i wr => ∃ j : Nat, j ≤ n ∧ i = .int .i64 j ∧ q = .int .i64 (k + tot (xss.take j)) ∧ Below w.heap.size w wr) (fun _ i _ => n - (intOf i).toNat)
  case atStart => exact ⟨0, Nat.zero_le _, rfl, by simp [tot], Below.refl _ _⟩
  case round =>
    obtain ⟨j, hj, rfl, rfl, hb⟩ := hrel
    have htj : tot (xss.take j) ≤ 1000000000 := Nat.le_trans (tot_take_le xss j) ht
    by_cases hlt : j < n
    · obtain ⟨xs, hx⟩ := get_some (xs := xss) (k := j) (by rw [HL.out]; exact hlt)
      obtain ⟨b, off, A', n', c', rfl, hbs, hc, hn', hr'⟩ := hr.at_ (ups_get (k := k) hx)
      have hc1 := (hb.cell (p := ⟨b, off + j, none⟩) hbs).trans hc
      have hnx : xs.length = n' := by have h := hr'.1; simp [up_length] at h; exact h
      rw [hnx] at hr'
      have HTS := Lib.hid (tot_take_succ hx)
      have HNX := Lib.hid hnx
      clear hx hc hnx
      go_wp2_with fail
      refine (heldInt64S_any _ _ _ _ _ (hr'.below hb (Nat.le_refl _)) (by omega) (by omega) (by omega)).mono ?_
      rintro e w2 ⟨rfl, hb2⟩
      have HEQ : Hid (k + (tot (xss.take j) : Int) + (n' : Int) = k + (tot (xss.take (j + 1)) : Int)) := Lib.hid (by have h1 := HTS.out; have h2 := HNX.out; omega)
      go_wp2_with fail
      go_roundw
      case rel => exact ⟨j + 1, by omega, by go_num, by rw [HEQ.out], hb.trans (hb2.mono hb.size)⟩
      case measure => simp [intOf]; omega
    · go_wp2_with fail
      go_ret
      have e1 : xss.take j = xss := List.take_of_length_le (by rw [HL.out]; omega)
      exact ⟨by rw [e1]; rfl, hb⟩
end Go.Proofs.Ytdpkcnjoklnoeaa
