/- The contracts of the laws' own helpers on slices of slices whose rows may begin inside their blocks. Written by mk_lawk.py. -/
import Derived.Test.YtjgajjcgapifoaaLawP
import Derived.Test.YtjgajjcgapifoaaApp
import Derived.Test.YtjgajjcgapifoaaCut
namespace Go.Proofs.Ytjgajjcgapifoaa
open Go.RowKit
set_option linter.unusedVariables false
set_option linter.unusedSimpArgs false
theorem OwnA.get {w : World} {e n c g off j : Nat} {vs : List Value} {u : Value} (h : OwnA w e (some ⟨g, off, none⟩) n c vs) (hu : vs[j]? = some u) : w.cell? ⟨g, off + j, none⟩ = some u ∧ w.frozen? ⟨g, off + j, none⟩ = false ∧ g < w.heap.size := by
  rcases h.2 with ⟨h0, _⟩ | ⟨g', off', cur, h0, hg, hnc, hcs, hv⟩
  · cases h0
  · injection h0 with h0
    injection h0 with h1 h2
    subst h1 h2
    exact ⟨by rw [cell_of_row w g _ cur e (0, 0) hg]; exact hv j u hu, frozen_of_row w g _ cur e hg, blk_lt hg⟩
theorem OwnA.addr {w : World} {e n c : Nat} {A : Option Addr} {vs : List Value} (h : OwnA w e A n c vs) (hn : 0 < n) : ∃ g off, A = some ⟨g, off, none⟩ := by
  rcases h.2 with ⟨_, h0, _⟩ | ⟨g, off, cur, h0, _⟩
  · omega
  · exact ⟨g, off, h0⟩
theorem OwnA.put {w : World} {e n c g off : Nat} {vs : List Value} (h : OwnA w e (some ⟨g, off, none⟩) n c vs) (j : Nat) (hj : j < n) (u : Value) : OwnA (w.setCell ⟨g, off + j, none⟩ u) e (some ⟨g, off, none⟩) n c (vs.set j u) := by
  refine ⟨by simp [h.1], ?_⟩
  rcases h.2 with ⟨h0, _⟩ | ⟨g', off', cur, h0, hg, hnc, hcs, hv⟩
  · cases h0
  · injection h0 with h0
    injection h0 with h1 h2
    subst h1 h2
    refine .inr ⟨g, off, cur.setIfInBounds (off + j) u, rfl, heap_setCell_same w g _ cur e u hg, hnc, by simp; omega, fun i v hi => ?_⟩
    by_cases hij : i = j
    · subst hij
      rw [List.getElem?_set_self (by rw [h.1]; exact hj)] at hi
      injection hi with hi
      subst hi
      rw [Array.getElem?_setIfInBounds_self_of_lt (by omega)]
    · rw [List.getElem?_set_ne (fun e => hij e.symm)] at hi
      rw [Array.getElem?_setIfInBounds_ne (by omega)]
      exact hv i v hi
/-- 's[1:]'. -/
theorem OwnA.cut1 {w : World} {e n c : Nat} {A : Option Addr} {vs : List Value} (h : OwnA w e A n c vs) (hn : 1 ≤ n) : OwnA w e (cutA A 1 c 1) (n - 1) (c - 1) (vs.drop 1) := by
  refine ⟨by have := h.1; simp; omega, ?_⟩
  rcases h.2 with ⟨_, h0, _⟩ | ⟨g, off, cur, rfl, hg, hnc, hcs, hv⟩
  · omega
  · by_cases hc : c = 1
    · refine .inr ⟨g, off, cur, by simp [cutA, hc], hg, by omega, by omega, fun j u hu => ?_⟩
      have h1 := (List.getElem?_eq_some_iff.1 hu).1
      have h2 := h.1
      simp at h1; omega
    · refine .inr ⟨g, off + 1, cur, by simp only [cutA, if_neg hc, Option.map_some, Nat.mul_one, add_plain'], hg, by omega, by omega, fun j u hu => ?_⟩
      rw [show off + 1 + j = off + (1 + j) by omega]
      exact hv (1 + j) u (by rwa [List.getElem?_drop] at hu)
set_option maxHeartbeats 1000000 in
theorem markInt64S_anyA (w : World) (A : Option Addr) (n c : Nat) (xs : List Int) (ho : OwnA w 2 A n c (ints xs)) (hn : n ≤ 1099511627776) (k : Int) (hk0 : 0 ≤ k) (hk1 : k ≤ 1099511627776) :
    Calls Try.prog 20 #[.slice A n c, .int .i64 k] w fun e w' => e = .returned (.int .i64 (k + n)) ∧ OwnA w' 2 A n c (ints (up k n)) ∧ Ch (Fo (.slice A n c)) w w' := by
  have hlen : xs.length = n := by simpa using ho.1
  have HL := Lib.hid hlen; clear hlen
  go_enter Try.func20, Try.ntmps20
  go_wp2_with fail
  go_loopw [1, 5] (fun q i wr => ∃ j : Nat, j ≤ n ∧ i = .int .i64 j ∧ q = .int .i64 (k + j) ∧ OwnA wr 2 A n c (ints (up k j ++ xs.drop j)) ∧ Ch (Fo (.slice A n c)) w wr) (fun _ i _ => n - (intOf i).toNat)
  case atStart => exact ⟨0, Nat.zero_le _, rfl, by simp, by simpa [up] using ho, Ch.refl _ _⟩
  case round =>
    obtain ⟨j, hj, rfl, rfl, hown, hg⟩ := hrel
    clear ho
    by_cases hlt : j < n
    · obtain ⟨u, hu⟩ := mark_get k xs n j HL.out hlt
      obtain ⟨g, off, rfl⟩ := hown.addr (by omega)
      obtain ⟨hc2, hc3, hgs⟩ := hown.get hu
      have HS := Lib.hid (hown.put j hlt (.int .i64 (k + j)))
      have HG := Lib.hid (ch_setF (g := g) (i := off + j) (u := .int .i64 (k + j)) hg rfl)
      clear hu hown hg
      go_wp2_with fail
      go_roundw
      case rel => exact ⟨j + 1, by omega, by go_num, by go_num, by rw [← mark_step k xs n j HL.out hlt]; exact HS.out, HG.out⟩
      case measure => simp [intOf]; omega
    · go_wp2_with fail
      go_ret
      obtain rfl : j = n := by omega
      refine ⟨rfl, ?_, hg⟩
      simpa [List.drop_of_length_le (Nat.le_of_eq HL.out)] using hown
/-- Rows of the call's own, each in a block of its own, that read as lists. -/
def InnerK (w : World) (F : Nat → Prop) (us : List Value) (xss : List (List Int)) : Prop :=
  us.length = xss.length ∧ (∀ (i : Nat) (u : Value) (xs : List Int), us[i]? = some u → xss[i]? = some xs → ∃ A n c, u = .slice A n c ∧ n ≤ 1000000000 ∧ OwnA w 2 A n c (ints xs) ∧ ∀ k, Fo u k → F k) ∧
    ∀ (i j : Nat) (u v : Value), us[i]? = some u → us[j]? = some v → ∀ k, Fo u k → Fo v k → i = j
theorem InnerK.nil (w : World) (F : Nat → Prop) : InnerK w F [] [] := ⟨rfl, by simp, by simp⟩
theorem InnerK.ch {w w' : World} {F G : Nat → Prop} {us : List Value} {xss : List (List Int)} (h : InnerK w F us xss) (hc : Ch G w w') (hd : ∀ k, F k → G k → False) : InnerK w' F us xss := by
  obtain ⟨h1, h2, h3⟩ := h
  refine ⟨h1, fun i u xs hu hx => ?_, h3⟩
  obtain ⟨A, n, c, rfl, hn, ho, hb⟩ := h2 i u xs hu hx
  exact ⟨A, n, c, rfl, hn, ho.ch hc (fun k h1 h2 => hd k (hb k h1) h2), hb⟩
theorem InnerK.mono {w : World} {F G : Nat → Prop} {us : List Value} {xss : List (List Int)} (h : InnerK w F us xss) (hd : ∀ k, F k → G k) : InnerK w G us xss := by
  obtain ⟨h1, h2, h3⟩ := h
  refine ⟨h1, fun i u xs hu hx => ?_, h3⟩
  obtain ⟨A, n, c, rfl, hn, ho, hb⟩ := h2 i u xs hu hx
  exact ⟨A, n, c, rfl, hn, ho, fun k hk => hd k (hb k hk)⟩
theorem InnerK.snoc {w : World} {F G : Nat → Prop} {n c : Nat} {us : List Value} {xss : List (List Int)} {A : Option Addr} {xs : List Int} (h : InnerK w F us xss) (ho : OwnA w 2 A n c (ints xs)) (hn : n ≤ 1000000000) (hd : ∀ k, F k → Fo (.slice A n c) k → False) (hF : ∀ k, F k → G k) (hG : ∀ k, Fo (.slice A n c) k → G k) : InnerK w G (us ++ [.slice A n c]) (xss ++ [xs]) := by
  obtain ⟨h1, h2, h3⟩ := h
  have hold : ∀ (i : Nat) (u : Value), i < us.length → (us ++ [Value.slice A n c])[i]? = some u → us[i]? = some u := by
    intro i u hi' hu
    rwa [List.getElem?_append_left hi'] at hu
  have hnew : ∀ (i : Nat) (u : Value), ¬ i < us.length → (us ++ [Value.slice A n c])[i]? = some u → i = us.length ∧ u = .slice A n c := by
    intro i u hi' hu
    rw [List.getElem?_append_right (by omega)] at hu
    have hi0 : i - us.length = 0 := by
      rcases Nat.eq_zero_or_pos (i - us.length) with h | h
      · exact h
      · rw [List.getElem?_eq_none (by simp; omega)] at hu; cases hu
    rw [hi0] at hu
    simp at hu
    exact ⟨by omega, hu.symm⟩
  have hF1 : ∀ (i : Nat) (u : Value), us[i]? = some u → ∀ k, Fo u k → F k := by
    intro i u hu k hk
    obtain ⟨ys, hy⟩ := get_some (xs := xss) (k := i) (by rw [← h1]; exact (List.getElem?_eq_some_iff.1 hu).1)
    obtain ⟨_, _, _, rfl, _, _, hb'⟩ := h2 i u ys hu hy
    exact hb' k hk
  refine ⟨by simp [h1], fun i u ys hu hx => ?_, fun i j u v hu hv k hk hk' => ?_⟩
  · by_cases hi : i < us.length
    · rw [List.getElem?_append_left (by omega)] at hx
      obtain ⟨A', n', c', rfl, hn', ho', hb'⟩ := h2 i u ys (hold i u hi hu) hx
      exact ⟨A', n', c', rfl, hn', ho', fun k hk => hF k (hb' k hk)⟩
    · obtain ⟨hi', rfl⟩ := hnew i u hi hu
      rw [List.getElem?_append_right (by omega), show i - xss.length = 0 by omega] at hx
      simp at hx
      subst hx
      exact ⟨A, n, c, rfl, hn, ho, hG⟩
  · by_cases hi' : i < us.length <;> by_cases hj' : j < us.length
    · exact h3 i j u v (hold i u hi' hu) (hold j v hj' hv) k hk hk'
    · obtain ⟨_, rfl⟩ := hnew j v hj' hv
      exact (hd k (hF1 i u (hold i u hi' hu) k hk) hk').elim
    · obtain ⟨_, rfl⟩ := hnew i u hi' hu
      exact (hd k (hF1 j v (hold j v hj' hv) k hk') hk).elim
    · have := (hnew i u hi' hu).1
      have := (hnew j v hj' hv).1
      omega
theorem InnerK.rdl {w : World} {F : Nat → Prop} {n : Nat} {A : Option Addr} {us : List Value} {xss : List (List Int)} (h : InnerK w F us xss) (hr : Rd w A n us) : RdL w A n xss := by
  refine ⟨us, hr, h.1, fun i v xs hv hx => ?_⟩
  obtain ⟨A', n', c', rfl, hn', ho', _⟩ := h.2.1 i v xs hv hx
  exact ⟨A', n', c', rfl, hn', ho'.rd⟩
theorem InnerK.mark {w w' : World} {F : Nat → Prop} {i n c : Nat} {us : List Value} {xss : List (List Int)} {A : Option Addr} {ys : List Int} (h : InnerK w F us xss) (hu : us[i]? = some (.slice A n c)) (hn : n ≤ 1000000000) (hk : ∀ k, Fo (.slice A n c) k → F k) (ho : OwnA w' 2 A n c (ints ys)) (hg : Ch (Fo (.slice A n c)) w w') : InnerK w' F us (xss.set i ys) := by
  obtain ⟨h1, h2, h3⟩ := h
  refine ⟨by simp [h1], fun j u xs hj hx => ?_, h3⟩
  by_cases hij : i = j
  · subst hij
    rw [hu] at hj
    injection hj with hj
    subst hj
    rw [List.getElem?_set_self (by have := (List.getElem?_eq_some_iff.1 hu).1; omega)] at hx
    injection hx with hx
    subst hx
    exact ⟨A, n, c, rfl, hn, ho, hk⟩
  · rw [List.getElem?_set_ne hij] at hx
    obtain ⟨A', n', c', rfl, hn', ho', hb'⟩ := h2 j u xs hj hx
    exact ⟨A', n', c', rfl, hn', ho'.ch hg (fun k a b => hij (h3 i j _ _ hu hj k b a)), hb'⟩

/-- A slice of slices of the call's own: all its blocks are of F. -/
def OwnK (w : World) (F : Nat → Prop) (A : Option Addr) (n c : Nat) (xss : List (List Int)) : Prop :=
  ∃ us, w.ownsRow 0 25 1 (.slice A n c) n us ∧ (∀ k, Fo (.slice A n c) k → F k) ∧ InnerK w F us xss ∧ ∀ k, F k → k < w.heap.size
section
variable {w w' : World} {F G : Nat → Prop} {n c : Nat} {A : Option Addr} {xss : List (List Int)}
theorem OwnK.rdl (h : OwnK w F A n c xss) : RdL w A n xss := by obtain ⟨us, h1, _, h3, _⟩ := h; exact h3.rdl (own_rd h1)
theorem OwnK.len (h : OwnK w F A n c xss) : xss.length = n := h.rdl.len
theorem OwnK.lt (h : OwnK w F A n c xss) : ∀ k, F k → k < w.heap.size := by obtain ⟨us, _, _, _, h4⟩ := h; exact h4
theorem OwnK.ch (h : OwnK w F A n c xss) (hc : Ch G w w') (hd : ∀ k, F k → G k → False) : OwnK w' F A n c xss := by
  obtain ⟨us, h1, h2, h3, h4⟩ := h
  exact ⟨us, own_ch h1 hc (fun k a b => hd k (h2 k a) b), h2, h3.ch hc hd, fun k hk => Nat.lt_of_lt_of_le (h4 k hk) hc.size⟩
theorem OwnK.below (h : OwnK w F A n c xss) (hb : Below w.heap.size w w') : OwnK w' F A n c xss := h.ch (ch_below (F := fun _ => False) hb) (fun _ _ h => h)
theorem OwnK.cap (h : OwnK w F A n c xss) : n ≤ c := by obtain ⟨us, h1, _⟩ := h; exact ownN_cap h1
theorem OwnK.nil (w : World) : OwnK w (fun _ => False) none 0 0 [] := ⟨[], ownN_nil _ _ _ _, by simp [Fo, Value.ownBlock], InnerK.nil _ _, by simp⟩
end
theorem fo_types {w : World} {base n m c : Nat} {v : Value} {A : Option Addr} {us vs : List Value} (h1 : w.ownsRow base 25 1 v n us) (h2 : OwnA w 2 A m c vs) (q : Nat) (a : Fo v q) (b : Fo (.slice A m c) q) : False := by
  rcases h2.2 with ⟨rfl, _⟩ | ⟨g, off, cur, rfl, hg, _⟩
  · simp [Fo, Value.ownBlock] at b
  · obtain rfl : g = q := by simpa [Fo, Value.ownBlock] using b
    rcases h1.2 with ⟨rfl, _⟩ | ⟨g', _, cs, rfl, _, hg', _⟩
    · simp [Fo, Value.ownBlock] at a
    · obtain rfl : g' = g := by simpa [Fo, Value.ownBlock] using a
      exact blk_ne hg' hg (by decide) rfl
set_option maxHeartbeats 1000000 in
theorem markInt64SS_anyK (w : World) (F : Nat → Prop) (A : Option Addr) (n c : Nat) (xss : List (List Int)) (ho : OwnK w F A n c xss) (hn : n ≤ 1000000000) (ht : tot xss ≤ 1000000000) (k : Int) (hk0 : 0 ≤ k) (hk1 : k ≤ 1000000000) :
    Calls Try.prog 38 #[.slice A n c, .int .i64 k] w fun e w' => e = .returned (.int .i64 (k + tot xss)) ∧ OwnK w' F A n c (ups k xss) ∧ Ch F w w' := by
  have HL : Hid (xss.length = n) := Lib.hid ho.len
  go_enter Try.func38, Try.ntmps38
  go_wp2_with fail
  go_loopw [1, 5] (fun q i wr => ∃ j : Nat, j ≤ n ∧ i = .int .i64 j ∧ q = .int .i64 (k + tot (xss.take j)) ∧ OwnK wr F A n c (ups k (xss.take j) ++ xss.drop j) ∧ Ch F w wr) (fun _ i _ => n - (intOf i).toNat)
  case atStart => exact ⟨0, Nat.zero_le _, rfl, by simp [tot], by simpa [ups] using ho, Ch.refl _ _⟩
  case round =>
    obtain ⟨j, hj, rfl, rfl, hown, hO⟩ := hrel
    clear ho
    have htj : tot (xss.take j) ≤ 1000000000 := Nat.le_trans (tot_take_le xss j) ht
    by_cases hlt : j < n
    · obtain ⟨xs, hx⟩ := get_some (xs := xss) (k := j) (by rw [HL.out]; exact hlt)
      obtain ⟨us, h1, h2, h3, h4⟩ := hown
      obtain ⟨u, hu⟩ := get_some (xs := us) (k := j) (by have := h1.1; simp at this; omega)
      obtain ⟨A', n', c', rfl, hn', ho', hb'⟩ := h3.2.1 j u xs hu (mk_get hx)
      obtain ⟨b, off, rfl, hbs, hc⟩ := (own_rd h1).at_ hu
      have hn'x : xs.length = n' := by simpa using ho'.1
      have HX := Lib.hid hx; have HU := Lib.hid hu; have H1 := Lib.hid h1; have H2 := Lib.hid h2; have H3 := Lib.hid h3; have H4 := Lib.hid h4; have HO' := Lib.hid ho'; have HB' := Lib.hid hb'; have HNX := Lib.hid hn'x
      have HTS := Lib.hid (tot_take_succ hx)
      clear hx hu h1 h2 h3 h4 ho' hb' hn'x
      go_wp2_with fail
      refine (markInt64S_anyA _ _ _ _ xs HO'.out (by omega) _ (by omega) (by omega)).mono ?_
      rintro e w2 ⟨rfl, hm2, hg2⟩
      have HI2 := Lib.hid (H3.out.mark HU.out hn' HB'.out hm2 hg2)
      have HO2 := Lib.hid (own_ch H1.out hg2 (fun q a b => fo_types H1.out HO'.out q a b))
      have HT2 := Lib.hid (hO.trans (hg2.mono HB'.out))
      have HEQ : Hid (k + (tot (xss.take j) : Int) + (n' : Int) = k + (tot (xss.take (j + 1)) : Int)) := Lib.hid (by have h1 := HTS.out; have h2 := HNX.out; omega)
      have HG2 := Lib.hid hg2.size
      clear hm2 hg2
      go_wp2_with fail
      go_roundw
      case rel =>
        refine ⟨j + 1, by omega, by go_num, by rw [HEQ.out], ⟨us, HO2.out, H2.out, ?_, fun k hk => Nat.lt_of_lt_of_le (H4.out k hk) HG2.out⟩, HT2.out⟩
        have h := HI2.out
        rw [← HNX.out, mk_set HX.out] at h
        exact h
      case measure => simp [intOf]; omega
    · go_wp2_with fail
      go_ret
      have e1 : xss.take j = xss := List.take_of_length_le (by rw [HL.out]; omega)
      have e2 : xss.drop j = [] := List.drop_of_length_le (by rw [HL.out]; omega)
      rw [e1, e2, List.append_nil] at hown
      exact ⟨by rw [e1]; rfl, hown, hO⟩

end Go.Proofs.Ytjgajjcgapifoaa
