/- The contracts of the laws' own helpers on slices of slices of int64, by footprint. Written by mk_lawp.py. -/
import Derived.Test.YtjgajjcgapifoaaLawI
import Derived.Test.YtjgajjcgapifoaaFoot
namespace Go.Proofs.Ytjgajjcgapifoaa
open Go.RowKit
set_option linter.unusedVariables false
set_option linter.unusedSimpArgs false
/-- A slice of slices of integers: its cells are slice values, and each reads as a list. -/
def RdL (w : World) (A : Option Addr) (n : Nat) (xss : List (List Int)) : Prop :=
  ∃ vs : List Value, Rd w A n vs ∧ vs.length = xss.length ∧ ∀ (i : Nat) (v : Value) (xs : List Int), vs[i]? = some v → xss[i]? = some xs → ∃ A' n' c', v = .slice A' n' c' ∧ n' ≤ 1000000000 ∧ Rd w A' n' (ints xs)
theorem RdL.len {w : World} {A : Option Addr} {n : Nat} {xss : List (List Int)} (h : RdL w A n xss) : xss.length = n := by
  obtain ⟨vs, h1, h2, _⟩ := h; rw [← h2, h1.1]
theorem RdL.at_ {w : World} {A : Option Addr} {n k : Nat} {xss : List (List Int)} {xs : List Int} (h : RdL w A n xss) (hx : xss[k]? = some xs) :
    ∃ b off A' n' c', A = some ⟨b, off, none⟩ ∧ b < w.heap.size ∧ w.cell? ⟨b, off + k, none⟩ = some (.slice A' n' c') ∧ n' ≤ 1000000000 ∧ Rd w A' n' (ints xs) := by
  obtain ⟨vs, h1, h2, h3⟩ := h
  have hk : k < vs.length := by rw [h2]; exact (List.getElem?_eq_some_iff.1 hx).1
  obtain ⟨v, hv⟩ := get_some hk
  obtain ⟨A', n', c', rfl, hn', hr'⟩ := h3 k v xs hv hx
  obtain ⟨b, off, e, hb, hc⟩ := h1.at_ hv
  exact ⟨b, off, A', n', c', e, hb, hc, hn', hr'⟩
theorem RdL.below {w w' : World} {A : Option Addr} {n B : Nat} {xss : List (List Int)} (h : RdL w A n xss) (hb : Below B w w') (hB : w.heap.size ≤ B) : RdL w' A n xss := by
  obtain ⟨vs, h1, h2, h3⟩ := h
  refine ⟨vs, h1.below hb hB, h2, fun i v xs hv hx => ?_⟩
  obtain ⟨A', n', c', e, hn', hr'⟩ := h3 i v xs hv hx
  exact ⟨A', n', c', e, hn', hr'.below hb hB⟩

def tot : List (List Int) → Nat
  | [] => 0
  | xs :: r => xs.length + tot r
def ups : Int → List (List Int) → List (List Int)
  | _, [] => []
  | k, xs :: r => up k xs.length :: ups (k + xs.length) r
theorem ups_len (k : Int) (xss : List (List Int)) : (ups k xss).length = xss.length := by
  induction xss generalizing k with
  | nil => rfl
  | cons xs r ih => simp [ups, ih]
theorem tot_snoc (xss : List (List Int)) (xs : List Int) : tot (xss ++ [xs]) = tot xss + xs.length := by
  induction xss with
  | nil => simp [tot]
  | cons y r ih => simp only [List.cons_append, tot, ih]; omega
theorem tot_take_succ {xss : List (List Int)} {i : Nat} {xs : List Int} (h : xss[i]? = some xs) : tot (xss.take (i + 1)) = tot (xss.take i) + xs.length := by
  rw [List.take_add_one, h]; exact tot_snoc _ _
theorem ups_snoc (k : Int) (xss : List (List Int)) (xs : List Int) : ups k (xss ++ [xs]) = ups k xss ++ [up (k + tot xss) xs.length] := by
  induction xss generalizing k with
  | nil => simp [ups, tot]
  | cons y r ih => simp only [List.cons_append, ups, tot, ih]; congr 4; omega
theorem ups_get {k : Int} {xss : List (List Int)} {i : Nat} {xs : List Int} (h : xss[i]? = some xs) : (ups k xss)[i]? = some (up (k + tot (xss.take i)) xs.length) := by
  induction xss generalizing k i with
  | nil => simp at h
  | cons y r ih =>
    cases i with
    | zero => simp at h; subst h; simp [ups, tot]
    | succ i =>
      simp only [ups, List.getElem?_cons_succ, List.take_succ_cons, tot]
      rw [ih (by simpa using h)]; congr 2; omega
theorem mk_get {k : Int} {xss : List (List Int)} {i : Nat} {xs : List Int} (h : xss[i]? = some xs) : (ups k (xss.take i) ++ xss.drop i)[i]? = some xs := by
  have hi := (List.getElem?_eq_some_iff.1 h).1
  have hl : (ups k (xss.take i)).length = i := by rw [ups_len]; simp; omega
  rw [List.getElem?_append_right (by omega), hl, Nat.sub_self, drop_get h]; rfl
theorem mk_set {k : Int} {xss : List (List Int)} {i : Nat} {xs : List Int} (h : xss[i]? = some xs) : (ups k (xss.take i) ++ xss.drop i).set i (up (k + tot (xss.take i)) xs.length) = ups k (xss.take (i + 1)) ++ xss.drop (i + 1) := by
  have hi := (List.getElem?_eq_some_iff.1 h).1
  have hl : (ups k (xss.take i)).length = i := by rw [ups_len]; simp; omega
  rw [List.set_append_right _ _ (by omega), hl, Nat.sub_self, drop_get h, List.set_cons_zero, List.take_add_one, h]
  show _ = ups k (xss.take i ++ [xs]) ++ _
  rw [ups_snoc]; simp

theorem tot_take_le (xss : List (List Int)) (i : Nat) : tot (xss.take i) ≤ tot xss := by
  induction xss generalizing i with
  | nil => simp [tot]
  | cons y r ih =>
    cases i with
    | zero => simp [tot]
    | succ i => simp only [List.take_succ_cons, tot]; have := ih i; omega

/-- A slice of slices that came in: no bound on the inner lengths but the language's own. -/
def RdW (w : World) (A : Option Addr) (n : Nat) (xss : List (List Int)) : Prop :=
  ∃ vs : List Value, Rd w A n vs ∧ vs.length = xss.length ∧ ∀ (i : Nat) (v : Value) (xs : List Int), vs[i]? = some v → xss[i]? = some xs → ∃ A' n' c', v = .slice A' n' c' ∧ n' ≤ 9223372036854775807 ∧ Rd w A' n' (ints xs)
theorem RdW.len {w : World} {A : Option Addr} {n : Nat} {xss : List (List Int)} (h : RdW w A n xss) : xss.length = n := by
  obtain ⟨vs, h1, h2, _⟩ := h; rw [← h2, h1.1]
theorem RdW.at_ {w : World} {A : Option Addr} {n k : Nat} {xss : List (List Int)} {xs : List Int} (h : RdW w A n xss) (hx : xss[k]? = some xs) :
    ∃ b off A' n' c', A = some ⟨b, off, none⟩ ∧ b < w.heap.size ∧ w.cell? ⟨b, off + k, none⟩ = some (.slice A' n' c') ∧ n' ≤ 9223372036854775807 ∧ xs.length = n' := by
  obtain ⟨vs, h1, h2, h3⟩ := h
  have hk : k < vs.length := by rw [h2]; exact (List.getElem?_eq_some_iff.1 hx).1
  obtain ⟨v, hv⟩ := get_some hk
  obtain ⟨A', n', c', rfl, hn', hr'⟩ := h3 k v xs hv hx
  obtain ⟨b, off, e, hb, hc⟩ := h1.at_ hv
  exact ⟨b, off, A', n', c', e, hb, hc, hn', by simpa using hr'.1⟩
theorem tot_mem {xss : List (List Int)} {xs : List Int} (h : xs ∈ xss) : xs.length ≤ tot xss := by
  induction xss with
  | nil => simp at h
  | cons y r ih =>
    simp only [tot]
    rcases List.mem_cons.1 h with rfl | h
    · omega
    · have := ih h; omega
theorem RdW.rdl {w : World} {A : Option Addr} {n : Nat} {xss : List (List Int)} (h : RdW w A n xss) (ht : tot xss ≤ 1000000000) : RdL w A n xss := by
  obtain ⟨vs, h1, h2, h3⟩ := h
  refine ⟨vs, h1, h2, fun i v xs hv hx => ?_⟩
  obtain ⟨A', n', c', rfl, hn', hr'⟩ := h3 i v xs hv hx
  refine ⟨A', n', c', rfl, ?_, hr'⟩
  have hl : xs.length = n' := by simpa using hr'.1
  have := tot_mem (List.mem_of_getElem? hx)
  omega
theorem RdW.below {w w' : World} {A : Option Addr} {n B : Nat} {xss : List (List Int)} (h : RdW w A n xss) (hb : Below B w w') (hB : w.heap.size ≤ B) : RdW w' A n xss := by
  obtain ⟨vs, h1, h2, h3⟩ := h
  refine ⟨vs, h1.below hb hB, h2, fun i v xs hv hx => ?_⟩
  obtain ⟨A', n', c', e, hn', hr'⟩ := h3 i v xs hv hx
  exact ⟨A', n', c', e, hn', hr'.below hb hB⟩
theorem eqInt64S_same (w : World) (A : Option Addr) (n c : Nat) (xs : List Int) (hr : Rd w A n (ints xs)) (hn : n ≤ 1099511627776) (A' : Option Addr) (n' c' : Nat) (hr' : Rd w A' n' (ints xs)) :
    Calls Try.prog 17 #[.slice A n c, .slice A' n' c'] w (RetV w (.bool true)) := eq_same w A n c xs hr hn A' n' c' hr'
theorem Try.infoS : (Try.prog.info? 25).map (fun i => (i.zero, i.size, i.bytes)) = some (some (.slice none 0 0), 1, 24) := by kernel_rfl
theorem Try.eltS : Elt Try.prog 49 25 (.slice none 0 0) := Elt.mk_ Try.underlying49 Try.infoS rfl (by decide)

/-- Rows of the call's own, each in a block of its own, that read as lists. -/
def InnerP (w : World) (F : Nat → Prop) (us : List Value) (xss : List (List Int)) : Prop :=
  us.length = xss.length ∧ (∀ (i : Nat) (u : Value) (xs : List Int), us[i]? = some u → xss[i]? = some xs → ∃ A n c, u = .slice A n c ∧ n ≤ 1000000000 ∧ w.ownsRow 0 2 1 (.slice A n c) n (ints xs) ∧ ∀ k, Fo u k → F k) ∧
    ∀ (i j : Nat) (u v : Value), us[i]? = some u → us[j]? = some v → ∀ k, Fo u k → Fo v k → i = j
theorem InnerP.nil (w : World) (F : Nat → Prop) : InnerP w F [] [] := ⟨rfl, by simp, by simp⟩
theorem InnerP.ch {w w' : World} {F G : Nat → Prop} {us : List Value} {xss : List (List Int)} (h : InnerP w F us xss) (hc : Ch G w w') (hd : ∀ k, F k → G k → False) : InnerP w' F us xss := by
  obtain ⟨h1, h2, h3⟩ := h
  refine ⟨h1, fun i u xs hu hx => ?_, h3⟩
  obtain ⟨A, n, c, rfl, hn, ho, hb⟩ := h2 i u xs hu hx
  exact ⟨A, n, c, rfl, hn, own_ch ho hc (fun k h1 h2 => hd k (hb k h1) h2), hb⟩
theorem InnerP.mono {w : World} {F G : Nat → Prop} {us : List Value} {xss : List (List Int)} (h : InnerP w F us xss) (hd : ∀ k, F k → G k) : InnerP w G us xss := by
  obtain ⟨h1, h2, h3⟩ := h
  refine ⟨h1, fun i u xs hu hx => ?_, h3⟩
  obtain ⟨A, n, c, rfl, hn, ho, hb⟩ := h2 i u xs hu hx
  exact ⟨A, n, c, rfl, hn, ho, fun k hk => hd k (hb k hk)⟩
theorem InnerP.snoc {w : World} {F G : Nat → Prop} {B n c : Nat} {us : List Value} {xss : List (List Int)} {A : Option Addr} {xs : List Int} (h : InnerP w F us xss) (ho : w.ownsRow B 2 1 (.slice A n c) n (ints xs)) (hn : n ≤ 1000000000) (hd : ∀ k, F k → Fo (.slice A n c) k → False) (hF : ∀ k, F k → G k) (hG : ∀ k, Fo (.slice A n c) k → G k) : InnerP w G (us ++ [.slice A n c]) (xss ++ [xs]) := by
  obtain ⟨h1, h2, h3⟩ := h
  have hold : ∀ (i : Nat) (u : Value), i < us.length → (us ++ [Value.slice A n c])[i]? = some u → us[i]? = some u := by
    intro i u hi' hu
    rwa [List.getElem?_append_left hi'] at hu
  have hnew : ∀ (i : Nat) (u : Value), ¬ i < us.length → (us ++ [Value.slice A n c])[i]? = some u → i = us.length ∧ u = .slice A n c := by
    intro i u hi' hu
    rw [List.getElem?_append_right (by omega)] at hu
    have hi0 : i - us.length = 0 := by
      rcases Nat.eq_zero_or_pos (i - us.length) with h | h
      · exact h
      · rw [List.getElem?_eq_none (by simp; omega)] at hu; cases hu
    rw [hi0] at hu
    simp at hu
    exact ⟨by omega, hu.symm⟩
  have hF1 : ∀ (i : Nat) (u : Value), us[i]? = some u → ∀ k, Fo u k → F k := by
    intro i u hu k hk
    obtain ⟨ys, hy⟩ := get_some (xs := xss) (k := i) (by rw [← h1]; exact (List.getElem?_eq_some_iff.1 hu).1)
    obtain ⟨_, _, _, rfl, _, _, hb'⟩ := h2 i u ys hu hy
    exact hb' k hk
  refine ⟨by simp [h1], fun i u ys hu hx => ?_, fun i j u v hu hv k hk hk' => ?_⟩
  · by_cases hi : i < us.length
    · rw [List.getElem?_append_left (by omega)] at hx
      obtain ⟨A', n', c', rfl, hn', ho', hb'⟩ := h2 i u ys (hold i u hi hu) hx
      exact ⟨A', n', c', rfl, hn', ho', fun k hk => hF k (hb' k hk)⟩
    · obtain ⟨hi', rfl⟩ := hnew i u hi hu
      rw [List.getElem?_append_right (by omega), show i - xss.length = 0 by omega] at hx
      simp at hx
      subst hx
      exact ⟨A, n, c, rfl, hn, ownN_base ho (Nat.zero_le _), hG⟩
  · by_cases hi' : i < us.length <;> by_cases hj' : j < us.length
    · exact h3 i j u v (hold i u hi' hu) (hold j v hj' hv) k hk hk'
    · obtain ⟨_, rfl⟩ := hnew j v hj' hv
      exact (hd k (hF1 i u (hold i u hi' hu) k hk) hk').elim
    · obtain ⟨_, rfl⟩ := hnew i u hi' hu
      exact (hd k (hF1 j v (hold j v hj' hv) k hk') hk).elim
    · have := (hnew i u hi' hu).1
      have := (hnew j v hj' hv).1
      omega
theorem InnerP.rdl {w : World} {F : Nat → Prop} {n : Nat} {A : Option Addr} {us : List Value} {xss : List (List Int)} (h : InnerP w F us xss) (hr : Rd w A n us) : RdL w A n xss := by
  refine ⟨us, hr, h.1, fun i v xs hv hx => ?_⟩
  obtain ⟨A', n', c', rfl, hn', ho', _⟩ := h.2.1 i v xs hv hx
  exact ⟨A', n', c', rfl, hn', own_rd ho'⟩
theorem InnerP.mark {w w' : World} {F : Nat → Prop} {i n c : Nat} {us : List Value} {xss : List (List Int)} {A : Option Addr} {ys : List Int} (h : InnerP w F us xss) (hu : us[i]? = some (.slice A n c)) (hn : n ≤ 1000000000) (hk : ∀ k, Fo (.slice A n c) k → F k) (ho : w'.ownsRow 0 2 1 (.slice A n c) n (ints ys)) (hg : Ch (Fo (.slice A n c)) w w') : InnerP w' F us (xss.set i ys) := by
  obtain ⟨h1, h2, h3⟩ := h
  refine ⟨by simp [h1], fun j u xs hj hx => ?_, h3⟩
  by_cases hij : i = j
  · subst hij
    rw [hu] at hj
    injection hj with hj
    subst hj
    rw [List.getElem?_set_self (by have := (List.getElem?_eq_some_iff.1 hu).1; omega)] at hx
    injection hx with hx
    subst hx
    exact ⟨A, n, c, rfl, hn, ho, hk⟩
  · rw [List.getElem?_set_ne hij] at hx
    obtain ⟨A', n', c', rfl, hn', ho', hb'⟩ := h2 j u xs hj hx
    exact ⟨A', n', c', rfl, hn', own_ch ho' hg (fun k a b => hij (h3 i j _ _ hu hj k b a)), hb'⟩

/-- A slice of slices of the call's own: all its blocks are of F. -/
def OwnP (w : World) (F : Nat → Prop) (A : Option Addr) (n c : Nat) (xss : List (List Int)) : Prop :=
  ∃ us, w.ownsRow 0 25 1 (.slice A n c) n us ∧ (∀ k, Fo (.slice A n c) k → F k) ∧ InnerP w F us xss ∧ ∀ k, F k → k < w.heap.size
section
variable {w w' : World} {F G : Nat → Prop} {n c : Nat} {A : Option Addr} {xss : List (List Int)}
theorem OwnP.rdl (h : OwnP w F A n c xss) : RdL w A n xss := by obtain ⟨us, h1, _, h3, _⟩ := h; exact h3.rdl (own_rd h1)
theorem OwnP.len (h : OwnP w F A n c xss) : xss.length = n := h.rdl.len
theorem OwnP.lt (h : OwnP w F A n c xss) : ∀ k, F k → k < w.heap.size := by obtain ⟨us, _, _, _, h4⟩ := h; exact h4
theorem OwnP.ch (h : OwnP w F A n c xss) (hc : Ch G w w') (hd : ∀ k, F k → G k → False) : OwnP w' F A n c xss := by
  obtain ⟨us, h1, h2, h3, h4⟩ := h
  exact ⟨us, own_ch h1 hc (fun k a b => hd k (h2 k a) b), h2, h3.ch hc hd, fun k hk => Nat.lt_of_lt_of_le (h4 k hk) hc.size⟩
theorem OwnP.below (h : OwnP w F A n c xss) (hb : Below w.heap.size w w') : OwnP w' F A n c xss := h.ch (ch_below (F := fun _ => False) hb) (fun _ _ h => h)
theorem OwnP.cap (h : OwnP w F A n c xss) : n ≤ c := by obtain ⟨us, h1, _⟩ := h; exact ownN_cap h1
theorem OwnP.nil (w : World) : OwnP w (fun _ => False) none 0 0 [] := ⟨[], ownN_nil _ _ _ _, by simp [Fo, Value.ownBlock], InnerP.nil _ _, by simp⟩
end
/-- What a call that returns a new slice of slices leaves. -/
def RetP (w : World) (xss : List (List Int)) (en : Ending) (w' : World) : Prop :=
  ∃ A n c F, en = .returned (.slice A n c) ∧ OwnP w' F A n c xss ∧ (∀ k, F k → w.heap.size ≤ k ∧ k < w'.heap.size) ∧ Below w.heap.size w w'
theorem fillL_get (us : List Value) (n k : Nat) (h : us.length = k) (hk : k < n) : (us ++ List.replicate (n - k) (Value.slice none 0 0))[k]? = some (.slice none 0 0) := by
  rw [List.getElem?_append_right (by omega), h]; simp [List.getElem?_replicate]; omega
theorem fillL_set (us : List Value) (n k : Nat) (h : us.length = k) (hk : k < n) (u : Value) : (us ++ List.replicate (n - k) (Value.slice none 0 0)).set k u = (us ++ [u]) ++ List.replicate (n - (k + 1)) (Value.slice none 0 0) := by
  obtain ⟨m, hm⟩ : ∃ m, n - k = m + 1 := ⟨n - k - 1, by omega⟩
  rw [hm, show n - (k + 1) = m by omega, List.replicate_succ, List.set_append_right _ _ (by omega), h]
  simp

set_option maxHeartbeats 1000000 in
theorem toInt64SS_any (w : World) (A : Option Addr) (n c : Nat) (xss : List (List Int)) (hr : RdL w A n xss) (hn : n ≤ 1000000000) :
    Calls Try.prog 35 #[.slice A n c] w (RetP w xss) := by
  have HL : Hid (xss.length = n) := Lib.hid hr.len
  go_enter Try.func35, Try.ntmps35
  go_wp2_with (at_make; go_must (refine wpList_mk Try.eltS rfl _ _ rfl w _ _ n (by rfl) (by rfl) (by omega) (by omega) (by omega) ?_); rintro w1 hown1 hb1 hs1)
  go_loopw [4] (fun i wr => ∃ (k : Nat) (us : List Value), k ≤ n ∧ i = .int .i64 k ∧ Hid (us.length = k) ∧ wr.ownsRow w.heap.size 25 1 (.slice (some ⟨w.heap.size, 0, none⟩) n n) n (us ++ List.replicate (n - k) (.slice none 0 0)) ∧ InnerP wr (InR (w.heap.size + 1) wr.heap.size) us (xss.take k) ∧ Below w.heap.size w wr) (fun i _ => n - (intOf i).toNat)
  case atStart => exact ⟨0, [], Nat.zero_le _, rfl, Lib.hid rfl, by simpa using hown1, InnerP.nil _ _, hb1⟩
  case round =>
    obtain ⟨k, us, hk, rfl, HU, hown, hin, hb⟩ := hrel
    clear hown1 hb1 hs1
    by_cases hlt : k < n
    · obtain ⟨xs, hx⟩ := get_some (xs := xss) (k := k) (by rw [HL.out]; exact hlt)
      obtain ⟨b, off, A', n', c', rfl, hbs, hc, hn', hr'⟩ := hr.at_ hx
      have hc1 := (hb.cell (p := ⟨b, off + k, none⟩) hbs).trans hc
      have HX := Lib.hid hx
      clear hx hc
      go_wp2_with fail
      refine (toInt64S_any _ _ _ _ xs (hr'.below hb (Nat.le_refl _)) (by omega)).mono ?_
      rintro e w2 ⟨A2, n2, c2, rfl, ho2, hb2⟩
      have hn2 : n2 = n' := by have h1 := ho2.1; have h2 := hr'.1; simp at h1 h2; omega
      have HN2 : Hid (n2 ≤ 1000000000) := Lib.hid (by omega)
      have hown2 := own_below hown hb2 (Nat.le_refl _)
      have hin2 := hin.ch (ch_below (F := fun _ => False) hb2) (fun _ _ h => h)
      have hB2 := hb.trans (hb2.mono hb.size)
      have hws : w.heap.size < wr.heap.size := by obtain ⟨cs, hcs⟩ := own_blk hown; exact blk_lt hcs
      have hin3 := hin2.snoc (G := InR (w.heap.size + 1) w2.heap.size) ho2 HN2.out (fun k h1 h2 => by have := (ho2.lt k h2).1; have := h1.2; omega) (fun k h => ⟨h.1, Nat.lt_of_lt_of_le h.2 hb2.size⟩) (fun k h => ⟨by have := (ho2.lt k h).1; omega, (ho2.lt k h).2⟩)
      obtain ⟨g, hg, hgb, hgs, hc2, hc3⟩ := own_get hown2 (fillL_get us n k HU.out hlt)
      obtain rfl : w.heap.size = g := by simpa using hg
      obtain ⟨cs, hcs⟩ := own_blk hown2
      have HS := Lib.hid (own_put hown2 k (.slice A2 n2 c2))
      have HI := Lib.hid (hin3.ch (ch_set w2 w.heap.size k (.slice A2 n2 c2)) (fun q h1 h2 => by have := h1.1; omega))
      have HB := Lib.hid hB2
      clear hown hin hb hown2 hin2 hin3 hB2 hg hcs hn2 hb2 ho2
      go_wp2_with fail
      go_roundw
      case rel =>
        refine ⟨k + 1, us ++ [.slice A2 n2 c2], by omega, by go_num, Lib.hid (by simp [HU.out]), ?_, ?_, HB.out.setCell (p := ⟨w.heap.size, k, none⟩) (Nat.le_refl _) _⟩
        · rw [← fillL_set us n k HU.out hlt]; exact HS.out
        · have h := HI.out
          rw [List.take_add_one, HX.out]
          simpa [World.setCell] using h
      case measure => simp [intOf]; omega
    · go_wp2_with fail
      go_ret
      obtain rfl : k = n := by omega
      rw [List.take_of_length_le (by rw [HL.out]; omega)] at hin
      refine ⟨some ⟨w.heap.size, 0, none⟩, k, k, InR w.heap.size wr.heap.size, rfl, ⟨us, ownN_base (by simpa using hown) (Nat.zero_le _), fun q hq => hown.lt q hq, hin.mono (fun q hq => ⟨by have := hq.1; omega, hq.2⟩), fun q hq => hq.2⟩, fun q hq => hq, hb⟩
set_option maxHeartbeats 1000000 in
theorem eqInt64SS_same (w : World) (A : Option Addr) (n c : Nat) (xss : List (List Int)) (hr : RdL w A n xss) (hn : n ≤ 1000000000) (A' : Option Addr) (n' c' : Nat) (hr' : RdL w A' n' xss) :
    Calls Try.prog 37 #[.slice A n c, .slice A' n' c'] w (RetV w (.bool true)) := by
  have HL : Hid (xss.length = n) := Lib.hid hr.len
  obtain rfl : n = n' := by rw [← hr.len, ← hr'.len]
  go_enter Try.func37, Try.ntmps37
  go_wp2_with fail
  go_loopw [5] (fun i wr => ∃ k : Nat, k ≤ n ∧ i = .int .i64 k ∧ Below w.heap.size w wr) (fun i _ => n - (intOf i).toNat)
  case atStart => exact ⟨0, Nat.zero_le _, rfl, Below.refl _ _⟩
  case round =>
    obtain ⟨k, hk, rfl, hb⟩ := hrel
    by_cases hlt : k < n
    · obtain ⟨xs, hx⟩ := get_some (xs := xss) (k := k) (by rw [HL.out]; exact hlt)
      obtain ⟨b, off, B, m, d, rfl, hbs, hc, hm, hrr⟩ := hr.at_ hx
      obtain ⟨b', off', B', m', d', rfl, hbs', hc', hm', hrr'⟩ := hr'.at_ hx
      have hc1 := (hb.cell (p := ⟨b, off + k, none⟩) hbs).trans hc
      have hc2 := (hb.cell (p := ⟨b', off' + k, none⟩) hbs').trans hc'
      have hq1 := hrr.below hb (Nat.le_refl _)
      have hq2 := hrr'.below hb (Nat.le_refl _)
      have hb1 : b < wr.heap.size := Nat.lt_of_lt_of_le hbs hb.size
      have hb2 : b' < wr.heap.size := Nat.lt_of_lt_of_le hbs' hb.size
      have HB := Lib.hid hb
      clear hx hc hc' hb
      go_wp2_with fail
      go_region_held3 (fun w' => w'.cell? ⟨b, off + k, none⟩ = some (.slice B m d) ∧ w'.cell? ⟨b', off' + k, none⟩ = some (.slice B' m' d')) (exact ⟨by assumption, by assumption⟩)
        (first
          | (go_at_call 17; refine (eq_same _ _ _ _ xs (by exact hq1) (by omega) _ _ _ (by exact hq2)).mono ?_; rintro e w3 ⟨rfl, hb3⟩; (try replace hb3 := below_undrew hb3); have hc1 := (hb3.cell (p := ⟨b, off + k, none⟩) hb1).trans hc1; have hc2 := (hb3.cell (p := ⟨b', off' + k, none⟩) hb2).trans hc2))
      go_wp2_with fail
      go_roundw
      case rel => exact ⟨k + 1, by omega, by go_num, HB.out.trans (hb3.mono HB.out.size)⟩
      case measure => simp [intOf]; omega
    · go_wp2_with fail
      go_ret
      exact ⟨rfl, hb⟩

set_option maxHeartbeats 1000000 in
theorem markInt64SS_any (w : World) (F : Nat → Prop) (A : Option Addr) (n c : Nat) (xss : List (List Int)) (ho : OwnP w F A n c xss) (hn : n ≤ 1000000000) (ht : tot xss ≤ 1000000000) (k : Int) (hk0 : 0 ≤ k) (hk1 : k ≤ 1000000000) :
    Calls Try.prog 38 #[.slice A n c, .int .i64 k] w fun e w' => e = .returned (.int .i64 (k + tot xss)) ∧ OwnP w' F A n c (ups k xss) ∧ Ch F w w' := by
  have HL : Hid (xss.length = n) := Lib.hid ho.len
  go_enter Try.func38, Try.ntmps38
  go_wp2_with fail
  go_loopw [1, 5] (fun q i wr => ∃ j : Nat, j ≤ n ∧ i = .int .i64 j ∧ q = .int .i64 (k + tot (xss.take j)) ∧ OwnP wr F A n c (ups k (xss.take j) ++ xss.drop j) ∧ Ch F w wr) (fun _ i _ => n - (intOf i).toNat)
  case atStart => exact ⟨0, Nat.zero_le _, rfl, by simp [tot], by simpa [ups] using ho, Ch.refl _ _⟩
  case round =>
    obtain ⟨j, hj, rfl, rfl, hown, hO⟩ := hrel
    clear ho
    have htj : tot (xss.take j) ≤ 1000000000 := Nat.le_trans (tot_take_le xss j) ht
    by_cases hlt : j < n
    · obtain ⟨xs, hx⟩ := get_some (xs := xss) (k := j) (by rw [HL.out]; exact hlt)
      obtain ⟨us, h1, h2, h3, h4⟩ := hown
      obtain ⟨u, hu⟩ := get_some (xs := us) (k := j) (by have := h1.1; simp at this; omega)
      obtain ⟨A', n', c', rfl, hn', ho', hb'⟩ := h3.2.1 j u xs hu (mk_get hx)
      obtain ⟨b, off, rfl, hbs, hc⟩ := (own_rd h1).at_ hu
      have hn'x : xs.length = n' := by simpa using ho'.1
      have HX := Lib.hid hx; have HU := Lib.hid hu; have H1 := Lib.hid h1; have H2 := Lib.hid h2; have H3 := Lib.hid h3; have H4 := Lib.hid h4; have HO' := Lib.hid ho'; have HB' := Lib.hid hb'; have HNX := Lib.hid hn'x
      have HTS := Lib.hid (tot_take_succ hx)
      clear hx hu h1 h2 h3 h4 ho' hb' hn'x
      go_wp2_with fail
      refine (markInt64S_any _ 0 _ _ _ xs HO'.out (by omega) _ (by omega) (by omega)).mono ?_
      rintro e w2 ⟨rfl, hm2, hg2⟩
      have HI2 := Lib.hid (H3.out.mark HU.out hn' HB'.out hm2 (ch_row hg2))
      have HO2 := Lib.hid (outer_keep H1.out HO'.out (by decide) hg2)
      have HT2 := Lib.hid (hO.trans ((ch_row hg2).mono HB'.out))
      have HEQ : Hid (k + (tot (xss.take j) : Int) + (n' : Int) = k + (tot (xss.take (j + 1)) : Int)) := Lib.hid (by have h1 := HTS.out; have h2 := HNX.out; omega)
      have HG2 := Lib.hid hg2.size
      clear hm2 hg2
      go_wp2_with fail
      go_roundw
      case rel =>
        refine ⟨j + 1, by omega, by go_num, by rw [HEQ.out], ⟨us, HO2.out, H2.out, ?_, fun k hk => Nat.lt_of_lt_of_le (H4.out k hk) HG2.out⟩, HT2.out⟩
        have h := HI2.out
        rw [← HNX.out, mk_set HX.out] at h
        exact h
      case measure => simp [intOf]; omega
    · go_wp2_with fail
      go_ret
      have e1 : xss.take j = xss := List.take_of_length_le (by rw [HL.out]; omega)
      have e2 : xss.drop j = [] := List.drop_of_length_le (by rw [HL.out]; omega)
      rw [e1, e2, List.append_nil] at hown
      exact ⟨by rw [e1]; rfl, hown, hO⟩

set_option maxHeartbeats 1000000 in
theorem heldInt64SS_any (w : World) (A : Option Addr) (n c : Nat) (xss : List (List Int)) (k : Int) (hr : RdL w A n (ups k xss)) (hn : n ≤ 1000000000) (ht : tot xss ≤ 1000000000) (hk0 : 0 ≤ k) (hk1 : k ≤ 1000000000) :
    Calls Try.prog 43 #[.slice A n c, .int .i64 k] w (RetV w (.int .i64 (k + tot xss))) := by
  have HL : Hid (xss.length = n) := Lib.hid (by rw [← ups_len k xss]; exact hr.len)
  go_enter Try.func43, Try.ntmps43
  go_wp2_with fail
  go_loopw [1, 5] (fun q i wr => ∃ j : Nat, j ≤ n ∧ i = .int .i64 j ∧ q = .int .i64 (k + tot (xss.take j)) ∧ Below w.heap.size w wr) (fun _ i _ => n - (intOf i).toNat)
  case atStart => exact ⟨0, Nat.zero_le _, rfl, by simp [tot], Below.refl _ _⟩
  case round =>
    obtain ⟨j, hj, rfl, rfl, hb⟩ := hrel
    have htj : tot (xss.take j) ≤ 1000000000 := Nat.le_trans (tot_take_le xss j) ht
    by_cases hlt : j < n
    · obtain ⟨xs, hx⟩ := get_some (xs := xss) (k := j) (by rw [HL.out]; exact hlt)
      obtain ⟨b, off, A', n', c', rfl, hbs, hc, hn', hr'⟩ := hr.at_ (ups_get (k := k) hx)
      have hc1 := (hb.cell (p := ⟨b, off + j, none⟩) hbs).trans hc
      have hnx : xs.length = n' := by have h := hr'.1; simp [up_length] at h; exact h
      rw [hnx] at hr'
      have HTS := Lib.hid (tot_take_succ hx)
      have HNX := Lib.hid hnx
      clear hx hc hnx
      go_wp2_with fail
      refine (heldInt64S_any _ _ _ _ _ (hr'.below hb (Nat.le_refl _)) (by omega) (by omega) (by omega)).mono ?_
      rintro e w2 ⟨rfl, hb2⟩
      have HEQ : Hid (k + (tot (xss.take j) : Int) + (n' : Int) = k + (tot (xss.take (j + 1)) : Int)) := Lib.hid (by have h1 := HTS.out; have h2 := HNX.out; omega)
      go_wp2_with fail
      go_roundw
      case rel => exact ⟨j + 1, by omega, by go_num, by rw [HEQ.out], hb.trans (hb2.mono hb.size)⟩
      case measure => simp [intOf]; omega
    · go_wp2_with fail
      go_ret
      have e1 : xss.take j = xss := List.take_of_length_le (by rw [HL.out]; omega)
      exact ⟨by rw [e1]; rfl, hb⟩
set_option maxHeartbeats 1000000 in
theorem szInt64SS_post (w : World) (A : Option Addr) (n c : Nat) (xss : List (List Int)) (hr : RdW w A n xss) (hn : n ≤ 9223372036854775807) (left : Int) (h0 : 0 ≤ left) (h1 : left ≤ 1048576) :
    Calls Try.prog 33 #[.slice A n c, .int .i64 left] w (SzPost w left ((n : Int) + tot xss)) := by
  have HL : Hid (xss.length = n) := Lib.hid hr.len
  by_cases h : left - n < 0
  · go_enter Try.func33, Try.ntmps33
    go_wp2_with fail
    go_ret
    exact ⟨-1, rfl, fun h => by omega, by omega, Below.refl _ _⟩
  · have hn2 : n ≤ 1048576 := by omega
    go_enter Try.func33, Try.ntmps33
    go_wp2_with fail
    go_loopw [1, 5] (fun q i wr => ∃ (k : Nat) (r : Int), q = .int .i64 r ∧ i = .int .i64 k ∧ k ≤ n ∧ 0 ≤ r ∧ r ≤ left ∧ Hid (r + n + tot (xss.take k) = left) ∧ Below w.heap.size w wr) (fun _ i _ => n - (intOf i).toNat)
    case atStart => exact ⟨0, left - n, rfl, rfl, by omega, by omega, by omega, Lib.hid (by simp [tot]), Below.refl _ _⟩
    case round =>
      obtain ⟨k, r, rfl, rfl, hk, hr0, hr1, HE, hb⟩ := hrel
      by_cases hlt : k < n
      · obtain ⟨xs, hx⟩ := get_some (xs := xss) (k := k) (by rw [HL.out]; exact hlt)
        obtain ⟨b, off, A', n', c', rfl, hbs, hc, hn', hxl⟩ := hr.at_ hx
        have hc1 := (hb.cell (p := ⟨b, off + k, none⟩) hbs).trans hc
        have HTS := Lib.hid (tot_take_succ hx); have HXL := Lib.hid hxl
        clear hx hxl hc
        go_wp2_with fail
        refine (szInt64S_post _ _ _ _ hn' r hr0 (by omega)).mono ?_
        rintro e w1 ⟨r2, rfl, a1, a2, hb2⟩
        have HA1 := Lib.hid a1
        clear a1
        by_cases hneg : r2 < 0
        · go_wp2_with fail
          go_ret
          exact ⟨-1, rfl, fun h => by omega, by omega, hb.trans (hb2.mono hb.size)⟩
        · go_wp2_with fail
          go_roundw
          case rel => exact ⟨k + 1, r2, rfl, by go_num, by omega, by omega, by omega, Lib.hid (by have h1 := HA1.out (by omega); have h2 := HTS.out; have h3 := HXL.out; have h4 := HE.out; omega), hb.trans (hb2.mono hb.size)⟩
          case measure => simp [intOf]; omega
      · go_wp2_with fail
        go_ret
        have e := HE.out
        rw [List.take_of_length_le (by rw [HL.out]; omega)] at e
        exact ⟨r, rfl, fun _ => by omega, by omega, hb⟩
end Go.Proofs.Ytjgajjcgapifoaa
