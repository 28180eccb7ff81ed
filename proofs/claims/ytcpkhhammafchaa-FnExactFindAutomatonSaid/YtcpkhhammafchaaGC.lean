/- Texts in one file: LawP, OpenL, LawRule, LawMachine, LawConfig, Cut. -/
import Derived.Test.YtcpkhhammafchaaGA
/- The contracts of the laws' own helpers on slices of slices of int64, by footprint. Written by mk_lawp.py. -/
namespace Go.Proofs.Ytcpkhhammafchaa
open Go.RowKit
set_option linter.unusedVariables false
set_option linter.unusedSimpArgs false
/-- A slice of slices of integers: its cells are slice values, and each reads as a list. -/
def RdL (w : World) (A : Option Addr) (n : Nat) (xss : List (List Int)) : Prop :=
  ∃ vs : List Value, Rd w A n vs ∧ vs.length = xss.length ∧ ∀ (i : Nat) (v : Value) (xs : List Int), vs[i]? = some v → xss[i]? = some xs → ∃ A' n' c', v = .slice A' n' c' ∧ n' ≤ 1000000000 ∧ Rd w A' n' (ints xs)
theorem RdL.len {w : World} {A : Option Addr} {n : Nat} {xss : List (List Int)} (h : RdL w A n xss) : xss.length = n := by
  obtain ⟨vs, h1, h2, _⟩ := h; rw [← h2, h1.1]
theorem RdL.at_ {w : World} {A : Option Addr} {n k : Nat} {xss : List (List Int)} {xs : List Int} (h : RdL w A n xss) (hx : xss[k]? = some xs) :
    ∃ b off A' n' c', A = some ⟨b, off, none⟩ ∧ b < w.heap.size ∧ w.cell? ⟨b, off + k, none⟩ = some (.slice A' n' c') ∧ n' ≤ 1000000000 ∧ Rd w A' n' (ints xs) := by
  obtain ⟨vs, h1, h2, h3⟩ := h
  have hk : k < vs.length := by rw [h2]; exact (List.getElem?_eq_some_iff.1 hx).1
  obtain ⟨v, hv⟩ := get_some hk
  obtain ⟨A', n', c', rfl, hn', hr'⟩ := h3 k v xs hv hx
  obtain ⟨b, off, e, hb, hc⟩ := h1.at_ hv
  exact ⟨b, off, A', n', c', e, hb, hc, hn', hr'⟩
theorem RdL.below {w w' : World} {A : Option Addr} {n B : Nat} {xss : List (List Int)} (h : RdL w A n xss) (hb : Below B w w') (hB : w.heap.size ≤ B) : RdL w' A n xss := by
  obtain ⟨vs, h1, h2, h3⟩ := h
  refine ⟨vs, h1.below hb hB, h2, fun i v xs hv hx => ?_⟩
  obtain ⟨A', n', c', e, hn', hr'⟩ := h3 i v xs hv hx
  exact ⟨A', n', c', e, hn', hr'.below hb hB⟩

def tot : List (List Int) → Nat
  | [] => 0
  | xs :: r => xs.length + tot r
def ups : Int → List (List Int) → List (List Int)
  | _, [] => []
  | k, xs :: r => up k xs.length :: ups (k + xs.length) r
theorem ups_len (k : Int) (xss : List (List Int)) : (ups k xss).length = xss.length := by
  induction xss generalizing k with
  | nil => rfl
  | cons xs r ih => simp [ups, ih]
theorem tot_snoc (xss : List (List Int)) (xs : List Int) : tot (xss ++ [xs]) = tot xss + xs.length := by
  induction xss with
  | nil => simp [tot]
  | cons y r ih => simp only [List.cons_append, tot, ih]; omega
theorem tot_take_succ {xss : List (List Int)} {i : Nat} {xs : List Int} (h : xss[i]? = some xs) : tot (xss.take (i + 1)) = tot (xss.take i) + xs.length := by
  rw [List.take_add_one, h]; exact tot_snoc _ _
theorem ups_snoc (k : Int) (xss : List (List Int)) (xs : List Int) : ups k (xss ++ [xs]) = ups k xss ++ [up (k + tot xss) xs.length] := by
  induction xss generalizing k with
  | nil => simp [ups, tot]
  | cons y r ih => simp only [List.cons_append, ups, tot, ih]; congr 4; omega
theorem ups_get {k : Int} {xss : List (List Int)} {i : Nat} {xs : List Int} (h : xss[i]? = some xs) : (ups k xss)[i]? = some (up (k + tot (xss.take i)) xs.length) := by
  induction xss generalizing k i with
  | nil => simp at h
  | cons y r ih =>
    cases i with
    | zero => simp at h; subst h; simp [ups, tot]
    | succ i =>
      simp only [ups, List.getElem?_cons_succ, List.take_succ_cons, tot]
      rw [ih (by simpa using h)]; congr 2; omega
theorem mk_get {k : Int} {xss : List (List Int)} {i : Nat} {xs : List Int} (h : xss[i]? = some xs) : (ups k (xss.take i) ++ xss.drop i)[i]? = some xs := by
  have hi := (List.getElem?_eq_some_iff.1 h).1
  have hl : (ups k (xss.take i)).length = i := by rw [ups_len]; simp; omega
  rw [List.getElem?_append_right (by omega), hl, Nat.sub_self, drop_get h]; rfl
theorem mk_set {k : Int} {xss : List (List Int)} {i : Nat} {xs : List Int} (h : xss[i]? = some xs) : (ups k (xss.take i) ++ xss.drop i).set i (up (k + tot (xss.take i)) xs.length) = ups k (xss.take (i + 1)) ++ xss.drop (i + 1) := by
  have hi := (List.getElem?_eq_some_iff.1 h).1
  have hl : (ups k (xss.take i)).length = i := by rw [ups_len]; simp; omega
  rw [List.set_append_right _ _ (by omega), hl, Nat.sub_self, drop_get h, List.set_cons_zero, List.take_add_one, h]
  show _ = ups k (xss.take i ++ [xs]) ++ _
  rw [ups_snoc]; simp

theorem tot_take_le (xss : List (List Int)) (i : Nat) : tot (xss.take i) ≤ tot xss := by
  induction xss generalizing i with
  | nil => simp [tot]
  | cons y r ih =>
    cases i with
    | zero => simp [tot]
    | succ i => simp only [List.take_succ_cons, tot]; have := ih i; omega

/-- A slice of slices that came in: no bound on the inner lengths but the language's own. -/
def RdW (w : World) (A : Option Addr) (n : Nat) (xss : List (List Int)) : Prop :=
  ∃ vs : List Value, Rd w A n vs ∧ vs.length = xss.length ∧ ∀ (i : Nat) (v : Value) (xs : List Int), vs[i]? = some v → xss[i]? = some xs → ∃ A' n' c', v = .slice A' n' c' ∧ n' ≤ 9223372036854775807 ∧ Rd w A' n' (ints xs)
theorem RdW.len {w : World} {A : Option Addr} {n : Nat} {xss : List (List Int)} (h : RdW w A n xss) : xss.length = n := by
  obtain ⟨vs, h1, h2, _⟩ := h; rw [← h2, h1.1]
theorem RdW.at_ {w : World} {A : Option Addr} {n k : Nat} {xss : List (List Int)} {xs : List Int} (h : RdW w A n xss) (hx : xss[k]? = some xs) :
    ∃ b off A' n' c', A = some ⟨b, off, none⟩ ∧ b < w.heap.size ∧ w.cell? ⟨b, off + k, none⟩ = some (.slice A' n' c') ∧ n' ≤ 9223372036854775807 ∧ xs.length = n' := by
  obtain ⟨vs, h1, h2, h3⟩ := h
  have hk : k < vs.length := by rw [h2]; exact (List.getElem?_eq_some_iff.1 hx).1
  obtain ⟨v, hv⟩ := get_some hk
  obtain ⟨A', n', c', rfl, hn', hr'⟩ := h3 k v xs hv hx
  obtain ⟨b, off, e, hb, hc⟩ := h1.at_ hv
  exact ⟨b, off, A', n', c', e, hb, hc, hn', by simpa using hr'.1⟩
theorem tot_mem {xss : List (List Int)} {xs : List Int} (h : xs ∈ xss) : xs.length ≤ tot xss := by
  induction xss with
  | nil => simp at h
  | cons y r ih =>
    simp only [tot]
    rcases List.mem_cons.1 h with rfl | h
    · omega
    · have := ih h; omega
theorem RdW.rdl {w : World} {A : Option Addr} {n : Nat} {xss : List (List Int)} (h : RdW w A n xss) (ht : tot xss ≤ 1000000000) : RdL w A n xss := by
  obtain ⟨vs, h1, h2, h3⟩ := h
  refine ⟨vs, h1, h2, fun i v xs hv hx => ?_⟩
  obtain ⟨A', n', c', rfl, hn', hr'⟩ := h3 i v xs hv hx
  refine ⟨A', n', c', rfl, ?_, hr'⟩
  have hl : xs.length = n' := by simpa using hr'.1
  have := tot_mem (List.mem_of_getElem? hx)
  omega
theorem RdW.below {w w' : World} {A : Option Addr} {n B : Nat} {xss : List (List Int)} (h : RdW w A n xss) (hb : Below B w w') (hB : w.heap.size ≤ B) : RdW w' A n xss := by
  obtain ⟨vs, h1, h2, h3⟩ := h
  refine ⟨vs, h1.below hb hB, h2, fun i v xs hv hx => ?_⟩
  obtain ⟨A', n', c', e, hn', hr'⟩ := h3 i v xs hv hx
  exact ⟨A', n', c', e, hn', hr'.below hb hB⟩
theorem eqInt64S_same (w : World) (A : Option Addr) (n c : Nat) (xs : List Int) (hr : Rd w A n (ints xs)) (hn : n ≤ 1099511627776) (A' : Option Addr) (n' c' : Nat) (hr' : Rd w A' n' (ints xs)) :
    Calls Try.prog 59 #[.slice A n c, .slice A' n' c'] w (RetV w (.bool true)) := eq_same w A n c xs hr hn A' n' c' hr'
theorem Try.infoS : (Try.prog.info? 25).map (fun i => (i.zero, i.size, i.bytes)) = some (some (.slice none 0 0), 1, 24) := by kernel_rfl
theorem Try.eltS : Elt Try.prog 46 25 (.slice none 0 0) := Elt.mk_ Try.underlying46 Try.infoS rfl (by decide)

/-- Rows of the call's own, each in a block of its own, that read as lists. -/
def InnerP (w : World) (F : Nat → Prop) (us : List Value) (xss : List (List Int)) : Prop :=
  us.length = xss.length ∧ (∀ (i : Nat) (u : Value) (xs : List Int), us[i]? = some u → xss[i]? = some xs → ∃ A n c, u = .slice A n c ∧ n ≤ 1000000000 ∧ w.ownsRow 0 2 1 (.slice A n c) n (ints xs) ∧ ∀ k, Fo u k → F k) ∧
    ∀ (i j : Nat) (u v : Value), us[i]? = some u → us[j]? = some v → ∀ k, Fo u k → Fo v k → i = j
theorem InnerP.nil (w : World) (F : Nat → Prop) : InnerP w F [] [] := ⟨rfl, by simp, by simp⟩
theorem InnerP.ch {w w' : World} {F G : Nat → Prop} {us : List Value} {xss : List (List Int)} (h : InnerP w F us xss) (hc : Ch G w w') (hd : ∀ k, F k → G k → False) : InnerP w' F us xss := by
  obtain ⟨h1, h2, h3⟩ := h
  refine ⟨h1, fun i u xs hu hx => ?_, h3⟩
  obtain ⟨A, n, c, rfl, hn, ho, hb⟩ := h2 i u xs hu hx
  exact ⟨A, n, c, rfl, hn, own_ch ho hc (fun k h1 h2 => hd k (hb k h1) h2), hb⟩
theorem InnerP.mono {w : World} {F G : Nat → Prop} {us : List Value} {xss : List (List Int)} (h : InnerP w F us xss) (hd : ∀ k, F k → G k) : InnerP w G us xss := by
  obtain ⟨h1, h2, h3⟩ := h
  refine ⟨h1, fun i u xs hu hx => ?_, h3⟩
  obtain ⟨A, n, c, rfl, hn, ho, hb⟩ := h2 i u xs hu hx
  exact ⟨A, n, c, rfl, hn, ho, fun k hk => hd k (hb k hk)⟩
theorem InnerP.snoc {w : World} {F G : Nat → Prop} {B n c : Nat} {us : List Value} {xss : List (List Int)} {A : Option Addr} {xs : List Int} (h : InnerP w F us xss) (ho : w.ownsRow B 2 1 (.slice A n c) n (ints xs)) (hn : n ≤ 1000000000) (hd : ∀ k, F k → Fo (.slice A n c) k → False) (hF : ∀ k, F k → G k) (hG : ∀ k, Fo (.slice A n c) k → G k) : InnerP w G (us ++ [.slice A n c]) (xss ++ [xs]) := by
  obtain ⟨h1, h2, h3⟩ := h
  have hold : ∀ (i : Nat) (u : Value), i < us.length → (us ++ [Value.slice A n c])[i]? = some u → us[i]? = some u := by
    intro i u hi' hu
    rwa [List.getElem?_append_left hi'] at hu
  have hnew : ∀ (i : Nat) (u : Value), ¬ i < us.length → (us ++ [Value.slice A n c])[i]? = some u → i = us.length ∧ u = .slice A n c := by
    intro i u hi' hu
    rw [List.getElem?_append_right (by omega)] at hu
    have hi0 : i - us.length = 0 := by
      rcases Nat.eq_zero_or_pos (i - us.length) with h | h
      · exact h
      · rw [List.getElem?_eq_none (by simp; omega)] at hu; cases hu
    rw [hi0] at hu
    simp at hu
    exact ⟨by omega, hu.symm⟩
  have hF1 : ∀ (i : Nat) (u : Value), us[i]? = some u → ∀ k, Fo u k → F k := by
    intro i u hu k hk
    obtain ⟨ys, hy⟩ := get_some (xs := xss) (k := i) (by rw [← h1]; exact (List.getElem?_eq_some_iff.1 hu).1)
    obtain ⟨_, _, _, rfl, _, _, hb'⟩ := h2 i u ys hu hy
    exact hb' k hk
  refine ⟨by simp [h1], fun i u ys hu hx => ?_, fun i j u v hu hv k hk hk' => ?_⟩
  · by_cases hi : i < us.length
    · rw [List.getElem?_append_left (by omega)] at hx
      obtain ⟨A', n', c', rfl, hn', ho', hb'⟩ := h2 i u ys (hold i u hi hu) hx
      exact ⟨A', n', c', rfl, hn', ho', fun k hk => hF k (hb' k hk)⟩
    · obtain ⟨hi', rfl⟩ := hnew i u hi hu
      rw [List.getElem?_append_right (by omega), show i - xss.length = 0 by omega] at hx
      simp at hx
      subst hx
      exact ⟨A, n, c, rfl, hn, ownN_base ho (Nat.zero_le _), hG⟩
  · by_cases hi' : i < us.length <;> by_cases hj' : j < us.length
    · exact h3 i j u v (hold i u hi' hu) (hold j v hj' hv) k hk hk'
    · obtain ⟨_, rfl⟩ := hnew j v hj' hv
      exact (hd k (hF1 i u (hold i u hi' hu) k hk) hk').elim
    · obtain ⟨_, rfl⟩ := hnew i u hi' hu
      exact (hd k (hF1 j v (hold j v hj' hv) k hk') hk).elim
    · have := (hnew i u hi' hu).1
      have := (hnew j v hj' hv).1
      omega
theorem InnerP.rdl {w : World} {F : Nat → Prop} {n : Nat} {A : Option Addr} {us : List Value} {xss : List (List Int)} (h : InnerP w F us xss) (hr : Rd w A n us) : RdL w A n xss := by
  refine ⟨us, hr, h.1, fun i v xs hv hx => ?_⟩
  obtain ⟨A', n', c', rfl, hn', ho', _⟩ := h.2.1 i v xs hv hx
  exact ⟨A', n', c', rfl, hn', own_rd ho'⟩
theorem InnerP.mark {w w' : World} {F : Nat → Prop} {i n c : Nat} {us : List Value} {xss : List (List Int)} {A : Option Addr} {ys : List Int} (h : InnerP w F us xss) (hu : us[i]? = some (.slice A n c)) (hn : n ≤ 1000000000) (hk : ∀ k, Fo (.slice A n c) k → F k) (ho : w'.ownsRow 0 2 1 (.slice A n c) n (ints ys)) (hg : Ch (Fo (.slice A n c)) w w') : InnerP w' F us (xss.set i ys) := by
  obtain ⟨h1, h2, h3⟩ := h
  refine ⟨by simp [h1], fun j u xs hj hx => ?_, h3⟩
  by_cases hij : i = j
  · subst hij
    rw [hu] at hj
    injection hj with hj
    subst hj
    rw [List.getElem?_set_self (by have := (List.getElem?_eq_some_iff.1 hu).1; omega)] at hx
    injection hx with hx
    subst hx
    exact ⟨A, n, c, rfl, hn, ho, hk⟩
  · rw [List.getElem?_set_ne hij] at hx
    obtain ⟨A', n', c', rfl, hn', ho', hb'⟩ := h2 j u xs hj hx
    exact ⟨A', n', c', rfl, hn', own_ch ho' hg (fun k a b => hij (h3 i j _ _ hu hj k b a)), hb'⟩

/-- A slice of slices of the call's own: all its blocks are of F. -/
def OwnP (w : World) (F : Nat → Prop) (A : Option Addr) (n c : Nat) (xss : List (List Int)) : Prop :=
  ∃ us, w.ownsRow 0 25 1 (.slice A n c) n us ∧ (∀ k, Fo (.slice A n c) k → F k) ∧ InnerP w F us xss ∧ ∀ k, F k → k < w.heap.size
section
variable {w w' : World} {F G : Nat → Prop} {n c : Nat} {A : Option Addr} {xss : List (List Int)}
theorem OwnP.rdl (h : OwnP w F A n c xss) : RdL w A n xss := by obtain ⟨us, h1, _, h3, _⟩ := h; exact h3.rdl (own_rd h1)
theorem OwnP.len (h : OwnP w F A n c xss) : xss.length = n := h.rdl.len
theorem OwnP.lt (h : OwnP w F A n c xss) : ∀ k, F k → k < w.heap.size := by obtain ⟨us, _, _, _, h4⟩ := h; exact h4
theorem OwnP.ch (h : OwnP w F A n c xss) (hc : Ch G w w') (hd : ∀ k, F k → G k → False) : OwnP w' F A n c xss := by
  obtain ⟨us, h1, h2, h3, h4⟩ := h
  exact ⟨us, own_ch h1 hc (fun k a b => hd k (h2 k a) b), h2, h3.ch hc hd, fun k hk => Nat.lt_of_lt_of_le (h4 k hk) hc.size⟩
theorem OwnP.below (h : OwnP w F A n c xss) (hb : Below w.heap.size w w') : OwnP w' F A n c xss := h.ch (ch_below (F := fun _ => False) hb) (fun _ _ h => h)
theorem OwnP.cap (h : OwnP w F A n c xss) : n ≤ c := by obtain ⟨us, h1, _⟩ := h; exact ownN_cap h1
theorem OwnP.nil (w : World) : OwnP w (fun _ => False) none 0 0 [] := ⟨[], ownN_nil _ _ _ _, by simp [Fo, Value.ownBlock], InnerP.nil _ _, by simp⟩
end
/-- What a call that returns a new slice of slices leaves. -/
def RetP (w : World) (xss : List (List Int)) (en : Ending) (w' : World) : Prop :=
  ∃ A n c F, en = .returned (.slice A n c) ∧ OwnP w' F A n c xss ∧ (∀ k, F k → w.heap.size ≤ k ∧ k < w'.heap.size) ∧ Below w.heap.size w w'
theorem fillL_get (us : List Value) (n k : Nat) (h : us.length = k) (hk : k < n) : (us ++ List.replicate (n - k) (Value.slice none 0 0))[k]? = some (.slice none 0 0) := by
  rw [List.getElem?_append_right (by omega), h]; simp [List.getElem?_replicate]; omega
theorem fillL_set (us : List Value) (n k : Nat) (h : us.length = k) (hk : k < n) (u : Value) : (us ++ List.replicate (n - k) (Value.slice none 0 0)).set k u = (us ++ [u]) ++ List.replicate (n - (k + 1)) (Value.slice none 0 0) := by
  obtain ⟨m, hm⟩ : ∃ m, n - k = m + 1 := ⟨n - k - 1, by omega⟩
  rw [hm, show n - (k + 1) = m by omega, List.replicate_succ, List.set_append_right _ _ (by omega), h]
  simp

set_option maxHeartbeats 1000000 in
theorem toInt64SS_any (w : World) (A : Option Addr) (n c : Nat) (xss : List (List Int)) (hr : RdL w A n xss) (hn : n ≤ 1000000000) :
    Calls Try.prog 79 #[.slice A n c] w (RetP w xss) := by
  have HL : Hid (xss.length = n) := Lib.hid hr.len
  go_enter Try.func79, Try.ntmps79
  go_wp2_with (at_make; go_must (refine wpList_mk Try.eltS rfl _ _ rfl w _ _ n (by rfl) (by rfl) (by omega) (by omega) (by omega) ?_); rintro w1 hown1 hb1 hs1)
  go_loopw [4] (fun i wr => ∃ (k : Nat) (us : List Value), k ≤ n ∧ i = .int .i64 k ∧ Hid (us.length = k) ∧ wr.ownsRow w.heap.size 25 1 (.slice (some ⟨w.heap.size, 0, none⟩) n n) n (us ++ List.replicate (n - k) (.slice none 0 0)) ∧ InnerP wr (InR (w.heap.size + 1) wr.heap.size) us (xss.take k) ∧ Below w.heap.size w wr) (fun i _ => n - (intOf i).toNat)
  case atStart => exact ⟨0, [], Nat.zero_le _, rfl, Lib.hid rfl, by simpa using hown1, InnerP.nil _ _, hb1⟩
  case round =>
    obtain ⟨k, us, hk, rfl, HU, hown, hin, hb⟩ := hrel
    clear hown1 hb1 hs1
    by_cases hlt : k < n
    · obtain ⟨xs, hx⟩ := get_some (xs := xss) (k := k) (by rw [HL.out]; exact hlt)
      obtain ⟨b, off, A', n', c', rfl, hbs, hc, hn', hr'⟩ := hr.at_ hx
      have hc1 := (hb.cell (p := ⟨b, off + k, none⟩) hbs).trans hc
      have HX := Lib.hid hx
      clear hx hc
      go_wp2_with fail
      refine (toInt64S_any _ _ _ _ xs (hr'.below hb (Nat.le_refl _)) (by omega)).mono ?_
      rintro e w2 ⟨A2, n2, c2, rfl, ho2, hb2⟩
      have hn2 : n2 = n' := by have h1 := ho2.1; have h2 := hr'.1; simp at h1 h2; omega
      have HN2 : Hid (n2 ≤ 1000000000) := Lib.hid (by omega)
      have hown2 := own_below hown hb2 (Nat.le_refl _)
      have hin2 := hin.ch (ch_below (F := fun _ => False) hb2) (fun _ _ h => h)
      have hB2 := hb.trans (hb2.mono hb.size)
      have hws : w.heap.size < wr.heap.size := by obtain ⟨cs, hcs⟩ := own_blk hown; exact blk_lt hcs
      have hin3 := hin2.snoc (G := InR (w.heap.size + 1) w2.heap.size) ho2 HN2.out (fun k h1 h2 => by have := (ho2.lt k h2).1; have := h1.2; omega) (fun k h => ⟨h.1, Nat.lt_of_lt_of_le h.2 hb2.size⟩) (fun k h => ⟨by have := (ho2.lt k h).1; omega, (ho2.lt k h).2⟩)
      obtain ⟨g, hg, hgb, hgs, hc2, hc3⟩ := own_get hown2 (fillL_get us n k HU.out hlt)
      obtain rfl : w.heap.size = g := by simpa using hg
      obtain ⟨cs, hcs⟩ := own_blk hown2
      have HS := Lib.hid (own_put hown2 k (.slice A2 n2 c2))
      have HI := Lib.hid (hin3.ch (ch_set w2 w.heap.size k (.slice A2 n2 c2)) (fun q h1 h2 => by have := h1.1; omega))
      have HB := Lib.hid hB2
      clear hown hin hb hown2 hin2 hin3 hB2 hg hcs hn2 hb2 ho2
      go_wp2_with fail
      go_roundw
      case rel =>
        refine ⟨k + 1, us ++ [.slice A2 n2 c2], by omega, by go_num, Lib.hid (by simp [HU.out]), ?_, ?_, HB.out.setCell (p := ⟨w.heap.size, k, none⟩) (Nat.le_refl _) _⟩
        · rw [← fillL_set us n k HU.out hlt]; exact HS.out
        · have h := HI.out
          rw [List.take_add_one, HX.out]
          simpa [World.setCell] using h
      case measure => simp [intOf]; omega
    · go_wp2_with fail
      go_ret
      obtain rfl : k = n := by omega
      rw [List.take_of_length_le (by rw [HL.out]; omega)] at hin
      refine ⟨some ⟨w.heap.size, 0, none⟩, k, k, InR w.heap.size wr.heap.size, rfl, ⟨us, ownN_base (by simpa using hown) (Nat.zero_le _), fun q hq => hown.lt q hq, hin.mono (fun q hq => ⟨by have := hq.1; omega, hq.2⟩), fun q hq => hq.2⟩, fun q hq => hq, hb⟩
set_option maxHeartbeats 1000000 in
theorem eqInt64SS_same (w : World) (A : Option Addr) (n c : Nat) (xss : List (List Int)) (hr : RdL w A n xss) (hn : n ≤ 1000000000) (A' : Option Addr) (n' c' : Nat) (hr' : RdL w A' n' xss) :
    Calls Try.prog 60 #[.slice A n c, .slice A' n' c'] w (RetV w (.bool true)) := by
  have HL : Hid (xss.length = n) := Lib.hid hr.len
  obtain rfl : n = n' := by rw [← hr.len, ← hr'.len]
  go_enter Try.func60, Try.ntmps60
  go_wp2_with fail
  go_loopw [5] (fun i wr => ∃ k : Nat, k ≤ n ∧ i = .int .i64 k ∧ Below w.heap.size w wr) (fun i _ => n - (intOf i).toNat)
  case atStart => exact ⟨0, Nat.zero_le _, rfl, Below.refl _ _⟩
  case round =>
    obtain ⟨k, hk, rfl, hb⟩ := hrel
    by_cases hlt : k < n
    · obtain ⟨xs, hx⟩ := get_some (xs := xss) (k := k) (by rw [HL.out]; exact hlt)
      obtain ⟨b, off, B, m, d, rfl, hbs, hc, hm, hrr⟩ := hr.at_ hx
      obtain ⟨b', off', B', m', d', rfl, hbs', hc', hm', hrr'⟩ := hr'.at_ hx
      have hc1 := (hb.cell (p := ⟨b, off + k, none⟩) hbs).trans hc
      have hc2 := (hb.cell (p := ⟨b', off' + k, none⟩) hbs').trans hc'
      have hq1 := hrr.below hb (Nat.le_refl _)
      have hq2 := hrr'.below hb (Nat.le_refl _)
      have hb1 : b < wr.heap.size := Nat.lt_of_lt_of_le hbs hb.size
      have hb2 : b' < wr.heap.size := Nat.lt_of_lt_of_le hbs' hb.size
      have HB := Lib.hid hb
      clear hx hc hc' hb
      go_wp2_with fail
      go_region_held3 (fun w' => w'.cell? ⟨b, off + k, none⟩ = some (.slice B m d) ∧ w'.cell? ⟨b', off' + k, none⟩ = some (.slice B' m' d')) (exact ⟨by assumption, by assumption⟩)
        (first
          | (go_at_call 59; refine (eq_same _ _ _ _ xs (by exact hq1) (by omega) _ _ _ (by exact hq2)).mono ?_; rintro e w3 ⟨rfl, hb3⟩; (try replace hb3 := below_undrew hb3); have hc1 := (hb3.cell (p := ⟨b, off + k, none⟩) hb1).trans hc1; have hc2 := (hb3.cell (p := ⟨b', off' + k, none⟩) hb2).trans hc2))
      go_wp2_with fail
      go_roundw
      case rel => exact ⟨k + 1, by omega, by go_num, HB.out.trans (hb3.mono HB.out.size)⟩
      case measure => simp [intOf]; omega
    · go_wp2_with fail
      go_ret
      exact ⟨rfl, hb⟩

set_option maxHeartbeats 1000000 in
theorem markInt64SS_any (w : World) (F : Nat → Prop) (A : Option Addr) (n c : Nat) (xss : List (List Int)) (ho : OwnP w F A n c xss) (hn : n ≤ 1000000000) (ht : tot xss ≤ 1000000000) (k : Int) (hk0 : 0 ≤ k) (hk1 : k ≤ 1000000000) :
    Calls Try.prog 64 #[.slice A n c, .int .i64 k] w fun e w' => e = .returned (.int .i64 (k + tot xss)) ∧ OwnP w' F A n c (ups k xss) ∧ Ch F w w' := by
  have HL : Hid (xss.length = n) := Lib.hid ho.len
  go_enter Try.func64, Try.ntmps64
  go_wp2_with fail
  go_loopw [1, 5] (fun q i wr => ∃ j : Nat, j ≤ n ∧ i = .int .i64 j ∧ q = .int .i64 (k + tot (xss.take j)) ∧ OwnP wr F A n c (ups k (xss.take j) ++ xss.drop j) ∧ Ch F w wr) (fun _ i _ => n - (intOf i).toNat)
  case atStart => exact ⟨0, Nat.zero_le _, rfl, by simp [tot], by simpa [ups] using ho, Ch.refl _ _⟩
  case round =>
    obtain ⟨j, hj, rfl, rfl, hown, hO⟩ := hrel
    clear ho
    have htj : tot (xss.take j) ≤ 1000000000 := Nat.le_trans (tot_take_le xss j) ht
    by_cases hlt : j < n
    · obtain ⟨xs, hx⟩ := get_some (xs := xss) (k := j) (by rw [HL.out]; exact hlt)
      obtain ⟨us, h1, h2, h3, h4⟩ := hown
      obtain ⟨u, hu⟩ := get_some (xs := us) (k := j) (by have := h1.1; simp at this; omega)
      obtain ⟨A', n', c', rfl, hn', ho', hb'⟩ := h3.2.1 j u xs hu (mk_get hx)
      obtain ⟨b, off, rfl, hbs, hc⟩ := (own_rd h1).at_ hu
      have hn'x : xs.length = n' := by simpa using ho'.1
      have HX := Lib.hid hx; have HU := Lib.hid hu; have H1 := Lib.hid h1; have H2 := Lib.hid h2; have H3 := Lib.hid h3; have H4 := Lib.hid h4; have HO' := Lib.hid ho'; have HB' := Lib.hid hb'; have HNX := Lib.hid hn'x
      have HTS := Lib.hid (tot_take_succ hx)
      clear hx hu h1 h2 h3 h4 ho' hb' hn'x
      go_wp2_with fail
      refine (markInt64S_any _ 0 _ _ _ xs HO'.out (by omega) _ (by omega) (by omega)).mono ?_
      rintro e w2 ⟨rfl, hm2, hg2⟩
      have HI2 := Lib.hid (H3.out.mark HU.out hn' HB'.out hm2 (ch_row hg2))
      have HO2 := Lib.hid (outer_keep H1.out HO'.out (by decide) hg2)
      have HT2 := Lib.hid (hO.trans ((ch_row hg2).mono HB'.out))
      have HEQ : Hid (k + (tot (xss.take j) : Int) + (n' : Int) = k + (tot (xss.take (j + 1)) : Int)) := Lib.hid (by have h1 := HTS.out; have h2 := HNX.out; omega)
      have HG2 := Lib.hid hg2.size
      clear hm2 hg2
      go_wp2_with fail
      go_roundw
      case rel =>
        refine ⟨j + 1, by omega, by go_num, by rw [HEQ.out], ⟨us, HO2.out, H2.out, ?_, fun k hk => Nat.lt_of_lt_of_le (H4.out k hk) HG2.out⟩, HT2.out⟩
        have h := HI2.out
        rw [← HNX.out, mk_set HX.out] at h
        exact h
      case measure => simp [intOf]; omega
    · go_wp2_with fail
      go_ret
      have e1 : xss.take j = xss := List.take_of_length_le (by rw [HL.out]; omega)
      have e2 : xss.drop j = [] := List.drop_of_length_le (by rw [HL.out]; omega)
      rw [e1, e2, List.append_nil] at hown
      exact ⟨by rw [e1]; rfl, hown, hO⟩

set_option maxHeartbeats 1000000 in
theorem heldInt64SS_any (w : World) (A : Option Addr) (n c : Nat) (xss : List (List Int)) (k : Int) (hr : RdL w A n (ups k xss)) (hn : n ≤ 1000000000) (ht : tot xss ≤ 1000000000) (hk0 : 0 ≤ k) (hk1 : k ≤ 1000000000) :
    Calls Try.prog 66 #[.slice A n c, .int .i64 k] w (RetV w (.int .i64 (k + tot xss))) := by
  have HL : Hid (xss.length = n) := Lib.hid (by rw [← ups_len k xss]; exact hr.len)
  go_enter Try.func66, Try.ntmps66
  go_wp2_with fail
  go_loopw [1, 5] (fun q i wr => ∃ j : Nat, j ≤ n ∧ i = .int .i64 j ∧ q = .int .i64 (k + tot (xss.take j)) ∧ Below w.heap.size w wr) (fun _ i _ => n - (intOf i).toNat)
  case atStart => exact ⟨0, Nat.zero_le _, rfl, by simp [tot], Below.refl _ _⟩
  case round =>
    obtain ⟨j, hj, rfl, rfl, hb⟩ := hrel
    have htj : tot (xss.take j) ≤ 1000000000 := Nat.le_trans (tot_take_le xss j) ht
    by_cases hlt : j < n
    · obtain ⟨xs, hx⟩ := get_some (xs := xss) (k := j) (by rw [HL.out]; exact hlt)
      obtain ⟨b, off, A', n', c', rfl, hbs, hc, hn', hr'⟩ := hr.at_ (ups_get (k := k) hx)
      have hc1 := (hb.cell (p := ⟨b, off + j, none⟩) hbs).trans hc
      have hnx : xs.length = n' := by have h := hr'.1; simp [up_length] at h; exact h
      rw [hnx] at hr'
      have HTS := Lib.hid (tot_take_succ hx)
      have HNX := Lib.hid hnx
      clear hx hc hnx
      go_wp2_with fail
      refine (heldInt64S_any _ _ _ _ _ (hr'.below hb (Nat.le_refl _)) (by omega) (by omega) (by omega)).mono ?_
      rintro e w2 ⟨rfl, hb2⟩
      have HEQ : Hid (k + (tot (xss.take j) : Int) + (n' : Int) = k + (tot (xss.take (j + 1)) : Int)) := Lib.hid (by have h1 := HTS.out; have h2 := HNX.out; omega)
      go_wp2_with fail
      go_roundw
      case rel => exact ⟨j + 1, by omega, by go_num, by rw [HEQ.out], hb.trans (hb2.mono hb.size)⟩
      case measure => simp [intOf]; omega
    · go_wp2_with fail
      go_ret
      have e1 : xss.take j = xss := List.take_of_length_le (by rw [HL.out]; omega)
      exact ⟨by rw [e1]; rfl, hb⟩
set_option maxHeartbeats 1000000 in
theorem szInt64SS_post (w : World) (A : Option Addr) (n c : Nat) (xss : List (List Int)) (hr : RdW w A n xss) (hn : n ≤ 9223372036854775807) (left : Int) (h0 : 0 ≤ left) (h1 : left ≤ 1048576) :
    Calls Try.prog 73 #[.slice A n c, .int .i64 left] w (SzPost w left ((n : Int) + tot xss)) := by
  have HL : Hid (xss.length = n) := Lib.hid hr.len
  by_cases h : left - n < 0
  · go_enter Try.func73, Try.ntmps73
    go_wp2_with fail
    go_ret
    exact ⟨-1, rfl, fun h => by omega, by omega, Below.refl _ _⟩
  · have hn2 : n ≤ 1048576 := by omega
    go_enter Try.func73, Try.ntmps73
    go_wp2_with fail
    go_loopw [1, 5] (fun q i wr => ∃ (k : Nat) (r : Int), q = .int .i64 r ∧ i = .int .i64 k ∧ k ≤ n ∧ 0 ≤ r ∧ r ≤ left ∧ Hid (r + n + tot (xss.take k) = left) ∧ Below w.heap.size w wr) (fun _ i _ => n - (intOf i).toNat)
    case atStart => exact ⟨0, left - n, rfl, rfl, by omega, by omega, by omega, Lib.hid (by simp [tot]), Below.refl _ _⟩
    case round =>
      obtain ⟨k, r, rfl, rfl, hk, hr0, hr1, HE, hb⟩ := hrel
      by_cases hlt : k < n
      · obtain ⟨xs, hx⟩ := get_some (xs := xss) (k := k) (by rw [HL.out]; exact hlt)
        obtain ⟨b, off, A', n', c', rfl, hbs, hc, hn', hxl⟩ := hr.at_ hx
        have hc1 := (hb.cell (p := ⟨b, off + k, none⟩) hbs).trans hc
        have HTS := Lib.hid (tot_take_succ hx); have HXL := Lib.hid hxl
        clear hx hxl hc
        go_wp2_with fail
        refine (szInt64S_post _ _ _ _ hn' r hr0 (by omega)).mono ?_
        rintro e w1 ⟨r2, rfl, a1, a2, hb2⟩
        have HA1 := Lib.hid a1
        clear a1
        by_cases hneg : r2 < 0
        · go_wp2_with fail
          go_ret
          exact ⟨-1, rfl, fun h => by omega, by omega, hb.trans (hb2.mono hb.size)⟩
        · go_wp2_with fail
          go_roundw
          case rel => exact ⟨k + 1, r2, rfl, by go_num, by omega, by omega, by omega, Lib.hid (by have h1 := HA1.out (by omega); have h2 := HTS.out; have h3 := HXL.out; have h4 := HE.out; omega), hb.trans (hb2.mono hb.size)⟩
          case measure => simp [intOf]; omega
      · go_wp2_with fail
        go_ret
        have e := HE.out
        rw [List.take_of_length_le (by rw [HL.out]; omega)] at e
        exact ⟨r, rfl, fun _ => by omega, by omega, hb⟩
end Go.Proofs.Ytcpkhhammafchaa
/- Arguments that came in: rows of rows of numbers; a struct of one field. -/
namespace Go.Proofs.Ytcpkhhammafchaa
open Go.RowKit Go.ChangeShapes Go.WideShapes Go.ChangeAt
section
variable {H : Type} {enc : TypeId × Value → H} {P : Program} {w : World} {base : Nat} {held : Bool}
theorem opL {t s e : TypeId} {fuel : Nat} {a : Option Addr} {len cap : Nat} {x : DataW H × List MemPlace} (ht : P.underlying t = some (.slice s)) (hs : P.underlying s = some (.slice e)) (he : P.underlying e = some (.int .i64)) (hcs : P.cellsOf s = 1) (hce : P.cellsOf e = 1)
    (h : DataW.trod enc P w base (fun _ => true) held fuel t [.slice a len cap] = some x) : ∃ xss, RdW w a len xss ∧ len ≤ maxLen := by
  obtain ⟨vs, h1, h2, h3, h4⟩ := open_rd ht hcs h
  have key : ∀ vs : List Value, (∀ v ∈ vs, ∃ n y, DataW.trod enc P w base (fun _ => true) held n s [v] = some y) → ∃ xss : List (List Int), vs.length = xss.length ∧ ∀ (i : Nat) (v : Value) (xs : List Int), vs[i]? = some v → xss[i]? = some xs → ∃ A' n' c', v = .slice A' n' c' ∧ n' ≤ 9223372036854775807 ∧ Rd w A' n' (ints xs) := by
    intro vs
    induction vs with
    | nil => intro _; exact ⟨[], rfl, by simp⟩
    | cons v r ih =>
      intro hv
      obtain ⟨n, y, hy⟩ := hv v (by simp)
      obtain ⟨a', n', c', rfl, _⟩ := op_slice hs hy
      obtain ⟨bs, hb1, hb2⟩ := opS hs he hce hy
      obtain ⟨xss, hx1, hx2⟩ := ih fun u hu => hv u (by simp [hu])
      refine ⟨bs :: xss, by simp [hx1], fun i v xs hv hx => ?_⟩
      cases i with
      | zero => simp at hv hx; subst hv hx; exact ⟨a', n', c', rfl, by unfold maxLen at hb2; omega, hb1⟩
      | succ i => exact hx2 i v xs (by simpa using hv) (by simpa using hx)
  obtain ⟨xss, hx1, hx2⟩ := key vs h4
  exact ⟨xss, ⟨vs, h1, hx1, hx2⟩, by omega⟩
theorem opAgg1 {r : Reach} {b0 : Nat} {t : TypeId} {f0 : Field} {v : Value} {d : DataW H} {p : List MemPlace} {spare : Nat → Bool} (hs : P.underlying t = some (.struct #[f0])) (hone : Go.Deep.oneCellFields P #[f0] = true) (hC : P.cellsOf t = 1)
    (hv : Value.okWide P w r b0 t v) (h : DataW.Trod enc P w base spare held t v d p) :
    ∃ (v0 : Value) (y0 : DataW H × List MemPlace) (n : Nat), v = .agg #[v0] ∧ d = .agg [y0.1] ∧ p = y0.2 ∧ DataW.trod enc P w base spare held n f0.type [v0] = some y0 := by
  obtain ⟨cs, rfl, hsz⟩ := okWide_struct hs hv
  obtain ⟨c0, rfl⟩ : ∃ c0, cs = #[c0] := by
    rw [hC] at hsz
    obtain ⟨l⟩ := cs
    match l, hsz with
    | [c0], _ => exact ⟨c0, rfl⟩
  obtain ⟨fuel, hf⟩ := h
  obtain ⟨ys, n', _, hx, hlen, hyl, hf'⟩ := DataW.trod_struct hs hf
  obtain ⟨o0, k0⟩ := Go.Deep.hone_of hone 0 f0 rfl
  have h1 := hf' 0 f0 rfl
  match ys, hyl, hx, h1 with
  | [y0], _, hx, h1 =>
    simp at hx
    exact ⟨c0, y0, n', rfl, hx.1, hx.2, by simpa [Value.cells, o0, k0] using h1⟩
end
end Go.Proofs.Ytcpkhhammafchaa
/- The contracts of the laws' own helpers on Rule and on slices of it. -/
namespace Go.Proofs.Ytcpkhhammafchaa
open Go.RowKit
set_option maxHeartbeats 400000 in
theorem toRule_any (w : World) (a0 a1 a2 : Int) : Calls Try.prog 104 #[.agg #[.int .i64 a0, .int .i64 a1, .int .i64 a2]] w fun e w' => e = .returned (.agg #[.int .i64 a0, .int .i64 a1, .int .i64 a2]) ∧ Below w.heap.size w w' := by
  go_enter Try.func104, Try.ntmps104
  go_wp2_with fail
  exact bodyPost_ret (v := .agg #[.int .i64 a0, .int .i64 a1, .int .i64 a2]) (by simp [results, Try.results104, go_sem]) rfl ⟨rfl, (((Below.refl _ _).alloc (Nat.le_refl _) _).alloc (by simp) _).alloc (by simp; omega) _⟩
set_option maxHeartbeats 400000 in
theorem eqRule_any (w : World) (a0 a1 a2 b0 b1 b2 : Int) : Calls Try.prog 109 #[.agg #[.int .i64 a0, .int .i64 a1, .int .i64 a2], .agg #[.int .i64 b0, .int .i64 b1, .int .i64 b2]] w fun e w' => e = .returned (.bool (decide ([a0, a1, a2] = [b0, b1, b2]))) ∧ Below w.heap.size w w' := by
  go_enter Try.func109, Try.ntmps109
  go_wp2_with fail
  all_goals
    go_ret
    exact ⟨by simp_all, ((Below.refl _ _).alloc (Nat.le_refl _) _).alloc (by simp) _⟩
theorem eqRule_same (w : World) (a0 a1 a2 : Int) : Calls Try.prog 109 #[.agg #[.int .i64 a0, .int .i64 a1, .int .i64 a2], .agg #[.int .i64 a0, .int .i64 a1, .int .i64 a2]] w fun e w' => e = .returned (.bool true) ∧ Below w.heap.size w w' := by
  have h := eqRule_any w a0 a1 a2 a0 a1 a2
  simpa using h
theorem eltRule : EltN Try.prog 51 154 (.agg #[.int .i64 0, .int .i64 0, .int .i64 0]) 3 := EltN.mk_ (b := 24) Try.underlying51 (by kernel_rfl) rfl (by omega) (by omega)
theorem madeRule (n : Nat) : (madeCells (Value.agg #[.int .i64 0, .int .i64 0, .int .i64 0]).cells (n * 3)).toList = ints (zs (n * 3)) := by
  rw [show (Value.agg #[.int .i64 0, .int .i64 0, .int .i64 0]).cells = Array.replicate 3 (.int .i64 0) from rfl, made_same _ _ _ (by omega)]; simp [zs]
set_option maxHeartbeats 800000 in
theorem toRuleS_any (w : World) (A : Option Addr) (n c : Nat) (xs : List Int) (hr : Rd w A (n * 3) (ints xs)) (hn : n ≤ 1099511627776) :
    Calls Try.prog 54 #[.slice A n c] w (RetN w 154 3 (ints xs)) := by
  have hlen : xs.length = n * 3 := by simpa using hr.1
  have HL := Lib.hid hlen; clear hlen
  go_enter Try.func54, Try.ntmps54
  go_wp2_with (at_make; refine wpList_mkN eltRule (by rfl) _ _ (by rfl) _ _ _ n (by rfl) (by rfl) (by rfl) (by rfl) (by omega) ?_; rintro w1 hown1 hgrow1 hlt1)
  go_loopw [4] (fun i wr => ∃ k : Nat, k ≤ n ∧ i = .int .i64 k ∧ wr.ownsRow w.heap.size 154 3 (.slice (some ⟨w.heap.size, 0, none⟩) n n) n (ints (xs.take (k * 3) ++ zs (n * 3 - k * 3))) ∧ Below w.heap.size w wr) (fun i _ => n - (intOf i).toNat)
  case atStart =>
    refine ⟨0, Nat.zero_le _, rfl, ?_, hgrow1⟩
    rw [madeRule] at hown1; simpa using hown1
  case round =>
    obtain ⟨k, hk, rfl, hown, hb⟩ := hrel
    clear hown1 hgrow1 hlt1
    by_cases hlt : k < n
    · have hks : (k + 1) * 3 = k * 3 + 3 := by omega
      have HKS := Lib.hid hks; clear hks
      obtain ⟨b, off, rfl, hbs, hc⟩ := hr.2 (by omega)
      obtain ⟨x0, h0⟩ := get_some (xs := xs) (k := k * 3) (by rw [HL.out]; omega)
      have q0 := (hb.cell (p := ⟨b, off + (k * 3), none⟩) hbs).trans (hc (k * 3) _ (ints_get h0))
      have H0 := Lib.hid h0
      obtain ⟨x1, h1⟩ := get_some (xs := xs) (k := k * 3 + 1) (by rw [HL.out]; omega)
      have q1 := (hb.cell (p := ⟨b, off + (k * 3 + 1), none⟩) hbs).trans (hc (k * 3 + 1) _ (ints_get h1))
      have H1 := Lib.hid h1
      obtain ⟨x2, h2⟩ := get_some (xs := xs) (k := k * 3 + 2) (by rw [HL.out]; omega)
      have q2 := (hb.cell (p := ⟨b, off + (k * 3 + 2), none⟩) hbs).trans (hc (k * 3 + 2) _ (ints_get h2))
      have H2 := Lib.hid h2
      rw [← Nat.add_assoc] at q1 q2
      have HF := Lib.hid (fillN xs (n * 3) (k * 3) 3 HL.out (by omega))
      clear hc h0 h1 h2
      go_wp2_with fail
      refine (toRule_any _ _ _ _).mono ?_
      rintro e w2 ⟨rfl, hb2⟩
      replace hown := ownN_below hown hb2 (Nat.le_refl _)
      have HB := Lib.hid (hb.trans (hb2.mono hb.size))
      obtain ⟨r0, f0⟩ := ownN_at hown (HF.out 0 (by omega))
      obtain ⟨r1, f1⟩ := ownN_at hown (HF.out 1 (by omega))
      obtain ⟨r2, f2⟩ := ownN_at hown (HF.out 2 (by omega))
      rw [Nat.add_zero] at r0 f0
      have HS := Lib.hid (ownN_put (ownN_put (ownN_put hown (k * 3) (.int .i64 x0)) (k * 3 + 1) (.int .i64 x1)) (k * 3 + 2) (.int .i64 x2))
      clear hown hb hb2
      go_wp2_with fail
      go_roundw
      case rel =>
        refine ⟨k + 1, by omega, by go_num, ?_, ?_⟩
        · have e := HS.out
          rw [fill3 HL.out (by rw [HL.out]; omega) H0.out H1.out H2.out] at e
          rw [HKS.out]
          exact e
        · exact ((HB.out.setCell (Nat.le_refl _) _).setCell (Nat.le_refl _) _).setCell (Nat.le_refl _) _
      case measure => simp [intOf]; omega
    · go_wp2_with fail
      go_ret
      obtain rfl : k = n := by omega
      refine ⟨some ⟨w.heap.size, 0, none⟩, k, k, rfl, ?_, hb⟩
      simpa [zs, List.take_of_length_le (Nat.le_of_eq HL.out)] using hown
set_option maxHeartbeats 800000 in
theorem eqRuleS_same (w : World) (A : Option Addr) (n c : Nat) (xs : List Int) (hr : Rd w A (n * 3) (ints xs)) (hn : n ≤ 1099511627776)
    (A' : Option Addr) (n' c' : Nat) (hr' : Rd w A' (n' * 3) (ints xs)) : Calls Try.prog 61 #[.slice A n c, .slice A' n' c'] w (RetV w (.bool true)) := by
  have hlen : xs.length = n * 3 := by simpa using hr.1
  have hlen' : xs.length = n' * 3 := by simpa using hr'.1
  obtain rfl : n = n' := by omega
  have HL := Lib.hid hlen; clear hlen hlen'
  go_enter Try.func61, Try.ntmps61
  go_wp2_with fail
  go_loopw [5] (fun i wr => ∃ k : Nat, k ≤ n ∧ i = .int .i64 k ∧ Below w.heap.size w wr) (fun i _ => n - (intOf i).toNat)
  case atStart => exact ⟨0, Nat.zero_le _, rfl, Below.refl _ _⟩
  case round =>
    obtain ⟨k, hk, rfl, hb⟩ := hrel
    by_cases hlt : k < n
    · have hpos : 0 < n * 3 := by omega
      obtain ⟨b, off, rfl, hbs, hc⟩ := hr.2 hpos
      obtain ⟨b', off', rfl, hbs', hc'⟩ := hr'.2 hpos
      obtain ⟨x0, h0⟩ := get_some (xs := xs) (k := k * 3) (by rw [HL.out]; omega)
      have q0 := (hb.cell (p := ⟨b, off + (k * 3), none⟩) hbs).trans (hc (k * 3) _ (ints_get h0))
      have p0 := (hb.cell (p := ⟨b', off' + (k * 3), none⟩) hbs').trans (hc' (k * 3) _ (ints_get h0))
      obtain ⟨x1, h1⟩ := get_some (xs := xs) (k := k * 3 + 1) (by rw [HL.out]; omega)
      have q1 := (hb.cell (p := ⟨b, off + (k * 3 + 1), none⟩) hbs).trans (hc (k * 3 + 1) _ (ints_get h1))
      have p1 := (hb.cell (p := ⟨b', off' + (k * 3 + 1), none⟩) hbs').trans (hc' (k * 3 + 1) _ (ints_get h1))
      obtain ⟨x2, h2⟩ := get_some (xs := xs) (k := k * 3 + 2) (by rw [HL.out]; omega)
      have q2 := (hb.cell (p := ⟨b, off + (k * 3 + 2), none⟩) hbs).trans (hc (k * 3 + 2) _ (ints_get h2))
      have p2 := (hb.cell (p := ⟨b', off' + (k * 3 + 2), none⟩) hbs').trans (hc' (k * 3 + 2) _ (ints_get h2))
      rw [← Nat.add_assoc] at q1 p1 q2 p2
      clear hc hc' h0 h1 h2
      go_wp2_with fail
      go_region_held3 (fun w' => w'.cell? ⟨b, off + k * 3, none⟩ = some (.int .i64 x0) ∧ w'.cell? ⟨b, off + k * 3 + 1, none⟩ = some (.int .i64 x1) ∧ w'.cell? ⟨b, off + k * 3 + 2, none⟩ = some (.int .i64 x2) ∧ w'.cell? ⟨b', off' + k * 3, none⟩ = some (.int .i64 x0) ∧ w'.cell? ⟨b', off' + k * 3 + 1, none⟩ = some (.int .i64 x1) ∧ w'.cell? ⟨b', off' + k * 3 + 2, none⟩ = some (.int .i64 x2)) (exact ⟨q0, q1, q2, p0, p1, p2⟩) (first
        | (go_at_call 109
           refine (eqRule_same _ _ _ _).mono ?_
           rintro e w2 ⟨rfl, hb2⟩
           (try replace hb2 := below_undrew hb2)
           (try replace hb2 := below_undrewN hb2)
           have q0 := (hb2.cell (p := ⟨b, off + k * 3, none⟩) (Nat.lt_of_lt_of_le hbs hb.size)).trans q0
           have p0 := (hb2.cell (p := ⟨b', off' + k * 3, none⟩) (Nat.lt_of_lt_of_le hbs' hb.size)).trans p0
           have q1 := (hb2.cell (p := ⟨b, off + k * 3 + 1, none⟩) (Nat.lt_of_lt_of_le hbs hb.size)).trans q1
           have p1 := (hb2.cell (p := ⟨b', off' + k * 3 + 1, none⟩) (Nat.lt_of_lt_of_le hbs' hb.size)).trans p1
           have q2 := (hb2.cell (p := ⟨b, off + k * 3 + 2, none⟩) (Nat.lt_of_lt_of_le hbs hb.size)).trans q2
           have p2 := (hb2.cell (p := ⟨b', off' + k * 3 + 2, none⟩) (Nat.lt_of_lt_of_le hbs' hb.size)).trans p2
           ))
      go_wp2_with fail
      go_roundw
      case rel => exact ⟨k + 1, by omega, by go_num, hb.trans (hb2.mono hb.size)⟩
      case measure => simp [intOf]; omega
    · go_wp2_with fail
      go_ret
      exact ⟨rfl, hb⟩
set_option maxHeartbeats 400000 in
theorem szRuleS_any (w : World) (A : Option Addr) (n c : Nat) (hn : n ≤ 9223372036854775807) (k : Int) (hk0 : 0 ≤ k) (hk1 : k ≤ 1048576) :
    Calls Try.prog 49 #[.slice A n c, .int .i64 k] w fun e w' => e = .returned (.int .i64 (if k - n < 0 then -1 else k - n)) ∧ w = w' := by
  by_cases h : k - n < 0
  · go_enter Try.func49, Try.ntmps49
    go_wp2_with fail
    go_ret
    exact ⟨rfl, rfl⟩
  · go_enter Try.func49, Try.ntmps49
    go_wp2_with fail
    go_ret
    exact ⟨rfl, rfl⟩
set_option maxHeartbeats 1600000 in
theorem markRuleS_any (w : World) (base : Nat) (A : Option Addr) (n c : Nat) (xs : List Int) (ho : w.ownsRow base 154 3 (.slice A n c) n (ints xs)) (hn : n ≤ 1099511627776) (k : Int) (hk0 : 0 ≤ k) (hk1 : k ≤ 1099511627776) :
    Calls Try.prog 62 #[.slice A n c, .int .i64 k] w fun e w' => e = .returned (.int .i64 (k + (n : Int) * 3)) ∧ w'.ownsRow base 154 3 (.slice A n c) n (ints (up k (n * 3))) ∧ w.grownBy w' (Value.ownBlock (.slice A n c)) := by
  have hlen : xs.length = n * 3 := by simpa using ho.1
  have HL := Lib.hid hlen; clear hlen
  go_enter Try.func62, Try.ntmps62
  go_wp2_with fail
  go_loopw [1, 5] (fun q i wr => ∃ j : Nat, j ≤ n ∧ i = .int .i64 j ∧ q = .int .i64 (k + (j : Int) * 3) ∧ wr.ownsRow base 154 3 (.slice A n c) n (ints (up k (j * 3) ++ xs.drop (j * 3))) ∧ w.grownBy wr (Value.ownBlock (.slice A n c))) (fun _ i _ => n - (intOf i).toNat)
  case atStart => exact ⟨0, Nat.zero_le _, rfl, by simp, by simpa [up] using ho, World.grownBy.refl _ _⟩
  case round =>
    obtain ⟨j, hj, rfl, rfl, hown, hg⟩ := hrel
    clear ho
    by_cases hlt : j < n
    · have HKS : Hid ((j + 1) * 3 = j * 3 + 3) := Lib.hid (by omega)
      obtain ⟨u0, hu0⟩ := markN_get k xs (n * 3) (j * 3) 0 HL.out (by omega)
      obtain ⟨g, rfl, hbg, hgs, _, _⟩ := ownN_get hown hu0
      obtain ⟨v0, e0⟩ := markN_get k xs (n * 3) (j * 3) 0 HL.out (by omega)
      obtain ⟨r0, f0⟩ := ownN_at hown e0
      obtain ⟨v1, e1⟩ := markN_get k xs (n * 3) (j * 3) 1 HL.out (by omega)
      obtain ⟨r1, f1⟩ := ownN_at hown e1
      obtain ⟨v2, e2⟩ := markN_get k xs (n * 3) (j * 3) 2 HL.out (by omega)
      obtain ⟨r2, f2⟩ := ownN_at hown e2
      rw [Nat.add_zero] at r0 f0
      have HS := Lib.hid (ownN_put (ownN_put (ownN_put hown (j * 3) (.int .i64 (k + (j : Int) * 3))) (j * 3 + 1) (.int .i64 (k + (j : Int) * 3 + 1))) (j * 3 + 2) (.int .i64 (k + (j : Int) * 3 + 1 + 1)))
      have HG := Lib.hid hg
      clear hu0 e0 e1 e2 hown hg
      go_wp2_with fail
      go_roundw
      case rel =>
        refine ⟨j + 1, by omega, by go_num, by congr 1; omega, ?_, ?_⟩
        · have e := HS.out
          rw [mark3 HL.out (by omega) (by omega) (by omega) (by omega)] at e
          rw [HKS.out]
          exact e
        · exact (((HG.out).trans (grown_set _ _ _ _)).trans (grown_set _ _ _ _)).trans (grown_set _ _ _ _)
      case measure => simp [intOf]; omega
    · go_wp2_with fail
      go_ret
      obtain rfl : j = n := by omega
      refine ⟨rfl, ?_, hg⟩
      simpa [List.drop_of_length_le (Nat.le_of_eq HL.out)] using hown
end Go.Proofs.Ytcpkhhammafchaa
/- The contracts of the laws' own helpers on Machine. Written by mk_struct.py. -/
namespace Go.Proofs.Ytcpkhhammafchaa
open Go.RowKit
set_option linter.unusedVariables false
set_option linter.unusedSimpArgs false
set_option maxHeartbeats 1600000 in
theorem toMachine_any (w : World) (x0 : Int) (x1 : Int) (A2 : Option Addr) (n2 c2 : Nat) (d2 : List Int) (hr2 : Rd w A2 (n2 * 3) (ints d2)) (hn2 : n2 ≤ 1099511627776) : Calls Try.prog 18 #[.agg #[.int .i64 x0, .int .i64 x1, .slice A2 n2 c2]] w (fun e w' => ∃ (A2' : Option Addr) (n2' c2' : Nat), e = .returned (.agg #[.int .i64 x0, .int .i64 x1, .slice A2' n2' c2']) ∧ w'.ownsRow w.heap.size 154 3 (.slice A2' n2' c2') n2' (ints d2) ∧ Below w.heap.size w w') := by
  go_enter Try.func18, Try.ntmps18
  go_wp2_with fail
  refine (toRuleS_any _ _ _ _ d2 (hr2.below ((((Below.refl _ _).alloc (Nat.le_refl _) _).alloc (by simp) _).alloc (by simp; omega) _) (Nat.le_refl _)) hn2).mono ?_
  rintro e w1 ⟨A2', n2', c2', rfl, ho2, hb0⟩
  have hR2 := Lib.hid (rg_row ho2)
  obtain ⟨hb0a, hx2, hs2⟩ := box_step hb0
  obtain ⟨hb0b, hx1, hs1⟩ := box_step hb0a
  obtain ⟨HB, hx0, hs0⟩ := box_step hb0b
  simp only [World.size_alloc] at hx0 hx1 hx2 hs0 hs1 hs2
  replace hR2 := Lib.hid (rg_lo hR2.out (lo := w.heap.size + 3) (hi := w1.heap.size) (by first | (simp; done) | (simp; omega)) (Nat.le_refl _))
  have p0 := blk_cell hx0 0 rfl; have q0 := blk_cell hx2 0 rfl; have f0 := blk_free hx2 0; have r0 := blk_cell hx1 0 rfl; have g0 := blk_free hx1 0
  have p1 := blk_cell hx0 1 rfl; have q1 := blk_cell hx2 1 rfl; have f1 := blk_free hx2 1; have r1 := blk_cell hx1 1 rfl; have g1 := blk_free hx1 1
  have p2 := blk_cell hx0 2 rfl; have q2 := blk_cell hx2 2 rfl; have f2 := blk_free hx2 2; have r2 := blk_cell hx1 2 rfl; have g2 := blk_free hx1 2
  have l0 := blk_lt hx0; have l1 := blk_lt hx1; have l2 := blk_lt hx2
  have HBF := Lib.hid HB
  clear HB
  go_wp2_with fail
  refine bodyPost_ret (v := .agg #[.int .i64 x0, .int .i64 x1, .slice A2' n2' c2']) (by simp [results, Try.results18, go_sem, q0, r0, q1, r1, q2, r2]) rfl ?_
  refine ⟨A2', n2', c2', rfl, own_ch (F := fun k => w.heap.size ≤ k ∧ k < w.heap.size + 3) (ownN_base ho2 (by first | (simp; done) | (simp; omega))) ?_ (fun k h1 h2 => by have := hR2.out k h1; omega), below_ch (F := fun k => w.heap.size ≤ k ∧ k < w.heap.size + 3) HBF.out ?_ (fun k h => h.1) HBF.out.size⟩
  all_goals
    repeat (refine ch_setF ?_ (by omega))
    exact Ch.refl _ _
set_option maxHeartbeats 1600000 in
theorem eqMachine_same (w : World) (x0 : Int) (x1 : Int) (A2 : Option Addr) (n2 c2 : Nat) (d2 : List Int) (hr2 : Rd w A2 (n2 * 3) (ints d2)) (hn2 : n2 ≤ 1099511627776) (A2' : Option Addr) (n2' c2' : Nat) (hr2' : Rd w A2' (n2' * 3) (ints d2)) : Calls Try.prog 22 #[.agg #[.int .i64 x0, .int .i64 x1, .slice A2 n2 c2], .agg #[.int .i64 x0, .int .i64 x1, .slice A2' n2' c2']] w (RetV w (.bool true)) := by
  have hne0 : (x0 != x0) = false := by simp
  have hne1 : (x1 != x1) = false := by simp
  go_enter Try.func22, Try.ntmps22
  go_wp2_with fail
  refine (eqRuleS_same _ _ _ _ d2 (hr2.below (((Below.refl _ _).alloc (Nat.le_refl _) _).alloc (by simp) _) (Nat.le_refl _)) hn2 _ _ _ (hr2'.below (((Below.refl _ _).alloc (Nat.le_refl _) _).alloc (by simp) _) (Nat.le_refl _))).mono ?_
  rintro e w1 ⟨rfl, hb0⟩
  obtain ⟨hb0a, hx1, hs1⟩ := box_step hb0
  obtain ⟨HB, hx0, hs0⟩ := box_step hb0a
  simp only [World.size_alloc] at hx0 hx1 hs0 hs1
  have p0 := blk_cell hx0 0 rfl; have q0 := blk_cell hx1 0 rfl
  have p1 := blk_cell hx0 1 rfl; have q1 := blk_cell hx1 1 rfl
  have p2 := blk_cell hx0 2 rfl; have q2 := blk_cell hx1 2 rfl
  go_wp2_with fail
  go_ret
  exact ⟨rfl, HB⟩
set_option maxHeartbeats 1600000 in
theorem szMachine_post (w : World) (x0 : Int) (x1 : Int) (A2 : Option Addr) (n2 c2 : Nat) (hn2 : n2 ≤ 9223372036854775807) (k : Int) (hk0 : 0 ≤ k) (hk1 : k ≤ 1048576) : Calls Try.prog 15 #[.agg #[.int .i64 x0, .int .i64 x1, .slice A2 n2 c2], .int .i64 k] w (SzPost w k ((n2 : Int))) := by
  go_enter Try.func15, Try.ntmps15
  go_wp2_with fail
  refine (szRuleS_post _ _ _ _ hn2 _ (by omega) (by omega)).mono ?_
  rintro e w1 ⟨r0, rfl, hq0, hp0, hb0⟩
  obtain ⟨HB, hx0, hs0⟩ := box_step hb0
  have p0 := blk_cell hx0 0 rfl
  have p1 := blk_cell hx0 1 rfl
  have p2 := blk_cell hx0 2 rfl
  by_cases hz0 : r0 < 0
  · clear hq0
    go_wp2_with fail
    go_ret
    exact ⟨-1, rfl, fun h => by omega, by omega, HB⟩
  have HQ0 := Lib.hid (hq0 (by omega)); clear hq0
  go_wp2_with fail
  go_ret
  exact ⟨r0, rfl, fun _ => by have h0 := HQ0.out; omega, by omega, HB⟩
set_option maxHeartbeats 1600000 in
theorem markMachine_any (w : World) (x0 : Int) (x1 : Int) (b2 : Nat) (A2 : Option Addr) (n2 c2 : Nat) (d2 : List Int) (ho2 : w.ownsRow b2 154 3 (.slice A2 n2 c2) n2 (ints d2)) (hn2 : n2 ≤ 1000000000) (k : Int) (hk0 : 0 ≤ k) (hk1 : k ≤ 1000000000) : Calls Try.prog 24 #[.agg #[.int .i64 x0, .int .i64 x1, .slice A2 n2 c2], .int .i64 k] w fun e w' => e = .returned (.int .i64 (k + (n2 : Int) * 3)) ∧ w'.ownsRow b2 154 3 (.slice A2 n2 c2) n2 (ints (up (k) (n2 * 3))) ∧ Ch (Fo (.slice A2 n2 c2)) w w' := by
  go_enter Try.func24, Try.ntmps24
  go_wp2_with fail
  refine (markRuleS_any _ _ _ _ _ _ (ho2.alloc _) (by omega) (k) (by omega) (by omega)).mono ?_
  rintro e w1 ⟨rfl, hm2, hC0⟩
  replace hC0 := ch_row hC0
  have hx0 := blk_ch (box_new w _ _) hC0 (fun h => by have := (ho2.lt _ h).2; omega)
  have p0 := blk_cell hx0 0 rfl
  have p1 := blk_cell hx0 1 rfl
  have p2 := blk_cell hx0 2 rfl
  have HC := Lib.hid (((ch_alloc (Fo (.slice A2 n2 c2)) w _)).trans (hC0.mono (fun k h => h)))
  go_wp2_with fail
  go_ret
  exact ⟨rfl, hm2, HC.out⟩
end Go.Proofs.Ytcpkhhammafchaa
/- The contracts of the laws' own helpers on Config. Written by mk_struct.py. -/
namespace Go.Proofs.Ytcpkhhammafchaa
open Go.RowKit
set_option linter.unusedVariables false
set_option linter.unusedSimpArgs false
end Go.Proofs.Ytcpkhhammafchaa
/- Cuts of slices at any place: one address for both ways. -/
namespace Go.Proofs.Ytcpkhhammafchaa
open Go.RowKit
set_option linter.unusedVariables false
set_option linter.unusedSimpArgs false
def cutA (A : Option Addr) (k c sz : Nat) : Option Addr := if c = k then A else A.map fun a => a.add (k * sz)
theorem cut_eq (A : Option Addr) (k h c sz : Nat) : sliced A k h c sz = .slice (cutA A k c sz) (h - k) (c - k) := by
  unfold sliced cutA
  split <;> rfl
/-- 's[i:]'. -/
theorem run_cutF {P : Program} {t e : TypeId} {sz : Nat} (ht : P.underlying t = some (.slice e)) (hi : (P.info? e).map (·.size) = some sz) (w : World) (A : Option Addr) (len cap k : Nat) (i : Int) (q : IntKind) (hik : i = k) (h1 : k ≤ len) :
    (Instr.slice t (.slice A len cap) (some (.int q i)) none none).run P w = .ok (.slice (cutA A k cap sz) (len - k) (cap - k)) w := by
  have ee : P.elem t = e := by simp [Program.elem, ht]
  subst hik
  rw [run_slice_l w t _ len cap (by rw [ee]; exact ht) q k (by omega) (by omega), ee, run_size hi w]
  simp only [Result.andThen, Int.toNat_natCast, cut_eq]
/-- 's[i:j]'. -/
theorem run_cutFH {P : Program} {t e : TypeId} {sz : Nat} (ht : P.underlying t = some (.slice e)) (hi : (P.info? e).map (·.size) = some sz) (w : World) (A : Option Addr) (len cap k m : Nat) (i j : Int) (q q' : IntKind) (hik : i = k) (hjm : j = m) (h1 : k ≤ m) (h2 : m ≤ cap) :
    (Instr.slice t (.slice A len cap) (some (.int q i)) (some (.int q' j)) none).run P w = .ok (.slice (cutA A k cap sz) (m - k) (cap - k)) w := by
  have ee : P.elem t = e := by simp [Program.elem, ht]
  subst hik hjm
  rw [run_slice_lh w t _ len cap (by rw [ee]; exact ht) q q' k m (by omega) (by omega) (by omega), ee, run_size hi w]
  simp only [Result.andThen, Int.toNat_natCast, cut_eq]
/-- 's[:i]'. -/
theorem run_cutH {P : Program} {t e : TypeId} {sz : Nat} (ht : P.underlying t = some (.slice e)) (hi : (P.info? e).map (·.size) = some sz) (w : World) (A : Option Addr) (len cap k : Nat) (i : Int) (q : IntKind) (hik : i = k) (h1 : k ≤ cap) :
    (Instr.slice t (.slice A len cap) none (some (.int q i)) none).run P w = .ok (.slice A k cap) w := by
  have ee : P.elem t = e := by simp [Program.elem, ht]
  subst hik
  rw [run_slice_h w t _ len cap (by rw [ee]; exact ht) q k (by omega) (by omega), ee, run_size hi w]
  have ha : ∀ a : Addr, a.add 0 = a := fun a => by simp [Addr.add]
  simp only [Result.andThen, sliced, Int.toNat_natCast, Nat.zero_mul, Nat.sub_zero, ha]
  cases A <;> simp
theorem Rd.cut {w : World} {A : Option Addr} {n : Nat} {vs : List Value} (h : Rd w A n vs) (k c : Nat) (hk : k ≤ n) (hc : n ≤ c) : Rd w (cutA A k c 1) (n - k) (vs.drop k) := by
  by_cases h0 : n = k
  · subst h0
    have e : vs.drop n = [] := List.drop_of_length_le (by rw [h.1]; exact Nat.le_refl _)
    rw [e, Nat.sub_self]
    exact Rd.nil _ _
  · obtain ⟨b, off, e, _, _⟩ := h.2 (by omega)
    subst e
    have e : cutA (some ⟨b, off, none⟩) k c 1 = some ⟨b, off + k, none⟩ := by simp only [cutA, if_neg (show ¬ c = k by omega), Option.map_some, Nat.mul_one, add_plain']
    rw [e]
    exact h.tail k hk
theorem RdL.take {w : World} {A : Option Addr} {n : Nat} {xss : List (List Int)} (h : RdL w A n xss) (k : Nat) (hk : k ≤ n) : RdL w A k (xss.take k) := by
  obtain ⟨vs, h1, h2, h3⟩ := h
  refine ⟨vs.take k, h1.take k hk, by simp [h2], fun i v xs hv hx => ?_⟩
  rw [List.getElem?_take] at hv hx
  split at hv
  · rename_i hik
    rw [if_pos hik] at hx
    exact h3 i v xs hv hx
  · cases hv
theorem RdL.cut {w : World} {A : Option Addr} {n : Nat} {xss : List (List Int)} (h : RdL w A n xss) (k c : Nat) (hk : k ≤ n) (hc : n ≤ c) : RdL w (cutA A k c 1) (n - k) (xss.drop k) := by
  obtain ⟨vs, h1, h2, h3⟩ := h
  refine ⟨vs.drop k, h1.cut k c hk hc, by simp [h2], fun i v xs hv hx => ?_⟩
  rw [List.getElem?_drop] at hv hx
  exact h3 (k + i) v xs hv hx
theorem Try.szL : (Try.prog.info? 25).map (·.size) = some 1 := by kernel_rfl
end Go.Proofs.Ytcpkhhammafchaa
