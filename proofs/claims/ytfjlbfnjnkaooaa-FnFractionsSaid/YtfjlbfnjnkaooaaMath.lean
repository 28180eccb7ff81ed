/- Plain arithmetic of lists of limbs (base 1000000, least first): no program in sight. -/
namespace Go.Proofs.Ytfjlbfnjnkaooaa.Limb
def val : List Int → Int
  | [] => 0
  | x :: xs => x + 1000000 * val xs
def Ok (xs : List Int) : Prop := ∀ x ∈ xs, 0 ≤ x ∧ x < 1000000
def limbs (n : Nat) : List Int := if n = 0 then [] else ((n % 1000000 : Nat) : Int) :: limbs (n / 1000000)
termination_by n
decreasing_by omega
theorem limbs_zero : limbs 0 = [] := by rw [limbs]; simp
theorem limbs_pos {n : Nat} (h : 0 < n) : limbs n = ((n % 1000000 : Nat) : Int) :: limbs (n / 1000000) := by
  rw [limbs]; simp; omega
theorem ok_nil : Ok [] := by simp [Ok]
theorem ok_cons {x : Int} {xs : List Int} : Ok (x :: xs) ↔ (0 ≤ x ∧ x < 1000000) ∧ Ok xs := by simp [Ok]
theorem val_limbs (n : Nat) : val (limbs n) = n := by
  induction n using Nat.strongRecOn with
  | _ n ih =>
    rcases Nat.eq_zero_or_pos n with h | h
    · subst h; simp [limbs_zero, val]
    · rw [limbs_pos h, val, ih _ (by omega)]; omega
theorem ok_limbs (n : Nat) : Ok (limbs n) := by
  induction n using Nat.strongRecOn with
  | _ n ih =>
    rcases Nat.eq_zero_or_pos n with h | h
    · subst h; simp [limbs_zero, Ok]
    · rw [limbs_pos h, ok_cons]; exact ⟨by omega, ih _ (by omega)⟩
theorem val_nonneg {xs : List Int} (h : Ok xs) : 0 ≤ val xs := by
  induction xs with
  | nil => simp [val]
  | cons x xs ih => rw [ok_cons] at h; have := ih h.2; simp only [val]; omega
/-- No trailing zero. -/
def NT (xs : List Int) : Prop := xs.getLast? ≠ some 0
theorem nt_cons_cons {x y : Int} {ys : List Int} : NT (x :: y :: ys) ↔ NT (y :: ys) := by simp [NT]
theorem nt_limbs (n : Nat) : NT (limbs n) := by
  induction n using Nat.strongRecOn with
  | _ n ih =>
    rcases Nat.eq_zero_or_pos n with h | h
    · subst h; simp [limbs_zero, NT]
    · rw [limbs_pos h]
      have := ih (n / 1000000) (by omega)
      rcases Nat.eq_zero_or_pos (n / 1000000) with h2 | h2
      · rw [h2, limbs_zero]; simp [NT]; omega
      · rw [limbs_pos h2] at this ⊢; rw [nt_cons_cons]; exact this
theorem limbs_of {xs : List Int} (h : Ok xs) (hn : NT xs) : xs = limbs (val xs).toNat := by
  induction xs with
  | nil => simp [val, limbs_zero]
  | cons x xs ih =>
    rw [ok_cons] at h
    have hv := val_nonneg h.2
    cases xs with
    | nil =>
      simp [NT] at hn
      simp only [val]
      rw [limbs_pos (by omega)]
      have e : (x + 1000000 * 0).toNat / 1000000 = 0 := by omega
      rw [e, limbs_zero]; congr 1; omega
    | cons y ys =>
      rw [nt_cons_cons] at hn
      have ih := ih h.2 hn
      have hpos : 0 < val (y :: ys) := by
        rcases Nat.eq_zero_or_pos (val (y :: ys)).toNat with h0 | h0
        · rw [h0, limbs_zero] at ih; simp at ih
        · omega
      rw [val, limbs_pos (by omega)]
      have e : (x + 1000000 * val (y :: ys)).toNat / 1000000 = (val (y :: ys)).toNat := by omega
      rw [e, ← ih]; congr 1; omega
theorem limbs_inj {a b : Nat} (h : limbs a = limbs b) : a = b := by
  have := congrArg val h; rw [val_limbs, val_limbs] at this; omega
theorem limbs_eq {xs : List Int} {n : Nat} (h : Ok xs) (hn : NT xs) (hv : val xs = n) : xs = limbs n := by
  rw [limbs_of h hn, hv]; simp
def trim : List Int → List Int
  | [] => []
  | x :: xs => if trim xs = [] then (if x = 0 then [] else [x]) else x :: trim xs
theorem trim_spec (xs : List Int) : NT (trim xs) ∧ val (trim xs) = val xs ∧ (Ok xs → Ok (trim xs)) := by
  induction xs with
  | nil => simp [trim, NT, val, Ok]
  | cons x xs ih =>
    obtain ⟨h1, h2, h3⟩ := ih
    simp only [trim]
    split
    · rename_i he
      rw [he] at h2; simp only [val] at h2
      split
      · subst_vars; simp [NT, val, Ok]; omega
      · rename_i hx; refine ⟨by simp [NT]; exact hx, by simp only [val]; omega, fun h => ok_cons.2 ⟨(ok_cons.1 h).1, ok_nil⟩⟩
    · rename_i he
      refine ⟨?_, by simp [val, h2], fun h => ?_⟩
      · cases ht : trim xs with
        | nil => exact absurd ht he
        | cons y ys => rw [ht] at h1; rw [nt_cons_cons]; exact h1
      · rw [ok_cons] at h ⊢; exact ⟨h.1, h3 h.2⟩
theorem trim_eq {xs : List Int} (h : Ok xs) : trim xs = limbs (val xs).toNat := by
  obtain ⟨h1, h2, h3⟩ := trim_spec xs
  rw [limbs_of (h3 h) h1, h2]
theorem trim_snoc_zero (xs : List Int) : trim (xs ++ [0]) = trim xs := by
  induction xs with
  | nil => simp [trim]
  | cons x xs ih => simp [trim, ih]
theorem trim_snoc (xs : List Int) (x : Int) (h : x ≠ 0) : trim (xs ++ [x]) = xs ++ [x] := by
  induction xs with
  | nil => simp [trim, h]
  | cons y ys ih => simp [trim, ih]
theorem trim_nil : trim [] = [] := rfl

/-- 'carried': each limb with the carry; behind the last limb the carry's own limbs. -/
def carryL : List Int → Int → List Int
  | [], c => limbs c.toNat
  | x :: xs, c => ((c + x) % 1000000) :: carryL xs ((c + x) / 1000000)
theorem carryL_spec (xs : List Int) : ∀ c : Int, 0 ≤ c → (∀ x ∈ xs, 0 ≤ x) → Ok (carryL xs c) ∧ val (carryL xs c) = val xs + c := by
  induction xs with
  | nil => intro c hc _; simp only [carryL, val]; exact ⟨ok_limbs _, by rw [val_limbs]; omega⟩
  | cons x xs ih =>
    intro c hc hx
    have h0 : 0 ≤ x := hx x (by simp)
    obtain ⟨h1, h2⟩ := ih ((c + x) / 1000000) (by omega) (fun y hy => hx y (by simp [hy]))
    simp only [carryL, val, ok_cons]
    exact ⟨⟨by omega, h1⟩, by rw [h2]; omega⟩
/-- 'l02Add': limb by limb. -/
def addL : List Int → List Int → Int → List Int
  | [], [], c => limbs c.toNat
  | x :: xs, [], c => ((c + x) % 1000000) :: addL xs [] ((c + x) / 1000000)
  | [], y :: ys, c => ((c + y) % 1000000) :: addL [] ys ((c + y) / 1000000)
  | x :: xs, y :: ys, c => ((c + x + y) % 1000000) :: addL xs ys ((c + x + y) / 1000000)
theorem nt_tail {x : Int} {xs : List Int} (h : NT (x :: xs)) : NT xs := by
  cases xs with
  | nil => simp [NT]
  | cons y ys => exact nt_cons_cons.1 h
theorem nt_cons_of {x : Int} {xs : List Int} (h : NT xs) (h0 : xs = [] → x ≠ 0) : NT (x :: xs) := by
  cases xs with
  | nil => simp [NT, h0 rfl]
  | cons y ys => exact nt_cons_cons.2 h
theorem limbs_nil {n : Nat} : limbs n = [] ↔ n = 0 := by
  constructor
  · intro h; rcases Nat.eq_zero_or_pos n with h0 | h0
    · exact h0
    · rw [limbs_pos h0] at h; simp at h
  · rintro rfl; exact limbs_zero
theorem addL_nil {xs ys : List Int} {c : Int} (hc : 0 ≤ c) (h : addL xs ys c = []) : xs = [] ∧ ys = [] ∧ c = 0 := by
  cases xs <;> cases ys <;> simp [addL, limbs_nil] at h ⊢
  omega
theorem addL_spec (xs ys : List Int) (c : Int) (hc : 0 ≤ c) (hx : Ok xs) (hy : Ok ys) (nx : NT xs) (ny : NT ys) :
    Ok (addL xs ys c) ∧ NT (addL xs ys c) ∧ val (addL xs ys c) = val xs + val ys + c := by
  induction xs, ys, c using addL.induct with
  | case1 c => simp only [addL, val]; exact ⟨ok_limbs _, nt_limbs _, by rw [val_limbs]; omega⟩
  | case2 x xs c ih =>
    have hx' := ok_cons.1 hx
    obtain ⟨h1, h2, h3⟩ := ih (by omega) hx'.2 hy (nt_tail nx) ny
    simp only [addL, val, ok_cons] at h3 ⊢
    refine ⟨⟨by omega, h1⟩, nt_cons_of h2 ?_, by rw [h3]; omega⟩
    intro he
    obtain ⟨rfl, _, h0⟩ := addL_nil (by omega) he
    have : x ≠ 0 := by simpa [NT] using nx
    omega
  | case3 y ys c ih =>
    have hy' := ok_cons.1 hy
    obtain ⟨h1, h2, h3⟩ := ih (by omega) hx hy'.2 nx (nt_tail ny)
    simp only [addL, val, ok_cons] at h3 ⊢
    refine ⟨⟨by omega, h1⟩, nt_cons_of h2 ?_, by rw [h3]; omega⟩
    intro he
    obtain ⟨_, rfl, h0⟩ := addL_nil (by omega) he
    have : y ≠ 0 := by simpa [NT] using ny
    omega
  | case4 x xs y ys c ih =>
    have hx' := ok_cons.1 hx
    have hy' := ok_cons.1 hy
    obtain ⟨h1, h2, h3⟩ := ih (by omega) hx'.2 hy'.2 (nt_tail nx) (nt_tail ny)
    simp only [addL, val, ok_cons]
    refine ⟨⟨by omega, h1⟩, nt_cons_of h2 ?_, by rw [h3]; omega⟩
    intro he
    obtain ⟨rfl, rfl, h0⟩ := addL_nil (by omega) he
    have : y ≠ 0 := by simpa [NT] using ny
    have : x ≠ 0 := by simpa [NT] using nx
    omega
theorem addL_limbs (a b : Nat) : addL (limbs a) (limbs b) 0 = limbs (a + b) := by
  obtain ⟨h1, h2, h3⟩ := addL_spec _ _ 0 (Int.le_refl _) (ok_limbs a) (ok_limbs b) (nt_limbs a) (nt_limbs b)
  exact limbs_eq h1 h2 (by rw [h3, val_limbs, val_limbs]; omega)
/-- One row of a product, added into what is there: 'os' from the row's place on. -/
def rowL (x : Int) : List Int → List Int → Int → List Int
  | _, [], _ => []
  | [], o :: os, c => (o + c) :: os
  | y :: ys, o :: os, c => ((o + c + x * y) % 1000000) :: rowL x ys os ((o + c + x * y) / 1000000)
theorem limb_prod {x y o c : Int} (hx : 0 ≤ x ∧ x < 1000000) (hy : 0 ≤ y ∧ y < 1000000) (ho : 0 ≤ o ∧ o < 1000000) (hc : 0 ≤ c ∧ c < 1000000) :
    0 ≤ x * y ∧ x * y ≤ 999998000001 ∧ 0 ≤ (o + c + x * y) / 1000000 ∧ (o + c + x * y) / 1000000 < 1000000 := by
  have h1 : 0 ≤ x * y := Int.mul_nonneg hx.1 hy.1
  have h2 : x * y ≤ 999999 * 999999 := Int.mul_le_mul (by omega) (by omega) hy.1 (by omega)
  omega
theorem rowL_spec (x : Int) (hx : 0 ≤ x ∧ x < 1000000) (ys : List Int) : ∀ (os : List Int) (c : Int), 0 ≤ c ∧ c < 1000000 → Ok ys → Ok os → ys.length < os.length → (∀ j, ys.length ≤ j → os[j]?.getD 0 = 0) →
    Ok (rowL x ys os c) ∧ val (rowL x ys os c) = val os + c + x * val ys ∧ (rowL x ys os c).length = os.length ∧ (∀ j, ys.length < j → (rowL x ys os c)[j]?.getD 0 = 0) := by
  induction ys with
  | nil =>
    intro os c hc _ ho hl hz
    cases os with
    | nil => simp at hl
    | cons o os =>
      have h0 : o = 0 := by simpa using hz 0 (by simp)
      subst h0
      rw [ok_cons] at ho
      simp only [rowL, val, ok_cons, List.length_cons]
      refine ⟨⟨by omega, ho.2⟩, by omega, by trivial, fun j hj => ?_⟩
      obtain ⟨k, rfl⟩ : ∃ k, j = k + 1 := ⟨j - 1, by simp at hj; omega⟩
      simpa using hz (k + 1) (by simp)
  | cons y ys ih =>
    intro os c hc hy ho hl hz
    cases os with
    | nil => simp at hl
    | cons o os =>
      rw [ok_cons] at ho hy
      obtain ⟨p1, p2, p3, p4⟩ := limb_prod hx hy.1 ho.1 hc
      obtain ⟨h1, h2, h3, h4⟩ := ih os ((o + c + x * y) / 1000000) ⟨p3, p4⟩ hy.2 ho.2 (by simpa using hl) (fun j hj => by simpa using hz (j + 1) (by simp; omega))
      simp only [rowL, val, ok_cons, List.length_cons]
      refine ⟨⟨by omega, h1⟩, by rw [h2]; grind, by rw [h3], fun j hj => ?_⟩
      obtain ⟨k, rfl⟩ : ∃ k, j = k + 1 := ⟨j - 1, by omega⟩
      simpa using h4 k (by omega)
/-- The product's rows, one behind the other. -/
def mulL (b : List Int) : List Int → List Int → List Int
  | [], out => out
  | x :: xs, out => match rowL x b out 0 with
    | [] => []
    | o :: os => o :: mulL b xs os
theorem mulL_spec (b : List Int) (hb : Ok b) (xs : List Int) : ∀ out : List Int, Ok xs → Ok out → xs.length + b.length ≤ out.length → (∀ j, b.length ≤ j → out[j]?.getD 0 = 0) →
    Ok (mulL b xs out) ∧ val (mulL b xs out) = val out + val xs * val b := by
  induction xs with
  | nil => intro out _ ho _ _; simp [mulL, val, ho]
  | cons x xs ih =>
    intro out hx ho hl hz
    rw [ok_cons] at hx
    simp at hl
    obtain ⟨h1, h2, h3, h4⟩ := rowL_spec x hx.1 b out 0 (by omega) hb ho (by omega) hz
    simp only [mulL]
    cases hr : rowL x b out 0 with
    | nil => rw [hr] at h3; simp at h3; omega
    | cons o os =>
      rw [hr] at h1 h2 h3 h4
      rw [ok_cons] at h1
      simp at h3
      obtain ⟨i1, i2⟩ := ih os hx.2 h1.2 (by omega) (fun j hj => by simpa using h4 (j + 1) (by omega))
      simp only [val, ok_cons] at h2 ⊢
      refine ⟨⟨h1.1, i1⟩, ?_⟩
      rw [i2]; grind
theorem ok_zeros (n : Nat) : Ok (List.replicate n 0) := by
  intro x hx; rw [List.eq_of_mem_replicate hx]; omega
theorem val_zeros (n : Nat) : val (List.replicate n 0) = 0 := by
  induction n with
  | zero => rfl
  | succ n ih => simp [List.replicate_succ, val, ih]
theorem mul_limbs (a b n : Nat) (h : (limbs a).length + (limbs b).length ≤ n) : trim (mulL (limbs b) (limbs a) (List.replicate n 0)) = limbs (a * b) := by
  obtain ⟨h1, h2⟩ := mulL_spec (limbs b) (ok_limbs b) (limbs a) (List.replicate n 0) (ok_limbs a) (ok_zeros n) (by simpa using h) (fun j _ => by
    by_cases hj : j < n <;> simp [hj])
  rw [trim_eq h1, h2, val_zeros, val_limbs, val_limbs]; congr 1
  rw [Int.zero_add, ← Int.natCast_mul]; exact Int.toNat_natCast _

def RowRel (b : List Int) (x : Int) (rest : List Int) (k : Nat) (c : Int) (mid rest2 : List Int) : Prop :=
  mid.length = k ∧ rowL x b rest 0 = mid ++ rowL x (b.drop k) rest2 c ∧ 0 ≤ c ∧ c < 1000000 ∧ Ok rest2 ∧ mid.length + rest2.length = rest.length ∧ (∀ j, b.length ≤ k + j → rest2[j]?.getD 0 = 0) ∧ k ≤ b.length + 1 ∧ (k = b.length + 1 → c = 0)
theorem RowRel.start {b : List Int} {x : Int} {rest : List Int} (ho : Ok rest) (hz : ∀ j, b.length ≤ j → rest[j]?.getD 0 = 0) : RowRel b x rest 0 0 [] rest :=
  ⟨rfl, by simp, by omega, by omega, ho, by simp, fun j hj => hz j (by omega), by omega, fun _ => rfl⟩
theorem RowRel.head {b : List Int} {x : Int} {rest : List Int} {k : Nat} {c : Int} {mid rest2 : List Int} (h : RowRel b x rest k c mid rest2) (hk : k < b.length ∨ 0 < c) (hl : b.length < rest.length) :
    k ≤ b.length ∧ ∃ o os, rest2 = o :: os ∧ 0 ≤ o ∧ o < 1000000 := by
  obtain ⟨h1, _, _, _, h5, h6, _, h8, h9⟩ := h
  have hk' : k ≤ b.length := by
    rcases hk with hk | hk
    · omega
    · rcases Nat.lt_or_ge k (b.length + 1) with h | h
      · omega
      · have := h9 (by omega); omega
  refine ⟨hk', ?_⟩
  cases rest2 with
  | nil => simp at h6; omega
  | cons o os => exact ⟨o, os, rfl, (ok_cons.1 h5).1.1, (ok_cons.1 h5).1.2⟩
theorem RowRel.stepIn {b : List Int} {x : Int} {rest : List Int} {k : Nat} {c : Int} {mid os : List Int} {o y : Int} (h : RowRel b x rest k c mid (o :: os)) (hx : 0 ≤ x ∧ x < 1000000) (hb : 0 ≤ y ∧ y < 1000000) (hy : b[k]? = some y) :
    RowRel b x rest (k + 1) ((o + c + x * y) / 1000000) (mid ++ [(o + c + x * y) % 1000000]) os := by
  obtain ⟨h1, h2, h3, h4, h5, h6, h7, h8, h9⟩ := h
  have ho := (ok_cons.1 h5)
  obtain ⟨p1, p2, p3, p4⟩ := limb_prod hx hb ho.1 ⟨h3, h4⟩
  obtain ⟨hk, hy'⟩ := List.getElem?_eq_some_iff.1 hy
  refine ⟨by simp [h1], ?_, p3, p4, ho.2, by simp at h6 ⊢; omega, fun j hj => by simpa using h7 (j + 1) (by omega), by omega, by omega⟩
  rw [h2, List.drop_eq_getElem_cons hk, hy', rowL]; simp
theorem RowRel.stepOut {b : List Int} {x : Int} {rest : List Int} {k : Nat} {c : Int} {mid os : List Int} {o : Int} (h : RowRel b x rest k c mid (o :: os)) (hk : b.length ≤ k) (hc : 0 < c) :
    RowRel b x rest (k + 1) ((o + c) / 1000000) (mid ++ [(o + c) % 1000000]) os := by
  obtain ⟨h1, h2, h3, h4, h5, h6, h7, h8, h9⟩ := h
  have ho := (ok_cons.1 h5)
  have h0 : o = 0 := by simpa using h7 0 (by omega)
  subst h0
  have hkk : k = b.length := by
    rcases Nat.lt_or_ge k (b.length + 1) with h | h
    · omega
    · have := h9 (by omega); omega
  have e1 : (0 + c) / 1000000 = 0 := by omega
  have e2 : (0 + c) % 1000000 = c := by omega
  rw [e1, e2]
  refine ⟨by simp [h1], ?_, by omega, by omega, ho.2, by simp at h6 ⊢; omega, fun j hj => by simpa using h7 (j + 1) (by omega), by omega, fun _ => rfl⟩
  rw [h2, List.drop_of_length_le hk, List.drop_of_length_le (by omega)]
  cases os <;> simp [rowL]
theorem RowRel.stop {b : List Int} {x : Int} {rest : List Int} {k : Nat} {c : Int} {mid rest2 : List Int} (h : RowRel b x rest k c mid rest2) (hk : b.length ≤ k) (hc : ¬ 0 < c) : rowL x b rest 0 = mid ++ rest2 := by
  obtain ⟨h1, h2, h3, _⟩ := h
  obtain rfl : c = 0 := by omega
  rw [h2, List.drop_of_length_le hk]
  cases rest2 <;> simp [rowL]

def MulRel (b a out0 : List Int) (i : Nat) (done rest : List Int) : Prop :=
  done.length = i ∧ mulL b a out0 = done ++ mulL b (a.drop i) rest ∧ Ok rest ∧ (∀ j, b.length ≤ j → rest[j]?.getD 0 = 0) ∧ done.length + rest.length = out0.length
theorem MulRel.start {b a out0 : List Int} (h : Ok out0) (hz : ∀ j, b.length ≤ j → out0[j]?.getD 0 = 0) : MulRel b a out0 0 [] out0 := ⟨rfl, by simp, h, hz, by simp⟩
theorem MulRel.step {b a out0 : List Int} {i : Nat} {done rest row : List Int} {x : Int} (h : MulRel b a out0 i done rest) (hb : Ok b) (hx : a[i]? = some x) (hx0 : 0 ≤ x ∧ x < 1000000) (hl : a.length + b.length ≤ out0.length) (hrow : rowL x b rest 0 = row) :
    ∃ o os, row = o :: os ∧ MulRel b a out0 (i + 1) (done ++ [o]) os := by
  obtain ⟨h1, h2, h3, h4, h5⟩ := h
  obtain ⟨hi, hx'⟩ := List.getElem?_eq_some_iff.1 hx
  obtain ⟨r1, r2, r3, r4⟩ := rowL_spec x hx0 b rest 0 (by omega) hb h3 (by omega) h4
  rw [hrow] at r1 r2 r3 r4
  cases row with
  | nil => simp at r3; omega
  | cons o os =>
    refine ⟨o, os, rfl, by simp [h1], ?_, (ok_cons.1 r1).2, fun j hj => by simpa using r4 (j + 1) (by omega), by simp at r3 ⊢; omega⟩
    rw [h2, List.drop_eq_getElem_cons hi, hx', mulL, hrow]; simp
theorem MulRel.stop {b a out0 : List Int} {i : Nat} {done rest : List Int} (h : MulRel b a out0 i done rest) (hi : a.length ≤ i) : mulL b a out0 = done ++ rest := by
  obtain ⟨h1, h2, _⟩ := h
  rw [h2, List.drop_of_length_le hi, mulL]
theorem zeros_far (n : Nat) (m : Nat) : ∀ j, m ≤ j → (List.replicate n (0 : Int))[j]?.getD 0 = 0 := fun j _ => by
  by_cases hj : j < n <;> simp [hj]

theorem carry_limbs {xs : List Int} (h : ∀ x ∈ xs, 0 ≤ x) : trim (carryL xs 0) = limbs (val xs).toNat := by
  obtain ⟨h1, h2⟩ := carryL_spec xs 0 (by omega) h
  rw [trim_eq h1, h2, Int.add_zero]
/-- Numbers added limb by limb into a list that is long enough. -/
def addInto : List Int → List Int → List Int
  | o :: os, y :: ys => (o + y) :: addInto os ys
  | os, [] => os
  | [], _ => []
theorem addInto_nil (os : List Int) : addInto os [] = os := by cases os <;> rfl
theorem addInto_spec (os : List Int) : ∀ ys : List Int, ys.length ≤ os.length → val (addInto os ys) = val os + val ys ∧ (Ok os → Ok ys → ∀ x ∈ addInto os ys, 0 ≤ x ∧ x ≤ 1999998) := by
  induction os with
  | nil => intro ys h; obtain rfl : ys = [] := List.eq_nil_of_length_eq_zero (by simpa using h); simp [addInto, val]
  | cons o os ih =>
    intro ys h
    cases ys with
    | nil => rw [addInto_nil]; refine ⟨by simp [val], fun ho _ x hx => ?_⟩; have := ho x hx; omega
    | cons y ys =>
      obtain ⟨h1, h2⟩ := ih ys (by simpa using h)
      refine ⟨by simp only [addInto, val, h1]; omega, fun ho hy x hx => ?_⟩
      rw [ok_cons] at ho hy
      simp only [addInto, List.mem_cons] at hx
      rcases hx with rfl | hx
      · omega
      · exact h2 ho.2 hy.2 x hx
theorem addInto_step {rest ys : List Int} {j : Nat} {o y : Int} {os : List Int} (hr : rest = o :: os) (hy : ys[j]? = some y) : addInto rest (ys.drop j) = (o + y) :: addInto os (ys.drop (j + 1)) := by
  obtain ⟨hj, rfl⟩ := List.getElem?_eq_some_iff.1 hy
  rw [hr, List.drop_eq_getElem_cons hj, addInto]
theorem val_append (xs ys : List Int) : val (xs ++ ys) = val xs + 1000000 ^ xs.length * val ys := by
  induction xs with
  | nil => simp [val]
  | cons x xs ih => simp only [List.cons_append, val, ih, List.length_cons, Int.pow_succ]; grind
theorem val_pad (xs : List Int) (n : Nat) : val (xs ++ List.replicate n 0) = val xs := by
  rw [val_append, val_zeros]; simp
theorem ok_append {xs ys : List Int} (h1 : Ok xs) (h2 : Ok ys) : Ok (xs ++ ys) := by
  intro x hx; rcases List.mem_append.1 hx with h | h
  · exact h1 x h
  · exact h2 x h
theorem add_limbs (a b n : Nat) (h : (limbs b).length ≤ (limbs a).length + n) : limbs (val (addInto (limbs a ++ List.replicate n 0) (limbs b))).toNat = limbs (a + b) := by
  rw [(addInto_spec _ _ (by simpa using h)).1, val_pad, val_limbs, val_limbs]; congr 1

def AccRel (base ys : List Int) (j : Nat) (done rest : List Int) : Prop :=
  done.length = j ∧ addInto base ys = done ++ addInto rest (ys.drop j) ∧ Ok rest ∧ done.length + rest.length = base.length
theorem AccRel.start {base ys : List Int} (h : Ok base) : AccRel base ys 0 [] base := ⟨rfl, by simp, h, by simp⟩
theorem AccRel.head {base ys : List Int} {j : Nat} {done rest : List Int} (h : AccRel base ys j done rest) (hj : j < base.length) : ∃ o os, rest = o :: os ∧ 0 ≤ o ∧ o < 1000000 := by
  obtain ⟨h1, _, h3, h4⟩ := h
  cases rest with
  | nil => simp at h4; omega
  | cons o os => exact ⟨o, os, rfl, (ok_cons.1 h3).1.1, (ok_cons.1 h3).1.2⟩
theorem AccRel.step {base ys : List Int} {j : Nat} {done os : List Int} {o y : Int} (h : AccRel base ys j done (o :: os)) (hy : ys[j]? = some y) : AccRel base ys (j + 1) (done ++ [o + y]) os := by
  obtain ⟨h1, h2, h3, h4⟩ := h
  refine ⟨by simp [h1], ?_, (ok_cons.1 h3).2, by simp at h4 ⊢; omega⟩
  rw [h2, addInto_step rfl hy]; simp
theorem AccRel.stop {base ys : List Int} {j : Nat} {done rest : List Int} (h : AccRel base ys j done rest) (hj : ys.length ≤ j) : addInto base ys = done ++ rest := by
  obtain ⟨h1, h2, _⟩ := h
  rw [h2, List.drop_of_length_le hj, addInto_nil]

theorem limbs_lt (n : Nat) : n < 1000000 ^ (limbs n).length := by
  induction n using Nat.strongRecOn with
  | _ n ih =>
    rcases Nat.eq_zero_or_pos n with h | h
    · subst h; simp [limbs_zero]
    · rw [limbs_pos h, List.length_cons, Nat.pow_succ]
      have := ih (n / 1000000) (by omega)
      omega
theorem limbs_len {n k : Nat} (h : n < 1000000 ^ k) : (limbs n).length ≤ k := by
  induction k generalizing n with
  | zero => simp at h; subst h; simp [limbs_zero]
  | succ k ih =>
    rcases Nat.eq_zero_or_pos n with h0 | h0
    · subst h0; simp [limbs_zero]
    · rw [limbs_pos h0, List.length_cons]
      rw [Nat.pow_succ] at h
      have := ih (n := n / 1000000) (by omega)
      omega
theorem limbs_len_iff {n k : Nat} : (limbs n).length ≤ k ↔ n < 1000000 ^ k :=
  ⟨fun h => Nat.lt_of_lt_of_le (limbs_lt n) (Nat.pow_le_pow_right (by omega) h), limbs_len⟩
theorem limbs_len_mono {a b : Nat} (h : a ≤ b) : (limbs a).length ≤ (limbs b).length := limbs_len (Nat.lt_of_le_of_lt h (limbs_lt b))
theorem limbs_len_mul (a b : Nat) : (limbs (a * b)).length ≤ (limbs a).length + (limbs b).length := by
  refine limbs_len ?_
  rw [Nat.pow_add]
  exact Nat.mul_lt_mul'' (limbs_lt a) (limbs_lt b)
theorem limbs_len_add (a b : Nat) : (limbs (a + b)).length ≤ (limbs a).length + (limbs b).length + 1 := by
  refine limbs_len ?_
  have h1 := limbs_lt a
  have h2 := limbs_lt b
  have h3 : 1000000 ^ (limbs a).length ≤ 1000000 ^ ((limbs a).length + (limbs b).length) := Nat.pow_le_pow_right (by omega) (by omega)
  have h4 : 1000000 ^ (limbs b).length ≤ 1000000 ^ ((limbs a).length + (limbs b).length) := Nat.pow_le_pow_right (by omega) (by omega)
  rw [Nat.pow_succ]
  omega
theorem limbs_len_small {n : Nat} (h : n ≤ 1000000000000) : (limbs n).length ≤ 3 := limbs_len (by omega)
end Go.Proofs.Ytfjlbfnjnkaooaa.Limb
