/- SetNumber: the reference's function and the program's give the same list and code. -/
import Derived.Test.YtdpkcnjoklnoeaaFrom
namespace Go.Proofs.Ytdpkcnjoklnoeaa
open Go.RowKit Limb

/-- A callee that leaves the world alone, met in a region that draws. -/
theorem quietS {P : Program} {f : FuncId} {args : Array Value} {w : World} {n : Nat} {v : Value}
    (h : Calls P f args (w.drewN n) fun e w' => e = .returned v ∧ w.drewN n = w') : Calls P f args (w.drewN n) fun e w'' => e = .returned v ∧ ∃ m, w'' = w.drewN m :=
  h.mono fun _ _ ⟨he, hm⟩ => ⟨he, n, hm.symm⟩

def asc (xs : List Int) : Bool := decide (xs.Pairwise (· < ·))
theorem asc_true {xs : List Int} : asc xs = true ↔ xs.Pairwise (· < ·) := by simp [asc]
theorem asc_step {xs : List Int} {k : Nat} {p x : Int} (h : asc (xs.take (k + 1)) = true) (hp : xs[k]? = some p) (hx : xs[k + 1]? = some x) (hlt : p < x) : asc (xs.take (k + 2)) = true := by
  rw [asc_true] at h ⊢
  rw [List.take_add_one, hx]
  rw [List.take_add_one, hp] at h ⊢
  simp only [Option.toList_some, List.pairwise_append, List.mem_append, List.mem_singleton] at h ⊢
  refine ⟨⟨h.1, h.2.1, fun a ha b hb => h.2.2 a ha b hb⟩, by simp, ?_⟩
  intro a ha b hb
  subst hb
  rcases ha with ha | ha
  · have := h.2.2 a ha p rfl; omega
  · omega
theorem asc_first {xs : List Int} {x : Int} (hx : xs[0]? = some x) : asc (xs.take 1) = true := by
  cases xs with
  | nil => simp at hx
  | cons y ys => simp [asc]
theorem asc_out {xs : List Int} {k : Nat} {p x : Int} (hp : xs[k]? = some p) (hx : xs[k + 1]? = some x) (hle : x ≤ p) : asc xs = false := by
  obtain ⟨h1, rfl⟩ := List.getElem?_eq_some_iff.1 hp
  obtain ⟨h2, rfl⟩ := List.getElem?_eq_some_iff.1 hx
  rw [← Bool.not_eq_true, asc_true]
  intro h
  have := List.pairwise_iff_getElem.1 h k (k + 1) h1 h2 (by omega)
  omega
theorem asc_all {xs : List Int} (h : xs.length ≤ 1) : asc xs = true := by
  match xs, h with
  | [], _ => simp [asc]
  | [x], _ => simp [asc]

set_option maxHeartbeats 1000000 in
theorem rising_any (w : World) (A : Option Addr) (n c : Nat) (xs : List Int) (hr : Rd w A n (ints xs)) (hn : n ≤ 1099511627776) :
    Calls Try.prog 69 #[.slice A n c] w (RetV w (.bool (asc xs))) := by
  have HL : Hid (xs.length = n) := Lib.hid (by simpa using hr.1)
  go_enter Try.func69, Try.ntmps69
  go_wp2_with fail
  go_loopw [3] (fun i wr => ∃ k : Nat, i = .int .i64 ((k : Int) + 1) ∧ (k + 1 ≤ n ∨ k = 0) ∧ Hid (asc (xs.take (k + 1)) = true) ∧ Below w.heap.size w wr) (fun i _ => n - (intOf i).toNat)
  case atStart => exact ⟨0, rfl, .inr rfl, Lib.hid (asc_all (by simp; omega)), Below.refl _ _⟩
  case round =>
    obtain ⟨k, rfl, hk, hasc, hb⟩ := hrel
    by_cases h1 : k + 1 < n
    · obtain ⟨p, hp⟩ := get_some (xs := xs) (k := k) (by rw [HL.out]; omega)
      obtain ⟨x, hx⟩ := get_some (xs := xs) (k := k + 1) (by rw [HL.out]; omega)
      obtain ⟨b, off, rfl, hbs, hc⟩ := hr.at_ (ints_get hp)
      obtain ⟨b', off', hbb, hbs', hc'⟩ := hr.at_ (ints_get hx)
      obtain ⟨rfl, rfl⟩ : b = b' ∧ off = off' := by simpa using hbb
      have hc1 := (hb.cell (p := ⟨b, off + k, none⟩) hbs).trans hc
      have hc2 := (hb.cell (p := ⟨b, off + (k + 1), none⟩) hbs).trans hc'
      have HP := Lib.hid hp; have HX := Lib.hid hx; have HB := Lib.hid hb
      have q1 : (k : Int) + 1 - 1 = k := by omega
      have q2 : ((k : Int) + 1).toNat = k + 1 := by omega
      have q3 : (0 : Int) ≤ (k : Int) + 1 := by omega
      have q4 : (k : Int) + 1 < n := by omega
      have q5 : (k : Int) < n := by omega
      have q6 : IntKind.i64.wrap (k : Int) = k := IntWalk.i64_in _ (by omega)
      clear hp hx hc hc' hbb hb hk hbs'
      by_cases hlt : p < x
      · have t1 : decide (x ≤ p) = false := by simpa using hlt
        have HT := Lib.hid hlt; clear hlt
        go_wp2_with fail
        go_quiet (fail)
        clear q1 q2 q6
        go_wp2_with fail
        go_roundw
        case rel => exact ⟨k + 1, by go_num, .inl (by omega), Lib.hid (asc_step hasc.out HP.out HX.out HT.out), below_drewN HB.out _⟩
        case measure => simp only [intOf]; omega
      · have t1 : decide (x ≤ p) = true := by simpa using hlt
        have HT := Lib.hid (Int.not_lt.1 hlt); clear hlt
        go_wp2_with fail
        go_quiet (fail)
        clear q1 q2 q6
        go_wp2_with fail
        go_ret
        exact ⟨by rw [asc_out HP.out HX.out HT.out]; rfl, below_drewN HB.out _⟩
    · go_wp2_with fail
      go_ret
      have h := hasc.out
      rw [List.take_of_length_le (by rw [HL.out]; omega)] at h
      exact ⟨by rw [h]; rfl, hb⟩

set_option maxHeartbeats 2000000 in
theorem l00Rises_any (w : World) (A : Option Addr) (n c : Nat) (xs : List Int) (hr : Rd w A n (ints xs)) (hn : n ≤ 1099511627776) (lo hi : Int) :
    Calls Try.prog 68 #[.slice A n c, .int .i64 lo, .int .i64 hi] w (RetV w (.bool (asc xs && allIn xs lo hi))) := by
  have HL : Hid (xs.length = n) := Lib.hid (by simpa using hr.1)
  go_enter Try.func68, Try.ntmps68
  go_wp2_with fail
  go_loopw [7] (fun i wr => ∃ k : Nat, i = .int .i64 k ∧ k ≤ n ∧ Hid (asc (xs.take k) = true ∧ allIn (xs.take k) lo hi = true) ∧ Below w.heap.size w wr) (fun i _ => n - (intOf i).toNat)
  case atStart => exact ⟨0, rfl, by omega, Lib.hid ⟨by simp [asc], by simp [allIn]⟩, Below.refl _ _⟩
  case round =>
    obtain ⟨k, rfl, hk, hasc, hb⟩ := hrel
    by_cases h1 : k < n
    · obtain ⟨x, hx⟩ := get_some (xs := xs) (k := k) (by rw [HL.out]; omega)
      obtain ⟨b, off, rfl, hbs, hc⟩ := hr.at_ (ints_get hx)
      have hc1 := (hb.cell (p := ⟨b, off + k, none⟩) hbs).trans hc
      have HX := Lib.hid hx; have HB := Lib.hid hb; have HC := Lib.hid hc
      clear hx hc hb
      by_cases hin : inB x lo hi = true
      · rcases Nat.eq_zero_or_pos k with h0 | h0
        · have q0 : decide (0 < k) = false := by simp; omega
          have HK0 := Lib.hid h0
          clear h0
          go_wp2_with fail
          go_quiet ((go_at_call 48; exact quietS (l00In_any _ _ _ _)))
          go_wp2_with fail
          go_roundw
          case rel => exact ⟨k + 1, by go_num, by omega, Lib.hid ⟨by have h := HX.out; rw [HK0.out] at h ⊢; exact asc_first h, allIn_take_step hasc.out.2 HX.out hin⟩, below_drewN HB.out _⟩
          case measure => simp only [intOf]; omega
        · obtain ⟨j, rfl⟩ : ∃ j, k = j + 1 := ⟨k - 1, by omega⟩
          obtain ⟨p, hp⟩ := get_some (xs := xs) (k := j) (by rw [HL.out]; omega)
          obtain ⟨b', off', hbb, hbs', hc'⟩ := hr.at_ (ints_get hp)
          obtain ⟨rfl, rfl⟩ : b = b' ∧ off = off' := by simpa using hbb
          have hc2 := (HB.out.cell (p := ⟨b, off + j, none⟩) hbs).trans hc'
          have HP := Lib.hid hp
          have q0 : decide ((0 : Int) < ((j + 1 : Nat) : Int)) = true := by simp
          have q1 : ((j + 1 : Nat) : Int) - 1 = j := by omega
          have q2 : ((j : Int) + 1).toNat = j + 1 := by omega
          have q3 : (0 : Int) ≤ (j : Int) + 1 := by omega
          have q4 : (j : Int) + 1 < n := by omega
          have q5 : (j : Int) < n := by omega
          have q6 : IntKind.i64.wrap (j : Int) = j := IntWalk.i64_in _ (by omega)
          have q7 : (j : Int) + 1 - 1 = j := by omega
          have q8 : decide ((0 : Int) < (j : Int) + 1) = true := by simp
          have q9 : j < n := by omega
          clear hp hbb hbs' hc'
          by_cases hlt : p < x
          · have t1 : decide (x ≤ p) = false := by simpa using hlt
            have HT := Lib.hid hlt; clear hlt
            go_wp2_with fail
            go_quiet ((go_at_call 48; exact quietS (l00In_any _ _ _ _)))
            clear q0 q1 q2 q6 q7 q8
            go_wp2_with fail
            go_roundw
            case rel => exact ⟨j + 1 + 1, by go_num, by omega, Lib.hid ⟨asc_step hasc.out.1 HP.out HX.out HT.out, allIn_take_step hasc.out.2 HX.out hin⟩, below_drewN HB.out _⟩
            case measure => simp only [intOf]; omega
          · have t1 : decide (x ≤ p) = true := by simpa using hlt
            have HT := Lib.hid (Int.not_lt.1 hlt); clear hlt
            go_wp2_with fail
            go_quiet ((go_at_call 48; exact quietS (l00In_any _ _ _ _)))
            clear q0 q1 q2 q6 q7 q8
            go_wp2_with fail
            go_ret
            exact ⟨by rw [asc_out HP.out HX.out HT.out]; rfl, below_drewN HB.out _⟩
      · have hin' : inB x lo hi = false := by simpa using hin
        clear hin
        go_wp2_with fail
        go_quiet ((go_at_call 48; exact quietS (l00In_any _ _ _ _)))
        go_wp2_with fail
        go_ret
        exact ⟨by rw [allIn_out HX.out hin', Bool.and_false]; rfl, below_drewN HB.out _⟩
    · go_wp2_with fail
      go_ret
      have h := hasc.out
      rw [List.take_of_length_le (by rw [HL.out]; omega)] at h
      exact ⟨by rw [h.1, h.2]; rfl, hb⟩

def setVal : List Int → Nat
  | [] => 0
  | k :: ks => 2 ^ k.toNat + setVal ks
theorem setVal_snoc (xs : List Int) (x : Int) : setVal (xs ++ [x]) = setVal xs + 2 ^ x.toNat := by
  induction xs with
  | nil => simp [setVal]
  | cons y ys ih => simp only [List.cons_append, setVal, ih]; omega
theorem joinVal_append (b : Nat) (xs ys : List Int) : joinVal b (xs ++ ys) = joinVal b xs + b ^ xs.length * joinVal b ys := by
  induction xs with
  | nil => simp [joinVal]
  | cons x xs ih => simp only [List.cons_append, joinVal, ih, List.length_cons, Nat.pow_succ]; grind
theorem joinVal_zs (b n : Nat) : joinVal b (zs n) = 0 := by
  induction n with
  | zero => rfl
  | succ n ih => simp [zs_succ, joinVal, ih]
def setNum (xs : List Int) : List Int × Int := if (asc xs && allIn xs 0 799) = true then (fitOr (setVal xs), fitCode (setVal xs)) else ([], 2)
theorem setNum_ok {xs : List Int} (h : (asc xs && allIn xs 0 799) = true) : setNum xs = (fitOr (setVal xs), fitCode (setVal xs)) := by simp only [setNum, if_pos h]
theorem setNum_range {xs : List Int} (h : (asc xs && allIn xs 0 799) = false) : setNum xs = ([], 2) := by simp [setNum, h]
theorem setNum_len (xs : List Int) : (setNum xs).1.length ≤ 1000000 := by
  have := fitOr_len (setVal xs)
  simp only [setNum]
  split
  · simp only; omega
  · simp
/-- The bits so far: ones and zeros; beyond what has been met there are zeros. -/
def BitRel (xs : List Int) (i : Nat) (bs : List Int) : Prop :=
  (∀ d ∈ bs, 0 ≤ d ∧ d < 2) ∧ joinVal 2 bs = setVal (xs.take i) ∧ ∀ j : Nat, (∀ a ∈ xs.take i, a < (j : Int)) → bs[j]?.getD 0 = 0
theorem joinVal_set (b : Nat) (bs : List Int) (k : Nat) (hk : k < bs.length) (h0 : bs[k]?.getD 0 = 0) : joinVal b (bs.set k 1) = joinVal b bs + b ^ k := by
  induction bs generalizing k with
  | nil => simp at hk
  | cons d ds ih =>
    cases k with
    | zero =>
      have : d = 0 := by simpa using h0
      subst this
      simp [joinVal]; omega
    | succ k =>
      simp only [List.set_cons_succ, joinVal, ih k (by simpa using hk) (by simpa using h0), Nat.pow_succ]
      grind
theorem BitRel.start (xs : List Int) (n : Nat) : BitRel xs 0 (zs n) :=
  ⟨fun d hd => by rw [zs] at hd; rw [List.eq_of_mem_replicate hd]; omega, by rw [joinVal_zs]; rfl, fun j _ => by by_cases hj : j < n <;> simp [zs, hj]⟩
theorem asc_before {xs : List Int} (h : asc xs = true) {i : Nat} {x : Int} (hx : xs[i]? = some x) : ∀ a ∈ xs.take i, a < x := by
  intro a ha
  obtain ⟨hi, rfl⟩ := List.getElem?_eq_some_iff.1 hx
  obtain ⟨j, hj, rfl⟩ := List.mem_iff_getElem.1 ha
  simp at hj ⊢
  exact List.pairwise_iff_getElem.1 (asc_true.1 h) j i (by omega) hi (by omega)
theorem BitRel.step {xs bs : List Int} {i : Nat} {x : Int} (h : BitRel xs i bs) (hasc : asc xs = true) (hx : xs[i]? = some x) (h0 : 0 ≤ x) (hl : x.toNat < bs.length) : BitRel xs (i + 1) (bs.set x.toNat 1) := by
  obtain ⟨h1, h2, h3⟩ := h
  have hb := asc_before hasc hx
  refine ⟨fun d hd => ?_, ?_, fun j hj => ?_⟩
  · rcases List.mem_or_eq_of_mem_set hd with hd | rfl
    · exact h1 d hd
    · omega
  · rw [joinVal_set 2 bs _ hl (h3 _ (fun a ha => by have := hb a ha; omega)), h2, List.take_add_one, hx]
    exact (setVal_snoc _ _).symm
  · rw [List.take_add_one, hx] at hj
    have hxj : x < (j : Int) := hj x (by simp)
    rw [List.getElem?_set_ne (by omega)]
    exact h3 j (fun a ha => hj a (by simp [ha]))
/-- The reference's digits so far. -/
def DigRel (xs : List Int) (i : Nat) (ds : List Int) : Prop :=
  (∀ d ∈ ds, 0 ≤ d ∧ d < 2) ∧ joinVal 2 ds = setVal (xs.take i) ∧ (∀ x, xs[i]? = some x → (ds.length : Int) ≤ x) ∧ ds.length ≤ 800
theorem DigRel.start (xs : List Int) (hp : ∀ x ∈ xs, 0 ≤ x ∧ x ≤ 799) : DigRel xs 0 [] :=
  ⟨by simp, rfl, fun x hx => by obtain ⟨hi, rfl⟩ := List.getElem?_eq_some_iff.1 hx; exact (hp _ (List.getElem_mem hi)).1, by simp⟩
theorem DigRel.pad {xs ds : List Int} {i : Nat} (h : DigRel xs i ds) {x : Int} (hx : xs[i]? = some x) (hx9 : x ≤ 799) (hlt : (ds.length : Int) < x) : DigRel xs i (ds ++ [0]) := by
  obtain ⟨h1, h2, h3, h4⟩ := h
  refine ⟨fun d hd => ?_, ?_, fun y hy => ?_, by simp; omega⟩
  · rcases List.mem_append.1 hd with hd | hd
    · exact h1 d hd
    · simp at hd; omega
  · rw [joinVal_append, h2]; simp [joinVal]
  · rw [hx] at hy; injection hy with hy; subst hy; simp; omega
theorem DigRel.one {xs ds : List Int} {i : Nat} (h : DigRel xs i ds) (hasc : asc xs = true) {x : Int} (hx : xs[i]? = some x) (hx9 : x ≤ 799) (hge : ¬ (ds.length : Int) < x) : DigRel xs (i + 1) (ds ++ [1]) := by
  obtain ⟨h1, h2, h3, h4⟩ := h
  have hxl := h3 x hx
  have e : x.toNat = ds.length := by omega
  refine ⟨fun d hd => ?_, ?_, fun y hy => ?_, by simp; omega⟩
  · rcases List.mem_append.1 hd with hd | hd
    · exact h1 d hd
    · simp at hd; omega
  · rw [joinVal_append, h2, List.take_add_one, hx]
    show _ = setVal (xs.take i ++ [x])
    rw [setVal_snoc, e]; simp [joinVal]
  · have := asc_before hasc hy x (by rw [List.take_add_one, hx]; simp)
    simp; omega

set_option maxHeartbeats 2000000 in
theorem specSetNumber_any (w : World) (A : Option Addr) (n c : Nat) (xs : List Int) (hr : Rd w A n (ints xs)) (hn : n ≤ 1099511627776) :
    Calls Try.prog 25 #[.slice A n c] w (RetSI w 2 (ints (setNum xs).1) (setNum xs).2) := by
  have HL : Hid (xs.length = n) := Lib.hid (by simpa using hr.1)
  by_cases hok : (asc xs && allIn xs 0 799) = true
  · have hasc : Hid (asc xs = true) := Lib.hid (by simp only [Bool.and_eq_true] at hok; exact hok.1)
    have hall : Hid (∀ x ∈ xs, 0 ≤ x ∧ x ≤ 799) := Lib.hid (by simp only [Bool.and_eq_true] at hok; exact allIn_true.1 hok.2)
    have HF := Lib.hid (setNum_ok hok)
    go_enter Try.func25, Try.ntmps25
    go_wp2_with fail
    refine (l00Rises_any _ _ _ _ _ hr hn _ _).mono ?_
    rw [hok]
    rintro e w1 ⟨rfl, hb1⟩
    go_wp2_with fail
    clear hok
    go_loopw [4, 5] (fun v i wr => ∃ (k m : Nat) (ds : List Int), i = .int .i64 k ∧ k ≤ n ∧ Hid (DigRel xs k ds) ∧ m ≤ 800 ∧ wr.ownsRow w.heap.size 2 1 v m (ints ds) ∧ Below w.heap.size w wr) (fun _ i _ => n - (intOf i).toNat)
    case atStart => exact ⟨0, 0, [], rfl, by omega, Lib.hid (DigRel.start xs hall.out), by omega, own_base (own_lit w1 #[] 0 2 rfl (by omega)) hb1.size, hb1.trans ((below_new _ _).mono hb1.size)⟩
    case round =>
      obtain ⟨k, m, ds, rfl, hk, hrl, hm, hown, hb⟩ := hrel
      clear hb1
      by_cases h1 : k < n
      · obtain ⟨x, hx⟩ := get_some (xs := xs) (k := k) (by rw [HL.out]; omega)
        have hxb : 0 ≤ x ∧ x ≤ 799 := by obtain ⟨hk', rfl⟩ := List.getElem?_eq_some_iff.1 hx; exact hall.out _ (List.getElem_mem hk')
        obtain ⟨hx0, hx1⟩ := hxb
        obtain ⟨b, off, rfl, hbs, hc⟩ := hr.at_ (ints_get hx)
        have HX := Lib.hid hx; have HC := Lib.hid hc
        clear hx hc
        obtain ⟨wo, rfl⟩ : ∃ wo : World, wo = wr := ⟨_, rfl⟩
        go_wp2_with fail
        go_loopw [4] (fun v wr => ∃ (m : Nat) (ds : List Int), Hid (DigRel xs k ds ∧ ds.length = m) ∧ m ≤ 800 ∧ wr.ownsRow w.heap.size 2 1 v m (ints ds) ∧ Below w.heap.size w wr) (fun v _ => match v with | .slice _ m _ => 801 - m | _ => 0)
        case atStart => exact ⟨m, ds, Lib.hid ⟨hrl.out, by simpa using hown.1⟩, hm, hown, hb⟩
        case round =>
          clear hown hb hrl
          obtain ⟨m, ds, hrl, hm, hown, hb⟩ := hrel
          obtain ⟨Ao, co, rfl, hco, _⟩ := own_form hown
          have hcx1 := (hb.cell (p := ⟨b, off + k, none⟩) hbs).trans HC.out
          have hbz := hb.size
          by_cases hlt : (m : Int) < x
          · go_wp2_with (at_builtin; go_must (refine wpList_app1 Try.eltI rfl _ _ rfl wr w.heap.size _ m _ (by rfl) hown _ (by rfl) (by rfl) (by omega) (by omega) ?_); rintro A1 c1 w2 hown1 hb2)
            go_roundw
            case rel => exact ⟨m + 1, ds ++ [0], Lib.hid ⟨hrl.out.1.pad HX.out hx1 (by rw [hrl.out.2]; exact hlt), by simp [hrl.out.2]⟩, by omega, by rw [ints_snoc] at hown1; exact hown1, hb.trans hb2⟩
            case measure => simp; omega
          · go_wp2_with (at_builtin; go_must (refine wpList_app1 Try.eltI rfl _ _ rfl wr w.heap.size _ m _ (by rfl) hown _ (by rfl) (by rfl) (by omega) (by omega) ?_); rintro A1 c1 w2 hown1 hb2)
            have hd := hrl.out.1.one hasc.out HX.out hx1 (by rw [hrl.out.2]; exact hlt)
            have HD := Lib.hid hd
            have hm1 : m + 1 ≤ 800 := by have := HD.out.2.2.2; simp [hrl.out.2] at this; omega
            clear hd
            go_roundw
            case rel => exact ⟨k + 1, m + 1, ds ++ [1], by go_num, by omega, HD, hm1, by rw [ints_snoc] at hown1; exact hown1, hb.trans hb2⟩
            case measure => simp [intOf]; omega
      · obtain ⟨Ao, co, rfl, hco, _⟩ := own_form hown
        go_wp2_with fail
        refine (l02Join_any _ _ _ _ ds (own_rd hown) (by omega) 2 (by omega) (by omega) hrl.out.1).mono ?_
        have hV : joinVal 2 ds = setVal xs := by rw [hrl.out.2.1, List.take_of_length_le (by rw [HL.out]; omega)]
        rw [show ((2 : Int).toNat) = 2 from rfl, hV]
        clear hV
        rintro e w3 ⟨A3, n3, c3, rfl, ho3, hb3⟩
        have HBF := Lib.hid (hb.trans (hb3.mono hb.size))
        have HO3 := Lib.hid (own_base ho3 hb.size)
        by_cases hfit : (limbs (setVal xs)).length ≤ 40
        · have hf := fit_yes hfit
          have hfb := hf.2.1
          have HFF := Lib.hid hf
          clear hf hfit
          go_wp2_with fail
          go_ret2
          rw [HF.out, HFF.out.2.2]
          exact ⟨A3, n3, c3, rfl, HO3.out, HBF.out⟩
        · have hf := fit_no hfit
          have hfb := hf.2.1
          have HFF := Lib.hid hf
          clear hf hfit
          go_wp2_with fail
          go_ret2
          rw [HF.out, HFF.out.2.2, HFF.out.1]
          exact ⟨none, 0, 0, rfl, own_nil _ _ _, HBF.out⟩
  · have hok' : (asc xs && allIn xs 0 799) = false := by simpa only [Bool.not_eq_true] using hok
    have HF := Lib.hid (setNum_range hok')
    clear hok
    go_enter Try.func25, Try.ntmps25
    go_wp2_with fail
    refine (l00Rises_any _ _ _ _ _ hr hn _ _).mono ?_
    rw [hok']
    rintro e w1 ⟨rfl, hb1⟩
    go_wp2_with fail
    go_ret2
    rw [HF.out]
    exact ⟨none, 0, 0, rfl, own_nil _ _ _, hb1⟩

set_option maxHeartbeats 2000000 in
theorem implSetNumber_any (w : World) (A : Option Addr) (n c : Nat) (xs : List Int) (hr : Rd w A n (ints xs)) (hn : n ≤ 1099511627776) :
    Calls Try.prog 26 #[.slice A n c] w (RetSI w 2 (ints (setNum xs).1) (setNum xs).2) := by
  have HL : Hid (xs.length = n) := Lib.hid (by simpa using hr.1)
  by_cases hasc : asc xs = true
  · by_cases hall : allIn xs 0 799 = true
    · have HALL := Lib.hid (allIn_true.1 hall)
      have HF := Lib.hid (setNum_ok (xs := xs) (by rw [hasc, hall]; rfl))
      have HASC := Lib.hid hasc
      go_enter Try.func26, Try.ntmps26
      go_wp2_with fail
      refine (rising_any _ _ _ _ _ hr hn).mono ?_
      rw [hasc]
      rintro e w1 ⟨rfl, hb1⟩
      go_wp2_with fail
      refine (allWithin_any _ _ _ _ _ (hr.below hb1 (Nat.le_refl _)) hn _ _).mono ?_
      rw [hall]
      rintro e w2 ⟨rfl, rfl⟩
      go_wp2_with (at_make; go_must (refine wpList_mk Try.eltI rfl _ _ rfl _ _ _ 800 (by rfl) (by rfl) (by omega) (by omega) (by omega) ?_); rintro w3 hown3 hb3 hs3)
      rw [show List.replicate 800 (Value.int .i64 0) = ints (zs 800) by simp only [zs, ints, List.map_replicate]] at hown3
      clear hasc hall
      generalize hG : w1.heap.size = G at hown3
      have HG := Lib.hid hG
      have hGw : w.heap.size ≤ G := by rw [← HG.out]; exact hb1.size
      have HB3 := Lib.hid (hb1.trans (hb3.mono hb1.size))
      clear hb1 hb3 hs3 hG
      go_loopw [18] (fun i wr => ∃ (k : Nat) (bs : List Int), i = .int .i64 k ∧ k ≤ n ∧ Hid (BitRel xs k bs ∧ bs.length = 800) ∧ wr.ownsRow G 2 1 (.slice (some ⟨G, 0, none⟩) 800 800) 800 (ints bs) ∧ Below w.heap.size w wr) (fun i _ => n - (intOf i).toNat)
      case atStart => exact ⟨0, zs 800, rfl, by omega, Lib.hid ⟨BitRel.start xs 800, List.length_replicate⟩, hown3, HB3.out⟩
      case round =>
        obtain ⟨k, bs, rfl, hk, hrl, hown, hb⟩ := hrel
        clear hown3
        by_cases h1 : k < n
        · obtain ⟨x, hx⟩ := get_some (xs := xs) (k := k) (by rw [HL.out]; omega)
          have hxb : 0 ≤ x ∧ x ≤ 799 := by obtain ⟨hk', rfl⟩ := List.getElem?_eq_some_iff.1 hx; exact HALL.out _ (List.getElem_mem hk')
          obtain ⟨hx0, hx1⟩ := hxb
          obtain ⟨b, off, rfl, hbs, hc⟩ := hr.at_ (ints_get hx)
          have hc1 := (hb.cell (p := ⟨b, off + k, none⟩) hbs).trans hc
          obtain ⟨y, hy⟩ := get_some (xs := bs) (k := x.toNat) (by rw [hrl.out.2]; omega)
          obtain ⟨g, hg, _, _, hc2, hc3⟩ := own_get hown (ints_get hy)
          obtain rfl : G = g := by simpa using hg
          have HS := Lib.hid (own_put hown x.toNat (.int .i64 1))
          have HX := Lib.hid hx; have HB := Lib.hid hb
          clear hx hc hown hb hy hg
          go_wp2_with fail
          go_roundw
          case rel =>
            refine ⟨k + 1, bs.set x.toNat 1, by go_num, by omega, Lib.hid ⟨hrl.out.1.step HASC.out HX.out hx0 (by rw [hrl.out.2]; omega), by simp [hrl.out.2]⟩, ?_, HB.out.setCell (p := ⟨G, x.toNat, none⟩) hGw _⟩
            have h := HS.out
            rwa [show (ints bs).set x.toNat (.int .i64 1) = ints (bs.set x.toNat 1) by simp only [ints, List.map_set]] at h
          case measure => simp [intOf]; omega
        · have hV : joinVal 2 bs = setVal xs := by rw [hrl.out.1.2.1, List.take_of_length_le (by rw [HL.out]; omega)]
          have HV := Lib.hid hV
          clear hV
          go_wp2_with fail
          refine (fromDigits_any _ _ _ _ bs (own_rd hown) (by omega) 2 (by omega) (by omega) hrl.out.1.1).mono ?_
          rw [show ((2 : Int).toNat) = 2 from rfl, HV.out]
          rintro e w4 ⟨A4, n4, c4, rfl, ho4, hb4⟩
          have hn4 : n4 ≤ 800 := by
            rw [← own_limb_len ho4, ← HV.out, ← hrl.out.2]
            exact joinVal_len 2 (by omega) bs hrl.out.1.1
          go_wp2_with fail
          refine (limited_any _ _ _ _ _ _ ho4 (by omega)).mono ?_
          rintro e w5 ⟨⟨A5, n5, c5, rfl, ho5⟩, rfl⟩
          go_wp2_with fail
          go_ret2
          rw [HF.out]
          exact ⟨A5, n5, c5, rfl, own_base ho5 hb.size, hb.trans (hb4.mono hb.size)⟩
    · have hall' : allIn xs 0 799 = false := by simpa using hall
      have HF := Lib.hid (setNum_range (xs := xs) (by rw [hasc, hall']; rfl))
      clear hall
      go_enter Try.func26, Try.ntmps26
      go_wp2_with fail
      refine (rising_any _ _ _ _ _ hr hn).mono ?_
      rw [hasc]
      rintro e w1 ⟨rfl, hb1⟩
      go_wp2_with fail
      refine (allWithin_any _ _ _ _ _ (hr.below hb1 (Nat.le_refl _)) hn _ _).mono ?_
      rw [hall']
      rintro e w2 ⟨rfl, rfl⟩
      go_wp2_with fail
      go_ret2
      rw [HF.out]
      exact ⟨none, 0, 0, rfl, own_nil _ _ _, hb1⟩
  · have hasc' : asc xs = false := by simpa using hasc
    have HF := Lib.hid (setNum_range (xs := xs) (by rw [hasc']; rfl))
    clear hasc
    go_enter Try.func26, Try.ntmps26
    go_wp2_with fail
    refine (rising_any _ _ _ _ _ hr hn).mono ?_
    rw [hasc']
    rintro e w1 ⟨rfl, hb1⟩
    go_wp2_with fail
    go_ret2
    rw [HF.out]
    exact ⟨none, 0, 0, rfl, own_nil _ _ _, hb1⟩

set_option maxHeartbeats 4000000 in
set_option maxRecDepth 100000 in
theorem lawSetNumber (w : World) (A0 : Option Addr) (n0 c0 : Nat) (x0 : List Int) (hr0 : Rd w A0 n0 (ints x0)) :
    Calls Try.prog 6 #[.slice A0 n0 c0] w fun e w' => e = .returned (.bool true) ∧ Below w.heap.size w w' := by
  by_cases hbig0 : n0 ≤ 1048576
  rotate_left
  · go_enter Try.func6, Try.ntmps6
    go_wp2_with fail
    go_ret
    exact ⟨rfl, Below.refl _ _⟩
  have hS : ∀ (w : World) (A0 : Option Addr) (n0 c0 : Nat) (h0 : Rd w A0 n0 (ints x0)) (hn0 : n0 ≤ 1099511627776), Calls Try.prog 25 #[.slice A0 n0 c0] w (RetSI w 2 (ints ((setNum x0).1)) ((setNum x0).2)) := fun w A0 n0 c0 h0 hn0 => specSetNumber_any w A0 n0 c0 x0 h0 hn0
  have hI : ∀ (w : World) (A0 : Option Addr) (n0 c0 : Nat) (h0 : Rd w A0 n0 (ints x0)) (hn0 : n0 ≤ 1099511627776), Calls Try.prog 26 #[.slice A0 n0 c0] w (RetSI w 2 (ints ((setNum x0).1)) ((setNum x0).2)) := fun w A0 n0 c0 h0 hn0 => implSetNumber_any w A0 n0 c0 x0 h0 hn0
  have HRL0 : Hid (((setNum x0).1).length ≤ 1000000) := Lib.hid (setNum_len _)
  have HS := Lib.hid hS; have HI := Lib.hid hI
  clear hS hI
  generalize (setNum x0).1 = r0 at HS HI HRL0
  generalize (setNum x0).2 = r1 at HS HI
  have HXL0 : Hid (x0.length = n0) := Lib.hid (by simpa using hr0.1)
  have HB := Below.refl w.heap.size w
  go_enter Try.func6, Try.ntmps6
  go_wp2_with fail
  refine (toInt64S_any _ _ _ _ x0 (hr0.below HB (Nat.le_refl _)) (by omega)).mono ?_
  rintro e v1 ⟨Ao1, no1, co1, rfl, hoo1, hbv1⟩
  have hno1 : no1 ≤ 1048576 := by have := hoo1.1; simp at this; have := HXL0.out; omega
  replace HB := HB.trans (hbv1.mono HB.size)
  have hrgo1 : Hid (∀ k, (Value.slice Ao1 no1 co1).ownBlock = some k → w.heap.size ≤ k ∧ k < v1.heap.size) := Lib.hid fun k hk => hoo1.lt k hk
  have hszv1 := hbv1.size
  go_wp2_with fail
  refine (HS.out _ _ _ _ (own_rd hoo1) (by omega)).mono ?_
  rintro e v2 ⟨Ao2, no2, co2, rfl, hoo2, hbv2⟩
  have hno2 : no2 ≤ 1000000 := by have := hoo2.1; simp at this; have := HRL0.out; omega
  replace hoo1 := own_below hoo1 hbv2 (Nat.le_refl _)
  replace HB := HB.trans (hbv2.mono HB.size)
  have hrgo2 : Hid (∀ k, (Value.slice Ao2 no2 co2).ownBlock = some k → v1.heap.size ≤ k ∧ k < v2.heap.size) := Lib.hid fun k hk => hoo2.lt k hk
  have hszv2 := hbv2.size
  go_wp2_with fail
  refine (toInt64S_any _ _ _ _ x0 (hr0.below HB (Nat.le_refl _)) (by omega)).mono ?_
  rintro e v3 ⟨Ao3, no3, co3, rfl, hoo3, hbv3⟩
  have hno3 : no3 ≤ 1048576 := by have := hoo3.1; simp at this; have := HXL0.out; omega
  replace hoo1 := own_below hoo1 hbv3 (Nat.le_refl _)
  replace hoo2 := own_below hoo2 hbv3 (Nat.le_refl _)
  replace HB := HB.trans (hbv3.mono HB.size)
  have hrgo3 : Hid (∀ k, (Value.slice Ao3 no3 co3).ownBlock = some k → v2.heap.size ≤ k ∧ k < v3.heap.size) := Lib.hid fun k hk => hoo3.lt k hk
  have hszv3 := hbv3.size
  go_wp2_with fail
  refine (HI.out _ _ _ _ (own_rd hoo3) (by omega)).mono ?_
  rintro e v4 ⟨Ao4, no4, co4, rfl, hoo4, hbv4⟩
  have hno4 : no4 ≤ 1000000 := by have := hoo4.1; simp at this; have := HRL0.out; omega
  replace hoo1 := own_below hoo1 hbv4 (Nat.le_refl _)
  replace hoo2 := own_below hoo2 hbv4 (Nat.le_refl _)
  replace hoo3 := own_below hoo3 hbv4 (Nat.le_refl _)
  replace HB := HB.trans (hbv4.mono HB.size)
  have hrgo4 : Hid (∀ k, (Value.slice Ao4 no4 co4).ownBlock = some k → v3.heap.size ≤ k ∧ k < v4.heap.size) := Lib.hid fun k hk => hoo4.lt k hk
  have hszv4 := hbv4.size
  go_wp2_with fail
  refine (eq_same _ _ _ _ _ (own_rd hoo4) (by omega) _ _ _ (own_rd hoo2)).mono ?_
  rintro e v5 ⟨rfl, hbv5⟩
  replace hoo1 := own_below hoo1 hbv5 (Nat.le_refl _)
  replace hoo2 := own_below hoo2 hbv5 (Nat.le_refl _)
  replace hoo3 := own_below hoo3 hbv5 (Nat.le_refl _)
  replace hoo4 := own_below hoo4 hbv5 (Nat.le_refl _)
  replace HB := HB.trans (hbv5.mono HB.size)
  have hszv5 := hbv5.size
  go_wp2_with fail
  refine (toInt64S_any _ _ _ _ x0 (hr0.below HB (Nat.le_refl _)) (by omega)).mono ?_
  rintro e v6 ⟨Ao5, no5, co5, rfl, hoo5, hbv6⟩
  have hno5 : no5 ≤ 1048576 := by have := hoo5.1; simp at this; have := HXL0.out; omega
  replace hoo1 := own_below hoo1 hbv6 (Nat.le_refl _)
  replace hoo2 := own_below hoo2 hbv6 (Nat.le_refl _)
  replace hoo3 := own_below hoo3 hbv6 (Nat.le_refl _)
  replace hoo4 := own_below hoo4 hbv6 (Nat.le_refl _)
  replace HB := HB.trans (hbv6.mono HB.size)
  have hrgo5 : Hid (∀ k, (Value.slice Ao5 no5 co5).ownBlock = some k → v5.heap.size ≤ k ∧ k < v6.heap.size) := Lib.hid fun k hk => hoo5.lt k hk
  have hszv6 := hbv6.size
  go_wp2_with fail
  refine (eq_same _ _ _ _ _ (own_rd hoo3) (by omega) _ _ _ (own_rd hoo5)).mono ?_
  rintro e v7 ⟨rfl, hbv7⟩
  replace hoo1 := own_below hoo1 hbv7 (Nat.le_refl _)
  replace hoo2 := own_below hoo2 hbv7 (Nat.le_refl _)
  replace hoo3 := own_below hoo3 hbv7 (Nat.le_refl _)
  replace hoo4 := own_below hoo4 hbv7 (Nat.le_refl _)
  replace hoo5 := own_below hoo5 hbv7 (Nat.le_refl _)
  replace HB := HB.trans (hbv7.mono HB.size)
  have hszv7 := hbv7.size
  go_wp2_with fail
  refine (markInt64S_any _ _ _ _ _ _ hoo3 (by omega) (1) (by omega) (by omega)).mono ?_
  rintro e v8 ⟨rfl, hmo3, hgv8⟩
  replace hoo1 := mark_keep hoo1 hgv8 (fun k h1 h2 => by have := hrgo1.out k h1; have := hrgo3.out k h2; omega)
  replace hoo2 := mark_keep hoo2 hgv8 (fun k h1 h2 => by have := hrgo2.out k h1; have := hrgo3.out k h2; omega)
  replace hoo4 := mark_keep hoo4 hgv8 (fun k h1 h2 => by have := hrgo4.out k h1; have := hrgo3.out k h2; omega)
  replace hoo5 := mark_keep hoo5 hgv8 (fun k h1 h2 => by have := hrgo5.out k h1; have := hrgo3.out k h2; omega)
  replace HB := HB.grown hgv8 HB.size (fun k hk => by have := hrgo3.out k hk; omega)
  replace hoo3 := hmo3
  have hszv8 := hgv8.size
  go_wp2_with fail
  refine (eq_same _ _ _ _ _ (own_rd hoo4) (by omega) _ _ _ (own_rd hoo2)).mono ?_
  rintro e v9 ⟨rfl, hbv9⟩
  replace hoo1 := own_below hoo1 hbv9 (Nat.le_refl _)
  replace hoo2 := own_below hoo2 hbv9 (Nat.le_refl _)
  replace hoo3 := own_below hoo3 hbv9 (Nat.le_refl _)
  replace hoo4 := own_below hoo4 hbv9 (Nat.le_refl _)
  replace hoo5 := own_below hoo5 hbv9 (Nat.le_refl _)
  replace HB := HB.trans (hbv9.mono HB.size)
  have hszv9 := hbv9.size
  go_wp2_with fail
  refine (markInt64S_any _ _ _ _ _ _ hoo4 (by omega) (1) (by omega) (by omega)).mono ?_
  rintro e v10 ⟨rfl, hmo4, hgv10⟩
  replace hoo1 := mark_keep hoo1 hgv10 (fun k h1 h2 => by have := hrgo1.out k h1; have := hrgo4.out k h2; omega)
  replace hoo2 := mark_keep hoo2 hgv10 (fun k h1 h2 => by have := hrgo2.out k h1; have := hrgo4.out k h2; omega)
  replace hoo3 := mark_keep hoo3 hgv10 (fun k h1 h2 => by have := hrgo3.out k h1; have := hrgo4.out k h2; omega)
  replace hoo5 := mark_keep hoo5 hgv10 (fun k h1 h2 => by have := hrgo5.out k h1; have := hrgo4.out k h2; omega)
  replace HB := HB.grown hgv10 HB.size (fun k hk => by have := hrgo4.out k hk; omega)
  replace hoo4 := hmo4
  have hszv10 := hgv10.size
  go_wp2_with fail
  refine (heldInt64S_any _ _ _ _ (1) (own_rd hoo4) (by omega) (by omega) (by omega)).mono ?_
  rintro e v11 ⟨rfl, hbv11⟩
  replace hoo1 := own_below hoo1 hbv11 (Nat.le_refl _)
  replace hoo2 := own_below hoo2 hbv11 (Nat.le_refl _)
  replace hoo3 := own_below hoo3 hbv11 (Nat.le_refl _)
  replace hoo4 := own_below hoo4 hbv11 (Nat.le_refl _)
  replace hoo5 := own_below hoo5 hbv11 (Nat.le_refl _)
  replace HB := HB.trans (hbv11.mono HB.size)
  have hszv11 := hbv11.size
  go_wp2_with fail
  refine (toInt64S_any _ _ _ _ x0 (hr0.below HB (Nat.le_refl _)) (by omega)).mono ?_
  rintro e v12 ⟨Ao6, no6, co6, rfl, hoo6, hbv12⟩
  have hno6 : no6 ≤ 1048576 := by have := hoo6.1; simp at this; have := HXL0.out; omega
  replace hoo1 := own_below hoo1 hbv12 (Nat.le_refl _)
  replace hoo2 := own_below hoo2 hbv12 (Nat.le_refl _)
  replace hoo3 := own_below hoo3 hbv12 (Nat.le_refl _)
  replace hoo4 := own_below hoo4 hbv12 (Nat.le_refl _)
  replace hoo5 := own_below hoo5 hbv12 (Nat.le_refl _)
  replace HB := HB.trans (hbv12.mono HB.size)
  have hrgo6 : Hid (∀ k, (Value.slice Ao6 no6 co6).ownBlock = some k → v11.heap.size ≤ k ∧ k < v12.heap.size) := Lib.hid fun k hk => hoo6.lt k hk
  have hszv12 := hbv12.size
  go_wp2_with fail
  refine (HI.out _ _ _ _ (own_rd hoo6) (by omega)).mono ?_
  rintro e v13 ⟨Ao7, no7, co7, rfl, hoo7, hbv13⟩
  have hno7 : no7 ≤ 1000000 := by have := hoo7.1; simp at this; have := HRL0.out; omega
  replace hoo1 := own_below hoo1 hbv13 (Nat.le_refl _)
  replace hoo2 := own_below hoo2 hbv13 (Nat.le_refl _)
  replace hoo3 := own_below hoo3 hbv13 (Nat.le_refl _)
  replace hoo4 := own_below hoo4 hbv13 (Nat.le_refl _)
  replace hoo5 := own_below hoo5 hbv13 (Nat.le_refl _)
  replace hoo6 := own_below hoo6 hbv13 (Nat.le_refl _)
  replace HB := HB.trans (hbv13.mono HB.size)
  have hrgo7 : Hid (∀ k, (Value.slice Ao7 no7 co7).ownBlock = some k → v12.heap.size ≤ k ∧ k < v13.heap.size) := Lib.hid fun k hk => hoo7.lt k hk
  have hszv13 := hbv13.size
  go_wp2_with fail
  refine (eq_same _ _ _ _ _ (own_rd hoo7) (by omega) _ _ _ (own_rd hoo2)).mono ?_
  rintro e v14 ⟨rfl, hbv14⟩
  replace hoo1 := own_below hoo1 hbv14 (Nat.le_refl _)
  replace hoo2 := own_below hoo2 hbv14 (Nat.le_refl _)
  replace hoo3 := own_below hoo3 hbv14 (Nat.le_refl _)
  replace hoo4 := own_below hoo4 hbv14 (Nat.le_refl _)
  replace hoo5 := own_below hoo5 hbv14 (Nat.le_refl _)
  replace hoo6 := own_below hoo6 hbv14 (Nat.le_refl _)
  replace hoo7 := own_below hoo7 hbv14 (Nat.le_refl _)
  replace HB := HB.trans (hbv14.mono HB.size)
  have hszv14 := hbv14.size
  go_wp2_with fail
  refine (heldInt64S_any _ _ _ _ (1) (own_rd hoo4) (by omega) (by omega) (by omega)).mono ?_
  rintro e v15 ⟨rfl, hbv15⟩
  replace hoo1 := own_below hoo1 hbv15 (Nat.le_refl _)
  replace hoo2 := own_below hoo2 hbv15 (Nat.le_refl _)
  replace hoo3 := own_below hoo3 hbv15 (Nat.le_refl _)
  replace hoo4 := own_below hoo4 hbv15 (Nat.le_refl _)
  replace hoo5 := own_below hoo5 hbv15 (Nat.le_refl _)
  replace hoo6 := own_below hoo6 hbv15 (Nat.le_refl _)
  replace hoo7 := own_below hoo7 hbv15 (Nat.le_refl _)
  replace HB := HB.trans (hbv15.mono HB.size)
  have hszv15 := hbv15.size
  go_wp2_with fail
  go_ret
  exact ⟨rfl, HB⟩
end Go.Proofs.Ytdpkcnjoklnoeaa
