/- Nu1: collected by pick.py. -/
import Derived.Test.YtfjlbfnjnkaooaaCpy
import Derived.Test.YtfjlbfnjnkaooaaFoot
import Derived.Test.YtfjlbfnjnkaooaaMath4
namespace Go.Proofs.Ytfjlbfnjnkaooaa
open Go.RowKit Limb
set_option linter.unusedVariables false
set_option linter.unusedSimpArgs false
theorem ok_get {xs : List Int} (h : Ok xs) {k : Nat} {x : Int} (hx : xs[k]? = some x) : 0 ≤ x ∧ x < 1000000 := by
  obtain ⟨hk, rfl⟩ := List.getElem?_eq_some_iff.1 hx
  exact h _ (List.getElem_mem hk)
theorem ints_snoc (xs : List Int) (x : Int) : ints xs ++ [.int .i64 x] = ints (xs ++ [x]) := by simp
theorem trim_take (xs : List Int) : trim xs = xs.take (trim xs).length := by
  induction xs with
  | nil => rfl
  | cons x xs ih =>
    simp only [trim]
    split
    · split <;> simp
    · simp only [List.length_cons, List.take_succ_cons]; rw [← ih]
theorem trim_le (xs : List Int) : (trim xs).length ≤ xs.length := by
  have := congrArg List.length (trim_take xs)
  simp at this; omega
theorem trim_step0 {xs : List Int} {k : Nat} (h : xs[k]? = some 0) : trim (xs.take (k + 1)) = trim (xs.take k) := by
  rw [List.take_add_one, h]; exact trim_snoc_zero _
theorem trim_stop {xs : List Int} {k : Nat} {u : Int} (h : xs[k]? = some u) (hu : u ≠ 0) : trim (xs.take (k + 1)) = xs.take (k + 1) := by
  rw [List.take_add_one, h]; exact trim_snoc _ _ hu
set_option maxHeartbeats 400000 in
theorem l02Trim_any (w : World) (base : Nat) (A : Option Addr) (n c : Nat) (xs : List Int) (ho : w.ownsRow base 2 1 (.slice A n c) n (ints xs)) (hn : n ≤ 1099511627776) :
    Calls Try.prog 64 #[.slice A n c] w fun e w' => e = .returned (.slice A (trim xs).length c) ∧ w = w' := by
  have hlen : xs.length = n := by simpa using ho.1
  obtain ⟨_, _, hf, hnc, _⟩ := own_form ho
  injection hf with hf1 hf2 hf3
  subst hf1 hf3
  have HL := Lib.hid hlen; clear hlen hf2
  go_enter Try.func64, Try.ntmps64
  go_wp2_with fail
  go_loop [3] (fun i => ∃ k : Nat, k ≤ n ∧ i = .int .i64 k ∧ Hid (trim xs = trim (xs.take k))) (fun i => (intOf i).toNat)
  case atStart => exact ⟨n, Nat.le_refl _, rfl, by rw [List.take_of_length_le (Nat.le_of_eq HL.out)]; exact Lib.hid rfl⟩
  case round =>
    obtain ⟨k, hk, rfl, ht⟩ := hrel
    rcases Nat.eq_zero_or_pos k with h0 | h0
    · subst h0
      go_wp2_with fail
      go_ret
      refine ⟨?_, rfl⟩
      rw [ht.out]; rfl
    · obtain ⟨j, rfl⟩ : ∃ j, k = j + 1 := ⟨k - 1, by omega⟩
      obtain ⟨u, hu⟩ := get_some (xs := xs) (k := j) (by rw [HL.out]; omega)
      obtain ⟨g, rfl, _, _, hc, _⟩ := own_get ho (ints_get hu)
      have HU := Lib.hid hu
      clear hu
      by_cases hz : u = 0
      · subst hz
        go_wp2_with fail
        go_round
        case rel => exact ⟨j, by omega, by go_num, by rw [ht.out, trim_step0 HU.out]; exact Lib.hid rfl⟩
        case measure => simp [intOf]
      · have hz' : (u == 0) = false := by simpa using hz
        have HZ := Lib.hid hz; clear hz
        go_wp2_with fail
        go_ret
        refine ⟨?_, rfl⟩
        rw [ht.out, trim_stop HU.out HZ.out, List.length_take, HL.out, Nat.min_eq_left hk]; rfl
/-- What is left of an owned row behind 'trim'. -/
theorem own_trim {w : World} {base n c : Nat} {A : Option Addr} {xs : List Int} (ho : w.ownsRow base 2 1 (.slice A n c) n (ints xs)) : w.ownsRow base 2 1 (.slice A (trim xs).length c) (trim xs).length (ints (trim xs)) := by
  have hlen : xs.length = n := by simpa using ho.1
  have h := own_take ho (k := (trim xs).length) (by have := trim_le xs; omega)
  rwa [ints, ← List.map_take, ← trim_take] at h
set_option maxHeartbeats 400000 in
theorem l02Of_any (w : World) (x : Int) (h1 : x ≤ 1000000000000) :
    Calls Try.prog 74 #[.int .i64 x] w (RetS w 2 (ints (limbs x.toNat))) := by
  go_enter Try.func74, Try.ntmps74
  go_wp2_with fail
  go_loopw [0, 3] (fun q v wr => ∃ (y : Int) (out : List Int), q = .int .i64 y ∧ y ≤ x ∧ Hid (limbs x.toNat = out ++ limbs y.toNat) ∧ out.length + y.toNat ≤ x.toNat ∧ wr.ownsRow w.heap.size 2 1 v out.length (ints out) ∧ Below w.heap.size w wr) (fun q _ _ => (intOf q).toNat)
  case atStart =>
    refine ⟨x, [], rfl, by omega, Lib.hid (by simp), by simp, ?_, ?_⟩
    · exact World.ownsRow_lit (base := w.heap.size) w #[] 0 (Nat.le_refl _) (by unfold maxLen; omega) rfl
    · exact (Below.refl _ _).alloc (Nat.le_refl _) _
  case round =>
    obtain ⟨y, out, rfl, hyx, hl, hlen, hown, hb⟩ := hrel
    obtain ⟨Ao, co, rfl, hco, _⟩ := own_form hown
    have hbs := hb.size
    by_cases hy : 0 < y
    · go_wp2_with (at_builtin; go_must (refine wpList_app1 Try.eltI rfl _ _ rfl wr w.heap.size _ out.length _ (by rfl) hown _ (by rfl) (by rfl) (by omega) (by omega) ?_); rintro A1 c1 w1 hown1 hb1)
      go_roundw
      case rel =>
        refine ⟨_, out ++ [_], rfl, by omega, ?_, by simp; omega, by rw [ints_snoc] at hown1; rw [List.length_append]; exact hown1, hb.trans hb1⟩
        rw [hl.out, limbs_pos (by omega)]
        refine Lib.hid ?_
        rw [show ((y.toNat % 1000000 : Nat) : Int) = y % 1000000 by omega, show y.toNat / 1000000 = (y / 1000000).toNat by omega]; simp
      case measure => simp [intOf]; omega
    · go_wp2_with fail
      go_ret
      have e : limbs x.toNat = out := by rw [hl.out, show y.toNat = 0 by omega, limbs_zero, List.append_nil]
      rw [e]
      exact ⟨Ao, _, co, rfl, hown, hb⟩
theorem set_mid (done mid os : List Int) (o v : Int) (p : Nat) (h : (done ++ mid).length = p) : (ints (done ++ (mid ++ o :: os))).set p (.int .i64 v) = ints (done ++ ((mid ++ [v]) ++ os)) := by
  subst h
  rw [← List.append_assoc]
  simp only [ints, List.map_append, List.map_cons, List.map_nil]
  rw [← List.map_append, List.set_append_right _ _ (by simp)]
  simp
theorem get_mid (done mid os : List Int) (o : Int) (p : Nat) (h : (done ++ mid).length = p) : (ints (done ++ (mid ++ o :: os)))[p]? = some (.int .i64 o) := by
  refine ints_get ?_
  rw [← List.append_assoc, List.getElem?_append_right (by omega), h]; simp
set_option maxHeartbeats 2000000 in
theorem l02Mul_any (w : World) (A : Option Addr) (n c : Nat) (xs : List Int) (hr : Rd w A n (ints xs)) (hn : n ≤ 1000000000)
    (A' : Option Addr) (n' c' : Nat) (ys : List Int) (hr' : Rd w A' n' (ints ys)) (hn' : n' ≤ 1000000000) (okx : Ok xs) (oky : Ok ys) :
    Calls Try.prog 31 #[.slice A n c, .slice A' n' c'] w (RetS w 2 (ints (trim (mulL ys xs (zs (n + n' + 1)))))) := by
  have hlen : xs.length = n := by simpa using hr.1
  have hlen' : ys.length = n' := by simpa using hr'.1
  have HL := Lib.hid hlen; have HL' := Lib.hid hlen'; clear hlen hlen'
  go_enter Try.func31, Try.ntmps31
  go_wp2_with (at_make; go_must (refine wpList_mk Try.eltI rfl _ _ rfl w _ _ (n + n' + 1) (by rfl) (by rfl) (by omega) (by omega) (by omega) ?_); rintro w1 hown1 hb1 hs1)
  rw [show List.replicate (n + n' + 1) (Value.int .i64 0) = ints (zs (n + n' + 1)) by simp [zs]] at hown1
  generalize hT : n + n' + 1 = T at hown1
  have HT := Lib.hid hT
  go_loopw [6] (fun i wr => ∃ (k : Nat) (done rest : List Int), i = .int .i64 k ∧ k ≤ n ∧ Hid (MulRel ys xs (zs T) k done rest) ∧ wr.ownsRow w.heap.size 2 1 (.slice (some ⟨w.heap.size, 0, none⟩) T T) T (ints (done ++ rest)) ∧ Below w.heap.size w wr) (fun i _ => n - (intOf i).toNat)
  case atStart =>
    refine ⟨0, [], zs T, rfl, by omega, Lib.hid (MulRel.start (ok_zeros _) (zeros_far _ _)), by simpa using hown1, hb1⟩
  case round =>
    obtain ⟨k, done, rest, rfl, hk, hm, hown, hb⟩ := hrel
    clear hown1 hb1 hs1
    by_cases h1 : k < n
    · obtain ⟨x, hx⟩ := get_some (xs := xs) (k := k) (by rw [HL.out]; omega)
      obtain ⟨hx0, hx1⟩ := ok_get okx hx
      obtain ⟨b, off, rfl, hbk, hcx⟩ := hr.at_ (ints_get hx)
      have HX := Lib.hid hx; have HC := Lib.hid hcx
      clear hx hcx
      have hrl : Hid (n' < rest.length) := by
        obtain ⟨e1, _, _, _, e2⟩ := hm.out
        have : (zs T).length = T := by simp [zs]
        refine Lib.hid ?_
        have := HT.out
        omega
      obtain ⟨wo, rfl⟩ : ∃ wo : World, wo = wr := ⟨_, rfl⟩
      go_wp2_with fail
      go_loopw [7, 8, 9] (fun q i _ wr => ∃ (j : Nat) (cc : Int) (mid rest2 : List Int), i = .int .i64 j ∧ q = .int .i64 cc ∧ j ≤ n' + 1 ∧ 0 ≤ cc ∧ cc < 1000000 ∧ Hid (RowRel ys x rest j cc mid rest2) ∧ wr.ownsRow w.heap.size 2 1 (.slice (some ⟨w.heap.size, 0, none⟩) T T) T (ints (done ++ (mid ++ rest2))) ∧ Below w.heap.size w wr) (fun _ i _ _ => n' + 1 - (intOf i).toNat)
      case atStart => exact ⟨0, 0, [], rest, rfl, rfl, by omega, by omega, by omega, Lib.hid (RowRel.start hm.out.2.2.1 hm.out.2.2.2.1), by simpa using hown, hb⟩
      case round =>
        obtain ⟨j, cc, mid, rest2, rfl, rfl, hj, hcc0, hcc1, hrow, hown2, hb2⟩ := hrel
        clear hown hb
        by_cases h2 : j < n'
        · obtain ⟨y, hy⟩ := get_some (xs := ys) (k := j) (by rw [HL'.out]; omega)
          obtain ⟨hy0, hy1⟩ := ok_get oky hy
          obtain ⟨b', off', rfl, hbk', hcy⟩ := hr'.at_ (ints_get hy)
          have hcx1 := (hb2.cell (p := ⟨b, off + k, none⟩) hbk).trans HC.out
          have hcy1 := (hb2.cell (p := ⟨b', off' + j, none⟩) hbk').trans hcy
          obtain ⟨hjn, o, os, rfl, ho0, ho1⟩ := hrow.out.head (.inl (by rw [HL'.out]; omega)) (by rw [HL'.out]; exact hrl.out)
          obtain ⟨p1, p2, p3, p4⟩ := limb_prod ⟨hx0, hx1⟩ ⟨hy0, hy1⟩ ⟨ho0, ho1⟩ ⟨hcc0, hcc1⟩
          have hdm : (done ++ mid).length = k + j := by rw [List.length_append, hm.out.1, hrow.out.1]
          have hget := get_mid done mid os o (k + j) hdm
          obtain ⟨g, hg, _, _, hc2, hc3⟩ := own_get hown2 hget
          obtain rfl : w.heap.size = g := by simpa using hg
          have HS := Lib.hid (own_put hown2 (k + j) (.int .i64 ((o + cc + x * y) % 1000000)))
          have HDM := Lib.hid hdm; have HY := Lib.hid hy; have hkT : k + j < T := by
            have h3 := hown2.1
            simp at h3
            have := HDM.out
            simp at this
            omega
          have HB := Lib.hid hb2
          clear hdm hget hown2 hy hcy hg hb2 hjn
          have q1 : IntKind.i64.wrap (x * y) = x * y := IntWalk.i64_in _ (by omega)
          have q2 : IntKind.i64.wrap (o + cc + x * y) = o + cc + x * y := IntWalk.i64_in _ (by omega)
          go_wp2_with fail
          go_quiet (fail)
          go_wp2_with fail
          go_roundw
          case rel => exact ⟨j + 1, _, mid ++ [_], os, by go_num, rfl, by omega, by omega, by omega, Lib.hid (hrow.out.stepIn ⟨hx0, hx1⟩ ⟨hy0, hy1⟩ HY.out), by rw [← set_mid done mid os o _ _ HDM.out]; exact HS.out, below_drewN (HB.out.setCell (p := ⟨w.heap.size, k + j, none⟩) (Nat.le_refl _) _)⟩
          case measure => simp [intOf]; omega
        · by_cases h3 : 0 < cc
          · obtain ⟨hjn, o, os, rfl, ho0, ho1⟩ := hrow.out.head (.inr h3) (by rw [HL'.out]; exact hrl.out)
            have hjn' : j ≤ n' := by have := HL'.out; omega
            have hdm : (done ++ mid).length = k + j := by rw [List.length_append, hm.out.1, hrow.out.1]
            have hget := get_mid done mid os o (k + j) hdm
            obtain ⟨g, hg, _, _, hc2, hc3⟩ := own_get hown2 hget
            obtain rfl : w.heap.size = g := by simpa using hg
            have HS := Lib.hid (own_put hown2 (k + j) (.int .i64 ((o + cc) % 1000000)))
            have HDM := Lib.hid hdm
            have hkT : k + j < T := by
              have h3 := hown2.1
              simp at h3
              have := HDM.out
              simp at this
              omega
            have HB := Lib.hid hb2
            clear hdm hget hown2 hg hb2 hjn
            go_wp2_with fail
            go_roundw
            case rel => exact ⟨j + 1, _, mid ++ [_], os, by go_num, rfl, by omega, by omega, by omega, Lib.hid (hrow.out.stepOut (by rw [HL'.out]; omega) h3), by rw [← set_mid done mid os o _ _ HDM.out]; exact HS.out, HB.out.setCell (Nat.le_refl _) _⟩
            case measure => simp [intOf]; omega
          · go_wp2_with fail
            obtain ⟨o, os, he, hm'⟩ := hm.out.step oky HX.out ⟨hx0, hx1⟩ (by rw [HL.out, HL'.out]; have := HT.out; simp [zs]; omega) (hrow.out.stop (by rw [HL'.out]; omega) h3)
            go_roundw
            case rel => exact ⟨k + 1, done ++ [o], os, by go_num, by omega, Lib.hid hm', by rw [he] at hown2; simpa using hown2, hb2⟩
            case measure => simp [intOf]; omega
    · go_wp2_with (go_at_call 64; refine (l02Trim_any _ w.heap.size _ T T _ hown (by have := HT.out; omega)).mono ?_; rintro e w2 ⟨rfl, rfl⟩)
      go_ret
      rw [show n + n' + 1 = T from HT.out, hm.out.stop (by rw [HL.out]; omega)]
      exact ⟨some ⟨w.heap.size, 0, none⟩, _, T, rfl, own_trim hown, hb⟩
set_option maxHeartbeats 400000 in
theorem trimmed_any (w : World) (base : Nat) (A : Option Addr) (n c : Nat) (xs : List Int) (ho : w.ownsRow base 2 1 (.slice A n c) n (ints xs)) (hn : n ≤ 1099511627776) :
    Calls Try.prog 73 #[.slice A n c] w fun e w' => e = .returned (.slice A (trim xs).length c) ∧ w = w' := by
  have hlen : xs.length = n := by simpa using ho.1
  obtain ⟨_, _, hf, hnc, _⟩ := own_form ho
  injection hf with hf1 hf2 hf3
  subst hf1 hf3
  have HL := Lib.hid hlen; clear hlen hf2
  go_enter Try.func73, Try.ntmps73
  go_wp2_with fail
  go_loop [0] (fun q => ∃ k : Nat, k ≤ n ∧ q = .slice A k c ∧ Hid (trim xs = trim (xs.take k))) (fun q => match q with | .slice _ k _ => k | _ => 0)
  case atStart => exact ⟨n, Nat.le_refl _, rfl, by rw [List.take_of_length_le (Nat.le_of_eq HL.out)]; exact Lib.hid rfl⟩
  case round =>
    obtain ⟨k, hk, rfl, ht⟩ := hrel
    rcases Nat.eq_zero_or_pos k with h0 | h0
    · subst h0
      go_wp2_with fail
      go_ret
      refine ⟨?_, rfl⟩
      rw [ht.out]; rfl
    · obtain ⟨j, rfl⟩ : ∃ j, k = j + 1 := ⟨k - 1, by omega⟩
      obtain ⟨u, hu⟩ := get_some (xs := xs) (k := j) (by rw [HL.out]; omega)
      obtain ⟨g, rfl, _, _, hc, _⟩ := own_get ho (ints_get hu)
      have HU := Lib.hid hu
      clear hu
      by_cases hz : u = 0
      · subst hz
        go_wp2_with fail
        go_round
        case rel => exact ⟨j, by omega, rfl, by rw [ht.out, trim_step0 HU.out]; exact Lib.hid rfl⟩
        case measure => simp
      · have hz' : (u == 0) = false := by simpa using hz
        have HZ := Lib.hid hz; clear hz
        go_wp2_with fail
        go_ret
        refine ⟨?_, rfl⟩
        rw [ht.out, trim_stop HU.out HZ.out, List.length_take, HL.out, Nat.min_eq_left hk]; rfl
theorem carryL_step_in {xs : List Int} {k : Nat} {x c : Int} (hx : xs[k]? = some x) : carryL (xs.drop k) c = ((c + x) % 1000000) :: carryL (xs.drop (k + 1)) ((c + x) / 1000000) := by
  rw [drop_get hx, carryL]
theorem carryL_step_out {xs : List Int} {k : Nat} {c : Int} (hx : xs.length ≤ k) (hc : 0 < c) : carryL (xs.drop k) c = (c % 1000000) :: carryL (xs.drop (k + 1)) (c / 1000000) := by
  rw [List.drop_of_length_le hx, List.drop_of_length_le (by omega : xs.length ≤ k + 1), carryL, carryL, limbs_pos (by omega)]
  rw [show ((c.toNat % 1000000 : Nat) : Int) = c % 1000000 by omega, show c.toNat / 1000000 = (c / 1000000).toNat by omega]
set_option maxHeartbeats 1000000 in
theorem carried_any (w : World) (A : Option Addr) (n c : Nat) (xs : List Int) (hr : Rd w A n (ints xs)) (hn : n ≤ 1000000000) (hxs : ∀ x ∈ xs, 0 ≤ x ∧ x ≤ 1000000000000) :
    Calls Try.prog 75 #[.slice A n c] w (RetS w 2 (ints (limbs (val xs).toNat))) := by
  have hlen : xs.length = n := by simpa using hr.1
  have HL := Lib.hid hlen; clear hlen
  go_enter Try.func75, Try.ntmps75
  go_wp2_with fail
  go_loopw [3, 4, 5] (fun v q i wr => ∃ (k : Nat) (cc : Int) (out : List Int), i = .int .i64 k ∧ q = .int .i64 cc ∧ Hid (out.length = k) ∧ Hid (carryL xs 0 = out ++ carryL (xs.drop k) cc) ∧ 0 ≤ cc ∧ cc ≤ 1000000000000 ∧ k + cc.toNat ≤ n + 1000000000000 ∧
    wr.ownsRow w.heap.size 2 1 v k (ints out) ∧ Below w.heap.size w wr) (fun _ q i _ => (n - (intOf i).toNat) * 10000000000000 + (intOf q).toNat)
  case atStart =>
    refine ⟨0, 0, [], rfl, rfl, Lib.hid rfl, Lib.hid (by simp), by omega, by omega, by omega, ?_, ?_⟩
    · exact World.ownsRow_lit (base := w.heap.size) w #[] 0 (Nat.le_refl _) (by unfold maxLen; omega) rfl
    · exact (Below.refl _ _).alloc (Nat.le_refl _) _
  case round =>
    obtain ⟨k, cc, out, rfl, rfl, HK, HA, hc0, hc1, hkc, hown, hb⟩ := hrel
    obtain ⟨Ao, co, rfl, hco, _⟩ := own_form hown
    have hbs := hb.size
    by_cases h1 : k < n
    · obtain ⟨x, hx⟩ := get_some (xs := xs) (k := k) (by rw [HL.out]; omega)
      obtain ⟨hx0, hx1⟩ : 0 ≤ x ∧ x ≤ 1000000000000 := by obtain ⟨hk', rfl⟩ := List.getElem?_eq_some_iff.1 hx; exact hxs _ (List.getElem_mem hk')
      obtain ⟨b, off, rfl, hbk, hcx⟩ := hr.at_ (ints_get hx)
      have hcx1 := (hb.cell (p := ⟨b, off + k, none⟩) hbk).trans hcx
      have HX := Lib.hid hx
      clear hx hcx
      go_wp2_with (at_builtin; go_must (refine wpList_app1 Try.eltI rfl _ _ rfl wr w.heap.size _ k _ (by rfl) hown _ (by rfl) (by rfl) (by omega) (by omega) ?_); rintro A1 c1 w1 hown1 hb1)
      go_roundw
      case rel =>
        refine ⟨k + 1, _, out ++ [_], by go_num, rfl, Lib.hid (by simp [HK.out]), Lib.hid ?_, by omega, by omega, by omega, by rw [ints_snoc] at hown1; exact hown1, hb.trans hb1⟩
        rw [HA.out, carryL_step_in HX.out]; simp
      case measure => simp only [intOf]; omega
    · by_cases h3 : 0 < cc
      · go_wp2_with (at_builtin; go_must (refine wpList_app1 Try.eltI rfl _ _ rfl wr w.heap.size _ k _ (by rfl) hown _ (by rfl) (by rfl) (by omega) (by omega) ?_); rintro A1 c1 w1 hown1 hb1)
        go_roundw
        case rel =>
          refine ⟨k + 1, _, out ++ [_], by go_num, rfl, Lib.hid (by simp [HK.out]), Lib.hid ?_, by omega, by omega, by omega, by rw [ints_snoc] at hown1; exact hown1, hb.trans hb1⟩
          rw [HA.out, carryL_step_out (by rw [HL.out]; omega) h3]; simp
        case measure => simp only [intOf]; omega
      · have hkb : k ≤ 1099511627776 := by omega
        go_wp2_with (go_at_call 73; refine (trimmed_any _ w.heap.size _ k co _ hown hkb).mono ?_; rintro e w2 ⟨rfl, rfl⟩)
        go_ret
        have e : carryL xs 0 = out := by
          rw [HA.out, List.drop_of_length_le (by rw [HL.out]; omega), carryL, show cc.toNat = 0 by omega, limbs_zero, List.append_nil]
        rw [← carry_limbs (fun x hx => (hxs x hx).1), e]
        exact ⟨Ao, _, co, rfl, own_trim hown, hb⟩
set_option maxHeartbeats 400000 in
theorem naturalOf_any (w : World) (x : Int) (h0 : 0 ≤ x) (h1 : x ≤ 1000000000000) :
    Calls Try.prog 76 #[.int .i64 x] w (RetS w 2 (ints (limbs x.toNat))) := by
  have hr := own_rd (own_lit w #[.int .i64 x] 1 2 rfl (by omega))
  have HR := Lib.hid hr; clear hr
  go_enter Try.func76, Try.ntmps76
  go_wp2_with (go_at_call 75; go_must (refine (carried_any _ _ 1 1 [x] HR.out (by omega) (by simp; omega)).mono ?_); rintro e w2 ⟨A1, n1, c1, rfl, ho1, hb1⟩)
  go_ret
  have e : (val [x]).toNat = x.toNat := by simp [val]
  rw [← e]
  exact ⟨A1, n1, c1, rfl, own_base ho1 (by simp), (below_new _ _).trans (hb1.mono (by simp))⟩
set_option maxHeartbeats 1000000 in
theorem add_any (w : World) (A : Option Addr) (n c : Nat) (X : Nat) (hr : Rd w A n (ints (limbs X))) (hn : n ≤ 1000000) (A' : Option Addr) (n' c' : Nat) (Y : Nat) (hr' : Rd w A' n' (ints (limbs Y))) (hn' : n' ≤ 1000000) :
    Calls Try.prog 43 #[.slice A n c, .slice A' n' c'] w (RetS w 2 (ints (limbs (X + Y)))) := by
  have hlen : (limbs X).length = n := by simpa using hr.1
  have hlen' : (limbs Y).length = n' := by simpa using hr'.1
  have HL := Lib.hid hlen; have HL' := Lib.hid hlen'; clear hlen hlen'
  have okx := ok_limbs X
  have oky := ok_limbs Y
  have HF := Lib.hid (add_limbs X Y (max n n' - n) (by rw [HL.out, HL'.out]; omega))
  generalize limbs X = xs at hr HL okx HF
  generalize limbs Y = ys at hr' HL' oky HF
  have hM : ∃ M : Nat, M = max n n' := ⟨max n n', rfl⟩
  obtain ⟨M, hM2⟩ := hM
  have HM2 := Lib.hid hM2
  have hnM : n ≤ M := by omega
  have hnM' : n' ≤ M := by omega
  have hMb : M ≤ 1000000 := by omega
  have hMor : Hid (M = n ∨ M = n') := Lib.hid (by omega)
  clear hM2
  go_enter Try.func43, Try.ntmps43
  go_wp2_with (first
    | (at_make; go_must (refine wpList_mk Try.eltI rfl _ _ rfl w _ _ M (by rfl) (by rfl) (by have := HM2.out; omega) (by have := HM2.out; omega) (by omega) ?_); rintro w1 hown1 hb1 hs1)
    | (refine wpList_cp (o := ⟨some 16, _, _, _, _, _⟩) Try.eltI rfl (.tmp 14) (.tmp 15) rfl _ w.heap.size w.heap.size M M _ (by rfl) hown1 A n c (ints xs) (by rfl) (hr.below hb1 (Nat.le_refl _)) ints_one hnM ?_; rintro w2 hown2 hb2))
  all_goals
    have hbase : (ints xs ++ (List.replicate M (Value.int .i64 0)).drop n) = ints (xs ++ List.replicate (M - n) 0) := by simp
    rw [hbase] at hown2
    have hb12 := hb1.trans hb2
    have HM3 : Hid (max n n' - n = M - n) := Lib.hid (by rw [HM2.out])
    rw [HM3.out] at HF
    clear hbase hown1 hb1 hb2 hs1
    have okb := ok_append okx (ok_zeros (M - n))
    have HBL : Hid ((xs ++ List.replicate (M - n) 0).length = M) := Lib.hid (by simp; have := HL.out; omega)
    generalize xs ++ List.replicate (M - n) 0 = bs at hown2 HF okb HBL
    go_loopw [19] (fun q wr => ∃ (j : Nat) (done rest : List Int), q = .int .i64 j ∧ j ≤ n' ∧ Hid (AccRel bs ys j done rest) ∧ wr.ownsRow w.heap.size 2 1 (.slice (some ⟨w.heap.size, 0, none⟩) M M) M (ints (done ++ rest)) ∧ Below w.heap.size w wr) (fun q _ => n' - (intOf q).toNat)
    case atStart => exact ⟨0, [], bs, rfl, by omega, Lib.hid (AccRel.start okb), by simpa using hown2, hb12⟩
    case round =>
      obtain ⟨j, done, rest, rfl, hj, hrl, hown, hb⟩ := hrel
      clear hown2 hb12
      by_cases h1 : j < n'
      · obtain ⟨y, hy⟩ := get_some (xs := ys) (k := j) (by rw [HL'.out]; omega)
        obtain ⟨hy0, hy1⟩ := ok_get oky hy
        obtain ⟨b', off', rfl, hbk', hcy⟩ := hr'.at_ (ints_get hy)
        have hcy1 := (hb.cell (p := ⟨b', off' + j, none⟩) hbk').trans hcy
        obtain ⟨o, os, rfl, ho0, ho1⟩ := hrl.out.head (by rw [HBL.out]; omega)
        have hget := get_mid [] done os o j (by simpa using hrl.out.1)
        rw [List.nil_append] at hget
        obtain ⟨g, hg, _, _, hc2, hc3⟩ := own_get hown hget
        obtain rfl : w.heap.size = g := by simpa using hg
        have HS := Lib.hid (own_put hown j (.int .i64 (o + y)))
        have HY := Lib.hid hy; have HB := Lib.hid hb
        have hjM : j < M := by omega
        clear hget hown hy hcy hg hb
        go_wp2_with fail
        go_roundw
        case rel =>
          refine ⟨j + 1, done ++ [o + y], os, by go_num, by omega, Lib.hid (hrl.out.step HY.out), ?_, HB.out.setCell (p := ⟨w.heap.size, j, none⟩) (Nat.le_refl _) _⟩
          have e := set_mid [] done os o (o + y) j (by simpa using hrl.out.1)
          rw [List.nil_append, List.nil_append] at e
          rw [← e]; exact HS.out
        case measure => simp [intOf]; omega
      · have e := hrl.out.stop (by rw [HL'.out]; omega)
        have hall : ∀ x ∈ done ++ rest, 0 ≤ x ∧ x ≤ 1000000000000 := fun x hx => by
          have := (addInto_spec bs ys (by rw [HBL.out, HL'.out]; omega)).2 okb oky x (by rw [e]; exact hx)
          omega
        have HALL := Lib.hid hall
        rw [e] at HF
        have hrd := own_rd hown
        clear e hall
        go_wp2_with (go_at_call 75; go_must (refine (carried_any _ _ M M (done ++ rest) hrd (by omega) HALL.out).mono ?_); rintro e w2 ⟨A1, n1, c1, rfl, ho1, hb1⟩)
        go_ret
        rw [← HF.out]
        exact ⟨A1, n1, c1, rfl, own_base ho1 hb.size, hb.trans (hb1.mono hb.size)⟩
set_option maxHeartbeats 2000000 in
theorem multiply_any0 (w : World) (A : Option Addr) (n c : Nat) (xs : List Int) (hr : Rd w A n (ints xs)) (hn : n ≤ 1000000000)
    (A' : Option Addr) (n' c' : Nat) (ys : List Int) (hr' : Rd w A' n' (ints ys)) (hn' : n' ≤ 1000000000) (okx : Ok xs) (oky : Ok ys) :
    Calls Try.prog 41 #[.slice A n c, .slice A' n' c'] w (RetS w 2 (ints (trim (mulL ys xs (zs (n + n')))))) := by
  have hlen : xs.length = n := by simpa using hr.1
  have hlen' : ys.length = n' := by simpa using hr'.1
  have HL := Lib.hid hlen; have HL' := Lib.hid hlen'; clear hlen hlen'
  go_enter Try.func41, Try.ntmps41
  go_wp2_with (at_make; go_must (refine wpList_mk Try.eltI rfl _ _ rfl w _ _ (n + n') (by rfl) (by rfl) (by omega) (by omega) (by omega) ?_); rintro w1 hown1 hb1 hs1)
  rw [show List.replicate (n + n') (Value.int .i64 0) = ints (zs (n + n')) by simp [zs]] at hown1
  generalize hT : n + n' = T at hown1
  have HT := Lib.hid hT
  go_loopw [18] (fun i wr => ∃ (k : Nat) (done rest : List Int), i = .int .i64 k ∧ k ≤ n ∧ Hid (MulRel ys xs (zs T) k done rest) ∧ wr.ownsRow w.heap.size 2 1 (.slice (some ⟨w.heap.size, 0, none⟩) T T) T (ints (done ++ rest)) ∧ Below w.heap.size w wr) (fun i _ => n - (intOf i).toNat)
  case atStart =>
    refine ⟨0, [], zs T, rfl, by omega, Lib.hid (MulRel.start (ok_zeros _) (zeros_far _ _)), by simpa using hown1, hb1⟩
  case round =>
    obtain ⟨k, done, rest, rfl, hk, hm, hown, hb⟩ := hrel
    clear hown1 hb1 hs1
    by_cases h1 : k < n
    · obtain ⟨x, hx⟩ := get_some (xs := xs) (k := k) (by rw [HL.out]; omega)
      obtain ⟨hx0, hx1⟩ := ok_get okx hx
      obtain ⟨b, off, rfl, hbk, hcx⟩ := hr.at_ (ints_get hx)
      have HX := Lib.hid hx; have HC := Lib.hid hcx
      clear hx hcx
      have hrl : Hid (n' < rest.length) := by
        obtain ⟨e1, _, _, _, e2⟩ := hm.out
        have : (zs T).length = T := by simp [zs]
        refine Lib.hid ?_
        have := HT.out
        omega
      obtain ⟨wo, rfl⟩ : ∃ wo : World, wo = wr := ⟨_, rfl⟩
      have hcx0 := (hb.cell (p := ⟨b, off + k, none⟩) hbk).trans HC.out
      go_wp2_with fail
      clear hcx0
      go_loopw [8, 9] (fun q i wr => ∃ (j : Nat) (cc : Int) (mid rest2 : List Int), i = .int .i64 j ∧ q = .int .i64 cc ∧ j ≤ n' + 1 ∧ 0 ≤ cc ∧ cc < 1000000 ∧ Hid (RowRel ys x rest j cc mid rest2) ∧ wr.ownsRow w.heap.size 2 1 (.slice (some ⟨w.heap.size, 0, none⟩) T T) T (ints (done ++ (mid ++ rest2))) ∧ Below w.heap.size w wr) (fun _ i _ => n' + 1 - (intOf i).toNat)
      case atStart => exact ⟨0, 0, [], rest, rfl, rfl, by omega, by omega, by omega, Lib.hid (RowRel.start hm.out.2.2.1 hm.out.2.2.2.1), by simpa using hown, hb⟩
      case round =>
        obtain ⟨j, cc, mid, rest2, rfl, rfl, hj, hcc0, hcc1, hrow, hown2, hb2⟩ := hrel
        clear hown hb
        by_cases h2 : j < n'
        · obtain ⟨y, hy⟩ := get_some (xs := ys) (k := j) (by rw [HL'.out]; omega)
          obtain ⟨hy0, hy1⟩ := ok_get oky hy
          obtain ⟨b', off', rfl, hbk', hcy⟩ := hr'.at_ (ints_get hy)
          have hcy1 := (hb2.cell (p := ⟨b', off' + j, none⟩) hbk').trans hcy
          obtain ⟨hjn, o, os, rfl, ho0, ho1⟩ := hrow.out.head (.inl (by rw [HL'.out]; omega)) (by rw [HL'.out]; exact hrl.out)
          obtain ⟨p1, p2, p3, p4⟩ := limb_prod ⟨hx0, hx1⟩ ⟨hy0, hy1⟩ ⟨ho0, ho1⟩ ⟨hcc0, hcc1⟩
          have hdm : (done ++ mid).length = k + j := by rw [List.length_append, hm.out.1, hrow.out.1]
          have hget := get_mid done mid os o (k + j) hdm
          obtain ⟨g, hg, _, _, hc2, hc3⟩ := own_get hown2 hget
          obtain rfl : w.heap.size = g := by simpa using hg
          have HS := Lib.hid (own_put hown2 (k + j) (.int .i64 ((cc + o + x * y) % 1000000)))
          have HDM := Lib.hid hdm; have HY := Lib.hid hy; have hkT : k + j < T := by
            have h3 := hown2.1
            simp at h3
            have := HDM.out
            simp at this
            omega
          have HB := Lib.hid hb2
          clear hdm hget hown2 hy hcy hg hb2 hjn
          go_wp2_with fail
          go_roundw
          case rel => exact ⟨j + 1, _, mid ++ [_], os, by go_num, rfl, by omega, by omega, by omega, by rw [Int.add_comm cc o]; exact Lib.hid (hrow.out.stepIn ⟨hx0, hx1⟩ ⟨hy0, hy1⟩ HY.out), by rw [← set_mid done mid os o _ _ HDM.out, Int.add_comm o cc]; exact HS.out, HB.out.setCell (p := ⟨w.heap.size, k + j, none⟩) (Nat.le_refl _) _⟩
          case measure => simp [intOf]; omega
        · by_cases h3 : 0 < cc
          · obtain ⟨hjn, o, os, rfl, ho0, ho1⟩ := hrow.out.head (.inr h3) (by rw [HL'.out]; exact hrl.out)
            have hjn' : j ≤ n' := by have := HL'.out; omega
            have hdm : (done ++ mid).length = k + j := by rw [List.length_append, hm.out.1, hrow.out.1]
            have hget := get_mid done mid os o (k + j) hdm
            obtain ⟨g, hg, _, _, hc2, hc3⟩ := own_get hown2 hget
            obtain rfl : w.heap.size = g := by simpa using hg
            have HS := Lib.hid (own_put hown2 (k + j) (.int .i64 ((cc + o) % 1000000)))
            have HDM := Lib.hid hdm
            have hkT : k + j < T := by
              have h3 := hown2.1
              simp at h3
              have := HDM.out
              simp at this
              omega
            have HB := Lib.hid hb2
            clear hdm hget hown2 hg hb2 hjn
            go_wp2_with fail
            go_roundw
            case rel => exact ⟨j + 1, _, mid ++ [_], os, by go_num, rfl, by omega, by omega, by omega, by rw [Int.add_comm cc o]; exact Lib.hid (hrow.out.stepOut (by rw [HL'.out]; omega) h3), by rw [← set_mid done mid os o _ _ HDM.out, Int.add_comm o cc]; exact HS.out, HB.out.setCell (Nat.le_refl _) _⟩
            case measure => simp [intOf]; omega
          · go_wp2_with fail
            obtain ⟨o, os, he, hm'⟩ := hm.out.step oky HX.out ⟨hx0, hx1⟩ (by rw [HL.out, HL'.out]; have := HT.out; simp [zs]; omega) (hrow.out.stop (by rw [HL'.out]; omega) h3)
            go_roundw
            case rel => exact ⟨k + 1, done ++ [o], os, by go_num, by omega, Lib.hid hm', by rw [he] at hown2; simpa using hown2, hb2⟩
            case measure => simp [intOf]; omega
    · go_wp2_with (go_at_call 73; refine (trimmed_any _ w.heap.size _ T T _ hown (by have := HT.out; omega)).mono ?_; rintro e w2 ⟨rfl, rfl⟩)
      go_ret
      rw [show n + n' = T from HT.out, hm.out.stop (by rw [HL.out]; omega)]
      exact ⟨some ⟨w.heap.size, 0, none⟩, _, T, rfl, own_trim hown, hb⟩
theorem multiply_any (w : World) (A : Option Addr) (n c : Nat) (X : Nat) (hr : Rd w A n (ints (limbs X))) (hn : n ≤ 1000000) (A' : Option Addr) (n' c' : Nat) (Y : Nat) (hr' : Rd w A' n' (ints (limbs Y))) (hn' : n' ≤ 1000000) :
    Calls Try.prog 41 #[.slice A n c, .slice A' n' c'] w (RetS w 2 (ints (limbs (X * Y)))) := by
  have hlen : (limbs X).length = n := by simpa using hr.1
  have hlen' : (limbs Y).length = n' := by simpa using hr'.1
  have h := multiply_any0 w A n c _ hr (by omega) A' n' c' _ hr' (by omega) (ok_limbs X) (ok_limbs Y)
  rwa [show trim (mulL (limbs Y) (limbs X) (zs (n + n'))) = limbs (X * Y) from mul_limbs X Y _ (by omega)] at h
theorem l02Mul_limbs (w : World) (A : Option Addr) (n c : Nat) (X : Nat) (hr : Rd w A n (ints (limbs X))) (hn : n ≤ 1000000) (A' : Option Addr) (n' c' : Nat) (Y : Nat) (hr' : Rd w A' n' (ints (limbs Y))) (hn' : n' ≤ 1000000) :
    Calls Try.prog 31 #[.slice A n c, .slice A' n' c'] w (RetS w 2 (ints (limbs (X * Y)))) := by
  have hlen : (limbs X).length = n := by simpa using hr.1
  have hlen' : (limbs Y).length = n' := by simpa using hr'.1
  have h := l02Mul_any w A n c _ hr (by omega) A' n' c' _ hr' (by omega) (ok_limbs X) (ok_limbs Y)
  rwa [show trim (mulL (limbs Y) (limbs X) (zs (n + n' + 1))) = limbs (X * Y) from mul_limbs X Y _ (by omega)] at h
theorem own_limb_len {w : World} {base e n X : Nat} {v : Value} (h : w.ownsRow base e 1 v n (ints (limbs X))) : (limbs X).length = n := by simpa using h.1
theorem own_small {w : World} {base e n X : Nat} {v : Value} (h : w.ownsRow base e 1 v n (ints (limbs X))) (hX : X ≤ 1000000000000) : n ≤ 3 := by
  rw [← own_limb_len h]; exact limbs_len_small hX
theorem own_mul_len {w w1 w2 : World} {base base1 base2 e n n1 n2 X Y : Nat} {v v1 v2 : Value} (h : w.ownsRow base e 1 v n (ints (limbs (X * Y)))) (h1 : w1.ownsRow base1 e 1 v1 n1 (ints (limbs X))) (h2 : w2.ownsRow base2 e 1 v2 n2 (ints (limbs Y))) : n ≤ n1 + n2 := by
  rw [← own_limb_len h, ← own_limb_len h1, ← own_limb_len h2]; exact limbs_len_mul _ _
theorem own_add_len {w w1 w2 : World} {base base1 base2 e n n1 n2 X Y : Nat} {v v1 v2 : Value} (h : w.ownsRow base e 1 v n (ints (limbs (X + Y)))) (h1 : w1.ownsRow base1 e 1 v1 n1 (ints (limbs X))) (h2 : w2.ownsRow base2 e 1 v2 n2 (ints (limbs Y))) : n ≤ n1 + n2 + 1 := by
  rw [← own_limb_len h, ← own_limb_len h1, ← own_limb_len h2]; exact limbs_len_add _ _
def fitOr (V : Nat) : List Int := if (limbs V).length ≤ 40 then limbs V else []
def fitB (V : Nat) : Bool := decide ((limbs V).length ≤ 40)
def fitCode (V : Nat) : Int := if (limbs V).length ≤ 40 then 0 else 5
theorem fit_yes {V : Nat} (h : (limbs V).length ≤ 40) : fitOr V = limbs V ∧ fitB V = true ∧ fitCode V = 0 := by simp [fitOr, fitB, fitCode, h]
theorem fit_no {V : Nat} (h : ¬ (limbs V).length ≤ 40) : fitOr V = [] ∧ fitB V = false ∧ fitCode V = 5 := by
  refine ⟨by simp only [fitOr, if_neg h], by simpa [fitB] using h, by simp only [fitCode, if_neg h]⟩
set_option maxHeartbeats 400000 in
theorem limited_any (w : World) (base : Nat) (A : Option Addr) (n c : Nat) (V : Nat) (ho : w.ownsRow base 2 1 (.slice A n c) n (ints (limbs V))) (hn : n ≤ 1099511627776) :
    Calls Try.prog 40 #[.slice A n c] w fun en w' => (∃ A' n' c', en = .returned (.tuple #[.slice A' n' c', .int .i64 (fitCode V)]) ∧ w.ownsRow base 2 1 (.slice A' n' c') n' (ints (fitOr V))) ∧ w = w' := by
  have hl := own_limb_len ho
  by_cases h : n ≤ 40
  · have hf := fit_yes (V := V) (by omega)
    have HF := Lib.hid hf
    clear hf hl
    go_enter Try.func40, Try.ntmps40
    go_wp2_with fail
    go_ret2
    rw [HF.out.1, HF.out.2.2]
    exact ⟨⟨A, n, c, rfl, ho⟩, rfl⟩
  · have hf := fit_no (V := V) (by omega)
    have HF := Lib.hid hf
    clear hf hl
    go_enter Try.func40, Try.ntmps40
    go_wp2_with fail
    go_ret2
    rw [HF.out.1, HF.out.2.2]
    exact ⟨⟨none, 0, 0, rfl, own_nil _ _ _⟩, rfl⟩
def isNatB (xs : List Int) : Bool := decide (xs.length ≤ 40) && allIn xs 0 999999 && decide (xs.getLast? ≠ some 0)
theorem isNat_yes {xs : List Int} (h1 : xs.length ≤ 40) (h2 : allIn xs 0 999999 = true) (h3 : xs.getLast? ≠ some 0) : isNatB xs = true := by
  simp only [isNatB, h2, Bool.and_eq_true, decide_eq_true_eq]; exact ⟨⟨h1, trivial⟩, h3⟩
theorem isNat_long {xs : List Int} (h1 : ¬ xs.length ≤ 40) : isNatB xs = false := by simp [isNatB, h1]
theorem isNat_out {xs : List Int} (h2 : allIn xs 0 999999 = false) : isNatB xs = false := by simp [isNatB, h2]
theorem isNat_zero {xs : List Int} (h3 : xs.getLast? = some 0) : isNatB xs = false := by simp [isNatB, h3]
theorem last_get {xs : List Int} {n : Nat} {x : Int} (h : xs.length = n + 1) (hx : xs[n]? = some x) : xs.getLast? = some x := by
  rw [List.getLast?_eq_getElem?, h]; exact hx
theorem last_none {xs : List Int} (h : xs.length = 0) : xs.getLast? = none := by
  rw [List.eq_nil_of_length_eq_zero h]; rfl
set_option maxHeartbeats 1000000 in
theorem isNatural_any (w : World) (A : Option Addr) (n c : Nat) (xs : List Int) (hr : Rd w A n (ints xs)) (hn : n ≤ 1099511627776) :
    Calls Try.prog 69 #[.slice A n c] w fun e w' => e = .returned (.bool (isNatB xs)) ∧ w = w' := by
  have HL : Hid (xs.length = n) := Lib.hid (by simpa using hr.1)
  by_cases h40 : n ≤ 40
  · have b1 : decide ((n : Int) ≤ 40) = true := by simp; omega
    by_cases hall : allIn xs 0 999999 = true
    · rcases Nat.eq_zero_or_pos n with h0 | h0
      · have HF := Lib.hid (isNat_yes (by rw [HL.out]; omega) hall (by rw [last_none (by rw [HL.out]; omega)]; simp))
        have b2 : ((n : Int) == 0) = true := by simp; omega
        clear h0
        go_enter Try.func69, Try.ntmps69
        go_wp2_with (go_at_call 51; refine (allWithin_any _ _ _ _ _ hr hn _ _).mono ?_; rintro e w' ⟨rfl, rfl⟩)
        go_ret
        exact ⟨by rw [HF.out]; rfl, rfl⟩
      · obtain ⟨m, rfl⟩ : ∃ m, n = m + 1 := ⟨n - 1, by omega⟩
        obtain ⟨x, hx⟩ := get_some (xs := xs) (k := m) (by rw [HL.out]; omega)
        obtain ⟨b, off, rfl, hbs, hc⟩ := hr.at_ (ints_get hx)
        have hlast := last_get HL.out hx
        have b2 : (((m + 1 : Nat) : Int) == 0) = false := by simp; omega
        have b2' : ((m : Int) + 1 == 0) = false := by simp; omega
        clear hx h0
        by_cases hz : x = 0
        · have HF := Lib.hid (isNat_zero (xs := xs) (by rw [hlast, hz]))
          have b3 : (x != 0) = false := by simpa using hz
          clear hlast hz
          go_enter Try.func69, Try.ntmps69
          go_wp2_with (go_at_call 51; refine (allWithin_any _ _ _ _ _ hr hn _ _).mono ?_; rintro e w' ⟨rfl, rfl⟩)
          go_ret
          exact ⟨by rw [HF.out]; rfl, rfl⟩
        · have HF := Lib.hid (isNat_yes (by rw [HL.out]; omega) hall (by rw [hlast]; simpa using hz))
          have b3 : (x != 0) = true := by simpa using hz
          clear hlast hz
          go_enter Try.func69, Try.ntmps69
          go_wp2_with (go_at_call 51; refine (allWithin_any _ _ _ _ _ hr hn _ _).mono ?_; rintro e w' ⟨rfl, rfl⟩)
          go_ret
          exact ⟨by rw [HF.out]; rfl, rfl⟩
    · have hall' : allIn xs 0 999999 = false := by simpa using hall
      have HF := Lib.hid (isNat_out hall')
      clear hall
      go_enter Try.func69, Try.ntmps69
      go_wp2_with (go_at_call 51; refine (allWithin_any _ _ _ _ _ hr hn _ _).mono ?_; rintro e w' ⟨rfl, rfl⟩)
      go_ret
      exact ⟨by rw [HF.out]; rfl, rfl⟩
  · have b1 : decide ((n : Int) ≤ 40) = false := by simp; omega
    have HF := Lib.hid (isNat_long (xs := xs) (by rw [HL.out]; omega))
    go_enter Try.func69, Try.ntmps69
    go_wp2_with fail
    go_ret
    exact ⟨by rw [HF.out]; rfl, rfl⟩
/-- The first limb with the borrow taken off. -/
def dec (c : Int) : List Int → List Int
  | [] => []
  | x :: xs => (x - c) :: xs
theorem dec_zero (xs : List Int) : dec 0 xs = xs := by cases xs <;> simp [dec]
theorem dec_drop {xs : List Int} {k : Nat} {x c : Int} (hx : xs[k]? = some x) : dec c (xs.drop k) = (x - c) :: xs.drop (k + 1) := by rw [drop_get hx, dec]
theorem sub_set1 {done : List Int} {k : Nat} (h : done.length = k) (r : List Int) (a v : Int) : (ints (done ++ a :: r)).set k (.int .i64 v) = ints ((done ++ [v]) ++ dec 0 r) := by
  rw [dec_zero]
  have e := set_mid [] done r a v k (by simpa using h)
  rwa [List.nil_append, List.nil_append] at e
theorem sub_same {done : List Int} {k : Nat} (h : done.length = k) {r : List Int} {a : Int} : (ints (done ++ a :: r)).set k (.int .i64 a) = ints (done ++ a :: r) := by
  rw [sub_set1 h, dec_zero]; simp
theorem sub_set2 {done xs : List Int} {k : Nat} (h : done.length = k) {z : Int} (hz : xs[k + 1]? = some z) (a v : Int) (u : Value) :
    (((ints (done ++ a :: xs.drop (k + 1))).set k u).set k (.int .i64 v)).set (k + 1) (.int .i64 (z - 1)) = ints ((done ++ [v]) ++ dec 1 (xs.drop (k + 1))) := by
  rw [List.set_set, sub_set1 h, dec_zero, drop_get hz, dec]
  have e := set_mid [] (done ++ [v]) (xs.drop (k + 1 + 1)) z (z - 1) (k + 1) (by simp [h])
  rw [List.nil_append, List.nil_append] at e
  rw [e]; simp
set_option maxHeartbeats 4000000 in
theorem subtract_any (w : World) (A : Option Addr) (n c : Nat) (X : Nat) (hr : Rd w A n (ints (limbs X))) (hn : n ≤ 1000000) (A' : Option Addr) (n' c' : Nat) (Y : Nat) (hr' : Rd w A' n' (ints (limbs Y))) (hXY : Y ≤ X) :
    Calls Try.prog 45 #[.slice A n c, .slice A' n' c'] w (RetS w 2 (ints (limbs (X - Y)))) := by
  have HL : Hid ((limbs X).length = n) := Lib.hid (by simpa using hr.1)
  have HL' : Hid ((limbs Y).length = n') := Lib.hid (by simpa using hr'.1)
  have hn' : n' ≤ n := by rw [← HL.out, ← HL'.out]; exact limbs_len_mono hXY
  have HF := Lib.hid (sub_limbs X Y hXY)
  have HST := Lib.hid (SubRel.start hXY)
  have okx := ok_limbs X
  have oky := ok_limbs Y
  generalize limbs X = xs at hr HL HF HST okx
  generalize limbs Y = ys at hr' HL' HF HST oky
  clear hXY
  go_enter Try.func45, Try.ntmps45
  go_wp2_with fail
  refine (clone_any _ _ _ _ xs hr (by omega)).mono ?_
  rintro e w1 ⟨A1, n1, c1, rfl, ho1, hb1⟩
  obtain rfl : n1 = n := by have h := ho1.1; simp at h; rw [← h, HL.out]
  go_wp2_with fail
  go_loopw [11] (fun i wr => ∃ (k : Nat) (cc : Int) (done : List Int), i = .int .i64 k ∧ k ≤ n1 ∧ 0 ≤ cc ∧ cc ≤ 1 ∧ Hid (SubRel xs ys k cc done) ∧ wr.ownsRow w.heap.size 2 1 (.slice A1 n1 c1) n1 (ints (done ++ dec cc (xs.drop k))) ∧ Below w.heap.size w wr) (fun i _ => n1 - (intOf i).toNat)
  case atStart => exact ⟨0, 0, [], rfl, by omega, by omega, by omega, HST, by simpa [dec_zero] using ho1, hb1⟩
  case round =>
    obtain ⟨k, cc, done, rfl, hk, hc0, hc1, hrl, hown, hb⟩ := hrel
    clear ho1 hb1
    have hbs := hb.size
    by_cases h1 : k < n1
    · obtain ⟨x, hx⟩ := get_some (xs := xs) (k := k) (by rw [HL.out]; omega)
      obtain ⟨hx0, hx1⟩ := ok_get okx hx
      rw [dec_drop hx] at hown
      have hdl : done.length = k := hrl.out.1
      have hget : (ints (done ++ (x - cc) :: xs.drop (k + 1)))[k]? = some (.int .i64 (x - cc)) := ints_get (by rw [List.getElem?_append_right (by omega), hdl]; simp)
      obtain ⟨g, rfl, hgb, hgs, hc2, hc3⟩ := own_get hown hget
      have hnext : k + 1 < n1 → ∃ z, xs[k + 1]? = some z ∧ 0 ≤ z ∧ z < 1000000 ∧ wr.cell? ⟨g, k + 1, none⟩ = some (.int .i64 z) ∧ wr.frozen? ⟨g, k + 1, none⟩ = false := by
        intro hk1
        obtain ⟨z, hz⟩ := get_some (xs := xs) (k := k + 1) (by rw [HL.out]; omega)
        obtain ⟨hz0, hz1⟩ := ok_get okx hz
        have hgz : (ints (done ++ (x - cc) :: xs.drop (k + 1)))[k + 1]? = some (.int .i64 z) := ints_get (by rw [List.getElem?_append_right (by omega), hdl, show k + 1 - k = 1 by omega, drop_get hz]; simp)
        obtain ⟨g', hg', _, _, hc4, hc5⟩ := own_get hown hgz
        obtain rfl : g = g' := by simpa using hg'
        exact ⟨z, hz, hz0, hz1, hc4, hc5⟩
      have HN := Lib.hid hnext
      have HO := Lib.hid hown
      have HB := Lib.hid hb
      have HDL := Lib.hid hdl
      clear hnext hget hown hb hdl hbs
      by_cases h2 : k < n'
      · obtain ⟨y, hy⟩ := get_some (xs := ys) (k := k) (by rw [HL'.out]; omega)
        obtain ⟨hy0, hy1⟩ := ok_get oky hy
        obtain ⟨b', off', rfl, hbk', hcy⟩ := hr'.at_ (ints_get hy)
        have hcy1 := (HB.out.cell (p := ⟨b', off' + k, none⟩) hbk').trans hcy
        have hS := hrl.out.both hx hy
        have hne : b' < g := by omega
        clear hx hy hcy
        have q1 : IntKind.i64.wrap (x - cc - y) = x - cc - y := IntWalk.i64_in _ (by omega)
        by_cases h3 : x - cc - y < 0
        · rw [if_pos h3] at hS
          have HS := Lib.hid hS; clear hS
          have hk1 : k + 1 < n1 := by have := HS.out.2; rw [HL.out] at this; exact this
          obtain ⟨z, hz, hz0, hz1, hc4, hc5⟩ := HN.out hk1
          have HZ := Lib.hid hz
          clear hz
          go_wp2_with fail
          go_region
          clear q1
          go_wp2_with fail
          go_roundw
          case rel =>
            refine ⟨k + 1, 1, done ++ [x - cc - y + 1000000], by go_num, by omega, by omega, by omega, Lib.hid HS.out.1, ?_, ?_⟩
            · rw [← sub_set2 HDL.out HZ.out (x - cc) (x - cc - y + 1000000) (.int .i64 (x - cc - y))]
              exact own_put (own_put (own_put HO.out k _) k _) (k + 1) _
            · exact (((HB.out.setCell (p := ⟨g, k, none⟩) hgb _).setCell (p := ⟨g, k, none⟩) hgb _).setCell (p := ⟨g, k + 1, none⟩) hgb _).drew
          case measure => simp [intOf]; omega
        · rw [if_neg h3] at hS
          have HS := Lib.hid hS; clear hS
          go_wp2_with fail
          go_region
          clear q1
          go_wp2_with fail
          go_roundw
          case rel =>
            refine ⟨k + 1, 0, done ++ [x - cc - y], by go_num, by omega, by omega, by omega, Lib.hid HS.out, ?_, ?_⟩
            · rw [← sub_set1 HDL.out (xs.drop (k + 1)) (x - cc) (x - cc - y)]
              exact own_put HO.out k _
            · exact (HB.out.setCell (p := ⟨g, k, none⟩) hgb _).drew
          case measure => simp [intOf]; omega
      · have hS := hrl.out.left hx (by rw [HL'.out]; omega)
        clear hx
        by_cases h3 : x - cc < 0
        · rw [if_pos h3] at hS
          have HS := Lib.hid hS; clear hS
          have hk1 : k + 1 < n1 := by have := HS.out.2; rw [HL.out] at this; exact this
          obtain ⟨z, hz, hz0, hz1, hc4, hc5⟩ := HN.out hk1
          have HZ := Lib.hid hz
          clear hz
          go_wp2_with fail
          go_roundw
          case rel =>
            refine ⟨k + 1, 1, done ++ [x - cc + 1000000], by go_num, by omega, by omega, by omega, Lib.hid HS.out.1, ?_, ?_⟩
            · rw [← sub_set2 HDL.out HZ.out (x - cc) (x - cc + 1000000) (.int .i64 (x - cc)), sub_same HDL.out]
              exact own_put (own_put HO.out k _) (k + 1) _
            · exact (HB.out.setCell (p := ⟨g, k, none⟩) hgb _).setCell (p := ⟨g, k + 1, none⟩) hgb _
          case measure => simp [intOf]; omega
        · rw [if_neg h3] at hS
          have HS := Lib.hid hS; clear hS
          go_wp2_with fail
          go_roundw
          case rel =>
            refine ⟨k + 1, 0, done ++ [x - cc], by go_num, by omega, by omega, by omega, Lib.hid HS.out, ?_, HB.out⟩
            have h := HO.out
            rw [dec_zero]
            simpa using h
          case measure => simp [intOf]; omega
    · go_wp2_with (go_at_call 73; refine (trimmed_any _ w.heap.size _ n1 c1 _ hown (by omega)).mono ?_; rintro e w2 ⟨rfl, rfl⟩)
      go_ret
      have e : done ++ dec cc (xs.drop k) = subL xs ys 0 := by
        rw [hrl.out.stop (by rw [HL.out]; omega), List.drop_of_length_le (by rw [HL.out]; omega)]; simp [dec]
      rw [e] at hown ⊢
      rw [← HF.out]
      exact ⟨A1, _, c1, rfl, own_trim hown, hb⟩
theorem zs_snoc (k : Nat) : zs (k + 1) = zs k ++ [0] := by simp [zs, List.replicate_succ']
theorem div_get (k : Nat) (q : List Int) : (ints (zs (k + 1) ++ q))[k]? = some (.int .i64 0) := by
  rw [zs_snoc]; refine ints_get ?_
  rw [List.append_assoc, List.getElem?_append_right (by simp [zs])]; simp [zs]
theorem div_set (k : Nat) (q : List Int) (v : Int) : (ints (zs (k + 1) ++ q)).set k (.int .i64 v) = ints (zs k ++ (v :: q)) := by
  rw [zs_snoc]
  have e := set_mid [] (zs k) q 0 v k (by simp [zs])
  rw [List.nil_append, List.nil_append] at e
  rw [List.append_assoc]
  show (ints (zs k ++ 0 :: q)).set k _ = _
  rw [e]; simp
set_option maxHeartbeats 1000000 in
theorem divideSmall_any (w : World) (A : Option Addr) (n c : Nat) (X : Nat) (hr : Rd w A n (ints (limbs X))) (hn : n ≤ 1000000) (b : Int) (hb0 : 1 ≤ b) (hb1 : b ≤ 1000000) :
    Calls Try.prog 70 #[.slice A n c, .int .i64 b] w (RetSI w 2 (ints (limbs (X / b.toNat))) ((X % b.toNat : Nat) : Int)) := by
  have HL : Hid ((limbs X).length = n) := Lib.hid (by simpa using hr.1)
  have HF := Lib.hid (div_limbs X b hb0 hb1)
  have okx := ok_limbs X
  generalize limbs X = xs at hr HL HF okx
  go_enter Try.func70, Try.ntmps70
  go_wp2_with (at_make; go_must (refine wpList_mk Try.eltI rfl _ _ rfl w _ _ n (by rfl) (by rfl) (by omega) (by omega) (by omega) ?_); rintro w1 hown1 hb1' hs1)
  rw [show List.replicate n (Value.int .i64 0) = ints (zs n) by simp [zs]] at hown1
  go_loopw [7, 8] (fun q i wr => ∃ (j : Nat) (r : Int), i = .int .i64 ((j : Int) - 1) ∧ q = .int .i64 r ∧ j ≤ n ∧ 0 ≤ r ∧ r < b ∧ Hid ((divL b (xs.drop j)).2 = r) ∧ wr.ownsRow w.heap.size 2 1 (.slice (some ⟨w.heap.size, 0, none⟩) n n) n (ints (zs j ++ (divL b (xs.drop j)).1)) ∧ Below w.heap.size w wr) (fun _ i _ => (intOf i + 1).toNat)
  case atStart =>
    refine ⟨n, 0, rfl, rfl, by omega, by omega, by omega, ?_, ?_, hb1'⟩
    · rw [List.drop_of_length_le (by rw [HL.out]; omega)]; exact Lib.hid rfl
    · rw [List.drop_of_length_le (by rw [HL.out]; omega)]; simpa [divL] using hown1
  case round =>
    obtain ⟨j, r, rfl, rfl, hj, hr0, hr1, HR, hown, hb⟩ := hrel
    clear hown1 hb1' hs1
    rcases Nat.eq_zero_or_pos j with h0 | h0
    · subst h0
      rw [List.drop_zero] at hown HR
      have hown' : wr.ownsRow w.heap.size 2 1 (.slice (some ⟨w.heap.size, 0, none⟩) n n) n (ints (divL b xs).1) := by simpa [zs] using hown
      clear hown
      go_wp2_with (go_at_call 73; refine (trimmed_any _ w.heap.size _ n n _ hown' (by omega)).mono ?_; rintro e w2 ⟨rfl, rfl⟩)
      go_ret2
      rw [← HF.out.1, ← HF.out.2, HR.out]
      exact ⟨_, _, n, rfl, own_trim hown', hb⟩
    · obtain ⟨k, rfl⟩ : ∃ k, j = k + 1 := ⟨j - 1, by omega⟩
      have ek : (((k + 1 : Nat) : Int) - 1) = (k : Int) := by omega
      rw [ek]
      clear ek
      obtain ⟨x, hx⟩ := get_some (xs := xs) (k := k) (by rw [HL.out]; omega)
      obtain ⟨hx0, hx1⟩ := ok_get okx hx
      obtain ⟨bb, off, rfl, hbk, hcx⟩ := hr.at_ (ints_get hx)
      have hcx1 := (hb.cell (p := ⟨bb, off + k, none⟩) hbk).trans hcx
      have HST := Lib.hid (divL_step (b := b) hx)
      obtain ⟨g, hg, _, _, hc2, hc3⟩ := own_get hown (div_get k _)
      obtain rfl : w.heap.size = g := by simpa using hg
      have HO := Lib.hid (own_put hown k (.int .i64 ((r * 1000000 + x) / b)))
      have HB := Lib.hid hb
      have hkn : k < n := by omega
      have hm0 := Int.emod_nonneg (r * 1000000 + x) (show b ≠ 0 by omega)
      have hm1 := Int.emod_lt_of_pos (r * 1000000 + x) (show 0 < b by omega)
      clear hx hcx hb hown hg
      go_wp2_with fail
      go_region
      go_wp2_with fail
      go_roundw
      case rel =>
        refine ⟨k, _, rfl, rfl, by omega, hm0, hm1, ?_, ?_, (HB.out.setCell (p := ⟨w.heap.size, k, none⟩) (Nat.le_refl _) _).drew⟩
        · rw [HST.out, HR.out]; exact Lib.hid rfl
        · rw [HST.out, HR.out, ← div_set]; exact HO.out
      case measure => simp only [intOf]; omega
/-- A slice of slices of integers: its cells are slice values, and each reads as a list. -/
def RdL (w : World) (A : Option Addr) (n : Nat) (xss : List (List Int)) : Prop :=
  ∃ vs : List Value, Rd w A n vs ∧ vs.length = xss.length ∧ ∀ (i : Nat) (v : Value) (xs : List Int), vs[i]? = some v → xss[i]? = some xs → ∃ A' n' c', v = .slice A' n' c' ∧ n' ≤ 1000000000 ∧ Rd w A' n' (ints xs)
theorem RdL.len {w : World} {A : Option Addr} {n : Nat} {xss : List (List Int)} (h : RdL w A n xss) : xss.length = n := by
  obtain ⟨vs, h1, h2, _⟩ := h; rw [← h2, h1.1]
theorem RdL.at_ {w : World} {A : Option Addr} {n k : Nat} {xss : List (List Int)} {xs : List Int} (h : RdL w A n xss) (hx : xss[k]? = some xs) :
    ∃ b off A' n' c', A = some ⟨b, off, none⟩ ∧ b < w.heap.size ∧ w.cell? ⟨b, off + k, none⟩ = some (.slice A' n' c') ∧ n' ≤ 1000000000 ∧ Rd w A' n' (ints xs) := by
  obtain ⟨vs, h1, h2, h3⟩ := h
  have hk : k < vs.length := by rw [h2]; exact (List.getElem?_eq_some_iff.1 hx).1
  obtain ⟨v, hv⟩ := get_some hk
  obtain ⟨A', n', c', rfl, hn', hr'⟩ := h3 k v xs hv hx
  obtain ⟨b, off, e, hb, hc⟩ := h1.at_ hv
  exact ⟨b, off, A', n', c', e, hb, hc, hn', hr'⟩
theorem RdL.below {w w' : World} {A : Option Addr} {n B : Nat} {xss : List (List Int)} (h : RdL w A n xss) (hb : Below B w w') (hB : w.heap.size ≤ B) : RdL w' A n xss := by
  obtain ⟨vs, h1, h2, h3⟩ := h
  refine ⟨vs, h1.below hb hB, h2, fun i v xs hv hx => ?_⟩
  obtain ⟨A', n', c', e, hn', hr'⟩ := h3 i v xs hv hx
  exact ⟨A', n', c', e, hn', hr'.below hb hB⟩
def allNat (xss : List (List Int)) : Bool := xss.all isNatB
set_option maxHeartbeats 400000 in
theorem naturals1_any (w : World) (A : Option Addr) (n c : Nat) (xs : List Int) (hr : Rd w A n (ints xs)) (hn : n ≤ 1000000000) :
    Calls Try.prog 72 #[.slice A n c] w fun e w' => e = .returned (.bool (!isNatB xs)) ∧ w = w' := by
  go_enter Try.func72, Try.ntmps72
  go_wp2_with (go_at_call 69; refine (isNatural_any _ _ _ _ _ hr (by omega)).mono ?_; rintro e w' ⟨rfl, rfl⟩)
  go_ret
  exact ⟨rfl, rfl⟩
theorem allNat_take_step {xss : List (List Int)} {k : Nat} {xs : List Int} (h : allNat (xss.take k) = true) (hx : xss[k]? = some xs) (hn : isNatB xs = true) : allNat (xss.take (k + 1)) = true := by
  rw [List.take_add_one, hx]
  simp only [allNat, List.all_append, Bool.and_eq_true] at h ⊢
  exact ⟨h, by simp [hn]⟩
theorem allNat_out {xss : List (List Int)} {k : Nat} {xs : List Int} (hx : xss[k]? = some xs) (hn : isNatB xs = false) : allNat xss = false := by
  obtain ⟨hk, rfl⟩ := List.getElem?_eq_some_iff.1 hx
  simp only [allNat, List.all_eq_false]
  exact ⟨_, List.getElem_mem hk, by simp [hn]⟩
/-- The index that a search returns: not negative just where something was found. -/
def Found (w : World) (bad : Bool) (e : Ending) (w' : World) : Prop := ∃ i : Int, e = .returned (.int .i64 i) ∧ decide (0 ≤ i) = bad ∧ w = w'
set_option maxHeartbeats 1000000 in
theorem indexFunc_any (w : World) (A : Option Addr) (n c : Nat) (xss : List (List Int)) (hr : RdL w A n xss) (hn : n ≤ 1000000000) :
    Calls Try.prog 92 #[.slice A n c, .func (.func 72) #[] #[]] w (Found w (!allNat xss)) := by
  have HL : Hid (xss.length = n) := Lib.hid hr.len
  go_enter Try.func92, Try.ntmps92
  go_wp2_with fail
  go_loop [8] (fun q => ∃ k : Nat, k ≤ n ∧ q = .int .i64 k ∧ Hid (allNat (xss.take k) = true)) (fun q => n - (intOf q).toNat)
  case atStart => exact ⟨0, Nat.zero_le _, rfl, Lib.hid (by simp [allNat])⟩
  case round =>
    obtain ⟨k, hk, rfl, hall⟩ := hrel
    by_cases h1 : k < n
    · obtain ⟨xs, hx⟩ := get_some (xs := xss) (k := k) (by rw [HL.out]; omega)
      obtain ⟨b, off, A', n', c', rfl, hbk, hcx, hn', hr'⟩ := hr.at_ hx
      have HX := Lib.hid hx
      clear hx
      by_cases hin : isNatB xs = true
      · go_wp2_with (go_at_call 72; refine (naturals1_any _ _ _ _ _ hr' hn').mono ?_; rintro e w' ⟨rfl, rfl⟩)
        go_round
        case rel => exact ⟨k + 1, by omega, by go_num, Lib.hid (allNat_take_step hall.out HX.out hin)⟩
        case measure => simp [intOf]; omega
      · have hin' : isNatB xs = false := by simpa using hin
        clear hin
        go_wp2_with (go_at_call 72; refine (naturals1_any _ _ _ _ _ hr' hn').mono ?_; rintro e w' ⟨rfl, rfl⟩)
        go_ret
        exact ⟨k, rfl, by rw [allNat_out HX.out hin']; simp, rfl⟩
    · go_wp2_with fail
      go_ret
      have h := hall.out
      rw [List.take_of_length_le (by rw [HL.out]; omega)] at h
      exact ⟨-1, rfl, by rw [h]; rfl, rfl⟩
set_option maxHeartbeats 400000 in
theorem containsFunc_any (w : World) (A : Option Addr) (n c : Nat) (xss : List (List Int)) (hr : RdL w A n xss) (hn : n ≤ 1000000000) :
    Calls Try.prog 71 #[.slice A n c, .func (.func 72) #[] #[]] w fun e w' => e = .returned (.bool (!allNat xss)) ∧ w = w' := by
  go_enter Try.func71, Try.ntmps71
  go_wp2_with fail
  refine (indexFunc_any _ _ _ _ _ hr hn).mono ?_
  rintro e w' ⟨i, rfl, hi, rfl⟩
  have HI := Lib.hid hi; clear hi
  go_wp2_with fail
  go_ret
  exact ⟨by rw [← HI.out]; rfl, rfl⟩
set_option maxHeartbeats 400000 in
theorem naturals_any (w : World) (A : Option Addr) (n c : Nat) (xss : List (List Int)) (hr : RdL w A n xss) (hn : n ≤ 1000000000) :
    Calls Try.prog 39 #[.slice A n c] w fun e w' => e = .returned (.bool (allNat xss)) ∧ w = w' := by
  go_enter Try.func39, Try.ntmps39
  go_wp2_with (go_at_call 71; refine (containsFunc_any _ _ _ _ _ hr hn).mono ?_; rintro e w' ⟨rfl, rfl⟩)
  go_ret
  exact ⟨by simp, rfl⟩
theorem own_len_le {w : World} {base e n X m : Nat} {v : Value} (h : w.ownsRow base e 1 v n (ints (limbs X))) (hX : (limbs X).length ≤ m) : n ≤ m := by rw [← own_limb_len h]; exact hX
set_option maxHeartbeats 1000000 in
theorem compareNaturals_any (w : World) (A : Option Addr) (n c : Nat) (X : Nat) (hr : Rd w A n (ints (limbs X))) (hn : n ≤ 1000000) (A' : Option Addr) (n' c' : Nat) (Y : Nat) (hr' : Rd w A' n' (ints (limbs Y))) (hn' : n' ≤ 1000000) :
    Calls Try.prog 44 #[.slice A n c, .slice A' n' c'] w (RetV w (.int .i64 (cmpN X Y))) := by
  have HL : Hid ((limbs X).length = n) := Lib.hid (by simpa using hr.1)
  have HL' : Hid ((limbs Y).length = n') := Lib.hid (by simpa using hr'.1)
  by_cases he : n = n'
  · subst he
    have t0 : ((n : Int) != (n : Int)) = false := by simp
    go_enter Try.func44, Try.ntmps44
    go_wp2_with fail
    go_loopw [5] (fun i wr => ∃ j : Nat, i = .int .i64 ((j : Int) - 1) ∧ j ≤ n ∧ Hid ((limbs X).drop j = (limbs Y).drop j) ∧ Below w.heap.size w wr) (fun i _ => (intOf i + 1).toNat)
    case atStart => exact ⟨n, rfl, by omega, Lib.hid (by rw [List.drop_of_length_le (by rw [HL.out]; omega), List.drop_of_length_le (by rw [HL'.out]; omega)]), Below.refl _ _⟩
    case round =>
      obtain ⟨j, rfl, hj, HD, hb⟩ := hrel
      rcases Nat.eq_zero_or_pos j with h0 | h0
      · subst h0
        go_wp2_with fail
        go_ret
        have h := HD.out
        rw [List.drop_zero, List.drop_zero] at h
        exact ⟨by rw [cmp_same h]; rfl, hb⟩
      · obtain ⟨k, rfl⟩ : ∃ k, j = k + 1 := ⟨j - 1, by omega⟩
        have ek : (((k + 1 : Nat) : Int) - 1) = (k : Int) := by omega
        rw [ek]
        clear ek
        obtain ⟨x, hx⟩ := get_some (xs := limbs X) (k := k) (by rw [HL.out]; omega)
        obtain ⟨y, hy⟩ := get_some (xs := limbs Y) (k := k) (by rw [HL'.out]; omega)
        obtain ⟨b, off, rfl, hbk, hcx⟩ := hr.at_ (ints_get hx)
        obtain ⟨b', off', rfl, hbk', hcy⟩ := hr'.at_ (ints_get hy)
        have hcx1 := (hb.cell (p := ⟨b, off + k, none⟩) hbk).trans hcx
        have hcy1 := (hb.cell (p := ⟨b', off' + k, none⟩) hbk').trans hcy
        have HX := Lib.hid hx; have HY := Lib.hid hy; have HB := Lib.hid hb
        have hkn : k < n := by omega
        clear hx hy hcx hcy hb
        rcases Int.lt_trichotomy x y with hlt | heq | hgt
        · have t1 : (x != y) = true := by simp; omega
          have t2 : decide (x < y) = true := by simpa using hlt
          have HT := Lib.hid hlt; clear hlt
          go_wp2_with fail
          go_quiet (fail)
          go_wp2_with fail
          go_quiet (fail)
          go_wp2_with fail
          go_ret
          exact ⟨by rw [cmp_at_less HX.out HY.out HD.out HT.out]; rfl, by have := HB.out; exact ⟨this.os, this.tape, this.output, this.size, this.block⟩⟩
        · subst heq
          have t1 : (x != x) = false := by simp
          go_wp2_with fail
          go_quiet (fail)
          go_wp2_with fail
          go_roundw
          case rel => exact ⟨k, rfl, by omega, Lib.hid (drop_step HX.out HY.out HD.out), by have := HB.out; exact ⟨this.os, this.tape, this.output, this.size, this.block⟩⟩
          case measure => simp only [intOf]; omega
        · have t1 : (x != y) = true := by simp; omega
          have t2 : decide (x < y) = false := by simp; omega
          have HT := Lib.hid hgt; clear hgt
          go_wp2_with fail
          go_quiet (fail)
          go_wp2_with fail
          go_quiet (fail)
          go_wp2_with fail
          go_ret
          exact ⟨by rw [cmp_at_more HX.out HY.out HD.out HT.out]; rfl, by have := HB.out; exact ⟨this.os, this.tape, this.output, this.size, this.block⟩⟩
  · have t0 : ((n : Int) != (n' : Int)) = true := by simp; omega
    by_cases hlt : n < n'
    · have HF := Lib.hid (cmp_short (a := X) (b := Y) (by rw [HL.out, HL'.out]; exact hlt))
      clear he
      go_enter Try.func44, Try.ntmps44
      go_wp2_with fail
      go_ret
      exact ⟨by rw [HF.out]; rfl, Below.refl _ _⟩
    · have HF := Lib.hid (cmp_long (a := X) (b := Y) (by rw [HL.out, HL'.out]; omega))
      clear he
      go_enter Try.func44, Try.ntmps44
      go_wp2_with fail
      go_ret
      exact ⟨by rw [HF.out]; rfl, Below.refl _ _⟩
/-- A search by halves: the greatest digit of which the question is answered with yes. -/
def Digit (w : World) (P : Int → Bool) (e : Ending) (w' : World) : Prop := ∃ d : Int, e = .returned (.int .i64 d) ∧ 0 ≤ d ∧ d < 1000000 ∧ P d = true ∧ P (d + 1) = false ∧ Below w.heap.size w w'
theorem ints_set (ds : List Int) (j : Nat) (d : Int) : (ints ds).set j (.int .i64 d) = ints (ds.set j d) := by simp only [ints, List.map_set]
end Go.Proofs.Ytfjlbfnjnkaooaa
