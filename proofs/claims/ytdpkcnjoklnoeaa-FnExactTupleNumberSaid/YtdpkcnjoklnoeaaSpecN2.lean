/- Contracts of the reference's functions on naturals: products, small numbers. -/
import Derived.Test.YtdpkcnjoklnoeaaSpecN
namespace Go.Proofs.Ytdpkcnjoklnoeaa
open Go.RowKit Limb

set_option maxHeartbeats 400000 in
theorem l02Of_any (w : World) (x : Int) (h1 : x ≤ 1000000000000) :
    Calls Try.prog 52 #[.int .i64 x] w (RetS w 2 (ints (limbs x.toNat))) := by
  go_enter Try.func52, Try.ntmps52
  go_wp2_with fail
  go_loopw [0, 3] (fun q v wr => ∃ (y : Int) (out : List Int), q = .int .i64 y ∧ y ≤ x ∧ Hid (limbs x.toNat = out ++ limbs y.toNat) ∧ out.length + y.toNat ≤ x.toNat ∧ wr.ownsRow w.heap.size 2 1 v out.length (ints out) ∧ Below w.heap.size w wr) (fun q _ _ => (intOf q).toNat)
  case atStart =>
    refine ⟨x, [], rfl, by omega, Lib.hid (by simp), by simp, ?_, ?_⟩
    · exact World.ownsRow_lit (base := w.heap.size) w #[] 0 (Nat.le_refl _) (by unfold maxLen; omega) rfl
    · exact (Below.refl _ _).alloc (Nat.le_refl _) _
  case round =>
    obtain ⟨y, out, rfl, hyx, hl, hlen, hown, hb⟩ := hrel
    obtain ⟨Ao, co, rfl, hco, _⟩ := own_form hown
    have hbs := hb.size
    by_cases hy : 0 < y
    · go_wp2_with (at_builtin; go_must (refine wpList_app1 Try.eltI rfl _ _ rfl wr w.heap.size _ out.length _ (by rfl) hown _ (by rfl) (by rfl) (by omega) (by omega) ?_); rintro A1 c1 w1 hown1 hb1)
      go_roundw
      case rel =>
        refine ⟨_, out ++ [_], rfl, by omega, ?_, by simp; omega, by rw [ints_snoc] at hown1; rw [List.length_append]; exact hown1, hb.trans hb1⟩
        rw [hl.out, limbs_pos (by omega)]
        refine Lib.hid ?_
        rw [show ((y.toNat % 1000000 : Nat) : Int) = y % 1000000 by omega, show y.toNat / 1000000 = (y / 1000000).toNat by omega]; simp
      case measure => simp [intOf]; omega
    · go_wp2_with fail
      go_ret
      have e : limbs x.toNat = out := by rw [hl.out, show y.toNat = 0 by omega, limbs_zero, List.append_nil]
      rw [e]
      exact ⟨Ao, _, co, rfl, hown, hb⟩

theorem set_mid (done mid os : List Int) (o v : Int) (p : Nat) (h : (done ++ mid).length = p) : (ints (done ++ (mid ++ o :: os))).set p (.int .i64 v) = ints (done ++ ((mid ++ [v]) ++ os)) := by
  subst h
  rw [← List.append_assoc]
  simp only [ints, List.map_append, List.map_cons, List.map_nil]
  rw [← List.map_append, List.set_append_right _ _ (by simp)]
  simp
theorem get_mid (done mid os : List Int) (o : Int) (p : Nat) (h : (done ++ mid).length = p) : (ints (done ++ (mid ++ o :: os)))[p]? = some (.int .i64 o) := by
  refine ints_get ?_
  rw [← List.append_assoc, List.getElem?_append_right (by omega), h]; simp

set_option maxHeartbeats 2000000 in
theorem l02Mul_any (w : World) (A : Option Addr) (n c : Nat) (xs : List Int) (hr : Rd w A n (ints xs)) (hn : n ≤ 1000000000)
    (A' : Option Addr) (n' c' : Nat) (ys : List Int) (hr' : Rd w A' n' (ints ys)) (hn' : n' ≤ 1000000000) (okx : Ok xs) (oky : Ok ys) :
    Calls Try.prog 51 #[.slice A n c, .slice A' n' c'] w (RetS w 2 (ints (trim (mulL ys xs (zs (n + n' + 1)))))) := by
  have hlen : xs.length = n := by simpa using hr.1
  have hlen' : ys.length = n' := by simpa using hr'.1
  have HL := Lib.hid hlen; have HL' := Lib.hid hlen'; clear hlen hlen'
  go_enter Try.func51, Try.ntmps51
  go_wp2_with (at_make; go_must (refine wpList_mk Try.eltI rfl _ _ rfl w _ _ (n + n' + 1) (by rfl) (by rfl) (by omega) (by omega) (by omega) ?_); rintro w1 hown1 hb1 hs1)
  rw [show List.replicate (n + n' + 1) (Value.int .i64 0) = ints (zs (n + n' + 1)) by simp [zs]] at hown1
  generalize hT : n + n' + 1 = T at hown1
  have HT := Lib.hid hT
  go_loopw [6] (fun i wr => ∃ (k : Nat) (done rest : List Int), i = .int .i64 k ∧ k ≤ n ∧ Hid (MulRel ys xs (zs T) k done rest) ∧ wr.ownsRow w.heap.size 2 1 (.slice (some ⟨w.heap.size, 0, none⟩) T T) T (ints (done ++ rest)) ∧ Below w.heap.size w wr) (fun i _ => n - (intOf i).toNat)
  case atStart =>
    refine ⟨0, [], zs T, rfl, by omega, Lib.hid (MulRel.start (ok_zeros _) (zeros_far _ _)), by simpa using hown1, hb1⟩
  case round =>
    obtain ⟨k, done, rest, rfl, hk, hm, hown, hb⟩ := hrel
    clear hown1 hb1 hs1
    by_cases h1 : k < n
    · obtain ⟨x, hx⟩ := get_some (xs := xs) (k := k) (by rw [HL.out]; omega)
      obtain ⟨hx0, hx1⟩ := ok_get okx hx
      obtain ⟨b, off, rfl, hbk, hcx⟩ := hr.at_ (ints_get hx)
      have HX := Lib.hid hx; have HC := Lib.hid hcx
      clear hx hcx
      have hrl : Hid (n' < rest.length) := by
        obtain ⟨e1, _, _, _, e2⟩ := hm.out
        have : (zs T).length = T := by simp [zs]
        refine Lib.hid ?_
        have := HT.out
        omega
      obtain ⟨wo, rfl⟩ : ∃ wo : World, wo = wr := ⟨_, rfl⟩
      go_wp2_with fail
      go_loopw [7, 8, 9] (fun q i _ wr => ∃ (j : Nat) (cc : Int) (mid rest2 : List Int), i = .int .i64 j ∧ q = .int .i64 cc ∧ j ≤ n' + 1 ∧ 0 ≤ cc ∧ cc < 1000000 ∧ Hid (RowRel ys x rest j cc mid rest2) ∧ wr.ownsRow w.heap.size 2 1 (.slice (some ⟨w.heap.size, 0, none⟩) T T) T (ints (done ++ (mid ++ rest2))) ∧ Below w.heap.size w wr) (fun _ i _ _ => n' + 1 - (intOf i).toNat)
      case atStart => exact ⟨0, 0, [], rest, rfl, rfl, by omega, by omega, by omega, Lib.hid (RowRel.start hm.out.2.2.1 hm.out.2.2.2.1), by simpa using hown, hb⟩
      case round =>
        obtain ⟨j, cc, mid, rest2, rfl, rfl, hj, hcc0, hcc1, hrow, hown2, hb2⟩ := hrel
        clear hown hb
        by_cases h2 : j < n'
        · obtain ⟨y, hy⟩ := get_some (xs := ys) (k := j) (by rw [HL'.out]; omega)
          obtain ⟨hy0, hy1⟩ := ok_get oky hy
          obtain ⟨b', off', rfl, hbk', hcy⟩ := hr'.at_ (ints_get hy)
          have hcx1 := (hb2.cell (p := ⟨b, off + k, none⟩) hbk).trans HC.out
          have hcy1 := (hb2.cell (p := ⟨b', off' + j, none⟩) hbk').trans hcy
          obtain ⟨hjn, o, os, rfl, ho0, ho1⟩ := hrow.out.head (.inl (by rw [HL'.out]; omega)) (by rw [HL'.out]; exact hrl.out)
          obtain ⟨p1, p2, p3, p4⟩ := limb_prod ⟨hx0, hx1⟩ ⟨hy0, hy1⟩ ⟨ho0, ho1⟩ ⟨hcc0, hcc1⟩
          have hdm : (done ++ mid).length = k + j := by rw [List.length_append, hm.out.1, hrow.out.1]
          have hget := get_mid done mid os o (k + j) hdm
          obtain ⟨g, hg, _, _, hc2, hc3⟩ := own_get hown2 hget
          obtain rfl : w.heap.size = g := by simpa using hg
          have HS := Lib.hid (own_put hown2 (k + j) (.int .i64 ((o + cc + x * y) % 1000000)))
          have HDM := Lib.hid hdm; have HY := Lib.hid hy; have hkT : k + j < T := by
            have h3 := hown2.1
            simp at h3
            have := HDM.out
            simp at this
            omega
          have HB := Lib.hid hb2
          clear hdm hget hown2 hy hcy hg hb2 hjn
          have q1 : IntKind.i64.wrap (x * y) = x * y := IntWalk.i64_in _ (by omega)
          have q2 : IntKind.i64.wrap (o + cc + x * y) = o + cc + x * y := IntWalk.i64_in _ (by omega)
          go_wp2_with fail
          go_quiet (fail)
          go_wp2_with fail
          go_roundw
          case rel => exact ⟨j + 1, _, mid ++ [_], os, by go_num, rfl, by omega, by omega, by omega, Lib.hid (hrow.out.stepIn ⟨hx0, hx1⟩ ⟨hy0, hy1⟩ HY.out), by rw [← set_mid done mid os o _ _ HDM.out]; exact HS.out, below_drewN (HB.out.setCell (p := ⟨w.heap.size, k + j, none⟩) (Nat.le_refl _) _) _⟩
          case measure => simp [intOf]; omega
        · by_cases h3 : 0 < cc
          · obtain ⟨hjn, o, os, rfl, ho0, ho1⟩ := hrow.out.head (.inr h3) (by rw [HL'.out]; exact hrl.out)
            have hjn' : j ≤ n' := by have := HL'.out; omega
            have hdm : (done ++ mid).length = k + j := by rw [List.length_append, hm.out.1, hrow.out.1]
            have hget := get_mid done mid os o (k + j) hdm
            obtain ⟨g, hg, _, _, hc2, hc3⟩ := own_get hown2 hget
            obtain rfl : w.heap.size = g := by simpa using hg
            have HS := Lib.hid (own_put hown2 (k + j) (.int .i64 ((o + cc) % 1000000)))
            have HDM := Lib.hid hdm
            have hkT : k + j < T := by
              have h3 := hown2.1
              simp at h3
              have := HDM.out
              simp at this
              omega
            have HB := Lib.hid hb2
            clear hdm hget hown2 hg hb2 hjn
            go_wp2_with fail
            go_roundw
            case rel => exact ⟨j + 1, _, mid ++ [_], os, by go_num, rfl, by omega, by omega, by omega, Lib.hid (hrow.out.stepOut (by rw [HL'.out]; omega) h3), by rw [← set_mid done mid os o _ _ HDM.out]; exact HS.out, HB.out.setCell (Nat.le_refl _) _⟩
            case measure => simp [intOf]; omega
          · go_wp2_with fail
            obtain ⟨o, os, he, hm'⟩ := hm.out.step oky HX.out ⟨hx0, hx1⟩ (by rw [HL.out, HL'.out]; have := HT.out; simp [zs]; omega) (hrow.out.stop (by rw [HL'.out]; omega) h3)
            go_roundw
            case rel => exact ⟨k + 1, done ++ [o], os, by go_num, by omega, Lib.hid hm', by rw [he] at hown2; simpa using hown2, hb2⟩
            case measure => simp [intOf]; omega
    · go_wp2_with (go_at_call 83; refine (l02Trim_any _ w.heap.size _ T T _ hown (by have := HT.out; omega)).mono ?_; rintro e w2 ⟨rfl, rfl⟩)
      go_ret
      rw [show n + n' + 1 = T from HT.out, hm.out.stop (by rw [HL.out]; omega)]
      exact ⟨some ⟨w.heap.size, 0, none⟩, _, T, rfl, own_trim hown, hb⟩
end Go.Proofs.Ytdpkcnjoklnoeaa
