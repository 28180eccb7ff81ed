/- Proofs by contexts: lists of lists, the program's small functions. -/
import Derived.Test.YtjgajjcgapifoaaCmpW
import Derived.Test.YtjgajjcgapifoaaCfgJ
import Derived.Test.YtjgajjcgapifoaaPrfN
namespace Go.Proofs.Ytjgajjcgapifoaa
open Go.RowKit
set_option linter.unusedVariables false
set_option linter.unusedSimpArgs false
/-- The blocks of rows. -/
def FU (us : List Value) (k : Nat) : Prop := ∃ u ∈ us, Fo u k
theorem inner_fu {w : World} {F : Nat → Prop} {us : List Value} {xss : List (List Int)} (h : InnerP w F us xss) : InnerP w (FU us) us xss := by
  obtain ⟨h1, h2, h3⟩ := h
  refine ⟨h1, fun i u xs hu hx => ?_, h3⟩
  obtain ⟨A, n, c, rfl, hn, ho, _⟩ := h2 i u xs hu hx
  exact ⟨A, n, c, rfl, hn, ho, fun k hk => ⟨_, List.mem_of_getElem? hu, hk⟩⟩
theorem own_fo {w : World} {base e s n : Nat} {v : Value} {vs : List Value} (h : w.ownsRow base e s v n vs) {k : Nat} (hk : Fo v k) : ∃ cs, w.heap[k]? = some (.cells cs e (0, 0)) := by
  rcases h.2 with ⟨rfl, _⟩ | ⟨g, _, cs, rfl, _, hg, _⟩
  · cases hk
  · have e1 : g = k := by simpa [Fo, Value.ownBlock] using hk
    exact ⟨cs, e1 ▸ hg⟩
theorem inner_fo {w : World} {F : Nat → Prop} {us : List Value} {xss : List (List Int)} (h : InnerP w F us xss) {k : Nat} (hk : FU us k) : ∃ cs, w.heap[k]? = some (.cells cs 2 (0, 0)) := by
  obtain ⟨u, hu, hf⟩ := hk
  obtain ⟨i, hi, rfl⟩ := List.mem_iff_getElem.1 hu
  obtain ⟨xs, hx⟩ := get_some (xs := xss) (k := i) (by rw [← h.1]; exact hi)
  obtain ⟨A, n, c, e, _, ho, _⟩ := h.2.1 i _ xs (List.getElem?_eq_getElem hi) hx
  rw [e] at hf
  exact own_fo ho hf
theorem fu_types {w : World} {F : Nat → Prop} {base n : Nat} {v : Value} {vs us : List Value} {xss : List (List Int)} (ho : w.ownsRow base 25 1 v n vs) (h : InnerP w F us xss) (k : Nat) (h1 : FU us k) (h2 : Fo v k) : False := by
  obtain ⟨cs, hc⟩ := inner_fo h h1
  obtain ⟨ds, hd⟩ := own_fo ho h2
  exact blk_ne hc hd (by decide) rfl
/-- A list of rows that is being built, from block lo on. -/
def Bld (w : World) (lo : Nat) (A : Option Addr) (n c : Nat) (xss : List (List Int)) : Prop :=
  ∃ us, w.ownsRow lo 25 1 (.slice A n c) n us ∧ InnerP w (FU us) us xss ∧ ∀ k, FU us k → lo ≤ k ∧ k < w.heap.size
theorem Bld.ownp {w : World} {lo n c : Nat} {A : Option Addr} {xss : List (List Int)} (h : Bld w lo A n c xss) : OwnP w (InR lo w.heap.size) A n c xss := by
  obtain ⟨us, h1, h2, h3⟩ := h
  exact ⟨us, ownN_base h1 (Nat.zero_le _), fun k hk => h1.lt k hk, h2.mono h3, fun k hk => hk.2⟩
theorem Bld.ch {w w' : World} {lo n c : Nat} {A : Option Addr} {xss : List (List Int)} {F : Nat → Prop} (h : Bld w lo A n c xss) (hc : Ch F w w') (hd : ∀ k, lo ≤ k → k < w.heap.size → ¬ F k) : Bld w' lo A n c xss := by
  obtain ⟨us, h1, h2, h3⟩ := h
  refine ⟨us, own_ch h1 hc (fun k h4 h5 => hd k (h1.lt k h4).1 (h1.lt k h4).2 h5), h2.ch hc (fun k h4 h5 => hd k (h3 k h4).1 (h3 k h4).2 h5), fun k hk => ⟨(h3 k hk).1, Nat.lt_of_lt_of_le (h3 k hk).2 hc.size⟩⟩
theorem Bld.below {w w' : World} {lo n c : Nat} {A : Option Addr} {xss : List (List Int)} (h : Bld w lo A n c xss) (hb : Below w.heap.size w w') : Bld w' lo A n c xss := h.ch (ch_below (F := fun _ => False) hb) (fun _ _ _ h => h)
theorem Bld.len {w : World} {lo n c : Nat} {A : Option Addr} {xss : List (List Int)} (h : Bld w lo A n c xss) : xss.length = n := h.ownp.len
theorem Bld.nil (w : World) (T : TypeId) (hT : T = 25) : Bld (w.alloc (.cells #[] T)) w.heap.size (some ⟨w.heap.size, 0, none⟩) 0 0 [] := by
  subst hT
  exact ⟨[], by simpa using own_lit w #[] 0 25 rfl (by omega), InnerP.nil _ _, fun k hk => by obtain ⟨u, hu, _⟩ := hk; simp at hu⟩
theorem Bld.nil0 (w : World) (lo : Nat) : Bld w lo none 0 0 [] := ⟨[], own_nil _ _ _, InnerP.nil _ _, fun k hk => by obtain ⟨u, hu, _⟩ := hk; simp at hu⟩
/-- One row more: a call made it, an append lays it. -/
theorem Bld.step {w w2 : World} {lo k c n2 c2 : Nat} {A A2 : Option Addr} {xss : List (List Int)} {xs : List Int} (h : Bld w lo A k c xss) (hb : Below w.heap.size w w2) (ho : w2.ownsRow w.heap.size 2 1 (.slice A2 n2 c2) n2 (ints xs)) (hn : n2 ≤ 1000000000) (hlo : lo ≤ w.heap.size) :
    ∃ us, w2.ownsRow lo 25 1 (.slice A k c) k us ∧ ∀ A4 c4 w4, w4.ownsRow lo 25 1 (.slice A4 (k + 1) c4) (k + 1) (us ++ [.slice A2 n2 c2]) → w2.grownBy w4 (Value.slice A k c).ownBlock → Bld w4 lo A4 (k + 1) c4 (xss ++ [xs]) := by
  obtain ⟨us, h1, h2, h3⟩ := h
  have h1' := ownN_below h1 hb (Nat.le_refl _)
  have h2' := h2.ch (ch_below (F := fun _ => False) hb) (fun _ _ h => h)
  have hs := h2'.snoc (G := FU (us ++ [.slice A2 n2 c2])) ho hn (fun q a b => by have := (h3 q a).2; have := (ho.lt q b).1; omega) (fun q hq => by obtain ⟨u, hu, hf⟩ := hq; exact ⟨u, by simp [hu], hf⟩) (fun q hq => ⟨_, by simp, hq⟩)
  refine ⟨us, h1', fun A4 c4 w4 ho4 hg4 => ⟨_, ho4, hs.ch (ch_row hg4) (fun q a b => fu_types h1' hs q a b), fun q hq => ?_⟩⟩
  obtain ⟨u, hu, hf⟩ := hq
  have hsz := hg4.size
  have hsb := hb.size
  rcases List.mem_append.1 hu with hu | hu
  · have := h3 q ⟨u, hu, hf⟩; omega
  · simp at hu; subst hu; have := ho.lt q hf; omega
set_option maxHeartbeats 1000000 in
theorem areLists1_any (w : World) (A : Option Addr) (n c : Nat) (xs : List Int) (hr : Rd w A n (ints xs)) (hn : n ≤ 1000000000) (g1 g2 T1 T2 : Nat) (m g : Int) (h1 : w.heap[g1]? = some (.cells #[.int .i64 m] T1 (0, 0))) (h2 : w.heap[g2]? = some (.cells #[.int .i64 g] T2 (0, 0))) :
    Calls Try.prog 123 #[.slice A n c, .pointer (some ⟨g1, 0, none⟩), .pointer (some ⟨g2, 0, none⟩)] w (RetV w (.bool (!lenB m g xs))) := by
  have hl : xs.length = n := by simpa using hr.1
  have q0 := blk_cell h1 0 (v := .int .i64 m) rfl
  have p0 := blk_cell h2 0 (v := .int .i64 g) rfl
  clear h1 h2
  by_cases h : (n : Int) = m
  · have hne : ((n : Int) != m) = false := by simp [h]
    have HO : Hid (lenB m g xs = allIn xs 0 g) := Lib.hid (by simp [lenB, hl, h])
    clear h hl
    go_enter Try.func123, Try.ntmps123
    go_wp2_with (go_at_call 77; refine (allWithin_any _ _ _ _ xs hr (by omega) _ _).mono ?_; rintro e w' ⟨rfl, rfl⟩)
    go_ret
    exact ⟨by rw [HO.out]; rfl, Below.refl _ _⟩
  · have hne : ((n : Int) != m) = true := by simpa using h
    have HO : Hid (lenB m g xs = false) := Lib.hid (by simp [lenB, hl, h])
    clear h hl
    go_enter Try.func123, Try.ntmps123
    go_wp2_with fail
    go_ret
    exact ⟨by rw [HO.out]; rfl, Below.refl _ _⟩
set_option maxHeartbeats 1000000 in
theorem indexFuncAL (w : World) (A : Option Addr) (n c : Nat) (ps : List (List Int)) (hr : RdL w A n ps) (hn : n ≤ 1000000000) (g1 g2 T1 T2 : Nat) (m g : Int) (h1g : w.heap[g1]? = some (.cells #[.int .i64 m] T1 (0, 0))) (h2g : w.heap[g2]? = some (.cells #[.int .i64 g] T2 (0, 0))) :
    Calls Try.prog 148 #[.slice A n c, .func (.func 123) #[] #[.pointer (some ⟨g1, 0, none⟩), .pointer (some ⟨g2, 0, none⟩)]] w (FoundN w (!ps.all (lenB m g))) := by
  have HL : Hid (ps.length = n) := Lib.hid (hr.len)
  go_enter Try.func148, Try.ntmps148
  go_wp2_with fail
  go_loopw [8] (fun q wr => ∃ k : Nat, k ≤ n ∧ q = .int .i64 k ∧ Hid ((ps.take k).all (lenB m g) = true) ∧ Below w.heap.size w wr) (fun q _ => n - (intOf q).toNat)
  case atStart => exact ⟨0, Nat.zero_le _, rfl, Lib.hid (by simp), Below.refl _ _⟩
  case round =>
    obtain ⟨k, hk, rfl, hall, hb⟩ := hrel
    by_cases h1 : k < n
    · obtain ⟨x, hx⟩ := get_some (xs := ps) (k := k) (by rw [HL.out]; omega)
      obtain ⟨b, off, A', n', c', rfl, hbs, hc, hn', hr'⟩ := hr.at_ hx
      replace hc := (hb.cell (p := ⟨b, off + k, none⟩) hbs).trans hc
      replace hr' := hr'.below hb (Nat.le_refl _)
      have HX := Lib.hid hx
      clear hx
      by_cases hin : (lenB m g) x = true
      · go_wp2_with (go_at_call 123; refine (areLists1_any _ _ _ _ x hr' hn' g1 g2 T1 T2 m g (blk_below h1g hb (blk_lt h1g)) (blk_below h2g hb (blk_lt h2g))).mono ?_; rintro e w' ⟨rfl, hb2⟩)
        go_roundw
        case rel => exact ⟨k + 1, by omega, by go_num, Lib.hid (all_step hall.out HX.out hin), hb.trans (hb2.mono hb.size)⟩
        case measure => simp [intOf]; omega
      · have hin' : (lenB m g) x = false := by simpa using hin
        clear hin
        go_wp2_with (go_at_call 123; refine (areLists1_any _ _ _ _ x hr' hn' g1 g2 T1 T2 m g (blk_below h1g hb (blk_lt h1g)) (blk_below h2g hb (blk_lt h2g))).mono ?_; rintro e w' ⟨rfl, hb2⟩)
        go_ret
        exact ⟨k, rfl, by rw [all_out HX.out hin']; simp, hb.trans (hb2.mono hb.size)⟩
    · go_wp2_with fail
      go_ret
      have h := hall.out
      rw [List.take_of_length_le (by rw [HL.out]; omega)] at h
      exact ⟨-1, rfl, by rw [h]; rfl, hb⟩
set_option maxHeartbeats 400000 in
theorem containsFuncAL (w : World) (A : Option Addr) (n c : Nat) (ps : List (List Int)) (hr : RdL w A n ps) (hn : n ≤ 1000000000) (g1 g2 T1 T2 : Nat) (m g : Int) (h1g : w.heap[g1]? = some (.cells #[.int .i64 m] T1 (0, 0))) (h2g : w.heap[g2]? = some (.cells #[.int .i64 g] T2 (0, 0))) :
    Calls Try.prog 122 #[.slice A n c, .func (.func 123) #[] #[.pointer (some ⟨g1, 0, none⟩), .pointer (some ⟨g2, 0, none⟩)]] w (RetV w (.bool (!ps.all (lenB m g)))) := by
  go_enter Try.func122, Try.ntmps122
  go_wp2_with fail
  refine (indexFuncAL _ _ _ _ _ hr hn g1 g2 T1 T2 m g h1g h2g).mono ?_
  rintro e w' ⟨i, rfl, hi, hb⟩
  have HI := Lib.hid hi; clear hi
  go_wp2_with fail
  go_ret
  exact ⟨by rw [← HI.out]; rfl, hb⟩
set_option maxHeartbeats 1000000 in
theorem areLists_any (w : World) (A : Option Addr) (n c : Nat) (xss : List (List Int)) (hr : RdL w A n xss) (hn : n ≤ 1000000000) (m g : Int) :
    Calls Try.prog 78 #[.slice A n c, .int .i64 m, .int .i64 g] w (RetV w (.bool (xss.all (lenB m g)))) := by
  have hb : Below w.heap.size w ((w.alloc (.cells #[.int .i64 m] 3)).alloc (.cells #[.int .i64 g] 2)) := (below_new w _).trans ((below_new _ _).mono (by simp))
  have HX0 := Lib.hid (blk_alloc (box_new w #[.int .i64 m] 3) (.cells #[.int .i64 g] 2))
  have HX1 : Hid (((w.alloc (.cells #[.int .i64 m] 3)).alloc (.cells #[.int .i64 g] 2)).heap[w.heap.size + 1]? = some (.cells #[.int .i64 g] 2 (0, 0))) := Lib.hid (by have h := box_new (w.alloc (.cells #[.int .i64 m] 3)) #[.int .i64 g] 2; simpa using h)
  have HR := Lib.hid (hr.below hb (Nat.le_refl _))
  have HB := Lib.hid hb
  clear hb
  go_enter Try.func78, Try.ntmps78
  go_wp2_with (go_at_call 122; refine (containsFuncAL _ _ _ _ xss HR.out hn w.heap.size (w.heap.size + 1) _ _ m g HX0.out HX1.out).mono ?_; rintro e w2 ⟨rfl, hb2⟩)
  go_ret
  exact ⟨by simp, HB.out.trans (hb2.mono HB.out.size)⟩
set_option maxHeartbeats 1000000 in
theorem copyLists_any (w : World) (A : Option Addr) (n c : Nat) (xss : List (List Int)) (hr : RdL w A n xss) (hn : n ≤ 1000000000) :
    Calls Try.prog 142 #[.slice A n c] w (RetP w xss) := by
  have HL : Hid (xss.length = n) := Lib.hid hr.len
  have H0 := Lib.hid (Bld.nil w _ rfl)
  have HB0 := Lib.hid (below_new w (.cells #[] 25))
  go_enter Try.func142, Try.ntmps142
  go_wp2_with fail
  go_loopw [3, 9] (fun q i wr => ∃ (k : Nat) (A3 : Option Addr) (c3 : Nat), k ≤ n ∧ i = .int .i64 k ∧ q = .slice A3 k c3 ∧ Bld wr w.heap.size A3 k c3 (xss.take k) ∧ Below w.heap.size w wr) (fun _ i _ => n - (intOf i).toNat)
  case atStart => exact ⟨0, _, _, by omega, rfl, rfl, by simpa using H0.out, HB0.out⟩
  case round =>
    obtain ⟨k, A3, c3, hk, rfl, rfl, hbl, hb⟩ := hrel
    by_cases hlt : k < n
    · have hlt' : (k : Int) < (n : Int) := by omega
      obtain ⟨xs, hx⟩ := get_some (xs := xss) (k := k) (by rw [HL.out]; exact hlt)
      obtain ⟨b, off, A', n', c', rfl, hbs, hc, hn', hr'⟩ := hr.at_ hx
      have hc1 := (hb.cell (p := ⟨b, off + k, none⟩) hbs).trans hc
      have HT : Hid (xss.take (k + 1) = xss.take k ++ [xs]) := Lib.hid (by rw [List.take_add_one, hx]; rfl)
      have HBL := Lib.hid hbl
      have HB := Lib.hid hb
      clear hx hc hbl
      go_wp2_with fail
      refine (clone_any _ _ _ _ xs (hr'.below hb (Nat.le_refl _)) (by omega)).mono ?_
      rintro e w2 ⟨A2, n2, c2, rfl, ho2, hb2⟩
      have hn2 : n2 ≤ 1000000000 := by have h1 := ho2.1; have h2 := hr'.1; simp at h1 h2; omega
      obtain ⟨us, hu1, hu2⟩ := HBL.out.step hb2 ho2 hn2 HB.out.size
      have HU2 := Lib.hid hu2
      have HB2 := Lib.hid (HB.out.trans (hb2.mono HB.out.size))
      clear hu2 ho2 hb2 hb hn2
      go_wp2_with (at_builtin; go_must (refine wpList_app1g Try.eltS rfl _ _ rfl w2 w.heap.size _ k us (by rfl) hu1 (.slice A2 n2 c2) rfl (by rfl) HB2.out.size (by omega) ?_); rintro A4 c4 w4 ho4 hb4 hg4)
      go_roundw
      case rel => exact ⟨k + 1, A4, c4, by omega, by go_num, rfl, by rw [HT.out]; exact HU2.out A4 c4 w4 ho4 hg4, HB2.out.trans hb4⟩
      case measure => simp [intOf]; omega
    · obtain rfl : k = n := by omega
      have HE : Hid (xss.take k = xss) := Lib.hid (List.take_of_length_le (by rw [HL.out]; omega))
      go_wp2_with fail
      go_ret
      rw [HE.out] at hbl
      exact ⟨A3, k, c3, _, rfl, hbl.ownp, fun q hq => hq, hb⟩
theorem stated_take {sts : List Int} {cs : List (List Int)} {k : Nat} {x : Int} {w : List Int} (h1 : sts[k]? = some x) (h2 : cs[k]? = some w) : (stated sts cs).take (k + 1) = (stated sts cs).take k ++ [x :: w] := by
  rw [List.take_add_one, stated_at h1 h2]; rfl
set_option maxHeartbeats 4000000 in
theorem stated_any (w : World) (A1 : Option Addr) (n c1 : Nat) (sts : List Int) (hr1 : Rd w A1 n (ints sts)) (hc1 : n ≤ c1) (A : Option Addr) (c : Nat) (xss : List (List Int)) (hr : RdL w A n xss) (hn : n ≤ 1000000000) (hs : ∀ xs ∈ xss, xs.length ≤ 100000) :
    Calls Try.prog 79 #[.slice A1 n c1, .slice A n c] w (RetP w (stated sts xss)) := by
  have HL : Hid (xss.length = n) := Lib.hid hr.len
  have HL1 : Hid (sts.length = n) := Lib.hid (by simpa using hr1.1)
  have H0 := Lib.hid (Bld.nil w _ rfl)
  have HB0 := Lib.hid (below_new w (.cells #[] 25))
  have HS := Lib.hid hs
  have HSL : Hid ((stated sts xss).length = n) := Lib.hid (by rw [stated_len (by rw [HL.out, HL1.out]), HL.out])
  clear hs
  go_enter Try.func79, Try.ntmps79
  go_wp2_with fail
  go_loopw [5, 11] (fun q i wr => ∃ (k : Nat) (A3 : Option Addr) (c3 : Nat), k ≤ n ∧ i = .int .i64 k ∧ q = .slice A3 k c3 ∧ Bld wr w.heap.size A3 k c3 ((stated sts xss).take k) ∧ Below w.heap.size w wr) (fun _ i _ => n - (intOf i).toNat)
  case atStart => exact ⟨0, _, _, by omega, rfl, rfl, by simpa using H0.out, HB0.out⟩
  case round =>
    obtain ⟨k, A3, c3, hk, rfl, rfl, hbl, hb⟩ := hrel
    by_cases hlt : k < n
    · have hlt' : (k : Int) < (n : Int) := by omega
      obtain ⟨xs, hx⟩ := get_some (xs := xss) (k := k) (by rw [HL.out]; exact hlt)
      obtain ⟨x, hx1⟩ := get_some (xs := sts) (k := k) (by rw [HL1.out]; exact hlt)
      obtain ⟨b, off, A', n', c', rfl, hbs, hc, hn', hr'⟩ := hr.at_ hx
      have hc1' := (hb.cell (p := ⟨b, off + k, none⟩) hbs).trans hc
      have HT : Hid ((stated sts xss).take (k + 1) = (stated sts xss).take k ++ [x :: xs]) := Lib.hid (stated_take hx1 hx)
      have hw1 : IntKind.i64.wrap ((k : Int) + 1) = (k : Int) + 1 := IntWalk.i64_in _ (by omega)
      have hcut : ∀ w, (Instr.slice 25 (.slice A1 n c1) (some (.int .i64 (k : Int))) (some (.int .i64 ((k : Int) + 1))) none).run Try.prog w = .ok (.slice (cutA A1 k c1 1) (k + 1 - k) (c1 - k)) w := fun w => run_cutFH Try.underlying25 Try.szI w A1 n c1 k (k + 1) _ _ _ _ rfl (by push_cast; rfl) (by omega) (by omega)
      have e1 : k + 1 - k = 1 := by omega
      rw [e1] at hcut
      have HR1 : Hid (Rd wr (cutA A1 k c1 1) 1 (ints [x])) := Lib.hid (by
        have h1 := ((hr1.below hb (Nat.le_refl _)).cut k c1 (by omega) hc1).take 1 (by omega)
        have h2 : ((ints sts).drop k).take 1 = ints [x] := by rw [← List.map_drop, drop_get hx1]; rfl
        rwa [h2] at h1)
      have HRX := Lib.hid (hr'.below hb (Nat.le_refl _))
      have HXL : Hid (xs.length ≤ 100000) := Lib.hid (HS.out xs (List.mem_of_getElem? hx))
      have HBL := Lib.hid hbl
      have HB := Lib.hid hb
      clear hx hx1 hc hbl hr'
      go_wp2_with fail
      refine (joined_any _ _ 2 _ [[x], xs] (rdL2 HR1.out HRX.out (by omega) (by omega)) (by decide) (by have := HXL.out; simp; omega)).mono ?_
      rintro e w2 ⟨A2, n2, c2, rfl, ho2, hb2⟩
      have hn2 : n2 ≤ 1000000000 := by have h1 := ho2.1; have := HXL.out; simp at h1; omega
      have hb2' : Below wr.heap.size wr w2 := (below_new wr _).trans (hb2.mono (by simp))
      have ho2' := ownN_base (base' := wr.heap.size) ho2 (by simp)
      have ej : [[x], xs].flatten = x :: xs := by simp
      rw [ej] at ho2'
      obtain ⟨us, hu1, hu2⟩ := HBL.out.step hb2' ho2' hn2 HB.out.size
      have HU2 := Lib.hid hu2
      have HB2 := Lib.hid (HB.out.trans (hb2'.mono HB.out.size))
      clear hu2 ho2 hb2 hb hn2 ho2' hb2'
      go_wp2_with (at_builtin; go_must (refine wpList_app1g Try.eltS rfl _ _ rfl w2 w.heap.size _ k us (by rfl) hu1 (.slice A2 n2 c2) rfl (by rfl) HB2.out.size (by omega) ?_); rintro A4 c4 w4 ho4 hb4 hg4)
      go_roundw
      case rel => exact ⟨k + 1, A4, c4, by omega, by go_num, rfl, by rw [HT.out]; exact HU2.out A4 c4 w4 ho4 hg4, HB2.out.trans hb4⟩
      case measure => simp [intOf]; omega
    · obtain rfl : k = n := by omega
      have HE : Hid ((stated sts xss).take k = stated sts xss) := Lib.hid (List.take_of_length_le (by rw [HSL.out]; omega))
      go_wp2_with fail
      go_ret
      rw [HE.out] at hbl
      exact ⟨A3, k, c3, _, rfl, hbl.ownp, fun q hq => hq, hb⟩
theorem allTo_le {p : Nat → Bool} {k n : Nat} (h : allTo p k = true) (hn : n ≤ k) : allTo p n = true := allTo_true.2 fun i hi => allTo_true.1 h i (by omega)
theorem upAt_of {xss : List (List Int)} {k : Nat} {xs ys : List Int} (h0 : 1 ≤ k) (h1 : xss[k - 1]? = some xs) (h2 : xss[k]? = some ys) : upAt xss k = decide (cmpL xs ys < 0) := by
  simp only [upAt, getD_of h1, getD_of h2, decide_eq_false (show ¬ k = 0 by omega), Bool.false_or]
set_option maxHeartbeats 1000000 in
theorem risingLists_any (w : World) (A : Option Addr) (n c : Nat) (xss : List (List Int)) (hr : RdL w A n xss) (hn : n ≤ 1000000000) :
    Calls Try.prog 85 #[.slice A n c] w (RetV w (.bool (rises xss))) := by
  have HL : Hid (xss.length = n) := Lib.hid hr.len
  have HO : Hid (rises xss = allTo (upAt xss) n) := Lib.hid (by rw [rises, HL.out])
  go_enter Try.func85, Try.ntmps85
  go_wp2_with fail
  go_loopw [3] (fun q wr => ∃ k : Nat, 1 ≤ k ∧ (k ≤ n ∨ k = 1) ∧ q = .int .i64 k ∧ Hid (allTo (upAt xss) k = true) ∧ Below w.heap.size w wr) (fun q _ => n - (intOf q).toNat)
  case atStart => exact ⟨1, by omega, .inr rfl, rfl, Lib.hid (by simp [allTo, upAt]), Below.refl _ _⟩
  case round =>
    obtain ⟨k, h1k, hk, rfl, hall, hb⟩ := hrel
    by_cases hlt : k < n
    · have hlt' : (k : Int) < (n : Int) := by omega
      have hk0 : (0 : Int) ≤ (k : Int) := by omega
      obtain ⟨ys, hy⟩ := get_some (xs := xss) (k := k) (by rw [HL.out]; exact hlt)
      obtain ⟨xs, hx⟩ := get_some (xs := xss) (k := k - 1) (by rw [HL.out]; omega)
      obtain ⟨b, off, A1, n1, c1, rfl, hbs, hc1, hn1, hr1⟩ := hr.at_ hx
      obtain ⟨b', off', A2, n2, c2, hAA, hbs', hc2, hn2, hr2⟩ := hr.at_ hy
      injection hAA with hAA
      injection hAA with e1 e2
      subst e1 e2
      replace hc1 := (hb.cell (p := ⟨b, off + (k - 1), none⟩) hbs).trans hc1
      replace hc2 := (hb.cell (p := ⟨b, off + k, none⟩) hbs).trans hc2
      have hw : IntKind.i64.wrap ((k : Int) - 1) = (k : Int) - 1 := IntWalk.i64_in _ (by omega)
      have ht : ((k : Int) - 1).toNat = k - 1 := by omega
      have hi0 : (0 : Int) ≤ (k : Int) - 1 := by omega
      have hi1 : (k : Int) - 1 < (n : Int) := by omega
      have HU := Lib.hid (upAt_of h1k hx hy)
      have hcmp : ∀ m, Calls Try.prog 127 #[.slice A1 n1 c1, .slice A2 n2 c2] (wr.drewN m) (fun e w' => e = .returned (.int .i64 (cmpL xs ys)) ∧ w' = wr.drewN m) := fun m => (compare_any _ _ _ _ _ _ _ xs ys (by have h := hr1.below hb (Nat.le_refl _); exact h) (by have h := hr2.below hb (Nat.le_refl _); exact h) hn1 hn2).mono fun e w' h => ⟨h.1, h.2.symm⟩
      have HCMP := Lib.hid (fun m => Calls.quiet_of_same (hcmp m))
      clear hx hy hcmp hr1 hr2
      generalize cmpL xs ys = z at *
      by_cases hz : z < 0
      · have hz2 : decide ((0 : Int) ≤ z) = false := decide_eq_false (by omega)
        have hz3 : ¬ (0 : Int) ≤ z := by omega
        have HN := Lib.hid (allTo_next hall.out (by rw [HU.out]; exact decide_eq_true hz))
        go_wp2_with fail
        go_quiet ((go_at_call 127; with_reducible exact HCMP.out _))
        go_wp2_with fail
        go_roundw
        case rel => exact ⟨k + 1, by omega, .inl (by omega), by go_num, HN, below_drewN hb⟩
        case measure => simp [intOf]; omega
      · have hz2 : decide ((0 : Int) ≤ z) = true := decide_eq_true (by omega)
        have hz3 : (0 : Int) ≤ z := by omega
        have HN : Hid (allTo (upAt xss) n = false) := Lib.hid (allTo_out hlt (by rw [HU.out]; exact decide_eq_false hz))
        go_wp2_with fail
        go_quiet ((go_at_call 127; with_reducible exact HCMP.out _))
        go_wp2_with fail
        go_ret
        exact ⟨by rw [HO.out, HN.out]; rfl, below_drewN hb⟩
    · have HN := Lib.hid (allTo_le hall.out (show n ≤ k by omega))
      go_wp2_with fail
      go_ret
      exact ⟨by rw [HO.out, HN.out]; rfl, hb⟩
end Go.Proofs.Ytjgajjcgapifoaa
