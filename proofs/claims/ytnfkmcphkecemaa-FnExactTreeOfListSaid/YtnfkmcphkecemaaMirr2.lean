/- MirrorTree: the reference's function, with its stack of rows. -/
import Derived.Test.YtnfkmcphkecemaaMirr
namespace Go.Proofs.Ytnfkmcphkecemaa
open Go.RowKit

theorem Try.infoSB : (Try.prog.info? 22).map (fun i => (i.zero, i.size, i.bytes)) = some (some (.slice none 0 0), 1, 24) := by kernel_rfl
theorem eltSB : Elt Try.prog 31 22 (.slice none 0 0) := Elt.mk_ Try.underlying31 Try.infoSB rfl (by decide)

set_option maxHeartbeats 400000 in
theorem l21Nil_any (w : World) : Calls Try.prog 40 #[] w (RetS w 4 (bools [false])) := by
  go_enter Try.func40, Try.ntmps40
  go_wp2_with fail
  go_ret
  exact ⟨_, _, _, rfl, own_lit w #[.bool false] 1 4 rfl (by omega), below_new _ _⟩

set_option maxHeartbeats 800000 in
theorem l21Pair_any (w : World) (A : Option Addr) (n c : Nat) (xs : List Bool) (hr : Rd w A n (bools xs)) (hn : n ≤ 1000000000) (A' : Option Addr) (n' c' : Nat) (ys : List Bool) (hr' : Rd w A' n' (bools ys)) (hn' : n' ≤ 1000000000) :
    Calls Try.prog 41 #[.slice A n c, .slice A' n' c'] w (RetS w 4 (bools (true :: (xs ++ ys)))) := by
  have hown := own_lit w #[.bool true] 1 4 rfl (by omega)
  have HB0 := Lib.hid (below_new w (.cells #[.bool true] 4))
  go_enter Try.func41, Try.ntmps41
  go_wp2_with (first
    | (at_builtin; refine wpList_appS eltB rfl _ _ rfl (w.alloc (.cells #[.bool true] 4)) w.heap.size _ 1 _ (by rfl) hown _ n c (bools xs) (by rfl) (hr.alloc _) (bools_one _) (by simp) (by omega) ?_; rintro A1 c1 w1 hown1 hb1; have HB1 := Lib.hid (HB0.out.trans hb1))
    | (at_builtin; go_must (refine wpList_appS eltB rfl _ _ rfl w1 w.heap.size _ (1 + n) _ (by rfl) hown1 _ n' c' (bools ys) (by rfl) (hr'.below HB1.out (Nat.le_refl _)) (bools_one _) HB1.out.size (by omega) ?_; rintro A2 c2 w2 hown2 hb2)))
  go_ret
  refine ⟨A2, _, c2, rfl, ?_, HB1.out.trans hb2⟩
  simpa using hown2

/-- A list of rows of the call's own. -/
def Stk (w : World) (lo : Nat) (us : List Value) (xss : List (List Bool)) : Prop :=
  us.length = xss.length ∧ ∀ (i : Nat) (u : Value) (xs : List Bool), us[i]? = some u → xss[i]? = some xs → ∃ A n c, u = .slice A n c ∧ w.ownsRow lo 4 1 (.slice A n c) n (bools xs)
theorem Stk.below {w w' : World} {lo B : Nat} {us : List Value} {xss : List (List Bool)} (h : Stk w lo us xss) (hb : Below B w w') (hB : w.heap.size ≤ B) : Stk w' lo us xss := by
  refine ⟨h.1, fun i u xs hu hx => ?_⟩
  obtain ⟨A, n, c, rfl, ho⟩ := h.2 i u xs hu hx
  exact ⟨A, n, c, rfl, own_below ho hb hB⟩
theorem Stk.grown {w w' : World} {lo lo' T n : Nat} {us vs : List Value} {xss : List (List Bool)} {v : Value} (h : Stk w lo us xss) (ho : w.ownsRow lo' T 1 v n vs) (hT : T ≠ 4) (hg : w.grownBy w' v.ownBlock) : Stk w' lo us xss := by
  refine ⟨h.1, fun i u xs hu hx => ?_⟩
  obtain ⟨A, m, c, rfl, hr⟩ := h.2 i u xs hu hx
  refine ⟨A, m, c, rfl, own_apart hr hg fun k h1 h2 => ?_⟩
  rcases ho.2 with ⟨rfl, _⟩ | ⟨g, cap, cur, rfl, _, hgg, _⟩
  · simp [Value.ownBlock] at h2
  · simp [Value.ownBlock] at h2
    subst h2
    exact own_blk_ne hr hgg hT h1
theorem Stk.snoc {w : World} {lo S n c : Nat} {us : List Value} {xss : List (List Bool)} {A : Option Addr} {xs : List Bool} (h : Stk w lo us xss) (ho : w.ownsRow S 4 1 (.slice A n c) n (bools xs)) (hS : lo ≤ S) : Stk w lo (us ++ [.slice A n c]) (xss ++ [xs]) := by
  refine ⟨by simp [h.1], fun i u ys hu hx => ?_⟩
  by_cases hi : i < us.length
  · rw [List.getElem?_append_left hi] at hu
    rw [List.getElem?_append_left (by rw [← h.1]; exact hi)] at hx
    exact h.2 i u ys hu hx
  · have hl := h.1
    rw [List.getElem?_append_right (by omega)] at hu hx
    have hi0 : i - us.length = 0 := by
      rcases Nat.eq_zero_or_pos (i - us.length) with h | h
      · exact h
      · rw [List.getElem?_eq_none (by simp; omega)] at hu; cases hu
    rw [hi0] at hu
    rw [show i - xss.length = 0 by omega] at hx
    simp at hu hx
    subst hu hx
    exact ⟨A, n, c, rfl, own_base ho hS⟩
theorem Stk.take {w : World} {lo k : Nat} {us : List Value} {xss : List (List Bool)} (h : Stk w lo us xss) : Stk w lo (us.take k) (xss.take k) := by
  refine ⟨by simp [h.1], fun i u xs hu hx => ?_⟩
  rw [List.getElem?_take] at hu hx
  split at hu
  · rename_i hi
    rw [if_pos hi] at hx
    exact h.2 i u xs hu hx
  · cases hu

/-- The stack when the suffix from k on has been read. -/
def mstk (bs : List Bool) : List (List Bool) := ((forest bs).map fun t => t.mirror.bits).reverse
theorem mstk_false (r : List Bool) : mstk (false :: r) = mstk r ++ [[false]] := by simp [mstk, forest_false, Tr.mirror, Tr.bits]
theorem mstk_true {r : List Bool} {h t : Tr} {rest : List Tr} (e : forest r = h :: t :: rest) :
    mstk r = (rest.map fun t => t.mirror.bits).reverse ++ [t.mirror.bits, h.mirror.bits] ∧ mstk (true :: r) = (rest.map fun t => t.mirror.bits).reverse ++ [true :: (t.mirror.bits ++ h.mirror.bits)] := by
  constructor
  · simp [mstk, e]
  · simp [mstk, forest_true e, Tr.mirror, Tr.bits]
theorem two_trees {bs : List Bool} (h : scan bs 1 = some []) {k : Nat} (hk : bs[k]? = some true) : ∃ a b rest, forest (bs.drop (k + 1)) = a :: b :: rest ∧ a.nodes ≤ bs.length ∧ b.nodes ≤ bs.length := by
  have hlt : k < bs.length := (List.getElem?_eq_some_iff.1 hk).1
  have h1 := need_scan bs h k (by omega)
  have h2 := need_scan bs h (k + 1) (by omega)
  have h3 : needAt bs (k + 1) = needAt bs k + 1 := by simp [needAt, hk]
  have h4 : 1 ≤ needAt bs k := by
    rcases Nat.eq_zero_or_pos (needAt bs k) with h0 | h0
    · rw [h0, drop_get hk] at h1; simp [scan] at h1
    · exact h0
  obtain ⟨f1, f2⟩ := scan_forest _ _ h2
  match hf : forest (bs.drop (k + 1)), f1, f2 with
  | [], f1, _ => simp at f1; omega
  | [_], f1, _ => simp at f1; omega
  | a :: b :: rest, _, f2 =>
    have hl : (bs.drop (k + 1)).length ≤ bs.length := by simp
    rw [← f2] at hl
    simp only [List.flatMap_cons, List.length_append, Tr.bits_len] at hl
    exact ⟨a, b, rest, rfl, by omega, by omega⟩
theorem mstk_len (bs : List Bool) (k : Nat) : (mstk (bs.drop k)).length ≤ bs.length + 1 := by
  simp only [mstk, List.length_reverse, List.length_map]
  have key : ∀ bs : List Bool, (forest bs).length ≤ bs.length := by
    intro bs
    induction bs with
    | nil => simp [forest]
    | cons b r ih =>
      cases b
      · rw [forest_false]; simp; exact ih
      · match hf : forest r with
        | [] => simp [forest, hf]
        | [x] => simp [forest, hf]
        | x :: y :: rest => rw [forest_true hf]; rw [hf] at ih; simp at ih ⊢; omega
  have := key (bs.drop k)
  simp at this
  omega

set_option maxHeartbeats 4000000 in
theorem specMirrorTree_any (w : World) (A : Option Addr) (n c : Nat) (bs : List Bool) (hr : Rd w A n (bools bs)) (hn : n ≤ 1099511627776) :
    Calls Try.prog 12 #[.slice A n c] w (RetSI w 4 (bools (mirB bs)) (mirC bs)) := by
  have HL : Hid (bs.length = n) := Lib.hid (by simpa using hr.1)
  by_cases h : isTr bs = true
  · have hsc : scan bs 1 = some [] := by
      simp only [isTr, Bool.and_eq_true, beq_iff_eq] at h; exact h.2
    have HSC := Lib.hid hsc
    have hn2 : n ≤ 2000 := by
      rw [← HL.out]; simp only [isTr, Bool.and_eq_true, decide_eq_true_eq] at h; exact h.1
    have HF : Hid (mstk bs = [mirB bs] ∧ mirC bs = 0) := Lib.hid (by
      obtain ⟨t, rfl, ht⟩ := isTr_tree h
      rw [(mirB_tree ht).1, (mirB_tree ht).2]
      exact ⟨by simp [mstk, forest_bits], rfl⟩)
    have hlit := own_lit w #[] 0 22 rfl (by omega)
    clear hsc
    go_enter Try.func12, Try.ntmps12
    go_wp2_with (go_at_call 36; go_must (refine (l21Is_any _ _ _ _ _ hr hn).mono ?_; rw [h]; rintro e w' ⟨rfl, rfl⟩))
    clear h
    go_loopw [4, 5] (fun v i wr => ∃ (j m : Nat) (us : List Value), i = .int .i64 ((j : Int) - 1) ∧ j ≤ n ∧ m ≤ 2001 ∧ wr.ownsRow w.heap.size 22 1 v m us ∧ Stk wr w.heap.size us (mstk (bs.drop j)) ∧ Below w.heap.size w wr) (fun _ i _ => (intOf i + 1).toNat)
    case atStart =>
      refine ⟨n, 0, [], rfl, by omega, by omega, hlit, ⟨?_, by simp⟩, below_new _ _⟩
      rw [List.drop_of_length_le (by rw [HL.out]; omega)]; rfl
    case round =>
      obtain ⟨j, m, us, rfl, hj, hm, hown, hst, hb⟩ := hrel
      clear hlit
      obtain ⟨Ao, co, rfl, hco, hul⟩ := own_form hown
      rcases Nat.eq_zero_or_pos j with h0 | h0
      · subst h0
        rw [List.drop_zero, HF.out.1] at hst
        have hm1 : m = 1 := by have := hst.1; rw [hul] at this; simpa using this
        subst hm1
        obtain ⟨u, hu⟩ := get_some (xs := us) (k := 0) (by omega)
        obtain ⟨A1, n1, c1, rfl, ho1⟩ := hst.2 0 u _ hu rfl
        obtain ⟨g, rfl, hg1, hg2, hc2, _⟩ := own_get hown hu
        clear hu
        go_wp2_with fail
        go_ret2
        rw [HF.out.2]
        exact ⟨A1, n1, c1, rfl, ho1, hb⟩
      · obtain ⟨k, rfl⟩ : ∃ k, j = k + 1 := ⟨j - 1, by omega⟩
        have ek : (((k + 1 : Nat) : Int) - 1) = (k : Int) := by omega
        rw [ek]
        clear ek
        obtain ⟨b, hbk⟩ := get_some (xs := bs) (k := k) (by rw [HL.out]; omega)
        obtain ⟨blk, off, hA, hbs, hc⟩ := hr.at_ (k := k) (u := .bool b) (by simp [hbk])
        subst hA
        have hc1 := (hb.cell (p := ⟨blk, off + k, none⟩) hbs).trans hc
        have HML := Lib.hid (mstk_len bs k)
        have hkn : k < n := by omega
        clear hc
        cases b
        · have HD : Hid (mstk (bs.drop k) = mstk (bs.drop (k + 1)) ++ [[false]]) := Lib.hid (by rw [drop_get hbk, mstk_false])
          clear hbk
          go_wp2_with fail
          refine (l21Nil_any _).mono ?_
          rintro e w2 ⟨A2, n2, c2, rfl, ho2, hb2⟩
          have hown2 := own_below hown hb2 (Nat.le_refl _)
          have hst2 := hst.below hb2 (Nat.le_refl _)
          have hB2 := hb.trans (hb2.mono hb.size)
          go_wp2_with (at_builtin; go_must (refine wpList_app1g eltSB rfl _ _ rfl w2 w.heap.size _ m _ (by rfl) hown2 _ (by rfl) (by rfl) hB2.size (by omega) ?_; rintro A3 c3 w3 hown3 hb3 hg3))
          have hst3 := (hst2.snoc ho2 hb.size).grown hown2 (by decide) hg3
          have hm3 : m + 1 ≤ 2001 := by
            have h1 := hst3.1
            have h2 := HML.out
            rw [HD.out, ← h1, HL.out] at h2
            simp [hul] at h2
            omega
          go_roundw
          case rel => exact ⟨k, m + 1, _, rfl, by omega, hm3, hown3, by rw [HD.out]; exact hst3, hB2.trans hb3⟩
          case measure => simp only [intOf]; omega
        · obtain ⟨a, b, rest, hf, hna, hnb⟩ := two_trees HSC.out hbk
          rw [HL.out] at hna hnb
          obtain ⟨e1, e2⟩ := mstk_true hf
          have HD : Hid (mstk (bs.drop k) = (rest.map fun t => t.mirror.bits).reverse ++ [true :: (b.mirror.bits ++ a.mirror.bits)]) := Lib.hid (by rw [drop_get hbk, e2])
          rw [e1] at hst
          have hlen : us.length = rest.length + 2 := by rw [hst.1]; simp
          obtain rfl : m = rest.length + 2 := by omega
          generalize hp : rest.length = p at *
          have HP := Lib.hid hp
          clear hp
          obtain ⟨ub, hub⟩ := get_some (xs := us) (k := p) (by omega)
          obtain ⟨ua, hua⟩ := get_some (xs := us) (k := p + 1) (by omega)
          obtain ⟨Ab, nb, cb, rfl, hob⟩ := hst.2 p ub b.mirror.bits hub (by rw [List.getElem?_append_right (by simp [HP.out])]; simp [HP.out])
          obtain ⟨Aa, na, ca, rfl, hoa⟩ := hst.2 (p + 1) ua a.mirror.bits hua (by rw [List.getElem?_append_right (by simp [HP.out])]; simp [HP.out])
          obtain ⟨g, rfl, hg1, hg2, hcb, _⟩ := own_get hown hub
          obtain ⟨g', hgg, _, _, hca, _⟩ := own_get hown hua
          obtain rfl : g = g' := by simpa using hgg
          have hnb' : nb ≤ 2000 := by have := hob.1; simp [Tr.bits_len, Tr.mirror_nodes] at this; omega
          have hna' : na ≤ 2000 := by have := hoa.1; simp [Tr.bits_len, Tr.mirror_nodes] at this; omega
          clear hub hua hgg hbk hf e1 e2
          have q1 : ((p + 2 : Nat) : Int) - 1 = ((p + 1 : Nat) : Int) := by omega
          have q2 : ((p : Int) + 2 - 1) = (p : Int) + 1 := by omega
          have q3 : ((p : Int) + 1 - 1) = (p : Int) := by omega
          have r1 : p < p + 2 := by omega
          have r2 : p + 1 < p + 2 := by omega
          have r3 : (0 : Int) ≤ (p : Int) := by omega
          have r4 : (p : Int) < (p : Int) + 2 := by omega
          have r5 : (p : Int) + 1 < (p : Int) + 2 := by omega
          have r6 : (0 : Int) ≤ (p : Int) + 1 := by omega
          have z1 : IntKind.i64.wrap ((p : Int) + 1 - 1) = (p : Int) := by rw [q3]; exact IntWalk.i64_in _ (by omega)
          have z2 : IntKind.i64.wrap (p : Int) = (p : Int) := IntWalk.i64_in _ (by omega)
          have rb := own_rd hob
          have ra := own_rd hoa
          go_wp2_with fail
          go_region_held3 (fun w' => w'.cell? ⟨g, p, none⟩ = some (.slice Ab nb cb) ∧ w'.cell? ⟨g, p + 1, none⟩ = some (.slice Aa na ca)) (exact ⟨hcb, hca⟩) (first
            | (go_at_call 41
               go_must (refine (l21Pair_any _ _ _ _ _ (by exact rb) (by omega) _ _ _ _ (by exact ra) (by omega)).mono ?_
                        rintro e w3 ⟨A3, n3, c3, rfl, ho3, hb3⟩
                        (try replace hb3 := below_undrew hb3)
                        have hcb := (hb3.cell (p := ⟨g, p, none⟩) hg2).trans hcb
                        have hca := (hb3.cell (p := ⟨g, p + 1, none⟩) hg2).trans hca)))
          have hB3 := hb.trans (hb3.mono hb.size)
          have hown3 := own_take (own_below hown hb3 (Nat.le_refl _)) (k := p) (by omega)
          have hst3 := ((hst.below hb3 (Nat.le_refl _)).take (k := p)).snoc ho3 hb.size
          have HT : Hid (((rest.map fun t => t.mirror.bits).reverse ++ [b.mirror.bits, a.mirror.bits]).take p = (rest.map fun t => t.mirror.bits).reverse) := Lib.hid (by
            rw [List.take_append_of_le_length (by simp [HP.out]), List.take_of_length_le (by simp [HP.out])])
          have r7 : (p : Int) ≤ (co : Int) := by omega
          have r8 : p ≤ co := by omega
          have HUL : Hid (us.length = p + 2) := Lib.hid hul
          clear hcb hca rb ra hown hst hob hoa hul hlen
          go_wp2_with (at_builtin; go_must (refine wpList_app1g eltSB rfl _ _ rfl w3 w.heap.size _ p _ (by rfl) hown3 _ (by rfl) (by rfl) hB3.size (by omega) ?_; rintro A4 c4 w4 hown4 hb4 hg4))
          have hst4 := hst3.grown hown3 (by decide) hg4
          rw [HT.out] at hst4
          go_roundw
          case rel => exact ⟨k, p + 1, _, rfl, by omega, by omega, hown4, by rw [HD.out]; exact hst4, hB3.trans hb4⟩
          case measure => simp only [intOf]; omega
  · have h' : isTr bs = false := by simpa using h
    have HM := Lib.hid (mirB_not h')
    clear h
    go_enter Try.func12, Try.ntmps12
    go_wp2_with (go_at_call 36; go_must (refine (l21Is_any _ _ _ _ _ hr hn).mono ?_; rw [h']; rintro e w' ⟨rfl, rfl⟩))
    go_ret2
    rw [HM.out.1, HM.out.2]
    exact ⟨none, 0, 0, rfl, own_nil _ _ _, Below.refl _ _⟩
end Go.Proofs.Ytnfkmcphkecemaa
