/- TreeOfList: both functions. -/
import Derived.Test.YtnfkmcphkecemaaTol
namespace Go.Proofs.Ytnfkmcphkecemaa
open Go.RowKit

theorem own_typed {w w' : World} {lo lo' e T n m : Nat} {v v2 : Value} {us vs : List Value} (h : w.ownsRow lo e 1 v n us) (h2 : w.ownsRow lo' T 1 v2 m vs) (hT : T ≠ e) (hg : w.grownBy w' v2.ownBlock) : w'.ownsRow lo e 1 v n us := by
  refine own_apart h hg fun k h1 h3 => ?_
  rcases h2.2 with ⟨rfl, _⟩ | ⟨g, cap, cur, rfl, _, hgg, _⟩
  · simp [Value.ownBlock] at h3
  · simp [Value.ownBlock] at h3
    subst h3
    exact own_blk_ne h hgg hT h1

/-- Trees stay while a row of another type is written. -/
theorem AreT.grown {w w' : World} {lo lo' T n : Nat} {us vs : List Value} {ts : List Tr} {v : Value} (h : AreT w lo w.heap.size us ts) (ho : w.ownsRow lo' T 1 v n vs) (hT : T ≠ 88) (hg : w.grownBy w' v.ownBlock) : AreT w' lo w'.heap.size us ts := by
  have key : ∀ {t : Tr} {u : Value}, IsT w lo w.heap.size u t → IsT w' lo w'.heap.size u t := by
    intro t
    induction t with
    | nil => intro u h; exact h
    | node a b iha ihb =>
      rintro u ⟨k, vh, vt, e, h1, h2, h3, h4, h5⟩
      refine ⟨k, vh, vt, e, h1, Nat.lt_of_lt_of_le h2 hg.size, ?_, iha h4, ihb h5⟩
      rw [hg.block k h2 (fun hk => own_blk_ne ho h3 (fun e => hT e.symm) hk.symm)]
      exact h3
  exact ⟨h.1, fun i u t hu ht => key (h.2 i u t hu ht)⟩

set_option maxHeartbeats 3200000 in
theorem implTreeOfList_any (w : World) (A : Option Addr) (n c : Nat) (xss : List (List Bool)) (hr : RdB w A n xss) (hn : n ≤ 1000000000) (_hc : n ≤ c) :
    Calls Try.prog 19 #[.slice A n c] w (RetSI w 4 (bools (tolNum xss).1) (tolNum xss).2) := by
  have HL : Hid (xss.length = n) := Lib.hid hr.len
  by_cases ha : allTr xss = true
  · by_cases h1 : n ≤ 100
    · obtain ⟨ts, rfl, hts⟩ := allTr_trees ha
      have HLT : Hid (ts.length = n) := Lib.hid (by have := HL.out; simpa using this)
      have HF := Lib.hid (tol_ok ha (by rw [HLT.out]; exact h1))
      have HTS := Lib.hid hts
      have hlit := own_lit w #[] 0 61 rfl (by omega)
      clear hts
      go_enter Try.func19, Try.ntmps19
      go_wp2_with (go_at_call 47; go_must (refine (areTrees_any _ _ _ _ _ hr hn).mono ?_; rw [ha]; rintro e w' ⟨rfl, rfl⟩))
      go_loopw [4, 16] (fun v i wr => ∃ (k : Nat) (us : List Value), k ≤ n ∧ i = .int .i64 k ∧ wr.ownsRow w.heap.size 61 1 v k us ∧ AreT wr w.heap.size wr.heap.size us (ts.take k) ∧ Below w.heap.size w wr) (fun _ i _ => n - (intOf i).toNat)
      case atStart => exact ⟨0, [], Nat.zero_le _, rfl, hlit, ⟨by simp, by simp⟩, below_new _ _⟩
      case round =>
        obtain ⟨k, us, hk, rfl, hown, hat, hb⟩ := hrel
        clear hlit
        obtain ⟨Ao, co, rfl, hco, hul⟩ := own_form hown
        by_cases hlt : k < n
        · obtain ⟨xs, hx⟩ := get_some (xs := ts.map Tr.bits) (k := k) (by rw [HL.out]; exact hlt)
          obtain ⟨b, off, A', n', c', rfl, hbs, hc, hn', hr'⟩ := hr.at_ hx
          have hc1 := (hb.cell (p := ⟨b, off + k, none⟩) hbs).trans hc
          obtain ⟨t, ht, rfl⟩ : ∃ t, ts[k]? = some t ∧ xs = t.bits := by
            simp only [List.getElem?_map, Option.map_eq_some_iff] at hx
            obtain ⟨t, h1, h2⟩ := hx; exact ⟨t, h1, h2.symm⟩
          have hn'2 : n' ≤ 2000 := by
            have q1 := hr'.1; have q2 := HTS.out t (List.mem_of_getElem? ht)
            simp [Tr.bits_len] at q1; omega
          have HT : Hid (ts.take (k + 1) = ts.take k ++ [t]) := Lib.hid (by rw [List.take_add_one, ht]; rfl)
          clear hx hc ht
          go_wp2_with fail
          refine (treeOf_any _ _ _ _ t (hr'.below hb (Nat.le_refl _)) (by omega)).mono ?_
          rintro e w2 ⟨v2, rfl, i2, hb2⟩
          obtain ⟨o2, rfl⟩ := i2.isPtr
          have hown2 := own_below hown hb2 (Nat.le_refl _)
          have hat2 := (hat.below hb2 (Nat.le_refl _) hb2.size).snoc (i2.wide hb.size (Nat.le_refl _))
          have hB2 := hb.trans (hb2.mono hb.size)
          go_wp2_with (at_builtin; go_must (refine wpList_app1g eltP rfl _ _ rfl w2 w.heap.size _ k _ (by rfl) hown2 _ (by rfl) (by rfl) hB2.size (by omega) ?_; rintro A3 c3 w3 hown3 hb3 hg3))
          have hat3 := hat2.grown hown2 (by decide) hg3
          go_roundw
          case rel => exact ⟨k + 1, _, by omega, by go_num, hown3, by rw [HT.out]; exact hat3, hB2.trans hb3⟩
          case measure => simp [intOf]; omega
        · obtain rfl : k = n := by omega
          rw [List.take_of_length_le (by rw [HLT.out]; omega)] at hat
          have hlt' : ((k : Int) < (k : Int)) = False := by simp
          have HLN := Lib.hid (lst_nodes (N := 2000) ts HTS.out)
          have hln : (lst ts).nodes ≤ 1000000 := by
            have q1 := HLN.out; rw [HLT.out] at q1
            have q3 := Nat.mul_le_mul_right (2000 + 1) h1
            omega
          generalize hfr : fitT (lst ts) = fr at HF
          have HFR := Lib.hid hfr
          clear hfr
          go_wp2_with fail
          refine (treeOfList_any _ w.heap.size _ _ _ us ts (own_rd hown) hat hb.size (by omega) HTS.out).mono ?_
          rintro e w2 ⟨v2, rfl, i2, hb2⟩
          obtain ⟨o2, rfl⟩ := i2.isPtr
          have hB2 := hb.trans (hb2.mono hb.size)
          go_wp2_with fail
          refine (checkedF_any _ _ _ _ i2 hln).mono ?_
          rw [HFR.out]
          rintro e w4 ⟨A4, n4, c4, rfl, ho4, hb4⟩
          go_wp2_with fail
          go_ret2
          rw [HF.out]
          exact ⟨A4, n4, c4, rfl, own_base ho4 hB2.size, hB2.trans (hb4.mono hB2.size)⟩
    · have HF := Lib.hid (tol_range ha (by rw [HL.out]; exact h1))
      go_enter Try.func19, Try.ntmps19
      go_wp2_with (go_at_call 47; go_must (refine (areTrees_any _ _ _ _ _ hr hn).mono ?_; rw [ha]; rintro e w' ⟨rfl, rfl⟩))
      go_ret2
      rw [HF.out]
      exact ⟨none, 0, 0, rfl, own_nil _ _ _, Below.refl _ _⟩
  · have ha' : allTr xss = false := by simpa using ha
    have HF := Lib.hid (tol_bad ha')
    clear ha
    go_enter Try.func19, Try.ntmps19
    go_wp2_with (go_at_call 47; go_must (refine (areTrees_any _ _ _ _ _ hr hn).mono ?_; rw [ha']; rintro e w' ⟨rfl, rfl⟩))
    go_ret2
    rw [HF.out]
    exact ⟨none, 0, 0, rfl, own_nil _ _ _, Below.refl _ _⟩
end Go.Proofs.Ytnfkmcphkecemaa
