/- The empty machine, both sides. -/
import Derived.Test.YtbecofpklndpaaaRep
namespace Go.Proofs.Ytbecofpklndpaaa
open Go.RowKit
set_option linter.unusedVariables false
set_option linter.unusedSimpArgs false
theorem step_app1N {P : Program} {ops : Array Oper} {o : Oper} {a : Act} {K : Act → World → Prop} {Q : Exit → Act → World → Prop} {E : Prop} {t e : TypeId} {z : Value} {s : Nat} (hE : EltN P t e z s) (hgd : o.guard = none) (l x : Operand)
    (ho : o.op = .call { callee := .builtin .append, args := #[l, x], argTypes := #[t, t] }) (W : World) (base : Nat) (v : Value) (n : Nat) (vs : List Value) (hs : a.eval l = v) (hown : W.ownsRow base e s v n vs)
    (A0 : Addr) (us : List Value) (hul : us.length = s) (hx : a.eval x = .slice (some A0) 1 1) (hr : ∀ j u, us[j]? = some u → W.cell? (A0.add j) = some u) (hu : ∀ u ∈ us, u.oneCell' = true) (hbase : base ≤ W.heap.size) (hn : n ≤ 1099511627776)
    (h : ∀ A c w', w'.ownsRow base e s (.slice A (n + 1) c) (n + 1) (vs ++ us) → W.grownBy w' v.ownBlock → K (a.put o.dst (.slice A (n + 1) c)) w') :
    if Region.wanted o (yielded ops a.tmps) = true then Oper.wp P o a W K Q else E := by
  obtain ⟨ht, hzc, hs0, i, hi, hz, hs1, hb⟩ := hE
  have hbn : (n + 1) * i.bytes ≤ (n + 1) * 64 := Nat.mul_le_mul_left _ hb
  obtain ⟨v', w', hrun, ho', hgr, _⟩ := run_append_own (P := P) W base t o.type e i z s i.bytes ht hi hz hs1 rfl hzc hs0 v n vs hown A0 1 1 us (by simpa using hul) hr hu (by unfold maxLen; omega) (by omega) hbase
  obtain ⟨A, c, rfl, _, _⟩ := ownN_form ho'
  have hw : Region.wanted o (yielded ops a.tmps) = true := by simp [Region.wanted, hgd]
  rw [if_pos hw]
  unfold Oper.wp
  simp [execOp, ho, resolve, invoke, builtin, hs, hx, hrun, Result.andThen]
  exact h A c w' ho' hgr
theorem two_bx (w : World) (c1 c2 : Array Value) (T1 T2 : Nat) : Below w.heap.size w ((w.alloc (.cells c1 T1)).alloc (.cells c2 T2)) ∧ ((w.alloc (.cells c1 T1)).alloc (.cells c2 T2)).heap[w.heap.size]? = some (.cells c1 T1 (0, 0)) ∧ ((w.alloc (.cells c1 T1)).alloc (.cells c2 T2)).heap[w.heap.size + 1]? = some (.cells c2 T2 (0, 0)) := by
  refine ⟨(below_new _ _).trans ((below_new _ _).mono (by simp)), blk_alloc (box_new _ _ _) _, ?_⟩
  have := box_new (w.alloc (.cells c1 T1)) c2 T2
  simpa using this
theorem own_bnot {w : World} {base e s n g T : Nat} {v : Value} {vs : List Value} {cs : Array Value} (hg : w.heap[g]? = some (.cells cs T (0, 0))) (hT : T ≠ e) (h : w.ownsRow base e s v n vs) : ¬ Fo v g := fun hf => by
  rcases h.2 with ⟨rfl, _⟩ | ⟨g', cap, cur, rfl, _, hgg, _⟩
  · simp [Fo, Value.ownBlock] at hf
  · obtain rfl : g' = g := by simpa [Fo, Value.ownBlock] using hf
    exact blk_ne hg hgg hT rfl
theorem ch_undB {F : Nat → Prop} {w w' : World} {o : Obj} (h : Ch F (w.alloc o) w') : Ch F w w' := (ch_alloc F w o).trans h
theorem rd_new3 (w : World) : ∀ j u, rRow[j]? = some u → (w.alloc (.cells #[.int .i64 0, .int .i64 0, .int .i64 (-1)] 214)).cell? ((⟨w.heap.size, 0, none⟩ : Addr).add j) = some u := fun j u hu => by
  rw [add_plain', Nat.zero_add]
  exact blk_cell (box_new w _ _) j (by simpa [rRow] using hu)
abbrev machV (s a : Int) (A : Option Addr) (n c : Nat) : Value := .agg #[.int .i64 s, .int .i64 a, .slice A n c]
def EmpPost (w : World) (s a : Int) (N : Nat) (e : Ending) (w' : World) : Prop := ∃ (A : Option Addr) (c : Nat), e = .returned (machV s a A N c) ∧ w'.ownsRow w.heap.size 214 3 (.slice A N c) N (repR N) ∧ Below w.heap.size w w'
theorem prod_le {a s : Nat} (ha : a ≤ 6) (hs : s ≤ 6) : a * s ≤ 36 := Nat.mul_le_mul ha hs
set_option maxHeartbeats 4000000 in
theorem emptyMachine_any (w : World) (a s : Nat) (ha : 1 ≤ a) (ha6 : a ≤ 6) (hs : 2 ≤ s) (hs6 : s ≤ 6) : Calls Try.prog 104 #[.int .i64 a, .int .i64 s] w (EmpPost w s a (a * s)) := by
  obtain ⟨N, hN⟩ : ∃ N, N = a * s := ⟨_, rfl⟩
  have hN36 : N ≤ 36 := by rw [hN]; exact prod_le ha6 hs6
  have hN1 : 1 ≤ N := by rw [hN]; exact Nat.mul_le_mul ha (by omega : 1 ≤ s)
  have hp : (a : Int) * (s : Int) = (N : Int) := by rw [hN]; simp
  rw [← hN]
  clear hN
  go_enter Try.func104, Try.ntmps104
  go_wp2_with fail
  refine (noRule_any _).mono ?_
  rintro e w1 ⟨rfl, hb1⟩
  obtain ⟨hB1, hx4, hs4⟩ := box_step hb1
  go_wp2_with fail
  have hrd : Rd (w1.alloc (.cells #[.int .i64 0, .int .i64 0, .int .i64 (-1)] 214)) (some ⟨w1.heap.size, 0, none⟩) 3 rRow := by
    refine ⟨rfl, fun _ => ⟨w1.heap.size, 0, rfl, by simp, fun j u hu => ?_⟩⟩
    rw [Nat.zero_add]
    exact blk_cell (box_new w1 _ _) j (by simpa [rRow] using hu)
  refine (repeat_any _ _ _ N hrd hN1 hN36).mono ?_
  rintro e w2 ⟨A, c, rfl, ho, hb2⟩
  obtain ⟨hB2, hx5, hs5⟩ := box_step hb2
  have hx42 := blk_bel hx4 hB2
  have z0 := blk_cell hx42 0 rfl
  have z1 := blk_cell hx42 1 rfl
  have z2 := blk_cell hx42 2 rfl
  have f0 := blk_free hx42 0
  have f1 := blk_free hx42 1
  have f2 := blk_free hx42 2
  have hBB := hB1.trans (hB2.mono hB1.size)
  go_wp2_with fail
  have hZ := blk_set (blk_set (blk_set hx42 0 (.int .i64 (s : Int))) 1 (.int .i64 (a : Int))) 2 (.slice A N c)
  refine bodyPost_ret (v := machV s a A N c) (by simp [results, Try.results104, go_sem, blk_cell hZ 0 rfl, blk_cell hZ 1 rfl, blk_cell hZ 2 rfl]) rfl ?_
  refine ⟨A, c, rfl, own_ch (F := (· = w.heap.size)) (ownN_base ho (by simp; omega)) (((ch_set _ w.heap.size 0 _).trans (ch_set _ w.heap.size 1 _)).trans (ch_set _ w.heap.size 2 _)) (fun k h1 h2 => by have h3 := (ho.lt k h1).1; simp at h3; omega), ((hBB.setCell (Nat.le_refl _) _).setCell (Nat.le_refl _) _).setCell (Nat.le_refl _) _⟩
set_option maxHeartbeats 8000000 in
set_option maxRecDepth 100000 in
theorem l30Empty_any (w : World) (a s : Nat) (ha : 1 ≤ a) (ha6 : a ≤ 6) (hs : 2 ≤ s) (hs6 : s ≤ 6) : Calls Try.prog 102 #[.int .i64 a, .int .i64 s] w (EmpPost w s a (a * s)) := by
  obtain ⟨N, hN⟩ : ∃ N, N = a * s := ⟨_, rfl⟩
  have hN36 : N ≤ 36 := by rw [hN]; exact prod_le ha6 hs6
  have hp : (a : Int) * (s : Int) = (N : Int) := by rw [hN]; simp
  rw [← hN]
  clear hN
  obtain ⟨hb0, hx4, hx5⟩ := two_bx w #[.int .i64 0, .int .i64 0, .slice none 0 0] #[.int .i64 (s : Int), .int .i64 (a : Int), .slice none 0 0] 39 39
  go_enter Try.func102, Try.ntmps102
  go_wp2_with fail
  generalize (w.alloc (.cells #[.int .i64 0, .int .i64 0, .slice none 0 0] 39)).alloc (.cells #[.int .i64 (s : Int), .int .i64 (a : Int), .slice none 0 0] 39) = w0 at *
  go_loopw [6] (fun q wr => ∃ (k : Nat) (A1 : Option Addr) (c1 : Nat), k ≤ N ∧ q = .int .i64 k ∧ wr.heap[w.heap.size]? = some (.cells #[.int .i64 0, .int .i64 0, .slice none 0 0] 39 (0, 0)) ∧ wr.heap[w.heap.size + 1]? = some (.cells #[.int .i64 (s : Int), .int .i64 (a : Int), .slice A1 k c1] 39 (0, 0)) ∧ wr.ownsRow (w.heap.size + 2) 214 3 (.slice A1 k c1) k (repR k) ∧ Below w.heap.size w wr) (fun q _ => N - (intOf q).toNat)
  case atStart => exact ⟨0, none, 0, Nat.zero_le _, rfl, hx4, hx5, ownN_nil _ _ _ _, hb0⟩
  case round =>
    obtain ⟨k, A1, c1, hk, rfl, hg4, hg5, ho, hb⟩ := hrel
    have y0 := blk_cell hg5 0 rfl
    have y1 := blk_cell hg5 1 rfl
    have y2 := blk_cell hg5 2 rfl
    have e2 := blk_free hg5 2
    have z0 := blk_cell hg4 0 rfl
    have z1 := blk_cell hg4 1 rfl
    have z2 := blk_cell hg4 2 rfl
    have f0 := blk_free hg4 0
    have f1 := blk_free hg4 1
    have f2 := blk_free hg4 2
    have hl5 := blk_lt hg5
    by_cases h : k < N
    · have hlt : (k : Int) < (N : Int) := by omega
      have HNF := Lib.hid (own_bnot hg5 (by decide) ho)
      have HBB := Lib.hid hb; have HOO := Lib.hid ho; have HG4 := Lib.hid hg4; have HG5 := Lib.hid hg5
      clear z0 z1 z2 f0 f1 f2 y0 y1 hb ho hg4
      go_wp2_with fail
      (first | (go_region_law (first
        | (refine step_app1N eltRl (by rfl) _ _ (by rfl) _ (w.heap.size + 2) _ k (repR k) (by rfl) (by exact HO3.out.alloc _) ⟨w3.heap.size, 0, none⟩ rRow rfl (by rfl) (by exact rd_new3 w3) (by simpa [repR] using repR_one 1) (by simp; omega) (by omega) ?_
           intro A7 c7 w7 ho7 hgr7
           have hchw := ch_undB (ch_row hgr7)
           have hx7 := blk_ch HX3.out hchw HNF.out
           have y2' := blk_cell hx7 2 rfl
           have e2' := blk_free hx7 2)
        | (go_simp; go_at_call 186; refine (l05None_any _).mono ?_; rintro e w3 ⟨rfl, hb3⟩; (try replace hb3 := und1 hb3); have HX3 := Lib.hid (blk_bel HG5.out hb3); have HO3 := Lib.hid (ownN_below HOO.out hb3 (Nat.le_refl _)); have hs3 := hb3.size; have y2'' := blk_cell HX3.out 2 rfl; have e2'' := blk_free HX3.out 2; have y3 := blk_cell (blk_alloc HX3.out (.cells #[.int .i64 0, .int .i64 0, .int .i64 (-1)] 214)) 2 rfl; have hl3 := blk_lt HX3.out))) | fail)
      all_goals
        go_wp2_with fail
        have hx8 := blk_set hx7 2 (.slice A7 (k + 1) c7)
        go_roundw
        case rel =>
          refine ⟨k + 1, A7, c7, by omega, by go_num, ?_, by simpa using hx8, ?_, ?_⟩
          · exact blk_far (blk_ch (blk_bel HG4.out hb3) hchw (own_bnot (blk_bel HG4.out hb3) (by decide) HO3.out)) (by simp only; omega)
          · have h9 := own_ch ho7 (ch_set w7 (w.heap.size + 1) 2 (.slice A7 (k + 1) c7)) (fun z h1 h2 => by subst h2; exact own_bnot hx7 (by decide) ho7 h1)
            rw [show repR (k + 1) = repR k ++ rRow by rw [repR_add]; simp [repR]]
            exact h9
          · exact (below_ch (HBB.out.trans (hb3.mono HBB.out.size)) hchw (fun z h => by have := (HO3.out.lt z h).1; omega) (by have := HBB.out.size; omega)).setCell (by simp only; omega) _
        case measure => simp [intOf]; omega
    · obtain rfl : k = N := by omega
      have hlt : ¬ (k : Int) < (k : Int) := by omega
      go_wp2_with fail
      have hZ := blk_set (blk_set (blk_set hg4 0 (.int .i64 (s : Int))) 1 (.int .i64 (a : Int))) 2 (.slice A1 k c1)
      refine bodyPost_ret (v := machV s a A1 k c1) (by simp [results, Try.results102, go_sem, blk_cell hZ 0 rfl, blk_cell hZ 1 rfl, blk_cell hZ 2 rfl]) rfl ?_
      refine ⟨A1, c1, rfl, own_ch (F := (· = w.heap.size)) (ownN_base ho (by omega)) (((ch_set _ w.heap.size 0 _).trans (ch_set _ w.heap.size 1 _)).trans (ch_set _ w.heap.size 2 _)) (fun z h1 h2 => by have h3 := (ho.lt z h1).1; omega), ((hb.setCell (Nat.le_refl _) _).setCell (Nat.le_refl _) _).setCell (Nat.le_refl _) _⟩
end Go.Proofs.Ytbecofpklndpaaa
