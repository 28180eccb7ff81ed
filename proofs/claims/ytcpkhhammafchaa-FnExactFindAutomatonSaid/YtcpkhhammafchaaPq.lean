/- ContextProof: the program's answer. Written by mk_pq.py. -/
import Derived.Test.YtcpkhhammafchaaPp
namespace Go.Proofs.Ytcpkhhammafchaa
open Go.RowKit
set_option linter.unusedVariables false
set_option linter.unusedSimpArgs false
/-- What a call that returns a proof and a code leaves. -/
def PfP (w : World) (r : Int × List Int × List (List Int) × Int) (e : Ending) (w' : World) : Prop :=
  ∃ (A : Option Addr) (n c : Nat) (B : Option Addr) (m d : Nat) (F : Nat → Prop), e = .returned (.tuple #[prfV r.1 A n c B m d, .int .i64 r.2.2.2]) ∧ w'.ownsRow w.heap.size 2 1 (.slice A n c) n (ints r.2.1) ∧ OwnP w' F B m d r.2.2.1 ∧ (∀ k, F k → w.heap.size ≤ k ∧ k < w'.heap.size) ∧ (∀ k, Fo (.slice A n c) k → F k → False) ∧ Below w.heap.size w w'
def chR (ns : List Int) (ws : List (List Int)) : Int × List Int × List (List Int) × Int := if okP 8 ns ws then (8, ns, ws, 0) else (0, [], [], 5)
theorem chR_no {ns : List Int} {ws : List (List Int)} (h : okP 8 ns ws = false) : chR ns ws = (0, [], [], 5) := by simp [chR, h]
theorem chR_ok {ns : List Int} {ws : List (List Int)} (h : okP 8 ns ws = true) : chR ns ws = (8, ns, ws, 0) := by simp [chR, h]
def cpF (u1 ul u3 u5 u6 u7 u8 : Bool) (r : Int × List Int × List (List Int) × Int) : Int × List Int × List (List Int) × Int := if u1 && ul && u3 && u5 && u6 && u7 then (if u8 then r else (0, [], [], 7)) else (0, [], [], 2)
def cpR (n : Int) (ls rs cs : List (List Int)) (sts : List Int) : Int × List Int × List (List Int) × Int :=
  cpF (inB n 1 4) (decide (sts.length = cs.length)) (allIn sts 0 1000000000000) (ls.all (lenB n 9)) (rs.all (lenB n 9)) (cs.all (lenB (2 * n + 1) 9)) (rises ls && rises rs && rises (stated sts cs)) (chR ([n, (ls.length : Int), (rs.length : Int)] ++ sts) (ls ++ rs ++ cs))
section
variable {w wx : World} {r : Nat} {v0 v1 v2 : Value} {code : Int}
theorem ch_set3 (wx : World) (r : Nat) (v0 v1 v2 : Value) : Ch (· = r) wx (((wx.setCell ⟨r, 0, none⟩ v0).setCell ⟨r, 1, none⟩ v1).setCell ⟨r, 2, none⟩ v2) := ((ch_set _ _ 0 _).trans (ch_set _ _ 1 _)).trans (ch_set _ _ 2 _)
theorem pfp_nil (h : Below w.heap.size w wx) : PfP w (0, [], [], code) (.returned (.tuple #[prfV 0 none 0 0 none 0 0, .int .i64 code])) wx :=
  ⟨none, 0, 0, none, 0, 0, fun _ => False, rfl, own_nil _ _ _, OwnP.nil _, by simp, by simp, h⟩
theorem pfp_err (h : Below w.heap.size w wx) (hr : w.heap.size ≤ r) : PfP w (0, [], [], code) (.returned (.tuple #[prfV 0 none 0 0 none 0 0, .int .i64 code])) (((wx.setCell ⟨r, 0, none⟩ v0).setCell ⟨r, 1, none⟩ v1).setCell ⟨r, 2, none⟩ v2) :=
  pfp_nil (below_ch h (ch_set3 wx r v0 v1 v2) (fun k hk => by have e : k = r := hk; omega) h.size)
theorem pfp_ok {w0 : World} {A B : Option Addr} {n c m d : Nat} {ns : List Int} {us : List Value} {ws : List (List Int)} (h : Below w.heap.size w wx) (ho : wx.ownsRow 0 2 1 (.slice A n c) n (ints ns)) (hx : OwnX wx B m d us ws) (hf : ∀ q, Fo (.slice A n c) q → w0.heap.size ≤ q) (hg : ∀ q, FX B m d us q → w0.heap.size ≤ q) (hd : ∀ q, Fo (.slice A n c) q → FX B m d us q → False) (hr : w.heap.size ≤ r) (hr0 : r < w0.heap.size) :
    PfP w (8, ns, ws, code) (.returned (.tuple #[prfV 8 A n c B m d, .int .i64 code])) (((wx.setCell ⟨r, 0, none⟩ v0).setCell ⟨r, 1, none⟩ v1).setCell ⟨r, 2, none⟩ v2) := by
  have hs := ch_set3 wx r v0 v1 v2
  have h1 := own_ch ho hs (fun k h1 h2 => by have h3 := hf k h1; have e : k = r := h2; omega)
  have h2 := hx.ch hs (fun k h1 h2 => by have h3 := hg k h1; have e : k = r := h2; omega)
  exact ⟨A, n, c, B, m, d, FX B m d us, rfl, own_up2 h1 (fun q hq => by have := hf q hq; omega), h2.ownp, fun q hq => ⟨by have := hg q hq; omega, h2.lt hq⟩, hd, below_ch h hs (fun k hk => by have e : k = r := hk; omega) h.size⟩
end
/-- A result is handed on. -/
theorem pfp_on {w w0 wx : World} {r : Int × List Int × List (List Int) × Int} {e : Ending} (h : PfP w0 r e wx) (hb : Below w.heap.size w w0) : ∃ (A : Option Addr) (n c : Nat) (B : Option Addr) (m d : Nat), e = .returned (.tuple #[prfV r.1 A n c B m d, .int .i64 r.2.2.2]) ∧ Below w.heap.size w wx ∧ ∀ (q : Nat) (v0 v1 v2 : Value), w.heap.size ≤ q → q < w0.heap.size → PfP w r e (((wx.setCell ⟨q, 0, none⟩ v0).setCell ⟨q, 1, none⟩ v1).setCell ⟨q, 2, none⟩ v2) := by
  obtain ⟨A, n, c, B, m, d, F, rfl, ho, hp, hF, hd, hb2⟩ := h
  have hz := hb.trans (hb2.mono hb.size)
  refine ⟨A, n, c, B, m, d, rfl, hz, fun q v0 v1 v2 hq hq0 => ?_⟩
  have hs := ch_set3 wx q v0 v1 v2
  have h1 := own_ch ho hs (fun k h1 h2 => by have h3 := (ho.lt k h1).1; have e : k = q := h2; omega)
  have h2 := hp.ch hs (fun k h1 h2 => by have h3 := (hF k h1).1; have e : k = q := h2; omega)
  exact ⟨A, n, c, B, m, d, F, rfl, ownN_base h1 hb.size, h2, fun k hk => ⟨Nat.le_trans hb.size (hF k hk).1, h2.lt k hk⟩, hd, below_ch hz hs (fun k hk => by have e : k = q := hk; omega) hz.size⟩
set_option maxHeartbeats 16000000 in
set_option maxRecDepth 100000 in
theorem checked_any (w : World) (m : Int) (A1 : Option Addr) (n1 c1 : Nat) (A2 : Option Addr) (n2 c2 : Nat) (A3 : Option Addr) (n3 c3 : Nat) (ls rs ss : List (List Int)) (us3 : List Value) (hr1 : RdL w A1 n1 ls) (hn1 : n1 ≤ 100000000) (hr2 : RdL w A2 n2 rs) (hn2 : n2 ≤ 100000000) (hr3 : OwnX w A3 n3 c3 us3 ss) (hn3 : n3 ≤ 100000000) (hpos : ∀ xs ∈ ss, 1 ≤ xs.length) :
    Calls Try.prog 86 #[csV m A1 n1 c1 A2 n2 c2 A3 n3 c3] w (PfP w (chR ([m, (n1 : Int), (n2 : Int)] ++ ss.map (fun x => x.getD 0 0)) (ls ++ rs ++ ss.map (fun x => x.drop 1)))) := by
  obtain ⟨w0, hw0⟩ : ∃ w0, w0 = (w.alloc (.cells #[.int .i64 m, .slice A1 n1 c1, .slice A2 n2 c2, .slice A3 n3 c3] 125)).alloc (.cells pfZq 48) := ⟨_, rfl⟩
  have hB : Below w.heap.size w w0 := by rw [hw0]; exact (below_new w _).trans ((below_new _ _).mono (by simp))
  have hx0 : w0.heap[w.heap.size]? = some (.cells #[.int .i64 m, .slice A1 n1 c1, .slice A2 n2 c2, .slice A3 n3 c3] 125 (0, 0)) := by rw [hw0]; exact blk_alloc (box_new w _ _) _
  have hz : w0.heap[w.heap.size + 1]? = some (.cells pfZq 48 (0, 0)) := by rw [hw0]; have h := box_new (w.alloc (.cells #[.int .i64 m, .slice A1 n1 c1, .slice A2 n2 c2, .slice A3 n3 c3] 125)) pfZq 48; simpa using h
  have HZ := Lib.hid hz
  have HZL : Hid (w.heap.size + 1 < w0.heap.size) := Lib.hid (blk_lt hz)
  have HB := Lib.hid hB
  have y0 := blk_cell hx0 0 rfl
  have y1 := blk_cell hx0 1 rfl
  have y2 := blk_cell hx0 2 rfl
  have y3 := blk_cell hx0 3 rfl
  have HPR : Hid (Calls Try.prog 135 #[csV m A1 n1 c1 A2 n2 c2 A3 n3 c3] w0 (OutQ w0 ([m, (n1 : Int), (n2 : Int)] ++ ss.map (fun x => x.getD 0 0)) (ls ++ rs ++ ss.map (fun x => x.drop 1)))) := Lib.hid (proof_any w0 m A1 n1 c1 A2 n2 c2 A3 n3 c3 ls rs ss us3 (hr1.below hB (Nat.le_refl _)) hn1 (hr2.below hB (Nat.le_refl _)) hn2 (hr3.below hB) hn3 hpos)
  have HNL : Hid (([m, (n1 : Int), (n2 : Int)] ++ ss.map (fun x => x.getD 0 0)).length ≤ 1000000000) := Lib.hid (by have h := hr3.ownp.len; simp; omega)
  have HWL : Hid ((ls ++ rs ++ ss.map (fun x => x.drop 1)).length ≤ 1000000000) := Lib.hid (by have h := hr3.ownp.len; have h1 := hr1.len; have h2 := hr2.len; simp; omega)
  generalize [m, (n1 : Int), (n2 : Int)] ++ ss.map (fun x => x.getD 0 0) = NS at *
  generalize ls ++ rs ++ ss.map (fun x => x.drop 1) = WS at *
  clear hB hz hx0 hr1 hr2 hr3 hpos
  go_enter Try.func86, Try.ntmps86
  go_upto_region 1 with fail
  rw [← hw0]
  clear hw0
  as_aux_lemma =>
  go_wp2_with fail
  refine HPR.out.mono ?_
  rintro e w2 ⟨A, n, c, B, k, d, us, rfl, ho, hx, hf, hg, hd, hb2⟩
  go_upto_region 2 with fail
  obtain ⟨w3, hw3⟩ : ∃ w3, w3 = w2.alloc (.cells #[.int .i64 8, .slice A n c, .slice B k d] 48) := ⟨_, rfl⟩
  have h23 : Below w2.heap.size w2 w3 := by rw [hw3]; exact below_new w2 _
  have hx3 : w3.heap[w2.heap.size]? = some (.cells #[.int .i64 8, .slice A n c, .slice B k d] 48 (0, 0)) := by rw [hw3]; exact box_new w2 _ _
  have HB3 : Hid (Below w0.heap.size w0 w3) := Lib.hid (hb2.trans (h23.mono hb2.size))
  have HO := Lib.hid (ownN_below ho h23 (Nat.le_refl _)); have HX := Lib.hid (hx.below h23)
  have HF := Lib.hid hf; have HG := Lib.hid hg; have HD := Lib.hid hd
  have hn : n ≤ 1000000000 := row_nq ho HNL.out
  have hk : k ≤ 1000000000 := by have h := hx.ownp.len; have h2 := HWL.out; omega
  have x0 := blk_cell hx3 0 rfl
  have x1 := blk_cell hx3 1 rfl
  have x2 := blk_cell hx3 2 rfl
  have HX3 := Lib.hid hx3
  rw [← hw3]
  clear hw3 hx3 h23 ho hx hf hg hd hb2 y0 y1 y2 y3 HPR
  as_aux_lemma =>
  go_wp2_with fail
  refine (ValidProof_any _ 8 A n c NS (own_rd HO.out) hn B k d WS HX.out.ownp.rdl hk).mono ?_
  rintro e w4 ⟨rfl, hb4⟩
  have HB4 := Lib.hid hb4
  have hzr := blk_bel HZ.out (HB3.out.trans (hb4.mono HB3.out.size))
  have hxr := blk_bel HX3.out hb4
  have z0 := blk_cell hzr 0 rfl
  have z1 := blk_cell hzr 1 rfl
  have z2 := blk_cell hzr 2 rfl
  have f0 := blk_free hzr 0
  have f1 := blk_free hzr 1
  have f2 := blk_free hzr 2
  clear x0 x1 x2
  have x0 := blk_cell hxr 0 rfl
  have x1 := blk_cell hxr 1 rfl
  have x2 := blk_cell hxr 2 rfl
  have HBW : Hid (Below w.heap.size w w4) := Lib.hid (by have h := HB.out.trans (HB3.out.mono HB.out.size); exact h.trans (hb4.mono h.size))
  clear hzr hxr hb4
  cases hv : okP 8 NS WS with
  | false =>
    as_aux_lemma =>
    have HC := Lib.hid (chR_no hv)
    clear hv
    go_wp2_with fail
    exact bodyPost_ret (v := .tuple #[prfV 0 none 0 0 none 0 0, .int .i64 5]) (by simp [results, Try.results86, go_sem, z0, z1, z2]) rfl (by rw [HC.out]; exact pfp_err HBW.out (Nat.le_succ _))
  | true =>
    as_aux_lemma =>
    have HC := Lib.hid (chR_ok hv)
    clear hv
    go_wp2_with fail
    exact bodyPost_ret (v := .tuple #[prfV 8 A n c B k d, .int .i64 0]) (by simp [results, Try.results86, go_sem, z0, z1, z2]) rfl (by rw [HC.out]; exact pfp_ok HBW.out (ownN_below HO.out HB4.out (Nat.le_refl _)) (HX.out.below HB4.out) HF.out HG.out HD.out (Nat.le_succ _) HZL.out)
end Go.Proofs.Ytcpkhhammafchaa
