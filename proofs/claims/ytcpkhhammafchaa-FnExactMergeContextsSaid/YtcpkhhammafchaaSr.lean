/- The lists of a set, sorted: the loop over its keys. -/
import Derived.Test.YtcpkhhammafchaaKy
import Derived.Test.YtcpkhhammafchaaRg
import Derived.Test.YtcpkhhammafchaaPm
import Derived.Test.YtcpkhhammafchaaGF
import Derived.Test.YtcpkhhammafchaaSo
import Derived.Test.YtcpkhhammafchaaGC
import Derived.RangeFuncFrom
import Derived.RangeFuncBox
namespace Go.Proofs.Ytcpkhhammafchaa
open Go.RowKit Go.Maps Go.Sort Go.Shelf
open Go.Maps (Keyed Tidy IsMap)
set_option linter.unusedVariables false
set_option linter.unusedSimpArgs false
attribute [local go_sem] Oper.semAt_some
theorem fx_cells {w : World} {A : Option Addr} {n c : Nat} {us : List Value} {xss : List (List Int)} (h : OwnX w A n c us xss) {k : Nat} (hk : FX A n c us k) : ∃ cs T, w.heap[k]? = some (.cells cs T (0, 0)) := by
  rcases hk with hk | hk
  · obtain ⟨cs, hc⟩ := own_fo h.1 hk; exact ⟨cs, _, hc⟩
  · obtain ⟨cs, hc⟩ := inner_fo h.2 hk; exact ⟨cs, _, hc⟩
theorem ch_keeps {F : Nat → Prop} {w w' : World} (hc : Ch F w w') (hF : ∀ k, F k → ∃ cs T, w.heap[k]? = some (.cells cs T (0, 0))) : KeepsOthers w w' :=
  ⟨hc.size, fun k o hk ho => (hc.block k (Array.getElem?_eq_some_iff.1 hk).1 (fun hf => by
    obtain ⟨cs, T, h⟩ := hF k hf
    rw [h] at hk
    cases hk
    cases ho)).trans hk⟩
theorem below_keeps {w w' : World} (hb : Below w.heap.size w w') : KeepsOthers w w' := ch_keeps (ch_below (F := fun _ => False) hb) (fun _ h => h.elim)
/-- The words of the keys that have come. -/
def wsOf (len : Nat) (pre : List ItK) : List (List Int) := pre.map (fun x => x.1.take len)
theorem wsOf_snoc (len : Nat) (pre : List ItK) (x : ItK) : wsOf len (pre ++ [x]) = wsOf len pre ++ [x.1.take len] := by simp [wsOf]
/-- What the loop over the keys has gathered. -/
def SrI (w : World) (g : Nat) (len : Nat) (pre : List ItK) (W : World) : Prop :=
  (∃ A n c us, W.heap[w.heap.size + 2]? = some (.cells #[.slice A n c] 46 (0, 0)) ∧ OwnX W A n c us (wsOf len pre) ∧ (∀ q, FX A n c us q → w.heap.size + 1 ≤ q ∧ q ≠ w.heap.size + 2) ∧ ∃ ga, A = some ⟨ga, 0, none⟩) ∧
    W.heap[w.heap.size]? = some (.cells #[.pointer (some ⟨g, 0, none⟩)] 128 (0, 0))
theorem SrI.ch {w W W' : World} {g len : Nat} {pre : List ItK} {F : Nat → Prop} (h : SrI w g len pre W) (hc : Ch F W W') (hd : ∀ k cs T, W.heap[k]? = some (.cells cs T (0, 0)) → ¬ F k) : SrI w g len pre W' := by
  obtain ⟨⟨A, n, c, us, h1, h2, h3, hA⟩, h4⟩ := h
  exact ⟨⟨A, n, c, us, blk_ch h1 hc (hd _ _ _ h1), h2.ch hc (fun k hk => by obtain ⟨cs, T, hx⟩ := fx_cells h2 hk; exact hd _ _ _ hx), h3, hA⟩, blk_ch h4 hc (hd _ _ _ h4)⟩
theorem SrI.below {w W W' : World} {g len : Nat} {pre : List ItK} (h : SrI w g len pre W) (hb : Below W.heap.size W W') : SrI w g len pre W' := h.ch (ch_below (F := fun _ => False) hb) (fun _ _ _ _ h => h)
theorem srI_from (w : World) (g len B : Nat) : OwnFrom B (SrI w g len) := fun s X Y row hs hg hr =>
  hs.ch (F := fun k => row = some k) ⟨hg.os, hg.tape, hg.output, hg.size, fun k hk hn => hg.block k hk (fun e => hn e.symm)⟩ (fun k cs T hx hrow => by
    obtain ⟨_, o, ho, hc⟩ := hr k hrow
    rw [hx] at ho
    cases ho
    cases hc)
/-- The box of the loop's variable. -/
def KeyAt (W : World) (Bx : Nat) (x : ItK) : Prop := W.heap[Bx]? = some (.cells (ints x.1).toArray 185 (0, 0))
/-- One key more. -/
theorem SrI.step {w W W2 W4 W5 : World} {g len n c n2 c2 c4 : Nat} {pre : List ItK} {x : ItK} {A A2 A4 : Option Addr} {us : List Value} (h1 : W.heap[w.heap.size + 2]? = some (.cells #[.slice A n c] 46 (0, 0))) (h2 : OwnX W A n c us (wsOf len pre)) (h3 : ∀ q, FX A n c us q → w.heap.size + 1 ≤ q ∧ q ≠ w.heap.size + 2)
    (h4 : W.heap[w.heap.size]? = some (.cells #[.pointer (some ⟨g, 0, none⟩)] 128 (0, 0))) (hbw : Below w.heap.size w W)
    (hb : Below W.heap.size W W2) (ho : W2.ownsRow W.heap.size 2 1 (.slice A2 n2 c2) n2 (ints (x.1.take len))) (hn : n2 ≤ 1000000000)
    (ho4 : W4.ownsRow 0 25 1 (.slice A4 (n + 1) c4) (n + 1) (us ++ [.slice A2 n2 c2])) (hc4 : Ch (Fo (.slice A n c)) W2 W4) (hf : ∀ q, Fo (.slice A4 (n + 1) c4) q → Fo (.slice A n c) q ∨ W2.heap.size ≤ q) (h5 : W5 = W4.setCell ⟨w.heap.size + 2, 0, none⟩ (.slice A4 (n + 1) c4)) :
    SrI w g len (pre ++ [x]) W5 ∧ Below w.heap.size w W5 ∧ KeepsOthers W W5 := by
  subst h5
  obtain ⟨hx, hfx⟩ := h2.step hb ho hn ho4 hc4 hf
  have hlt := blk_lt h1
  have hlt4 := blk_lt h4
  have hn2 : ¬ Fo (.slice A n c) (w.heap.size + 2) := fun h => (h3 _ (.inl h)).2 rfl
  have hn0 : ¬ Fo (.slice A n c) w.heap.size := fun h => by have := (h3 _ (.inl h)).1; omega
  have k1 : W4.heap[w.heap.size + 2]? = some (.cells #[.slice A n c] 46 (0, 0)) := blk_ch (blk_bel h1 hb) hc4 hn2
  have k4 : W4.heap[w.heap.size]? = some (.cells #[.pointer (some ⟨g, 0, none⟩)] 128 (0, 0)) := blk_ch (blk_bel h4 hb) hc4 hn0
  have hs := ch_set W4 (w.heap.size + 2) 0 (.slice A4 (n + 1) c4)
  have hfx2 : ∀ q, FX A4 (n + 1) c4 (us ++ [.slice A2 n2 c2]) q → w.heap.size + 1 ≤ q ∧ q ≠ w.heap.size + 2 := fun q hq => by
    rcases hfx q hq with h | h
    · exact h3 q h
    · omega
  have hbase : ∀ k, Fo (.slice A n c) k → w.heap.size ≤ k := fun k hk => by have := (h3 k (.inl hk)).1; omega
  have hb4 : Below w.heap.size w W4 := below_ch (hbw.trans (hb.mono hbw.size)) hc4 hbase (Nat.le_trans hbw.size hb.size)
  refine ⟨⟨⟨A4, n + 1, c4, _, by have h := blk_set k1 0 (.slice A4 (n + 1) c4); simpa using h, ?_, hfx2, own_addr ho4 (Nat.succ_pos _)⟩, blk_ch k4 hs (by omega)⟩, below_ch hb4 hs (fun k hk => by omega) hb4.size, ?_⟩
  · rw [wsOf_snoc]
    exact hx.ch hs (fun k hk e => (hfx2 k hk).2 e)
  · have hk1 : KeepsOthers W W2 := below_keeps hb
    have hk2 : KeepsOthers W2 W4 := ch_keeps hc4 (fun k hk => by obtain ⟨cs, hc⟩ := own_fo (ownN_below h2.1 hb (Nat.le_refl _)) hk; exact ⟨cs, _, hc⟩)
    exact (hk1.trans hk2).trans (KeepsOthers.setCell _ _ _)
/-- All keys: the words of the set, each once. -/
theorem all_words {len : Nat} {xss : List (List Int)} {pre : List ItK} (hS : AllK (setD xss) pre) (hx : ∀ xs ∈ xss, Gw xs ∧ xs.length = len) : (wsOf len pre).Nodup ∧ ∀ z, z ∈ wsOf len pre ↔ z ∈ xss := by
  have hkey : ∀ x ∈ pre, ∃ xs ∈ xss, x.1 = pad xs := by
    intro x hx2
    have h1 := (hS.2 x).1 hx2
    rw [setD, has_setOf _ _ _ (fun k hk => by
      obtain ⟨xs, h2, rfl⟩ := List.mem_map.1 hk
      exact kIt_key (pad_len (hx xs h2).1.1) (hx xs h2).1.pad)] at h1
    obtain ⟨k, hk, h4⟩ := List.any_eq_true.1 h1
    obtain ⟨xs, h3, rfl⟩ := List.mem_map.1 hk
    have h5 : (klK ⟨pad xs, pad_len (hx xs h3).1.1, fun y hy => wf_sm ((hx xs h3).1.pad y hy)⟩).sameKey (klK x) = true := h4
    rw [klK_same] at h5
    exact ⟨xs, h3, (congrArg Subtype.val (of_decide_eq_true h5)).symm⟩
  have htk : ∀ xs ∈ xss, (pad xs).take len = xs := fun xs h => by
    rw [← (hx xs h).2, pad, List.take_left]
  refine ⟨?_, fun z => ?_⟩
  · refine List.pairwise_map.2 (hS.1.imp_of_mem fun {a b} ha hb hne e => hne ?_)
    obtain ⟨xs, h1, h2⟩ := hkey a ha
    obtain ⟨ys, h3, h4⟩ := hkey b hb
    rw [h2, h4, htk xs h1, htk ys h3] at e
    subst e
    exact Subtype.ext (h2.trans h4.symm)
  · constructor
    · intro hz
      obtain ⟨x, hx2, rfl⟩ := List.mem_map.1 hz
      obtain ⟨xs, h1, h2⟩ := hkey x hx2
      rw [h2, htk xs h1]
      exact h1
    · intro hz
      have hw : ∀ y ∈ pad z, (Lit.int .i64 y).wf = true := fun y hy => wf_sm ((hx z hz).1.pad y hy)
      refine List.mem_map.2 ⟨⟨pad z, pad_len (hx z hz).1.1, hw⟩, (hS.2 _).2 ?_, htk z hz⟩
      rw [setD, has_setOf _ _ _ (fun k hk => by
        obtain ⟨xs, h2, rfl⟩ := List.mem_map.1 hk
        exact kIt_key (pad_len (hx xs h2).1.1) (hx xs h2).1.pad)]
      refine List.any_eq_true.2 ⟨kIt (pad z), List.mem_map.2 ⟨z, hz, rfl⟩, ?_⟩
      have h2 := klK_same ⟨pad z, pad_len (hx z hz).1.1, hw⟩ ⟨pad z, pad_len (hx z hz).1.1, hw⟩
      rw [decide_eq_true rfl] at h2
      exact h2
theorem sorted_same {len : Nat} {xss xss' : List (List Int)} {pre : List ItK} (hS : AllK (setD xss) pre) (hx : ∀ xs ∈ xss, Gw xs ∧ xs.length = len) (hp : xss'.Perm (wsOf len pre)) (hw : xss'.Pairwise (fun a b => cmpL a b ≤ 0)) : sortU xss = xss' := by
  obtain ⟨h1, h2⟩ := all_words hS hx
  have hn : xss'.Nodup := hp.nodup_iff.2 h1
  refine sortU_of ((hw.and hn).imp (fun {a b} h => ?_)) (fun z => by rw [hp.mem_iff, h2])
  have h3 : cmpL a b ≠ 0 := fun e => h.2 (cmpL_zero.1 e)
  have := h.1
  omega
/-- 'append(s, y)' in a region that draws its order. -/
theorem step_app1 {P : Program} {ops : Array Oper} {o : Oper} {a : Act} {K : Act → World → Prop} {Q : Exit → Act → World → Prop} {E : Prop} {t e : TypeId} {z : Value} (hE : Elt P t e z) (hgd : o.guard = none) (s x : Operand)
    (ho : o.op = .call { callee := .builtin .append, args := #[s, x], argTypes := #[t, t] }) (W : World) (A : Option Addr) (n c : Nat) (vs : List Value) (hs : a.eval s = .slice A n c) (hown : W.ownsRow 0 e 1 (.slice A n c) n vs)
    (y : Value) (hy : y.oneCell' = true) (hx : a.eval x = .slice (some ⟨W.heap.size, 0, none⟩) 1 1) (hn : n ≤ 1000000000)
    (h : ∀ A' c' w', w'.ownsRow 0 e 1 (.slice A' (n + 1) c') (n + 1) (vs ++ [y]) → Ch (Fo (.slice A n c)) W w' → (∀ k, Fo (.slice A' (n + 1) c') k → Fo (.slice A n c) k ∨ W.heap.size ≤ k) → K (a.put o.dst (.slice A' (n + 1) c')) w') :
    if Region.wanted o (yielded ops a.tmps) = true then Oper.wp P o a (W.alloc (.cells #[y] e)) K Q else E := by
  have hr : Rd (W.alloc (.cells #[y] e)) (some ⟨W.heap.size, 0, none⟩) 1 [y] := own_rd (own_lit W #[y] 1 e rfl (by omega))
  obtain ⟨A', c', w', hrun, k1, k2, k3⟩ := run_appO (ty := o.type) (c0 := 1) hE (ownN_below hown (below_new W _) (Nat.le_refl _)) hr (by simpa using hy) (by omega) (by omega)
  have hw : Region.wanted o (yielded ops a.tmps) = true := by simp [Region.wanted, hgd]
  rw [if_pos hw]
  unfold Oper.wp
  simp [execOp, ho, resolve, invoke, builtin, hs, hx, hrun, Result.andThen]
  refine h A' c' w' k1 ((ch_alloc (Fo (.slice A n c)) W _).trans k2) (fun k hk => ?_)
  rcases k3 k hk with h' | h'
  · exact .inl h'
  · exact .inr (by simp at h'; omega)
set_option maxHeartbeats 1000000 in
theorem keys_in (F : Fence) (n : Nat) (h7 : F.fn 132) (hro : F.round = none) (mb : Option Nat) (w : World) :
    CallsIn F n Try.prog 132 #[.map mb] w fun e w' => e = .returned (.func (.func 158) #[] #[.pointer (some ⟨w.heap.size, 0, none⟩)]) ∧ w' = w.alloc (.cells #[.map mb] 181) := by
  refine callsIn_of_wp Try.func132 rfl h7 ?_ hro
  simp only [Try.ntmps132, List.size_toArray, List.length_cons, List.length_nil, Nat.reduceAdd, Nat.reduceSub, Array.replicate_succ, Array.replicate_zero, List.push_toArray, List.append_toArray, List.nil_append, List.cons_append]
  gi_wp2
  go_ret
  exact ⟨rfl, rfl⟩
/-- maps.Keys hands back an iterator over all keys. -/
theorem keys_stops (F : Fence) (n : Nat) (h10 : F.fn 158) (hro : F.round = none) (hn : 1 ≤ n) (Bm b nn : Nat) (D0 : DataW Unit) (w : World) (hBm : Bm < w.heap.size)
    (hm : w.cell? ⟨Bm, 0, none⟩ = some (.map (some b))) (hown : w.ownsMap Try.prog 185 (plainElem (H := Unit) Try.prog 4) b nn D0) :
    SeqStopsK F n Try.prog 158 #[.pointer (some ⟨Bm, 0, none⟩)] (fun x : ItK => #[encK x]) KeepsWalks (AllK D0) (fun _ => True) (Maps.size D0) w := fun l J Jx W hW hJ _ hY h0 => by
  have hown' : W.ownsMap Try.prog 185 (plainElem (H := Unit) Try.prog 4) b nn D0 := by
    have hbl := hown.lt
    obtain ⟨es, clock, hb, Ft, hs, hD⟩ := hown
    exact ⟨es, clock, (hW.block b hbl).trans hb, Ft, hs, hD⟩
  exact keys1_in F n h10 hro hn l Bm b nn D0 J Jx hY W hJ ((hW.cell (p := ⟨Bm, 0, none⟩) hBm).trans hm) hown' h0
set_option maxHeartbeats 4000000 in
set_option maxRecDepth 100000 in
theorem sorted_any (w : World) (g mB : Nat) (len : Nat) (xss : List (List Int)) (hs : IsSet w g mB len xss) (hlen : len ≤ 10) (hsz : xss.length ≤ 1000000) (hx : ∀ xs ∈ xss, Gw xs ∧ xs.length = len) :
    Calls Try.prog 85 #[.pointer (some ⟨g, 0, none⟩)] w (RetP w (sortU xss)) := by
  refine (callsIn_wide (n := 6)).1 ?_
  refine callsIn_of_wp_marks Try.func85 rfl trivial ?_ rfl
  simp only [Try.ntmps85, List.size_toArray, List.length_cons, List.length_nil, Nat.reduceAdd, Nat.reduceSub, Array.replicate_succ, Array.replicate_zero, List.push_toArray, List.append_toArray, List.nil_append, List.cons_append]
  refine wpIn_wide.2 ?_
  obtain ⟨w0, hw0⟩ : ∃ w0, w0 = ((w.alloc (.cells #[.pointer (some ⟨g, 0, none⟩)] 128)).alloc (.cells #[] 25)).alloc (.cells #[.slice (some ⟨w.heap.size + 1, 0, none⟩) 0 0] 46) := ⟨_, rfl⟩
  have hB : Below w.heap.size w w0 := by rw [hw0]; exact ((below_new w _).trans ((below_new _ _).mono (by simp))).trans ((below_new _ _).mono (by simp; omega))
  have hg : g < w.heap.size := blk_lt hs.box
  have HB0 := Lib.hid hB
  have HS0 := Lib.hid (hs.below hB)
  have y0 : w0.heap[w.heap.size]? = some (.cells #[.pointer (some ⟨g, 0, none⟩)] 128 (0, 0)) := by rw [hw0]; exact blk_alloc (blk_alloc (box_new w _ _) _) _
  have y2 : w0.heap[w.heap.size + 2]? = some (.cells #[.slice (some ⟨w.heap.size + 1, 0, none⟩) 0 0] 46 (0, 0)) := by rw [hw0]; have h := box_new ((w.alloc (.cells #[.pointer (some ⟨g, 0, none⟩)] 128)).alloc (.cells #[] 25)) #[.slice (some ⟨w.heap.size + 1, 0, none⟩) 0 0] 46; simpa using h
  have yo : OwnX w0 (some ⟨w.heap.size + 1, 0, none⟩) 0 0 [] (wsOf len []) := by
    rw [hw0]
    have ho := own_lit (w.alloc (.cells #[.pointer (some ⟨g, 0, none⟩)] 128)) #[] 0 25 rfl (by omega)
    have hz : OwnX ((w.alloc (.cells #[.pointer (some ⟨g, 0, none⟩)] 128)).alloc (.cells #[] 25)) (some ⟨w.heap.size + 1, 0, none⟩) 0 0 [] (wsOf len []) := ⟨by have h := ownN_base ho (Nat.zero_le _); simpa using h, InnerP.nil _ _⟩
    exact hz.below (below_new _ _)
  have HI0 : Hid (SrI w g len [] w0) := Lib.hid ⟨⟨_, 0, 0, [], y2, yo, fun q hq => by
    rcases hq with hq | ⟨u, hu, _⟩
    · simp [Fo, Value.ownBlock] at hq; omega
    · simp at hu, _, rfl⟩, y0⟩
  have hsz0 : w0.heap.size = w.heap.size + 3 := by rw [hw0]; simp
  have HSZ := Lib.hid hsz0
  have HBX := Lib.hid hs.box
  have HNN : Hid (Maps.size (setD xss) ≤ xss.length) := Lib.hid hs.own.size_le
  clear hs y2 yo hB hsz0
  go_upto_region 2 with fail
  rw [← hw0]
  clear hw0
  have hB := HS0.out.box
  have p0 : w0.cell? ⟨w.heap.size, 0, none⟩ = some (.pointer (some ⟨g, 0, none⟩)) := blk_cell y0 0 rfl
  have x0 : w0.cell? ⟨g, 0, none⟩ = some (.map (some mB)) := blk_cell HS0.out.box 0 rfl
  go_upto_region 3 with (go_at_call 132; refine (callsIn_wide.1 (keys_in Fence.wide 1 trivial rfl _ _)).mono ?_; rintro e w' ⟨rfl, rfl⟩)
  obtain ⟨w1, hw1⟩ : ∃ w1, w1 = w0.alloc (.cells #[.map (some mB)] 181) := ⟨_, rfl⟩
  have hb1 : Below w0.heap.size w0 w1 := by rw [hw1]; exact below_new _ _
  have hm1 : w1.cell? ⟨w0.heap.size, 0, none⟩ = some (.map (some mB)) := by rw [hw1]; exact blk_cell (box_new w0 _ _) 0 rfl
  have hl1 : w0.heap.size < w1.heap.size := by rw [hw1]; simp
  have HI1 := Lib.hid (HI0.out.below hb1)
  have HS1 := Lib.hid (HS0.out.below hb1)
  have HB1 : Hid (Below w.heap.size w w1) := Lib.hid (HB0.out.trans (hb1.mono HB0.out.size))
  have hsz1 : w1.heap.size = w.heap.size + 4 := by have h := HSZ.out; rw [hw1]; simp [h]
  rw [← hw1]
  clear hw1 p0 x0 hB hb1
  refine (wpIn_wide (n := 6)).1 ?_
  refine wpIn_rangeFunc_ownH rfl (by omega) (gf := 158) (lb := #[.pointer (some ⟨w0.heap.size, 0, none⟩)]) rfl trivial (enters_of Try.func158 (by kernel_rfl) rfl)
    (keys_stops Fence.wide 5 trivial rfl (by omega) w0.heap.size mB _ _ w1 hl1 hm1 HS1.out.own) walksK_t walksK_b (Below.refl _ _) (fun _ => rfl)
    (fun pre W => (SrI w g len pre W ∧ Below w.heap.size w W) ∧ pre.length ≤ Maps.size (setD xss))
    (fun _ _ _ => False)
    (OwnFrom.and (OwnFrom.and (srI_from w g len _) (ownFrom_below (Nat.le_refl _) (by omega))) (ownFrom_pure _ (fun (pre : List ItK) => pre.length ≤ Maps.size (setD xss))))
    (fun _ _ _ _ _ hs _ _ => hs)
    ⟨⟨HI1.out, HB1.out⟩, Nat.zero_le _⟩
    (fun x a' W => ∃ Bx, w.heap.size + 2 < Bx ∧ KeyAt W Bx x ∧ a' = { tmps := #[.pointer (some ⟨g, 0, none⟩), .pointer (some ⟨w.heap.size, 0, none⟩), .slice none 0 0, .pointer (some ⟨w.heap.size + 1 + 1, 0, none⟩), .pointer (some ⟨Bx, 0, none⟩), .slice (some ⟨w.heap.size + 1, 0, none⟩) 0 0, .pointer (some ⟨g, 0, none⟩), .pointer (some ⟨g, 0, none⟩), .pointer (some ⟨g, 0, none⟩), .map (some mB), .func (.func 158) #[] #[.pointer (some ⟨w0.heap.size, 0, none⟩)], encK x, undef, undef, undef, undef, undef, undef, undef, undef, undef, undef, undef, undef], defers := [] })
    (fun x a' _ X Y row hs hg hr => by
      obtain ⟨Bx, h1, h2, h3⟩ := hs
      refine ⟨Bx, h1, ?_, h3⟩
      refine (hg.block Bx (blk_lt h2) (fun e => ?_)).trans h2
      obtain ⟨_, o, ho, hc⟩ := hr Bx e.symm
      rw [h2] at ho
      cases ho
      cases hc)
    ?assign ?body ?done ?stop
  case assign =>
    rintro l pre x W K ⟨⟨hI, hbw⟩, hpl⟩ hK
    have hsx : (Try.prog.info? 185).map (·.size) = some (ints x.1).toArray.size := by rw [List.size_toArray, encK_len]; exact Try.itSize
    have hone : (ints x.1).toArray.all (·.oneCell') = true := all_oneCell_toArray ints_one
    have hz : (z10).size = (ints x.1).toArray.size := by simp [x.2.1]
    have hlt2 : w.heap.size + 2 < W.heap.size := by obtain ⟨⟨_, _, _, _, h1, _⟩, _⟩ := hI; exact blk_lt h1
    gi_wp2_with (first
      | (refine wpListIn_store_new (by rfl) 185 (.tmp 4) (.tmp 11) (by rfl) W z10 (ints x.1).toArray (by rfl) (by rfl) (by rfl) hz hsx hone ?_
         intro w3 hg3 hs3 hb3 hbe3)
      | gi_in)
    exact hK _ _ ((below_keeps hbe3).from _) (below_keeps hbe3).walks ⟨⟨hI.below hbe3, hbw.trans (hbe3.mono hbw.size)⟩, hpl⟩ ⟨W.heap.size, hlt2, hb3, rfl⟩
  case body =>
    rintro l pre x a' W hl _ ⟨⟨hI, hbw⟩, _⟩ ⟨Bx, hBx, hkx, rfl⟩ hlt
    obtain ⟨⟨A, n, c, us, h1, h2, h3, _⟩, h4⟩ := hI
    have hn : n ≤ 1000000 := by
      have h5 := h2.ownp.rdl.len
      have h6 := HNN.out
      simp only [wsOf, List.length_map] at h5
      omega
    have c1 : W.cell? ⟨w.heap.size + 1 + 1, 0, none⟩ = some (.slice A n c) := blk_cell h1 0 rfl
    have c4 : W.cell? ⟨w.heap.size, 0, none⟩ = some (.pointer (some ⟨g, 0, none⟩)) := blk_cell h4 0 rfl
    have c5 : W.cell? ⟨g, 1, none⟩ = some (.int .i64 len) := blk_cell ((hbw.block g hg).trans HBX.out) 1 rfl
    have hl0 : (0 : Int) ≤ (len : Int) := by omega
    have hl10 : (len : Int) ≤ 10 := by omega
    have hrx : Rd W.drew (some ⟨Bx, 0, none⟩) len (ints (x.1.take len)) := by
      refine ⟨by simp [x.2.1]; omega, fun _ => ⟨Bx, 0, rfl, blk_lt hkx, fun j u hj => ?_⟩⟩
      rw [Nat.zero_add]
      refine blk_cell (w := W.drew) (by exact hkx) j ?_
      have h6 := (List.getElem?_eq_some_iff.1 hj).1
      simp only [List.length_map, List.length_take] at h6
      rw [List.getElem?_map, List.getElem?_take_of_lt (by omega)] at hj
      simpa using hj
    have hmx : Try.prog.follows .mixedOrders = true := by kernel_rfl
    have hd1 : 1 ≤ 6 - 1 - 1 := by omega
    have H1 := Lib.hid h1; have H2 := Lib.hid h2; have H3 := Lib.hid h3; have H4 := Lib.hid h4; have HBW := Lib.hid hbw
    clear h1 h2 h3 h4 hbw hkx
    gi_wp2
    refine wpIn_region_any hmx ?_
    refine wpAny_in_round (fun o ho c hc => by simp at ho; rcases ho with rfl | rfl | rfl | rfl | rfl | rfl | rfl | rfl | rfl | rfl <;> cases hc) (by rintro ⟨a, w, h⟩; exact h) _ _ _ _ ?_
    change wpAny _ _ _ _ _ _ _ W.drew
    refine wpAny_ready (rs := [0, 1]) (by kernel_rfl) (by simp) ?_
    refine AllReady.cons rfl (fun K hK => ?_) (AllReady.cons rfl (fun K hK => ?_) AllReady.nil)
    · as_aux_lemma =>
      go_simp
      refine hK _ _ ?_
      clear hK K
      try simp only [Act.put, List.setIfInBounds_toArray, List.set_cons_zero, List.set_cons_succ]
      refine wpAny_ready (rs := [1]) (by kernel_rfl) (by simp) ?_
      refine AllReady.cons rfl (fun K hK => ?_) AllReady.nil
      go_simp
      refine hK _ _ ?_
      clear hK K
      try simp only [Act.put, List.setIfInBounds_toArray, List.set_cons_zero, List.set_cons_succ]
      refine wpAny_ready (rs := [2]) (by kernel_rfl) (by simp) ?_
      refine AllReady.cons rfl (fun K hK => ?_) AllReady.nil
      go_simp
      refine hK _ _ ?_
      clear hK K
      try simp only [Act.put, List.setIfInBounds_toArray, List.set_cons_zero, List.set_cons_succ]
      refine wpAny_ready (rs := [3]) (by kernel_rfl) (by simp) ?_
      refine AllReady.cons rfl (fun K hK => ?_) AllReady.nil
      go_simp
      refine hK _ _ ?_
      clear hK K
      try simp only [Act.put, List.setIfInBounds_toArray, List.set_cons_zero, List.set_cons_succ]
      refine wpAny_ready (rs := [4]) (by kernel_rfl) (by simp) ?_
      refine AllReady.cons rfl (fun K hK => ?_) AllReady.nil
      go_simp
      refine hK _ _ ?_
      clear hK K
      try simp only [Act.put, List.setIfInBounds_toArray, List.set_cons_zero, List.set_cons_succ]
      refine wpAny_ready (rs := [5]) (by kernel_rfl) (by simp) ?_
      refine AllReady.cons rfl (fun K hK => ?_) AllReady.nil
      go_simp
      refine hK _ _ ?_
      clear hK K
      try simp only [Act.put, List.setIfInBounds_toArray, List.set_cons_zero, List.set_cons_succ]
      refine wpAny_ready (rs := [6]) (by kernel_rfl) (by simp) ?_
      refine AllReady.cons rfl (fun K hK => ?_) AllReady.nil
      go_simp
      go_at_call 99
      refine (clone_any W.drew (some ⟨Bx, 0, none⟩) len 10 (x.1.take len) hrx (by omega)).mono ?_
      rintro e W2 ⟨A2, n2, c2, rfl, ho2, hb2⟩
      have HB2 := Lib.hid (und1 hb2)
      have HO2 := Lib.hid ho2
      have d1 : W2.cell? ⟨w.heap.size + 1 + 1, 0, none⟩ = some (.slice A n c) := blk_cell (blk_bel H1.out HB2.out) 0 rfl
      have d1b : (W2.alloc (.cells #[.slice A2 n2 c2] 25)).cell? ⟨w.heap.size + 1 + 1, 0, none⟩ = some (.slice A n c) := blk_cell (blk_alloc (blk_bel H1.out HB2.out) (.cells #[.slice A2 n2 c2] 25)) 0 rfl
      have HN2 : Hid (n2 ≤ 1000000000) := Lib.hid (by have h := ho2.1; simp only [List.length_map, List.length_take] at h; omega)
      clear ho2 hb2
      go_simp
      refine hK _ _ ?_
      clear hK K
      try simp only [Act.put, List.setIfInBounds_toArray, List.set_cons_zero, List.set_cons_succ]
      refine wpAny_ready (rs := [7]) (by kernel_rfl) (by simp) ?_
      refine AllReady.cons rfl (fun K hK => ?_) AllReady.nil
      go_simp
      refine hK _ _ ?_
      clear hK K
      try simp only [Act.put, List.setIfInBounds_toArray, List.set_cons_zero, List.set_cons_succ]
      refine wpAny_ready (rs := [8]) (by kernel_rfl) (by simp) ?_
      refine AllReady.cons rfl (fun K hK => ?_) AllReady.nil
      refine step_app1 Try.eltS (by rfl) (.tmp 12) (.tmp 19) (by rfl) W2 A n c us (by rfl) (H2.out.below HB2.out).1 (.slice A2 n2 c2) rfl (by rfl) (by omega) ?_
      intro A4 cA W4 ho4 hc4 hf4
      have HO4 := Lib.hid ho4; have HC4 := Lib.hid hc4; have HF4 := Lib.hid hf4
      have d4 : W4.heap[w.heap.size + 2]? = some (.cells #[.slice A n c] 46 (0, 0)) := blk_ch (blk_bel H1.out HB2.out) HC4.out (fun h => (H3.out _ (.inl h)).2 rfl)
      have d2 : W4.cell? ⟨w.heap.size + 1 + 1, 0, none⟩ = some (.slice A n c) := blk_cell d4 0 rfl
      have d3 : W4.frozen? ⟨w.heap.size + 1 + 1, 0, none⟩ = false := blk_free d4 0
      clear ho4 hc4 hf4 d4
      refine hK _ _ ?_
      clear hK K
      try simp only [Act.put, List.setIfInBounds_toArray, List.set_cons_zero, List.set_cons_succ]
      refine wpAny_ready (rs := [9]) (by kernel_rfl) (by simp) ?_
      refine AllReady.cons rfl (fun K hK => ?_) AllReady.nil
      go_simp
      refine hK _ _ ?_
      clear hK K
      try simp only [Act.put, List.setIfInBounds_toArray, List.set_cons_zero, List.set_cons_succ]
      refine wpAny_done (by kernel_rfl) ?_ _
      obtain ⟨k1, k2, k3⟩ := SrI.step H1.out H2.out H3.out H4.out HBW.out HB2.out HO2.out HN2.out HO4.out HC4.out HF4.out rfl
      exact ⟨k3.from _, k3.walks, ⟨k1, k2⟩, by simp; omega⟩
    · as_aux_lemma =>
      go_simp
      refine hK _ _ ?_
      clear hK K
      try simp only [Act.put, List.setIfInBounds_toArray, List.set_cons_zero, List.set_cons_succ]
      refine wpAny_ready (rs := [0, 2]) (by kernel_rfl) (by simp) ?_
      refine AllReady.cons rfl (fun K hK => ?_) (AllReady.cons rfl (fun K hK => ?_) AllReady.nil)
      · as_aux_lemma =>
        go_simp
        refine hK _ _ ?_
        clear hK K
        try simp only [Act.put, List.setIfInBounds_toArray, List.set_cons_zero, List.set_cons_succ]
        refine wpAny_ready (rs := [2]) (by kernel_rfl) (by simp) ?_
        refine AllReady.cons rfl (fun K hK => ?_) AllReady.nil
        go_simp
        refine hK _ _ ?_
        clear hK K
        try simp only [Act.put, List.setIfInBounds_toArray, List.set_cons_zero, List.set_cons_succ]
        refine wpAny_ready (rs := [3]) (by kernel_rfl) (by simp) ?_
        refine AllReady.cons rfl (fun K hK => ?_) AllReady.nil
        go_simp
        refine hK _ _ ?_
        clear hK K
        try simp only [Act.put, List.setIfInBounds_toArray, List.set_cons_zero, List.set_cons_succ]
        refine wpAny_ready (rs := [4]) (by kernel_rfl) (by simp) ?_
        refine AllReady.cons rfl (fun K hK => ?_) AllReady.nil
        go_simp
        refine hK _ _ ?_
        clear hK K
        try simp only [Act.put, List.setIfInBounds_toArray, List.set_cons_zero, List.set_cons_succ]
        refine wpAny_ready (rs := [5]) (by kernel_rfl) (by simp) ?_
        refine AllReady.cons rfl (fun K hK => ?_) AllReady.nil
        go_simp
        refine hK _ _ ?_
        clear hK K
        try simp only [Act.put, List.setIfInBounds_toArray, List.set_cons_zero, List.set_cons_succ]
        refine wpAny_ready (rs := [6]) (by kernel_rfl) (by simp) ?_
        refine AllReady.cons rfl (fun K hK => ?_) AllReady.nil
        go_simp
        go_at_call 99
        refine (clone_any W.drew (some ⟨Bx, 0, none⟩) len 10 (x.1.take len) hrx (by omega)).mono ?_
        rintro e W2 ⟨A2, n2, c2, rfl, ho2, hb2⟩
        have HB2 := Lib.hid (und1 hb2)
        have HO2 := Lib.hid ho2
        have d1 : W2.cell? ⟨w.heap.size + 1 + 1, 0, none⟩ = some (.slice A n c) := blk_cell (blk_bel H1.out HB2.out) 0 rfl
        have d1b : (W2.alloc (.cells #[.slice A2 n2 c2] 25)).cell? ⟨w.heap.size + 1 + 1, 0, none⟩ = some (.slice A n c) := blk_cell (blk_alloc (blk_bel H1.out HB2.out) (.cells #[.slice A2 n2 c2] 25)) 0 rfl
        have HN2 : Hid (n2 ≤ 1000000000) := Lib.hid (by have h := ho2.1; simp only [List.length_map, List.length_take] at h; omega)
        clear ho2 hb2
        go_simp
        refine hK _ _ ?_
        clear hK K
        try simp only [Act.put, List.setIfInBounds_toArray, List.set_cons_zero, List.set_cons_succ]
        refine wpAny_ready (rs := [7]) (by kernel_rfl) (by simp) ?_
        refine AllReady.cons rfl (fun K hK => ?_) AllReady.nil
        go_simp
        refine hK _ _ ?_
        clear hK K
        try simp only [Act.put, List.setIfInBounds_toArray, List.set_cons_zero, List.set_cons_succ]
        refine wpAny_ready (rs := [8]) (by kernel_rfl) (by simp) ?_
        refine AllReady.cons rfl (fun K hK => ?_) AllReady.nil
        refine step_app1 Try.eltS (by rfl) (.tmp 12) (.tmp 19) (by rfl) W2 A n c us (by rfl) (H2.out.below HB2.out).1 (.slice A2 n2 c2) rfl (by rfl) (by omega) ?_
        intro A4 cA W4 ho4 hc4 hf4
        have HO4 := Lib.hid ho4; have HC4 := Lib.hid hc4; have HF4 := Lib.hid hf4
        have d4 : W4.heap[w.heap.size + 2]? = some (.cells #[.slice A n c] 46 (0, 0)) := blk_ch (blk_bel H1.out HB2.out) HC4.out (fun h => (H3.out _ (.inl h)).2 rfl)
        have d2 : W4.cell? ⟨w.heap.size + 1 + 1, 0, none⟩ = some (.slice A n c) := blk_cell d4 0 rfl
        have d3 : W4.frozen? ⟨w.heap.size + 1 + 1, 0, none⟩ = false := blk_free d4 0
        clear ho4 hc4 hf4 d4
        refine hK _ _ ?_
        clear hK K
        try simp only [Act.put, List.setIfInBounds_toArray, List.set_cons_zero, List.set_cons_succ]
        refine wpAny_ready (rs := [9]) (by kernel_rfl) (by simp) ?_
        refine AllReady.cons rfl (fun K hK => ?_) AllReady.nil
        go_simp
        refine hK _ _ ?_
        clear hK K
        try simp only [Act.put, List.setIfInBounds_toArray, List.set_cons_zero, List.set_cons_succ]
        refine wpAny_done (by kernel_rfl) ?_ _
        obtain ⟨k1, k2, k3⟩ := SrI.step H1.out H2.out H3.out H4.out HBW.out HB2.out HO2.out HN2.out HO4.out HC4.out HF4.out rfl
        exact ⟨k3.from _, k3.walks, ⟨k1, k2⟩, by simp; omega⟩
      · as_aux_lemma =>
        go_simp
        refine hK _ _ ?_
        clear hK K
        try simp only [Act.put, List.setIfInBounds_toArray, List.set_cons_zero, List.set_cons_succ]
        refine wpAny_ready (rs := [0, 3]) (by kernel_rfl) (by simp) ?_
        refine AllReady.cons rfl (fun K hK => ?_) (AllReady.cons rfl (fun K hK => ?_) AllReady.nil)
        · as_aux_lemma =>
          go_simp
          refine hK _ _ ?_
          clear hK K
          try simp only [Act.put, List.setIfInBounds_toArray, List.set_cons_zero, List.set_cons_succ]
          refine wpAny_ready (rs := [3]) (by kernel_rfl) (by simp) ?_
          refine AllReady.cons rfl (fun K hK => ?_) AllReady.nil
          go_simp
          refine hK _ _ ?_
          clear hK K
          try simp only [Act.put, List.setIfInBounds_toArray, List.set_cons_zero, List.set_cons_succ]
          refine wpAny_ready (rs := [4]) (by kernel_rfl) (by simp) ?_
          refine AllReady.cons rfl (fun K hK => ?_) AllReady.nil
          go_simp
          refine hK _ _ ?_
          clear hK K
          try simp only [Act.put, List.setIfInBounds_toArray, List.set_cons_zero, List.set_cons_succ]
          refine wpAny_ready (rs := [5]) (by kernel_rfl) (by simp) ?_
          refine AllReady.cons rfl (fun K hK => ?_) AllReady.nil
          go_simp
          refine hK _ _ ?_
          clear hK K
          try simp only [Act.put, List.setIfInBounds_toArray, List.set_cons_zero, List.set_cons_succ]
          refine wpAny_ready (rs := [6]) (by kernel_rfl) (by simp) ?_
          refine AllReady.cons rfl (fun K hK => ?_) AllReady.nil
          go_simp
          go_at_call 99
          refine (clone_any W.drew (some ⟨Bx, 0, none⟩) len 10 (x.1.take len) hrx (by omega)).mono ?_
          rintro e W2 ⟨A2, n2, c2, rfl, ho2, hb2⟩
          have HB2 := Lib.hid (und1 hb2)
          have HO2 := Lib.hid ho2
          have d1 : W2.cell? ⟨w.heap.size + 1 + 1, 0, none⟩ = some (.slice A n c) := blk_cell (blk_bel H1.out HB2.out) 0 rfl
          have d1b : (W2.alloc (.cells #[.slice A2 n2 c2] 25)).cell? ⟨w.heap.size + 1 + 1, 0, none⟩ = some (.slice A n c) := blk_cell (blk_alloc (blk_bel H1.out HB2.out) (.cells #[.slice A2 n2 c2] 25)) 0 rfl
          have HN2 : Hid (n2 ≤ 1000000000) := Lib.hid (by have h := ho2.1; simp only [List.length_map, List.length_take] at h; omega)
          clear ho2 hb2
          go_simp
          refine hK _ _ ?_
          clear hK K
          try simp only [Act.put, List.setIfInBounds_toArray, List.set_cons_zero, List.set_cons_succ]
          refine wpAny_ready (rs := [7]) (by kernel_rfl) (by simp) ?_
          refine AllReady.cons rfl (fun K hK => ?_) AllReady.nil
          go_simp
          refine hK _ _ ?_
          clear hK K
          try simp only [Act.put, List.setIfInBounds_toArray, List.set_cons_zero, List.set_cons_succ]
          refine wpAny_ready (rs := [8]) (by kernel_rfl) (by simp) ?_
          refine AllReady.cons rfl (fun K hK => ?_) AllReady.nil
          refine step_app1 Try.eltS (by rfl) (.tmp 12) (.tmp 19) (by rfl) W2 A n c us (by rfl) (H2.out.below HB2.out).1 (.slice A2 n2 c2) rfl (by rfl) (by omega) ?_
          intro A4 cA W4 ho4 hc4 hf4
          have HO4 := Lib.hid ho4; have HC4 := Lib.hid hc4; have HF4 := Lib.hid hf4
          have d4 : W4.heap[w.heap.size + 2]? = some (.cells #[.slice A n c] 46 (0, 0)) := blk_ch (blk_bel H1.out HB2.out) HC4.out (fun h => (H3.out _ (.inl h)).2 rfl)
          have d2 : W4.cell? ⟨w.heap.size + 1 + 1, 0, none⟩ = some (.slice A n c) := blk_cell d4 0 rfl
          have d3 : W4.frozen? ⟨w.heap.size + 1 + 1, 0, none⟩ = false := blk_free d4 0
          clear ho4 hc4 hf4 d4
          refine hK _ _ ?_
          clear hK K
          try simp only [Act.put, List.setIfInBounds_toArray, List.set_cons_zero, List.set_cons_succ]
          refine wpAny_ready (rs := [9]) (by kernel_rfl) (by simp) ?_
          refine AllReady.cons rfl (fun K hK => ?_) AllReady.nil
          go_simp
          refine hK _ _ ?_
          clear hK K
          try simp only [Act.put, List.setIfInBounds_toArray, List.set_cons_zero, List.set_cons_succ]
          refine wpAny_done (by kernel_rfl) ?_ _
          obtain ⟨k1, k2, k3⟩ := SrI.step H1.out H2.out H3.out H4.out HBW.out HB2.out HO2.out HN2.out HO4.out HC4.out HF4.out rfl
          exact ⟨k3.from _, k3.walks, ⟨k1, k2⟩, by simp; omega⟩
        · as_aux_lemma =>
          go_simp
          refine hK _ _ ?_
          clear hK K
          try simp only [Act.put, List.setIfInBounds_toArray, List.set_cons_zero, List.set_cons_succ]
          refine wpAny_ready (rs := [0, 4]) (by kernel_rfl) (by simp) ?_
          refine AllReady.cons rfl (fun K hK => ?_) (AllReady.cons rfl (fun K hK => ?_) AllReady.nil)
          · as_aux_lemma =>
            go_simp
            refine hK _ _ ?_
            clear hK K
            try simp only [Act.put, List.setIfInBounds_toArray, List.set_cons_zero, List.set_cons_succ]
            refine wpAny_ready (rs := [4]) (by kernel_rfl) (by simp) ?_
            refine AllReady.cons rfl (fun K hK => ?_) AllReady.nil
            go_simp
            refine hK _ _ ?_
            clear hK K
            try simp only [Act.put, List.setIfInBounds_toArray, List.set_cons_zero, List.set_cons_succ]
            refine wpAny_ready (rs := [5]) (by kernel_rfl) (by simp) ?_
            refine AllReady.cons rfl (fun K hK => ?_) AllReady.nil
            go_simp
            refine hK _ _ ?_
            clear hK K
            try simp only [Act.put, List.setIfInBounds_toArray, List.set_cons_zero, List.set_cons_succ]
            refine wpAny_ready (rs := [6]) (by kernel_rfl) (by simp) ?_
            refine AllReady.cons rfl (fun K hK => ?_) AllReady.nil
            go_simp
            go_at_call 99
            refine (clone_any W.drew (some ⟨Bx, 0, none⟩) len 10 (x.1.take len) hrx (by omega)).mono ?_
            rintro e W2 ⟨A2, n2, c2, rfl, ho2, hb2⟩
            have HB2 := Lib.hid (und1 hb2)
            have HO2 := Lib.hid ho2
            have d1 : W2.cell? ⟨w.heap.size + 1 + 1, 0, none⟩ = some (.slice A n c) := blk_cell (blk_bel H1.out HB2.out) 0 rfl
            have d1b : (W2.alloc (.cells #[.slice A2 n2 c2] 25)).cell? ⟨w.heap.size + 1 + 1, 0, none⟩ = some (.slice A n c) := blk_cell (blk_alloc (blk_bel H1.out HB2.out) (.cells #[.slice A2 n2 c2] 25)) 0 rfl
            have HN2 : Hid (n2 ≤ 1000000000) := Lib.hid (by have h := ho2.1; simp only [List.length_map, List.length_take] at h; omega)
            clear ho2 hb2
            go_simp
            refine hK _ _ ?_
            clear hK K
            try simp only [Act.put, List.setIfInBounds_toArray, List.set_cons_zero, List.set_cons_succ]
            refine wpAny_ready (rs := [7]) (by kernel_rfl) (by simp) ?_
            refine AllReady.cons rfl (fun K hK => ?_) AllReady.nil
            go_simp
            refine hK _ _ ?_
            clear hK K
            try simp only [Act.put, List.setIfInBounds_toArray, List.set_cons_zero, List.set_cons_succ]
            refine wpAny_ready (rs := [8]) (by kernel_rfl) (by simp) ?_
            refine AllReady.cons rfl (fun K hK => ?_) AllReady.nil
            refine step_app1 Try.eltS (by rfl) (.tmp 12) (.tmp 19) (by rfl) W2 A n c us (by rfl) (H2.out.below HB2.out).1 (.slice A2 n2 c2) rfl (by rfl) (by omega) ?_
            intro A4 cA W4 ho4 hc4 hf4
            have HO4 := Lib.hid ho4; have HC4 := Lib.hid hc4; have HF4 := Lib.hid hf4
            have d4 : W4.heap[w.heap.size + 2]? = some (.cells #[.slice A n c] 46 (0, 0)) := blk_ch (blk_bel H1.out HB2.out) HC4.out (fun h => (H3.out _ (.inl h)).2 rfl)
            have d2 : W4.cell? ⟨w.heap.size + 1 + 1, 0, none⟩ = some (.slice A n c) := blk_cell d4 0 rfl
            have d3 : W4.frozen? ⟨w.heap.size + 1 + 1, 0, none⟩ = false := blk_free d4 0
            clear ho4 hc4 hf4 d4
            refine hK _ _ ?_
            clear hK K
            try simp only [Act.put, List.setIfInBounds_toArray, List.set_cons_zero, List.set_cons_succ]
            refine wpAny_ready (rs := [9]) (by kernel_rfl) (by simp) ?_
            refine AllReady.cons rfl (fun K hK => ?_) AllReady.nil
            go_simp
            refine hK _ _ ?_
            clear hK K
            try simp only [Act.put, List.setIfInBounds_toArray, List.set_cons_zero, List.set_cons_succ]
            refine wpAny_done (by kernel_rfl) ?_ _
            obtain ⟨k1, k2, k3⟩ := SrI.step H1.out H2.out H3.out H4.out HBW.out HB2.out HO2.out HN2.out HO4.out HC4.out HF4.out rfl
            exact ⟨k3.from _, k3.walks, ⟨k1, k2⟩, by simp; omega⟩
          · as_aux_lemma =>
            go_simp
            refine hK _ _ ?_
            clear hK K
            try simp only [Act.put, List.setIfInBounds_toArray, List.set_cons_zero, List.set_cons_succ]
            refine wpAny_ready (rs := [0, 5]) (by kernel_rfl) (by simp) ?_
            refine AllReady.cons rfl (fun K hK => ?_) (AllReady.cons rfl (fun K hK => ?_) AllReady.nil)
            · as_aux_lemma =>
              go_simp
              refine hK _ _ ?_
              clear hK K
              try simp only [Act.put, List.setIfInBounds_toArray, List.set_cons_zero, List.set_cons_succ]
              refine wpAny_ready (rs := [5]) (by kernel_rfl) (by simp) ?_
              refine AllReady.cons rfl (fun K hK => ?_) AllReady.nil
              go_simp
              refine hK _ _ ?_
              clear hK K
              try simp only [Act.put, List.setIfInBounds_toArray, List.set_cons_zero, List.set_cons_succ]
              refine wpAny_ready (rs := [6]) (by kernel_rfl) (by simp) ?_
              refine AllReady.cons rfl (fun K hK => ?_) AllReady.nil
              go_simp
              go_at_call 99
              refine (clone_any W.drew (some ⟨Bx, 0, none⟩) len 10 (x.1.take len) hrx (by omega)).mono ?_
              rintro e W2 ⟨A2, n2, c2, rfl, ho2, hb2⟩
              have HB2 := Lib.hid (und1 hb2)
              have HO2 := Lib.hid ho2
              have d1 : W2.cell? ⟨w.heap.size + 1 + 1, 0, none⟩ = some (.slice A n c) := blk_cell (blk_bel H1.out HB2.out) 0 rfl
              have d1b : (W2.alloc (.cells #[.slice A2 n2 c2] 25)).cell? ⟨w.heap.size + 1 + 1, 0, none⟩ = some (.slice A n c) := blk_cell (blk_alloc (blk_bel H1.out HB2.out) (.cells #[.slice A2 n2 c2] 25)) 0 rfl
              have HN2 : Hid (n2 ≤ 1000000000) := Lib.hid (by have h := ho2.1; simp only [List.length_map, List.length_take] at h; omega)
              clear ho2 hb2
              go_simp
              refine hK _ _ ?_
              clear hK K
              try simp only [Act.put, List.setIfInBounds_toArray, List.set_cons_zero, List.set_cons_succ]
              refine wpAny_ready (rs := [7]) (by kernel_rfl) (by simp) ?_
              refine AllReady.cons rfl (fun K hK => ?_) AllReady.nil
              go_simp
              refine hK _ _ ?_
              clear hK K
              try simp only [Act.put, List.setIfInBounds_toArray, List.set_cons_zero, List.set_cons_succ]
              refine wpAny_ready (rs := [8]) (by kernel_rfl) (by simp) ?_
              refine AllReady.cons rfl (fun K hK => ?_) AllReady.nil
              refine step_app1 Try.eltS (by rfl) (.tmp 12) (.tmp 19) (by rfl) W2 A n c us (by rfl) (H2.out.below HB2.out).1 (.slice A2 n2 c2) rfl (by rfl) (by omega) ?_
              intro A4 cA W4 ho4 hc4 hf4
              have HO4 := Lib.hid ho4; have HC4 := Lib.hid hc4; have HF4 := Lib.hid hf4
              have d4 : W4.heap[w.heap.size + 2]? = some (.cells #[.slice A n c] 46 (0, 0)) := blk_ch (blk_bel H1.out HB2.out) HC4.out (fun h => (H3.out _ (.inl h)).2 rfl)
              have d2 : W4.cell? ⟨w.heap.size + 1 + 1, 0, none⟩ = some (.slice A n c) := blk_cell d4 0 rfl
              have d3 : W4.frozen? ⟨w.heap.size + 1 + 1, 0, none⟩ = false := blk_free d4 0
              clear ho4 hc4 hf4 d4
              refine hK _ _ ?_
              clear hK K
              try simp only [Act.put, List.setIfInBounds_toArray, List.set_cons_zero, List.set_cons_succ]
              refine wpAny_ready (rs := [9]) (by kernel_rfl) (by simp) ?_
              refine AllReady.cons rfl (fun K hK => ?_) AllReady.nil
              go_simp
              refine hK _ _ ?_
              clear hK K
              try simp only [Act.put, List.setIfInBounds_toArray, List.set_cons_zero, List.set_cons_succ]
              refine wpAny_done (by kernel_rfl) ?_ _
              obtain ⟨k1, k2, k3⟩ := SrI.step H1.out H2.out H3.out H4.out HBW.out HB2.out HO2.out HN2.out HO4.out HC4.out HF4.out rfl
              exact ⟨k3.from _, k3.walks, ⟨k1, k2⟩, by simp; omega⟩
            · as_aux_lemma =>
              go_simp
              refine hK _ _ ?_
              clear hK K
              try simp only [Act.put, List.setIfInBounds_toArray, List.set_cons_zero, List.set_cons_succ]
              refine wpAny_ready (rs := [0, 6]) (by kernel_rfl) (by simp) ?_
              refine AllReady.cons rfl (fun K hK => ?_) (AllReady.cons rfl (fun K hK => ?_) AllReady.nil)
              · as_aux_lemma =>
                go_simp
                refine hK _ _ ?_
                clear hK K
                try simp only [Act.put, List.setIfInBounds_toArray, List.set_cons_zero, List.set_cons_succ]
                refine wpAny_ready (rs := [6]) (by kernel_rfl) (by simp) ?_
                refine AllReady.cons rfl (fun K hK => ?_) AllReady.nil
                go_simp
                go_at_call 99
                refine (clone_any W.drew (some ⟨Bx, 0, none⟩) len 10 (x.1.take len) hrx (by omega)).mono ?_
                rintro e W2 ⟨A2, n2, c2, rfl, ho2, hb2⟩
                have HB2 := Lib.hid (und1 hb2)
                have HO2 := Lib.hid ho2
                have d1 : W2.cell? ⟨w.heap.size + 1 + 1, 0, none⟩ = some (.slice A n c) := blk_cell (blk_bel H1.out HB2.out) 0 rfl
                have d1b : (W2.alloc (.cells #[.slice A2 n2 c2] 25)).cell? ⟨w.heap.size + 1 + 1, 0, none⟩ = some (.slice A n c) := blk_cell (blk_alloc (blk_bel H1.out HB2.out) (.cells #[.slice A2 n2 c2] 25)) 0 rfl
                have HN2 : Hid (n2 ≤ 1000000000) := Lib.hid (by have h := ho2.1; simp only [List.length_map, List.length_take] at h; omega)
                clear ho2 hb2
                go_simp
                refine hK _ _ ?_
                clear hK K
                try simp only [Act.put, List.setIfInBounds_toArray, List.set_cons_zero, List.set_cons_succ]
                refine wpAny_ready (rs := [7]) (by kernel_rfl) (by simp) ?_
                refine AllReady.cons rfl (fun K hK => ?_) AllReady.nil
                go_simp
                refine hK _ _ ?_
                clear hK K
                try simp only [Act.put, List.setIfInBounds_toArray, List.set_cons_zero, List.set_cons_succ]
                refine wpAny_ready (rs := [8]) (by kernel_rfl) (by simp) ?_
                refine AllReady.cons rfl (fun K hK => ?_) AllReady.nil
                refine step_app1 Try.eltS (by rfl) (.tmp 12) (.tmp 19) (by rfl) W2 A n c us (by rfl) (H2.out.below HB2.out).1 (.slice A2 n2 c2) rfl (by rfl) (by omega) ?_
                intro A4 cA W4 ho4 hc4 hf4
                have HO4 := Lib.hid ho4; have HC4 := Lib.hid hc4; have HF4 := Lib.hid hf4
                have d4 : W4.heap[w.heap.size + 2]? = some (.cells #[.slice A n c] 46 (0, 0)) := blk_ch (blk_bel H1.out HB2.out) HC4.out (fun h => (H3.out _ (.inl h)).2 rfl)
                have d2 : W4.cell? ⟨w.heap.size + 1 + 1, 0, none⟩ = some (.slice A n c) := blk_cell d4 0 rfl
                have d3 : W4.frozen? ⟨w.heap.size + 1 + 1, 0, none⟩ = false := blk_free d4 0
                clear ho4 hc4 hf4 d4
                refine hK _ _ ?_
                clear hK K
                try simp only [Act.put, List.setIfInBounds_toArray, List.set_cons_zero, List.set_cons_succ]
                refine wpAny_ready (rs := [9]) (by kernel_rfl) (by simp) ?_
                refine AllReady.cons rfl (fun K hK => ?_) AllReady.nil
                go_simp
                refine hK _ _ ?_
                clear hK K
                try simp only [Act.put, List.setIfInBounds_toArray, List.set_cons_zero, List.set_cons_succ]
                refine wpAny_done (by kernel_rfl) ?_ _
                obtain ⟨k1, k2, k3⟩ := SrI.step H1.out H2.out H3.out H4.out HBW.out HB2.out HO2.out HN2.out HO4.out HC4.out HF4.out rfl
                exact ⟨k3.from _, k3.walks, ⟨k1, k2⟩, by simp; omega⟩
              · as_aux_lemma =>
                go_simp
                go_at_call 99
                refine (clone_any W.drew (some ⟨Bx, 0, none⟩) len 10 (x.1.take len) hrx (by omega)).mono ?_
                rintro e W2 ⟨A2, n2, c2, rfl, ho2, hb2⟩
                have HB2 := Lib.hid (und1 hb2)
                have HO2 := Lib.hid ho2
                have d1 : W2.cell? ⟨w.heap.size + 1 + 1, 0, none⟩ = some (.slice A n c) := blk_cell (blk_bel H1.out HB2.out) 0 rfl
                have d1b : (W2.alloc (.cells #[.slice A2 n2 c2] 25)).cell? ⟨w.heap.size + 1 + 1, 0, none⟩ = some (.slice A n c) := blk_cell (blk_alloc (blk_bel H1.out HB2.out) (.cells #[.slice A2 n2 c2] 25)) 0 rfl
                have HN2 : Hid (n2 ≤ 1000000000) := Lib.hid (by have h := ho2.1; simp only [List.length_map, List.length_take] at h; omega)
                clear ho2 hb2
                go_simp
                refine hK _ _ ?_
                clear hK K
                try simp only [Act.put, List.setIfInBounds_toArray, List.set_cons_zero, List.set_cons_succ]
                refine wpAny_ready (rs := [0, 7]) (by kernel_rfl) (by simp) ?_
                refine AllReady.cons rfl (fun K hK => ?_) (AllReady.cons rfl (fun K hK => ?_) AllReady.nil)
                · as_aux_lemma =>
                  go_simp
                  refine hK _ _ ?_
                  clear hK K
                  try simp only [Act.put, List.setIfInBounds_toArray, List.set_cons_zero, List.set_cons_succ]
                  refine wpAny_ready (rs := [7]) (by kernel_rfl) (by simp) ?_
                  refine AllReady.cons rfl (fun K hK => ?_) AllReady.nil
                  go_simp
                  refine hK _ _ ?_
                  clear hK K
                  try simp only [Act.put, List.setIfInBounds_toArray, List.set_cons_zero, List.set_cons_succ]
                  refine wpAny_ready (rs := [8]) (by kernel_rfl) (by simp) ?_
                  refine AllReady.cons rfl (fun K hK => ?_) AllReady.nil
                  refine step_app1 Try.eltS (by rfl) (.tmp 12) (.tmp 19) (by rfl) W2 A n c us (by rfl) (H2.out.below HB2.out).1 (.slice A2 n2 c2) rfl (by rfl) (by omega) ?_
                  intro A4 cA W4 ho4 hc4 hf4
                  have HO4 := Lib.hid ho4; have HC4 := Lib.hid hc4; have HF4 := Lib.hid hf4
                  have d4 : W4.heap[w.heap.size + 2]? = some (.cells #[.slice A n c] 46 (0, 0)) := blk_ch (blk_bel H1.out HB2.out) HC4.out (fun h => (H3.out _ (.inl h)).2 rfl)
                  have d2 : W4.cell? ⟨w.heap.size + 1 + 1, 0, none⟩ = some (.slice A n c) := blk_cell d4 0 rfl
                  have d3 : W4.frozen? ⟨w.heap.size + 1 + 1, 0, none⟩ = false := blk_free d4 0
                  clear ho4 hc4 hf4 d4
                  refine hK _ _ ?_
                  clear hK K
                  try simp only [Act.put, List.setIfInBounds_toArray, List.set_cons_zero, List.set_cons_succ]
                  refine wpAny_ready (rs := [9]) (by kernel_rfl) (by simp) ?_
                  refine AllReady.cons rfl (fun K hK => ?_) AllReady.nil
                  go_simp
                  refine hK _ _ ?_
                  clear hK K
                  try simp only [Act.put, List.setIfInBounds_toArray, List.set_cons_zero, List.set_cons_succ]
                  refine wpAny_done (by kernel_rfl) ?_ _
                  obtain ⟨k1, k2, k3⟩ := SrI.step H1.out H2.out H3.out H4.out HBW.out HB2.out HO2.out HN2.out HO4.out HC4.out HF4.out rfl
                  exact ⟨k3.from _, k3.walks, ⟨k1, k2⟩, by simp; omega⟩
                · as_aux_lemma =>
                  go_simp
                  refine hK _ _ ?_
                  clear hK K
                  try simp only [Act.put, List.setIfInBounds_toArray, List.set_cons_zero, List.set_cons_succ]
                  refine wpAny_ready (rs := [0]) (by kernel_rfl) (by simp) ?_
                  refine AllReady.cons rfl (fun K hK => ?_) AllReady.nil
                  go_simp
                  refine hK _ _ ?_
                  clear hK K
                  try simp only [Act.put, List.setIfInBounds_toArray, List.set_cons_zero, List.set_cons_succ]
                  refine wpAny_ready (rs := [8]) (by kernel_rfl) (by simp) ?_
                  refine AllReady.cons rfl (fun K hK => ?_) AllReady.nil
                  refine step_app1 Try.eltS (by rfl) (.tmp 12) (.tmp 19) (by rfl) W2 A n c us (by rfl) (H2.out.below HB2.out).1 (.slice A2 n2 c2) rfl (by rfl) (by omega) ?_
                  intro A4 cA W4 ho4 hc4 hf4
                  have HO4 := Lib.hid ho4; have HC4 := Lib.hid hc4; have HF4 := Lib.hid hf4
                  have d4 : W4.heap[w.heap.size + 2]? = some (.cells #[.slice A n c] 46 (0, 0)) := blk_ch (blk_bel H1.out HB2.out) HC4.out (fun h => (H3.out _ (.inl h)).2 rfl)
                  have d2 : W4.cell? ⟨w.heap.size + 1 + 1, 0, none⟩ = some (.slice A n c) := blk_cell d4 0 rfl
                  have d3 : W4.frozen? ⟨w.heap.size + 1 + 1, 0, none⟩ = false := blk_free d4 0
                  clear ho4 hc4 hf4 d4
                  refine hK _ _ ?_
                  clear hK K
                  try simp only [Act.put, List.setIfInBounds_toArray, List.set_cons_zero, List.set_cons_succ]
                  refine wpAny_ready (rs := [9]) (by kernel_rfl) (by simp) ?_
                  refine AllReady.cons rfl (fun K hK => ?_) AllReady.nil
                  go_simp
                  refine hK _ _ ?_
                  clear hK K
                  try simp only [Act.put, List.setIfInBounds_toArray, List.set_cons_zero, List.set_cons_succ]
                  refine wpAny_done (by kernel_rfl) ?_ _
                  obtain ⟨k1, k2, k3⟩ := SrI.step H1.out H2.out H3.out H4.out HBW.out HB2.out HO2.out HN2.out HO4.out HC4.out HF4.out rfl
                  exact ⟨k3.from _, k3.walks, ⟨k1, k2⟩, by simp; omega⟩
  case done =>
    rintro D pre W hD hS ⟨⟨hI, hbw⟩, hpl⟩ hK
    obtain ⟨⟨A, n, c, us, h1, h2, h3, ga, rfl⟩, h4⟩ := hI
    have hn : n ≤ 1000000 := by
      have h5 := h2.ownp.rdl.len
      have h6 := HNN.out
      simp only [wsOf, List.length_map] at h5
      omega
    have hgne : ga ≠ w.heap.size + 2 := (h3 ga (.inl rfl)).2
    have c1 : W.cell? ⟨w.heap.size + 1 + 1, 0, none⟩ = some (.slice (some ⟨ga, 0, none⟩) n c) := blk_cell h1 0 rfl
    have HSS := Lib.hid hS
    have HST := Lib.hid (sortFunc_any W ga n c us _ h2 hn)
    have H1 := Lib.hid h1; have H2 := Lib.hid h2; have H3 := Lib.hid h3; have HBW := Lib.hid hbw; have HKD := Lib.hid hK
    clear hS h1 h2 h3 h4 hbw hK
    go_upto_region 6 with (go_at_call 133; refine HST.out.mono ?_; rintro e W2 ⟨rfl, us', xss', hx2, hfu, hperm, hpw, hch⟩)
    have d1 : W2.cell? ⟨w.heap.size + 1 + 1, 0, none⟩ = some (.slice (some ⟨ga, 0, none⟩) n c) := blk_cell (blk_ch H1.out hch (fun e => hgne e.symm)) 0 rfl
    have hKD : W2.heap[D]? = some (.deferred (some [])) := by
      obtain ⟨cs, T, hga⟩ := fx_cells H2.out (.inl rfl : FX (some ⟨ga, 0, none⟩) n c us ga)
      refine (hch.block D (Array.getElem?_eq_some_iff.1 HKD.out).1 (fun e => ?_)).trans HKD.out
      have h5 := HKD.out
      rw [e, hga] at h5
      cases h5
    have HK2 := Lib.hid hKD
    have HX2 := Lib.hid hx2; have HFU := Lib.hid hfu; have HPE := Lib.hid hperm; have HPW := Lib.hid hpw; have HCH := Lib.hid hch
    clear hx2 hfu hperm hpw hch hKD
    go_wp2_with fail
    refine ⟨by simp, .inl ⟨_, _, rfl, run_takeDeferred HK2.out, ?_⟩⟩
    refine ⟨_, results_tmp rfl _ _ _, ?_⟩
    have hcp : Ch (· = D) W2 (W2.putObj D (.deferred none)) := ch_grown (grownBy_putObj' W2 D (.deferred none)) (fun k hk => by injection hk with hk; exact hk.symm)
    have hx3 := HX2.out.ch hcp (fun k hk e => by
      obtain ⟨cs, T, h5⟩ := fx_cells HX2.out hk
      subst e
      rw [HK2.out] at h5
      cases h5)
    have heq : sortU xss = xss' := sorted_same HSS.out hx HPE.out HPW.out
    have hfx : ∀ k, FX (some ⟨ga, 0, none⟩) n c us' k → w.heap.size ≤ k := fun k hk => by
      have h5 : FX (some ⟨ga, 0, none⟩) n c us k := hk.imp id (HFU.out k)
      have := (H3.out k h5).1
      omega
    refine ⟨_, n, c, FX (some ⟨ga, 0, none⟩) n c us', rfl, by rw [heq]; exact hx3.ownp, fun k hk => ⟨hfx k hk, hx3.lt hk⟩, ?_⟩
    have hg1 : w.heap.size ≤ ga := by have := (H3.out ga (.inl rfl)).1; omega
    exact below_ch (below_ch HBW.out HCH.out (fun k hk => by subst hk; exact hg1) HBW.out.size) hcp (fun k hk => by subst hk; omega) (Nat.le_trans HBW.out.size HCH.out.size)
  case stop =>
    rintro D c pre W _ _ h _
    exact h.elim
end Go.Proofs.Ytcpkhhammafchaa
