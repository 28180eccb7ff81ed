/- The sets that grow, in memory (program); how many items they have. -/
import Derived.Test.YtanicbbgneobpaaGreatAm
import Derived.Test.YtanicbbgneobpaaGreatFdM
import Derived.Test.YtanicbbgneobpaaGreatGL
import Derived.Deep.DrawnRows
namespace Go.Proofs.YtanicbbgneobpaaGreat
open Go.RowKit
open Go.Maps (Keyed Tidy IsMap)
set_option linter.unusedVariables false
set_option linter.unusedSimpArgs false
attribute [local go_sem ↓] Go.wp_at_zero Go.wp_at_succ
/-- The blocks of maps. -/
def F3 (a b c : Nat) (k : Nat) : Prop := k = a ∨ k = b ∨ k = c
/-- Blocks that hold no cells. -/
def NoC (F : Nat → Prop) (w : World) : Prop := ∀ k, F k → ∃ o : Obj, w.heap[k]? = some o ∧ o.isCells = false
theorem noc_cell {F : Nat → Prop} {w : World} (h : NoC F w) {a : Addr} {v : Value} (hc : w.cell? a = some v) : ¬ F a.block := fun hf => by
  obtain ⟨o, ho, hn⟩ := h _ hf
  unfold World.cell? at hc
  rw [ho] at hc
  cases o <;> simp_all [Obj.isCells]
theorem noc_blk {F : Nat → Prop} {w : World} (h : NoC F w) {g T : Nat} {cs : Array Value} (hc : w.heap[g]? = some (.cells cs T (0, 0))) : ¬ F g := fun hf => by
  obtain ⟨o, ho, hn⟩ := h _ hf
  rw [hc] at ho
  cases ho
  cases hn
theorem rd_noc {F : Nat → Prop} {w w' : World} {A : Option Addr} {n : Nat} {vs : List Value} (h : Rd w A n vs) (hm : NoC F w) (hc : Ch F w w') : Rd w' A n vs := by
  refine ⟨h.1, fun hn => ?_⟩
  obtain ⟨b, off, e, hlt, hcl⟩ := h.2 hn
  have hne : ¬ F b := by
    obtain ⟨v, hv⟩ := get_some (xs := vs) (k := 0) (by rw [h.1]; exact hn)
    exact noc_cell hm (hcl 0 v hv)
  exact ⟨b, off, e, Nat.lt_of_lt_of_le hlt hc.size, fun j u hu => (World.cell?_of_block (a := ⟨b, off + j, none⟩) (hc.block b hlt hne)).trans (hcl j u hu)⟩
theorem rdl_noc {F : Nat → Prop} {w w' : World} {A : Option Addr} {n : Nat} {xss : List (List Int)} (h : RdL w A n xss) (hm : NoC F w) (hc : Ch F w w') : RdL w' A n xss := by
  obtain ⟨us, h1, h2, h3⟩ := h
  refine ⟨us, rd_noc h1 hm hc, h2, fun i v xs hv hx => ?_⟩
  obtain ⟨A', n', c', e, hn', hr'⟩ := h3 i v xs hv hx
  exact ⟨A', n', c', e, hn', rd_noc hr' hm hc⟩
/-- The sets of a proof that is being found, in memory. -/
structure ClS (w : World) (gx : Nat) (s t : Int) (A : Option Addr) (n c : Nat) (gl ml gr mr gc mc : Nat) (N : Nat) (IL IR IC : List (List Int)) : Prop where
  box : w.heap[gx]? = some (.cells #[.int .i64 s, .int .i64 t, .slice A n c, .pointer (some ⟨gl, 0, none⟩), .pointer (some ⟨gr, 0, none⟩), .pointer (some ⟨gc, 0, none⟩)] 133 (0, 0))
  sl : IsSet w gl ml N IL
  sr : IsSet w gr mr N IR
  sc : IsSet w gc mc (2 * (N : Int) + 2) IC
  d1 : ml ≠ mr
  d2 : ml ≠ mc
  d3 : mr ≠ mc
section
variable {w w' : World} {gx : Nat} {s t : Int} {A : Option Addr} {n c gl ml gr mr gc mc N : Nat} {IL IR IC : List (List Int)}
theorem ClS.noc (h : ClS w gx s t A n c gl ml gr mr gc mc N IL IR IC) : NoC (F3 ml mr mc) w := by
  rintro k (rfl | rfl | rfl)
  · exact h.sl.obj
  · exact h.sr.obj
  · exact h.sc.obj
theorem ClS.below (h : ClS w gx s t A n c gl ml gr mr gc mc N IL IR IC) (hb : Below w.heap.size w w') : ClS w' gx s t A n c gl ml gr mr gc mc N IL IR IC :=
  ⟨blk_bel h.box hb, h.sl.below hb, h.sr.below hb, h.sc.below hb, h.d1, h.d2, h.d3⟩
theorem ClS.one (h : ClS w gx s t A n c gl ml gr mr gc mc N IL IR IC) {m : Nat} (hm : F3 ml mr mc m) {g T : Nat} {cs : Array Value} (hc : w.heap[g]? = some (.cells cs T (0, 0))) : g ≠ m := fun e => by
  subst e; exact noc_blk h.noc hc hm
theorem ClS.addL (h : ClS w gx s t A n c gl ml gr mr gc mc N IL IR IC) {IL' : List (List Int)} (hs : IsSet w' gl ml N IL') (hc : Ch (· = ml) w w') : ClS w' gx s t A n c gl ml gr mr gc mc N IL' IR IC :=
  ⟨blk_ch h.box hc (h.one (.inl rfl) h.box), hs, h.sr.ch hc (h.one (.inl rfl) h.sr.box) h.d1.symm, h.sc.ch hc (h.one (.inl rfl) h.sc.box) h.d2.symm, h.d1, h.d2, h.d3⟩
theorem ClS.addR (h : ClS w gx s t A n c gl ml gr mr gc mc N IL IR IC) {IR' : List (List Int)} (hs : IsSet w' gr mr N IR') (hc : Ch (· = mr) w w') : ClS w' gx s t A n c gl ml gr mr gc mc N IL IR' IC :=
  ⟨blk_ch h.box hc (h.one (.inr (.inl rfl)) h.box), h.sl.ch hc (h.one (.inr (.inl rfl)) h.sl.box) h.d1, hs, h.sc.ch hc (h.one (.inr (.inl rfl)) h.sc.box) h.d3.symm, h.d1, h.d2, h.d3⟩
theorem ClS.addC (h : ClS w gx s t A n c gl ml gr mr gc mc N IL IR IC) {IC' : List (List Int)} (hs : IsSet w' gc mc (2 * (N : Int) + 2) IC') (hc : Ch (· = mc) w w') : ClS w' gx s t A n c gl ml gr mr gc mc N IL IR IC' :=
  ⟨blk_ch h.box hc (h.one (.inr (.inr rfl)) h.box), h.sl.ch hc (h.one (.inr (.inr rfl)) h.sl.box) h.d2, h.sr.ch hc (h.one (.inr (.inr rfl)) h.sr.box) h.d3, hs, h.d1, h.d2, h.d3⟩
end
theorem sameKey_pad {L : Nat} {xs ys : List Int} (hx : Gw xs ∧ xs.length = L) (hy : Gw ys ∧ ys.length = L) : (kIt (pad xs)).sameKey (kIt (pad ys)) = decide (xs = ys) := by
  have h := klK_same ⟨pad ys, pad_len hy.1.1, fun y h => wf_sm (hy.1.pad y h)⟩ ⟨pad xs, pad_len hx.1.1, fun y hy => wf_sm (hx.1.pad y hy)⟩
  have h2 : (kIt (pad xs)).sameKey (kIt (pad ys)) = decide ((⟨pad xs, pad_len hx.1.1, fun y hy => wf_sm (hx.1.pad y hy)⟩ : ItK) = ⟨pad ys, pad_len hy.1.1, fun y h => wf_sm (hy.1.pad y h)⟩) := h
  rw [h2]
  apply Bool.eq_iff_iff.2
  rw [decide_eq_true_eq, decide_eq_true_eq]
  constructor
  · intro e
    exact pad_inj (by rw [hx.2, hy.2]) (congrArg Subtype.val e)
  · rintro rfl; rfl
/-- As many items as different lists. -/
theorem setD_size {L : Nat} : ∀ {xss : List (List Int)}, (∀ x ∈ xss, Gw x ∧ x.length = L) → Maps.size (setD xss) = (sortU xss).length := by
  have key : ∀ (xss : List (List Int)), (∀ x ∈ xss.reverse, Gw x ∧ x.length = L) → Maps.size (setD xss.reverse) = (sortU xss.reverse).length := by
    intro xss
    induction xss with
    | nil => intro _; rfl
    | cons x r ih =>
      intro h
      rw [List.reverse_cons] at h ⊢
      have h1 : ∀ y ∈ r.reverse, Gw y ∧ y.length = L := fun y hy => h y (by simp at hy ⊢; exact Or.inl hy)
      have h2 := h x (by simp)
      rw [setD_snoc, sortU_snoc, putL_len (sortU_rises _)]
      have hk : ∀ k ∈ r.reverse.map (fun xs => kIt (pad xs)), WideAt.IsKeyLit k := fun k hk => by
        obtain ⟨xs, h3, rfl⟩ := List.mem_map.1 hk
        exact kIt_key (pad_len (h1 xs h3).1.1) (h1 xs h3).1.pad
      rw [Maps.size_put (by rw [setD]; exact Maps.tidy_setOf _ _ hk), ih h1]
      have hh : Maps.has (setD r.reverse) (kIt (pad x)) = decide (x ∈ sortU r.reverse) := by
        rw [setD, Maps.has_setOf _ _ _ hk]
        apply Bool.eq_iff_iff.2
        rw [List.any_eq_true, decide_eq_true_eq, sortU_mem]
        constructor
        · rintro ⟨k, hk2, h4⟩
          obtain ⟨xs, h3, rfl⟩ := List.mem_map.1 hk2
          rw [sameKey_pad (h1 xs h3) h2, decide_eq_true_eq] at h4
          subst h4; exact h3
        · intro h3
          exact ⟨_, List.mem_map.2 ⟨x, h3, rfl⟩, by rw [sameKey_pad h2 h2]; simp⟩
      rw [hh]
      by_cases hm : x ∈ sortU r.reverse
      · simp [hm]
      · simp [hm]
  intro xss h
  have := key xss.reverse (by simpa using h)
  simpa using this
/-- Where things lie. -/
structure ClP where
  gx : Nat
  s : Nat
  t : Int
  A : Option Addr
  n : Nat
  c : Nat
  gl : Nat
  ml : Nat
  gr : Nat
  mr : Nat
  gc : Nat
  mc : Nat
  N : Nat
abbrev ClP.F (p : ClP) : Nat → Prop := F3 p.ml p.mr p.mc
def SetsIn (w : World) (p : ClP) (S : St3) (B : Nat) : Prop := ∃ IL IR IC, ClS w p.gx p.s p.t p.A p.n p.c p.gl p.ml p.gr p.mr p.gc p.mc p.N IL IR IC ∧ (sortU IL = S.l ∧ sortU IR = S.r ∧ sortU IC = S.c) ∧ (IL.length ≤ B ∧ IR.length ≤ B ∧ IC.length ≤ B)
theorem letB_gw {s N : Nat} {x : List Int} (hs : s ≤ 6) (hN : N ≤ 4) (h : letB s N x) : Gw x ∧ x.length = N :=
  ⟨⟨by have := h.1; omega, fun z hz => by have := h.2 z hz; unfold SmI; omega⟩, h.1⟩
theorem rowB_gw {s N : Nat} {t : Int} {rs : List Rul} {x : List Int} (hs : s ≤ 6) (hN : N ≤ 4) (h : rowB s t rs N x) : Gw x ∧ x.length = 2 * N + 2 := by
  obtain ⟨st, y, rfl, hz, hl⟩ := h
  have h1 := (ctx_zero hz).2.2.2.2
  have h2 := (okM_all (ctx_zero hz).1).2.1
  refine ⟨⟨by simp only [List.length_cons]; omega, fun z hzz => ?_⟩, by simp only [List.length_cons]; omega⟩
  rcases List.mem_cons.1 hzz with rfl | hzz
  · unfold SmI; omega
  · have := ctx_let hz z hzz; unfold SmI; omega
section
variable {w w' : World} {p : ClP} {S : St3} {B : Nat} {rs : List Rul}
theorem SetsIn.below (h : SetsIn w p S B) (hb : Below w.heap.size w w') : SetsIn w' p S B := by
  obtain ⟨IL, IR, IC, h1, h2⟩ := h
  exact ⟨IL, IR, IC, h1.below hb, h2⟩
theorem SetsIn.noc (h : SetsIn w p S B) : NoC p.F w := by obtain ⟨IL, IR, IC, h1, _⟩ := h; exact h1.noc
theorem SetsIn.box (h : SetsIn w p S B) : w.heap[p.gx]? = some (.cells #[.int .i64 p.s, .int .i64 p.t, .slice p.A p.n p.c, .pointer (some ⟨p.gl, 0, none⟩), .pointer (some ⟨p.gr, 0, none⟩), .pointer (some ⟨p.gc, 0, none⟩)] 133 (0, 0)) := by obtain ⟨IL, IR, IC, h1, _⟩ := h; exact h1.box
theorem gw_of {L : Nat} {IL l : List (List Int)} (h : sortU IL = l) (hg : ∀ x ∈ l, Gw x ∧ x.length = L) : ∀ x ∈ IL, Gw x ∧ x.length = L := fun x hx => hg x (by rw [← h, sortU_mem]; exact hx)
theorem InvF.gl (hi : InvF p.s p.t rs p.N S) (hs : p.s ≤ 6) (hN : p.N ≤ 4) : ∀ x ∈ S.l, Gw x ∧ x.length = p.N := fun x hx => letB_gw hs hN (hi.wl x hx)
theorem InvF.gr (hi : InvF p.s p.t rs p.N S) (hs : p.s ≤ 6) (hN : p.N ≤ 4) : ∀ x ∈ S.r, Gw x ∧ x.length = p.N := fun x hx => letB_gw hs hN (hi.wr x hx)
theorem InvF.gc (hi : InvF p.s p.t rs p.N S) (hs : p.s ≤ 6) (hN : p.N ≤ 4) : ∀ x ∈ S.c, Gw x ∧ x.length = 2 * p.N + 2 := fun x hx => rowB_gw hs hN (hi.wc x hx)
theorem sorted_l (h : SetsIn w p S B) (hi : InvF p.s p.t rs p.N S) (hs : p.s ≤ 6) (hN : p.N ≤ 4) (hB : B ≤ 1000000) : Calls Tryz.prog 46 #[.pointer (some ⟨p.gl, 0, none⟩)] w (RetP w S.l) := by
  obtain ⟨IL, IR, IC, h1, ⟨h2, _, _⟩, h3, _⟩ := h
  have := sorted_any w p.gl p.ml p.N IL h1.sl (by omega) (by omega) (gw_of h2 (hi.gl hs hN))
  rwa [h2] at this
theorem sorted_r (h : SetsIn w p S B) (hi : InvF p.s p.t rs p.N S) (hs : p.s ≤ 6) (hN : p.N ≤ 4) (hB : B ≤ 1000000) : Calls Tryz.prog 46 #[.pointer (some ⟨p.gr, 0, none⟩)] w (RetP w S.r) := by
  obtain ⟨IL, IR, IC, h1, ⟨_, h2, _⟩, _, h3, _⟩ := h
  have := sorted_any w p.gr p.mr p.N IR h1.sr (by omega) (by omega) (gw_of h2 (hi.gr hs hN))
  rwa [h2] at this
theorem sorted_c (h : SetsIn w p S B) (hi : InvF p.s p.t rs p.N S) (hs : p.s ≤ 6) (hN : p.N ≤ 4) (hB : B ≤ 1000000) : Calls Tryz.prog 46 #[.pointer (some ⟨p.gc, 0, none⟩)] w (RetP w S.c) := by
  obtain ⟨IL, IR, IC, h1, ⟨_, _, h2⟩, _, _, h3⟩ := h
  have e : ((2 * p.N + 2 : Nat) : Int) = 2 * (p.N : Int) + 2 := by omega
  have := sorted_any w p.gc p.mc (2 * p.N + 2) IC (by rw [e]; exact h1.sc) (by omega) (by omega) (gw_of h2 (hi.gc hs hN))
  rwa [h2] at this
def AddR (w : World) (p : ClP) (S : St3) (B : Nat) (e : Ending) (w' : World) : Prop := e = .returned (.tuple #[]) ∧ SetsIn w' p S B ∧ Ch p.F w w'
theorem add_l (h : SetsIn w p S B) (hs : p.s ≤ 6) (hN : p.N ≤ 4) (hB : B ≤ 1000000) (A : Option Addr) (n c : Nat) (x : List Int) (hr : RdL w A n [x]) (hx : letB p.s p.N x) :
    Calls Tryz.prog 126 #[.pointer (some ⟨p.gl, 0, none⟩), .slice A n c] w (AddR w p ⟨putL S.l x, S.r, S.c⟩ (B + 1)) := by
  obtain ⟨IL, IR, IC, h1, ⟨h2, h2r, h2c⟩, h3, h3r, h3c⟩ := h
  refine (add_any w p.gl p.ml p.N IL h1.sl A n c [x] hr (by have := hr.len; simp at this; omega) (by omega) (fun y hy => by obtain rfl := List.mem_singleton.1 hy; exact (letB_gw hs hN hx).1)).mono ?_
  rintro e w' ⟨rfl, hset, hc⟩
  exact ⟨rfl, ⟨IL ++ [x], IR, IC, h1.addL hset hc, ⟨by rw [sortU_snoc, h2], h2r, h2c⟩, by simp; omega, by omega, by omega⟩, hc.mono (fun k hk => Or.inl hk)⟩
theorem add_r (h : SetsIn w p S B) (hs : p.s ≤ 6) (hN : p.N ≤ 4) (hB : B ≤ 1000000) (A : Option Addr) (n c : Nat) (x : List Int) (hr : RdL w A n [x]) (hx : letB p.s p.N x) :
    Calls Tryz.prog 126 #[.pointer (some ⟨p.gr, 0, none⟩), .slice A n c] w (AddR w p ⟨S.l, putL S.r x, S.c⟩ (B + 1)) := by
  obtain ⟨IL, IR, IC, h1, ⟨h2, h2r, h2c⟩, h3, h3r, h3c⟩ := h
  refine (add_any w p.gr p.mr p.N IR h1.sr A n c [x] hr (by have := hr.len; simp at this; omega) (by omega) (fun y hy => by obtain rfl := List.mem_singleton.1 hy; exact (letB_gw hs hN hx).1)).mono ?_
  rintro e w' ⟨rfl, hset, hc⟩
  exact ⟨rfl, ⟨IL, IR ++ [x], IC, h1.addR hset hc, ⟨h2, by rw [sortU_snoc, h2r], h2c⟩, by omega, by simp; omega, by omega⟩, hc.mono (fun k hk => Or.inr (Or.inl hk))⟩
theorem add_c (h : SetsIn w p S B) (hs : p.s ≤ 6) (hN : p.N ≤ 4) (hB : B ≤ 1000000) (A : Option Addr) (n c : Nat) (ys : List (List Int)) (hr : RdL w A n ys) (hn : n ≤ 6) (hx : ∀ x ∈ ys, rowB p.s p.t rs p.N x) :
    Calls Tryz.prog 126 #[.pointer (some ⟨p.gc, 0, none⟩), .slice A n c] w (AddR w p (addF ys S) (B + 6)) := by
  obtain ⟨IL, IR, IC, h1, ⟨h2, h2r, h2c⟩, h3, h3r, h3c⟩ := h
  have hl := hr.len
  refine (add_any w p.gc p.mc _ IC h1.sc A n c ys hr (by omega) (by omega) (fun y hy => (rowB_gw hs hN (hx y hy)).1)).mono ?_
  rintro e w' ⟨rfl, hset, hc⟩
  exact ⟨rfl, ⟨IL, IR, IC ++ ys, h1.addC hset hc, ⟨h2, h2r, by rw [sortU_app, h2c]; rfl⟩, by omega, by omega, by simp; omega⟩, hc.mono (fun k hk => Or.inr (Or.inr hk))⟩
end
set_option maxHeartbeats 4000000 in
set_option maxRecDepth 100000 in
theorem count_any (w : World) (gx : Nat) (s t : Int) (A : Option Addr) (n c gl ml gr mr gc mc N : Nat) (IL IR IC : List (List Int)) (h : ClS w gx s t A n c gl ml gr mr gc mc N IL IR IC) (S : St3) (hl : sortU IL = S.l) (hr : sortU IR = S.r) (hc : sortU IC = S.c) (hs : S.size ≤ 1000000)
    (gwl : ∀ x ∈ IL, Gw x ∧ x.length = N) (gwr : ∀ x ∈ IR, Gw x ∧ x.length = N) (gwc : ∀ x ∈ IC, Gw x ∧ x.length = 2 * N + 2) :
    Calls Tryz.prog 95 #[.pointer (some ⟨gx, 0, none⟩)] w (DrP w (.int .i64 S.size)) := by
  have e1 := (setD_size gwl).trans (congrArg List.length hl)
  have e2 := (setD_size gwr).trans (congrArg List.length hr)
  have e3 := (setD_size gwc).trans (congrArg List.length hc)
  have l1 : ∀ ty, (Builtin.len_ #[109] ty #[.map (some ml)]).run Tryz.prog w = .ok (.int .i64 (S.l.length : Nat)) w := fun ty => by rw [← e1]; exact h.sl.own.len Tryz.underlying109 ty
  have l2 : ∀ ty, (Builtin.len_ #[109] ty #[.map (some mr)]).run Tryz.prog w = .ok (.int .i64 (S.r.length : Nat)) w := fun ty => by rw [← e2]; exact h.sr.own.len Tryz.underlying109 ty
  have l3 : ∀ ty, (Builtin.len_ #[109] ty #[.map (some mc)]).run Tryz.prog w = .ok (.int .i64 (S.c.length : Nat)) w := fun ty => by rw [← e3]; exact h.sc.own.len Tryz.underlying109 ty
  have q3 : w.cell? ⟨gx, 3, none⟩ = some (.pointer (some ⟨gl, 0, none⟩)) := blk_cell h.box 3 rfl
  have q4 : w.cell? ⟨gx, 4, none⟩ = some (.pointer (some ⟨gr, 0, none⟩)) := blk_cell h.box 4 rfl
  have q5 : w.cell? ⟨gx, 5, none⟩ = some (.pointer (some ⟨gc, 0, none⟩)) := blk_cell h.box 5 rfl
  have z1 : w.cell? ⟨gl, 0, none⟩ = some (.map (some ml)) := blk_cell h.sl.box 0 rfl
  have z2 : w.cell? ⟨gr, 0, none⟩ = some (.map (some mr)) := blk_cell h.sr.box 0 rfl
  have z3 : w.cell? ⟨gc, 0, none⟩ = some (.map (some mc)) := blk_cell h.sc.box 0 rfl
  have l1' : ∀ ty, (Builtin.len_ #[109] ty #[.map (some ml)]).run Tryz.prog w.drew = .ok (.int .i64 (S.l.length : Nat)) w.drew := fun ty => by rw [← e1]; exact h.sl.own.drew.len Tryz.underlying109 ty
  have l2' : ∀ ty, (Builtin.len_ #[109] ty #[.map (some mr)]).run Tryz.prog w.drew = .ok (.int .i64 (S.r.length : Nat)) w.drew := fun ty => by rw [← e2]; exact h.sr.own.drew.len Tryz.underlying109 ty
  have l3' : ∀ ty, (Builtin.len_ #[109] ty #[.map (some mc)]).run Tryz.prog w.drew = .ok (.int .i64 (S.c.length : Nat)) w.drew := fun ty => by rw [← e3]; exact h.sc.own.drew.len Tryz.underlying109 ty
  unfold St3.size at hs
  generalize hx : S.l.length = x at *
  generalize hy : S.r.length = y at *
  generalize hz : S.c.length = z at *
  have hw1 : IntKind.i64.wrap ((x : Int) + y) = (x : Int) + y := IntWalk.i64_in _ (by omega)
  have hw2 : IntKind.i64.wrap ((x : Int) + y + z) = (x : Int) + y + z := IntWalk.i64_in _ (by omega)
  have HSZ : Hid ((S.size : Int) = (x : Int) + y + z) := Lib.hid (by unfold St3.size; omega)
  clear e1 e2 e3 hx hy hz h hl hr hc gwl gwr gwc hs
  go_enter Tryz.func95, Tryz.ntmps95
  go_wp2_with fail
  (first | (go_region_held3 (fun w' => w'.cell? ⟨gx, 3, none⟩ = some (.pointer (some ⟨gl, 0, none⟩)) ∧ w'.cell? ⟨gx, 4, none⟩ = some (.pointer (some ⟨gr, 0, none⟩)) ∧ w'.cell? ⟨gx, 5, none⟩ = some (.pointer (some ⟨gc, 0, none⟩)) ∧ w'.cell? ⟨gl, 0, none⟩ = some (.map (some ml)) ∧ w'.cell? ⟨gr, 0, none⟩ = some (.map (some mr)) ∧ w'.cell? ⟨gc, 0, none⟩ = some (.map (some mc)) ∧ (∀ ty, (Builtin.len_ #[109] ty #[.map (some ml)]).run Tryz.prog w' = .ok (.int .i64 (x : Nat)) w') ∧ (∀ ty, (Builtin.len_ #[109] ty #[.map (some mr)]).run Tryz.prog w' = .ok (.int .i64 (y : Nat)) w') ∧ (∀ ty, (Builtin.len_ #[109] ty #[.map (some mc)]).run Tryz.prog w' = .ok (.int .i64 (z : Nat)) w')) (exact ⟨by assumption, by assumption, by assumption, by assumption, by assumption, by assumption, by assumption, by assumption, by assumption⟩) (fail)) | fail)
  all_goals
    go_wp2_with fail
    go_ret
    exact ⟨by rw [HSZ.out]; go_num, by first | exact ⟨0, rfl⟩ | exact ⟨1, rfl⟩ | exact ⟨_, rfl⟩⟩
theorem counts_any {rs : List Rul} (w : World) (p : ClP) (S : St3) (B : Nat) (h : SetsIn w p S B) (hi : InvF p.s p.t rs p.N S) (hs : p.s ≤ 6) (hN : p.N ≤ 4) (hz : S.size ≤ 1000000) :
    Calls Tryz.prog 95 #[.pointer (some ⟨p.gx, 0, none⟩)] w (DrP w (.int .i64 S.size)) := by
  obtain ⟨IL, IR, IC, h1, ⟨h2, h2r, h2c⟩, _⟩ := h
  exact count_any w p.gx p.s p.t p.A p.n p.c p.gl p.ml p.gr p.mr p.gc p.mc p.N IL IR IC h1 S h2 h2r h2c hz (gw_of h2 (hi.gl hs hN)) (gw_of h2r (hi.gr hs hN)) (gw_of h2c (hi.gc hs hN))
/-- What can follow, for the sets. -/
theorem foll_any {rs : List Rul} (w : World) (p : ClP) (S : St3) (B : Nat) (h : SetsIn w p S B) (hi : InvF p.s p.t rs p.N S) (hs : p.s ≤ 6) (hN : 1 ≤ p.N ∧ p.N ≤ 4) (ra mv rc : Int) (hmv : mv = 1 ∨ mv = -1) (A1 : Option Addr) (n1 c1 : Nat) (y : List Int) (hr : Rd w A1 n1 (ints y)) (hc : n1 ≤ c1) (hn : n1 = 2 * p.N + 1) (hsm : ∀ z ∈ y, SmI z) :
    Calls Tryz.prog 128 #[mchV p.s p.t p.A p.n p.c, rulV ⟨ra, mv, rc⟩, .slice A1 n1 c1, .pointer (some ⟨p.gl, 0, none⟩), .pointer (some ⟨p.gr, 0, none⟩)] w (RetP w (nextsOf p.s ⟨ra, mv, rc⟩ y S.l S.r)) := by
  obtain ⟨IL, IR, IC, h1, ⟨h2, h2r, h2c⟩, _⟩ := h
  have hf := following_any w p.s p.t p.A p.n p.c hs ra mv rc hmv A1 n1 c1 p.N y hr hc hn hN hsm p.gl p.ml p.gr p.mr _ _ IL IR h1.sl h1.sr (gw_of h2 (hi.gl hs hN.2)) (gw_of h2r (hi.gr hs hN.2))
  rwa [nexts_congr (ls' := S.l) (ws' := S.r) (fun z => by rw [← h2, sortU_mem]) (fun z => by rw [← h2r, sortU_mem])] at hf
end Go.Proofs.YtanicbbgneobpaaGreat
